/- Models of functions, and that the program does what they tell. -/
import Derived.Test.YtkfaebbbjahcpaaDoorR2
set_option linter.unusedVariables false
set_option linter.unusedSimpArgs false
namespace Go.Proofs.YtkfaebbbjahcpaaDoor
open Go.X

def ref11_Order_b2 (N : Nat) (s1 : (Int × Int × (List Int))) (s2 : (Int × Int × (List Int))) : Option ((Int × Int × (List Int)) ⊕ (Int × Int × Int × Bool × (List Int))) :=
  bif (decide (s2.2.1 < 8)) then
    if (0 : Int) ≤ s1.2.1 then
      if ((decide ((s1.2.1 % 2) = 0)) = true → inK .i64 ((7 : Int) - s2.2.1)) then
        if inK .i64 (s1.2.1 - (bif (decide ((s1.2.1 % 2) = 0)) then ((7 : Int) - s2.2.1) else s2.2.1)) then
          let x1 := (decide ((0 : Int) ≤ (s1.2.1 - (bif (decide ((s1.2.1 % 2) = 0)) then ((7 : Int) - s2.2.1) else s2.2.1))))
          let x3 := (bif (decide ((0 : Int) ≤ (s1.2.1 - (bif (decide ((s1.2.1 % 2) = 0)) then ((7 : Int) - s2.2.1) else s2.2.1)))) then (decide ((s1.2.1 - (bif (decide ((s1.2.1 % 2) = 0)) then ((7 : Int) - s2.2.1) else s2.2.1)) < 8)) else false)
          joinK (fun (v3 : (Int × (List Int))) =>
            if inK .i64 (s2.2.1 + 1) then
              some (.inl (v3.1, (s2.2.1 + 1), v3.2))
            else none
          ) fun k1 =>
            bif x3 then
              let x5 := (s2.2.2.set (s2.1).toNat (((8 : Int) * (bif (decide ((s1.2.1 % 2) = 0)) then ((7 : Int) - s2.2.1) else s2.2.1)) + (s1.2.1 - (bif (decide ((s1.2.1 % 2) = 0)) then ((7 : Int) - s2.2.1) else s2.2.1))))
              if inK .i64 ((8 : Int) * (bif (decide ((s1.2.1 % 2) = 0)) then ((7 : Int) - s2.2.1) else s2.2.1)) ∧ inK .i64 (((8 : Int) * (bif (decide ((s1.2.1 % 2) = 0)) then ((7 : Int) - s2.2.1) else s2.2.1)) + (s1.2.1 - (bif (decide ((s1.2.1 % 2) = 0)) then ((7 : Int) - s2.2.1) else s2.2.1))) ∧ (0 : Int) ≤ s2.1 ∧ s2.1 < 64 ∧ (s2.1).toNat < 64 then
                if inK .i64 (s2.1 + 1) then
                  k1 ((s2.1 + 1), x5)
                else none
              else none
            else
              k1 (s2.1, s2.2.2)
        else none
      else none
    else none
  else
    some (.inr (s2.1, s2.2.1, s2.2.1, (decide (s2.2.1 < 8)), s2.2.2))
def ref11_Order_b1 (N : Nat) (s1 : (Int × Int × (List Int))) : Option ((Int × Int × (List Int)) ⊕ (List Int)) :=
  bif (decide (s1.2.1 < 15)) then
    (iter (ref11_Order_b2 N s1) N (s1.1, 0, s1.2.2)).bind fun v2 =>
      if inK .i64 (s1.2.1 + 1) then
        some (.inl (v2.1, (s1.2.1 + 1), v2.2.2.2.2))
      else none
  else
    some (.inr s1.2.2)
def ref11_Order (N : Nat) : Option (List Int) :=
  (iter (ref11_Order_b1 N) N (0, 0, (List.replicate 64 0))).bind fun v1 =>
    some v1
def sp_ref11_Order (N : Nat) : X.Spec := fun args lk => match args with
  | [] => some ⟨(ref11_Order N).isSome = true, .v (.agg [.ints 64 .i64 ((ref11_Order N).getD default)]), [], []⟩
  | _ => none
set_option maxRecDepth 100000 in
set_option maxHeartbeats 1000000 in
theorem ok_ref11_Order (N : Nat) : FnOK Tryd.prog gt0 117 (sp_ref11_Order N) := by
  refine fnOK_handed Tryd.func117 rfl (by kernel_rfl) tt_ok (ktNil) ?_
  intro args lk r h hp
  unfold sp_ref11_Order at h
  split at h
  · skip
    cases h
    obtain ⟨x, hx⟩ := Option.isSome_iff_exists.1 hp
    simp only [hx, Option.getD_some]
    refine hand0 rfl rfl (fun w0 M ε0 hX => ?_)
    refine rCount (fun hε => ?_)
    have hT : ref11_Order N = some x := hx; clear hx hp; unfold ref11_Order at hT
    refine rSeq ?_
    refine zReg md0 hX rfl rfl rfl ?_
    refine rThen ?_
    refine rSeq ?_
    refine zReg md0 hX rfl rfl rfl ?_
    refine rThen ?_
    refine rSeq ?_
    refine zReg md0 hX rfl rfl rfl ?_
    refine rThen ?_
    refine rSeq ?_
    refine rSeq ?_
    refine zReg md0 hX rfl rfl rfl ?_
    refine rThen ?_
    refine rBlock ?_
    replace hT := sBind hT; obtain ⟨w1, hl, hT⟩ := hT
    refine rJoinA (fun v1 => v1 = w1) (fun v1 => ⟨[(0, .v (.c (.ptr 0 0 0 0 0 0))), (1, .v (.c (.ptr 1 0 0 0 0 0)))], [(0, .mem true 22 none (.flat [.ints 64 .i64 (List.replicate 64 0)])), (1, .mem true 22 none (.flat [.ints 64 .i64 v1]))], 2⟩) (.exit 0) (fun v1 hv => ?_) (fun hxs10 => ?_)
    · subst hv; clear hl
      refine rInHit ?_
      refine rThen ?_
      refine rSeq ?_
      refine zReg md0 hX rfl rfl rfl ?_
      refine rThen ?_
      refine rRet ?_
      have hy := Option.some.inj hT; subst hy
      exact zEnd0 hX rfl
    refine rLoopM (ref11_Order_b1 N) (fun s1 => ⟨[(0, .v (.c (.ptr 0 0 0 0 0 0))), (1, .v (.c (.ptr 1 0 0 0 0 0))), (2, .v (.c (.int .i64 s1.1))), (3, .v (.c (.int .i64 s1.2.1)))], [(0, .mem true 22 none (.flat [.ints 64 .i64 (List.replicate 64 0)])), (1, .mem true 22 none (.flat [.ints 64 .i64 s1.2.2]))], 2⟩) hl (To.mk' [] 0 hε rfl (by repeat' first | exact True.intro | exact rfl | apply And.intro) (by repeat' first | exact True.intro | exact rfl | apply And.intro)) (fun s1 zs1 NNs1 hz hnexts1 houts1 => ?_)
    clear hl hT
    have hT := hz; clear hz
    refine rSeq ?_
    refine rSeq ?_
    refine zReg md0 hX rfl rfl rfl ?_
    refine rThen ?_
    refine zCond rfl rfl (fun hc => ?_) (fun hc => ?_)
    · replace hT := sT hc hT
      refine rSkip ?_
      refine rThen ?_
      refine rSeq ?_
      refine rBlock ?_
      refine rSeq ?_
      refine zReg md0 hX rfl rfl rfl ?_
      refine rThen ?_
      refine rBlock ?_
      replace hT := sBind hT; obtain ⟨w2, hl, hT⟩ := hT
      refine rJoinA (fun v2 => v2 = w2) (fun v2 => ⟨[(0, .v (.c (.ptr 0 0 0 0 0 0))), (1, .v (.c (.ptr 1 0 0 0 0 0))), (2, .v (.c (.int .i64 v2.1))), (3, .v (.c (.int .i64 s1.2.1))), (4, .v (.c (.int .i64 v2.2.1))), (7, .v (.c (.int .i64 s1.2.1))), (8, .v (.c (.bool (decide (s1.2.1 < 15))))), (11, .v (.c (.int .i64 v2.2.2.1))), (12, .v (.c (.bool v2.2.2.2.1)))], [(0, .mem true 22 none (.flat [.ints 64 .i64 (List.replicate 64 0)])), (1, .mem true 22 none (.flat [.ints 64 .i64 v2.2.2.2.2]))], 2⟩) (.exit 2) (fun v2 hv => ?_) (fun hxs20 => ?_)
      · subst hv; clear hl
        refine rInHit ?_
        refine rInNormal ?_
        refine rThen ?_
        replace hT := sIf hT; obtain ⟨o1, hT⟩ := hT
        refine zReg md0 hX rfl rfl rfl ?_
        exact hnexts1 _ (Option.some.inj hT).symm _ (To.mk' [] 0 hε rfl (by repeat' first | exact True.intro | exact rfl | apply And.intro) (by repeat' first | exact True.intro | exact rfl | apply And.intro))
      refine rLoopM (ref11_Order_b2 N s1) (fun s2 => ⟨[(0, .v (.c (.ptr 0 0 0 0 0 0))), (1, .v (.c (.ptr 1 0 0 0 0 0))), (2, .v (.c (.int .i64 s2.1))), (3, .v (.c (.int .i64 s1.2.1))), (4, .v (.c (.int .i64 s2.2.1))), (7, .v (.c (.int .i64 s1.2.1))), (8, .v (.c (.bool (decide (s1.2.1 < 15)))))], [(0, .mem true 22 none (.flat [.ints 64 .i64 (List.replicate 64 0)])), (1, .mem true 22 none (.flat [.ints 64 .i64 s2.2.2]))], 2⟩) hl (To.mk' [] 0 hε rfl (by repeat' first | exact True.intro | exact rfl | apply And.intro) (by repeat' first | exact True.intro | exact rfl | apply And.intro)) (fun s2 zs2 NNs2 hz hnexts2 houts2 => ?_)
      clear hl hT
      have hT := hz; clear hz
      refine rSeq ?_
      refine rSeq ?_
      refine zReg md0 hX rfl rfl rfl ?_
      refine rThen ?_
      refine zCond rfl rfl (fun hc => ?_) (fun hc => ?_)
      · replace hT := sT hc hT
        refine rSkip ?_
        refine rThen ?_
        refine rSeq ?_
        refine rBlock ?_
        refine rSeq ?_
        refine zReg md0 hX rfl rfl rfl ?_
        refine rThen ?_
        refine rSeq ?_
        refine rSeq ?_
        replace hT := sIf hT; obtain ⟨o1, hT⟩ := hT
        refine zReg md0 hX rfl rfl rfl ?_
        refine rThen ?_
        replace hT := sIf hT; obtain ⟨q1, hT⟩ := hT
        refine rJoin ⟨[(0, .v (.c (.ptr 0 0 0 0 0 0))), (1, .v (.c (.ptr 1 0 0 0 0 0))), (2, .v (.c (.int .i64 s2.1))), (3, .v (.c (.int .i64 s1.2.1))), (4, .v (.c (.int .i64 s2.2.1))), (5, .v (.c (.int .i64 (bif (decide ((s1.2.1 % 2) = 0)) then ((7 : Int) - s2.2.1) else s2.2.1)))), (7, .v (.c (.int .i64 s1.2.1))), (8, .v (.c (.bool (decide (s1.2.1 < 15))))), (11, .v (.c (.int .i64 s2.2.1))), (12, .v (.c (.bool (decide (s2.2.1 < 8))))), (15, .v (.c (.int .i64 s2.2.1))), (16, .v (.c (.int .i64 s1.2.1))), (17, .v (.c (.int .i64 (s1.2.1 % 2)))), (18, .v (.c (.bool (decide ((s1.2.1 % 2) = 0)))))], [(0, .mem true 22 none (.flat [.ints 64 .i64 (List.replicate 64 0)])), (1, .mem true 22 none (.flat [.ints 64 .i64 s2.2.2]))], 2⟩ ?_ (fun hj => ?_)
        · skip
          refine rThen ?_
          refine rSeq ?_
          replace hT := sIf hT; obtain ⟨o1, hT⟩ := hT
          refine zReg md0 hX rfl rfl rfl ?_
          refine rThen ?_
          refine rSeq ?_
          let x1 := (decide ((0 : Int) ≤ (s1.2.1 - (bif (decide ((s1.2.1 % 2) = 0)) then ((7 : Int) - s2.2.1) else s2.2.1))))
          let x3 := (bif (decide ((0 : Int) ≤ (s1.2.1 - (bif (decide ((s1.2.1 % 2) = 0)) then ((7 : Int) - s2.2.1) else s2.2.1)))) then (decide ((s1.2.1 - (bif (decide ((s1.2.1 % 2) = 0)) then ((7 : Int) - s2.2.1) else s2.2.1)) < 8)) else false)
          refine zReg md0 hX rfl rfl rfl ?_
          refine rThen ?_
          refine rJoinK hT (fun v3 => ⟨[(0, .v (.c (.ptr 0 0 0 0 0 0))), (1, .v (.c (.ptr 1 0 0 0 0 0))), (2, .v (.c (.int .i64 v3.1))), (3, .v (.c (.int .i64 s1.2.1))), (4, .v (.c (.int .i64 s2.2.1))), (5, .v (.c (.int .i64 (bif (decide ((s1.2.1 % 2) = 0)) then ((7 : Int) - s2.2.1) else s2.2.1)))), (6, .v (.c (.int .i64 (s1.2.1 - (bif (decide ((s1.2.1 % 2) = 0)) then ((7 : Int) - s2.2.1) else s2.2.1))))), (7, .v (.c (.int .i64 s1.2.1))), (8, .v (.c (.bool (decide (s1.2.1 < 15))))), (11, .v (.c (.int .i64 s2.2.1))), (12, .v (.c (.bool (decide (s2.2.1 < 8))))), (15, .v (.c (.int .i64 s2.2.1))), (16, .v (.c (.int .i64 s1.2.1))), (17, .v (.c (.int .i64 (s1.2.1 % 2)))), (18, .v (.c (.bool (decide ((s1.2.1 % 2) = 0))))), (21, .v (.c (.int .i64 s1.2.1))), (22, .v (.c (.int .i64 (bif (decide ((s1.2.1 % 2) = 0)) then ((7 : Int) - s2.2.1) else s2.2.1)))), (23, .v (.c (.int .i64 (s1.2.1 - (bif (decide ((s1.2.1 % 2) = 0)) then ((7 : Int) - s2.2.1) else s2.2.1))))), (24, .v (.c (.int .i64 (s1.2.1 - (bif (decide ((s1.2.1 % 2) = 0)) then ((7 : Int) - s2.2.1) else s2.2.1))))), (25, .v (.c (.bool x1))), (26, .v (.c (.bool x1))), (29, .v (.c (.bool x3)))], [(0, .mem true 22 none (.flat [.ints 64 .i64 (List.replicate 64 0)])), (1, .mem true 22 none (.flat [.ints 64 .i64 v3.2]))], 2⟩) (fun v3 hT => ?_) (fun k1 hjk1 hT => ?_)
          · skip
            refine rInNormal ?_
            refine rThen ?_
            replace hT := sIf hT; obtain ⟨o1, hT⟩ := hT
            refine zReg md0 hX rfl rfl rfl ?_
            exact hnexts2 _ (Option.some.inj hT).symm _ (To.mk' [] 0 hε rfl (by repeat' first | exact True.intro | exact rfl | apply And.intro) (by repeat' first | exact True.intro | exact rfl | apply And.intro))
          · skip
            refine zCond rfl rfl (fun hc => ?_) (fun hc => ?_)
            · replace hT := sT hc hT
              refine rSeq ?_
              let x5 := (s2.2.2.set (s2.1).toNat (((8 : Int) * (bif (decide ((s1.2.1 % 2) = 0)) then ((7 : Int) - s2.2.1) else s2.2.1)) + (s1.2.1 - (bif (decide ((s1.2.1 % 2) = 0)) then ((7 : Int) - s2.2.1) else s2.2.1))))
              replace hT := sIf hT; obtain ⟨⟨o1, o2, o3, o4, o5⟩, hT⟩ := hT
              refine zReg md0 hX rfl rfl rfl ?_
              refine rThen ?_
              replace hT := sIf hT; obtain ⟨o1, hT⟩ := hT
              refine zReg md0 hX rfl rfl rfl ?_
              exact zTo [] 0 hε (hjk1 _ hT)
            · replace hT := sF hc hT
              refine rSkip ?_
              exact zTo [] 0 hε (hjk1 _ hT)
        · clear hT
          refine zCond rfl rfl (fun hc => ?_) (fun hc => ?_)
          · skip
            have q1 := q1 hc
            refine zReg md0 hX rfl rfl rfl ?_
            exact rTo (To.mk' [] 0 hε rfl (by (repeat' first | exact True.intro | exact rfl | apply And.intro) <;> (repeat' first | exact rfl | refine Eq.trans ?_ (cTr (by assumption)) | refine Eq.trans ?_ (cFr (by assumption)) | refine Eq.trans (cTl (by assumption)) ?_ | refine Eq.trans (cFl (by assumption)) ?_)) (by (repeat' first | exact True.intro | exact rfl | apply And.intro) <;> (repeat' first | exact rfl | refine Eq.trans ?_ (cTr (by assumption)) | refine Eq.trans ?_ (cFr (by assumption)) | refine Eq.trans (cTl (by assumption)) ?_ | refine Eq.trans (cFl (by assumption)) ?_))) hj
          · skip
            refine rSkip ?_
            exact rTo (To.mk' [] 0 hε rfl (by (repeat' first | exact True.intro | exact rfl | apply And.intro) <;> (repeat' first | exact rfl | refine Eq.trans ?_ (cTr (by assumption)) | refine Eq.trans ?_ (cFr (by assumption)) | refine Eq.trans (cTl (by assumption)) ?_ | refine Eq.trans (cFl (by assumption)) ?_)) (by (repeat' first | exact True.intro | exact rfl | apply And.intro) <;> (repeat' first | exact rfl | refine Eq.trans ?_ (cTr (by assumption)) | refine Eq.trans ?_ (cFr (by assumption)) | refine Eq.trans (cTl (by assumption)) ?_ | refine Eq.trans (cFl (by assumption)) ?_))) hj
      · replace hT := sF hc hT
        refine rExit ?_
        refine rThenExit ?_
        refine rThenExit ?_
        exact zTo [] 0 hε (hxs20 _ (houts2 _ (Option.some.inj hT).symm))
    · replace hT := sF hc hT
      refine rExit ?_
      refine rThenExit ?_
      refine rThenExit ?_
      exact zTo [] 0 hε (hxs10 _ (houts1 _ (Option.some.inj hT).symm))
  · cases h
def ref11_Raster_b1 (N : Nat) (a1 : (List Int)) (c1 : (Option (List Int))) (s1 : (Int × (List Int))) : Option ((Int × (List Int)) ⊕ (List Int)) :=
  bif (decide (s1.1 < 64)) then
    if (0 : Int) ≤ s1.1 ∧ s1.1 < 64 ∧ (s1.1).toNat < 64 ∧ (0 : Int) ≤ ((c1.getD default).getD (s1.1).toNat 0) ∧ ((c1.getD default).getD (s1.1).toNat 0) < 64 ∧ ((c1.getD default).getD (s1.1).toNat 0).toNat < 64 then
      if inK .i64 (s1.1 + 1) then
        some (.inl ((s1.1 + 1), (s1.2.set ((c1.getD default).getD (s1.1).toNat 0).toNat (a1.getD (s1.1).toNat 0))))
      else none
    else none
  else
    some (.inr s1.2)
def ref11_Raster (N : Nat) (a1 : (List Int)) : Option (List Int) :=
  let c1 := (ref11_Order N)
  if c1.isSome = true then
    (iter (ref11_Raster_b1 N a1 c1) N (0, (List.replicate 64 0))).bind fun v1 =>
      some v1
  else none
def sp_ref11_Raster (N : Nat) : X.Spec := fun args lk => match args with
  | [.v (.agg [.ints 64 .i64 a1])] => some ⟨(ref11_Raster N a1).isSome = true, .v (.agg [.ints 64 .i64 ((ref11_Raster N a1).getD default)]), [], []⟩
  | _ => none
set_option maxRecDepth 100000 in
set_option maxHeartbeats 1000000 in
theorem ok_ref11_Raster (N : Nat) : FnOK Tryd.prog gt0 80 (sp_ref11_Raster N) := by
  refine fnOK_handed Tryd.func80 rfl (by kernel_rfl) tt_ok (ktCons (ok_ref11_Order N) (ktNil)) ?_
  intro args lk r h hp
  unfold sp_ref11_Raster at h
  split at h
  · rename_i a1
    change (List Int) at a1
    cases h
    obtain ⟨x, hx⟩ := Option.isSome_iff_exists.1 hp
    simp only [hx, Option.getD_some]
    refine hand0 rfl rfl (fun w0 M ε0 hX => ?_)
    refine rCount (fun hε => ?_)
    have hT : ref11_Raster N a1 = some x := hx; clear hx hp; unfold ref11_Raster at hT
    refine rSeq ?_
    refine zReg md0 hX rfl rfl rfl ?_
    refine rThen ?_
    refine rSeq ?_
    let c1 := (ref11_Order N)
    replace hT := sIf hT; obtain ⟨o1, hT⟩ := hT
    refine zReg md0 hX rfl rfl rfl ?_
    refine rThen ?_
    refine rSeq ?_
    refine zReg md0 hX rfl rfl rfl ?_
    refine rThen ?_
    refine rSeq ?_
    refine rSeq ?_
    refine zReg md0 hX rfl rfl rfl ?_
    refine rThen ?_
    refine rBlock ?_
    replace hT := sBind hT; obtain ⟨w1, hl, hT⟩ := hT
    refine rJoinA (fun v1 => v1 = w1) (fun v1 => ⟨[(2, .v (.c (.ptr 1 0 0 0 0 0))), (4, .v (.c (.ptr 3 0 0 0 0 0)))], [(1, .mem true 22 none (.flat [.ints 64 .i64 (List.replicate 64 0)])), (3, .mem true 22 none (.flat [.ints 64 .i64 v1]))], 4⟩) (.exit 0) (fun v1 hv => ?_) (fun hxs10 => ?_)
    · subst hv; clear hl
      refine rInHit ?_
      refine rThen ?_
      refine rSeq ?_
      refine zReg md0 hX rfl rfl rfl ?_
      refine rThen ?_
      refine rRet ?_
      have hy := Option.some.inj hT; subst hy
      exact zEnd0 hX rfl
    refine rLoopM (ref11_Raster_b1 N a1 c1) (fun s1 => ⟨[(1, .v (.c (.ptr 0 0 0 0 0 0))), (2, .v (.c (.ptr 1 0 0 0 0 0))), (3, .v (.c (.ptr 2 0 0 0 0 0))), (4, .v (.c (.ptr 3 0 0 0 0 0))), (5, .v (.c (.int .i64 s1.1)))], [(0, .mem true 22 none (.flat [.ints 64 .i64 a1])), (1, .mem true 22 none (.flat [.ints 64 .i64 (List.replicate 64 0)])), (2, .mem true 22 none (.flat [.ints 64 .i64 (c1.getD default)])), (3, .mem true 22 none (.flat [.ints 64 .i64 s1.2]))], 4⟩) hl (To.mk' [] 0 hε rfl (by repeat' first | exact True.intro | exact rfl | apply And.intro) (by repeat' first | exact True.intro | exact rfl | apply And.intro)) (fun s1 zs1 NNs1 hz hnexts1 houts1 => ?_)
    clear hl hT
    have hT := hz; clear hz
    refine rSeq ?_
    refine rSeq ?_
    refine zReg md0 hX rfl rfl rfl ?_
    refine rThen ?_
    refine zCond rfl rfl (fun hc => ?_) (fun hc => ?_)
    · replace hT := sT hc hT
      refine rSkip ?_
      refine rThen ?_
      refine rSeq ?_
      refine rBlock ?_
      replace hT := sIf hT; obtain ⟨⟨o1, o2, o3, o4, o5, o6⟩, hT⟩ := hT
      refine zDraw md0 1 [7] hX mixed rfl rfl rfl rfl rfl ?_
      refine rInNormal ?_
      refine rThen ?_
      replace hT := sIf hT; obtain ⟨o1, hT⟩ := hT
      refine zReg md0 hX rfl rfl rfl ?_
      exact hnexts1 _ (Option.some.inj hT).symm _ (To.mk' [] 0 hε rfl (by repeat' first | exact True.intro | exact rfl | apply And.intro) (by repeat' first | exact True.intro | exact rfl | apply And.intro))
    · replace hT := sF hc hT
      refine rExit ?_
      refine rThenExit ?_
      refine rThenExit ?_
      exact zTo [] 0 hε (hxs10 _ (houts1 _ (Option.some.inj hT).symm))
  · cases h
def ref29_Levels_b1 (N : Nat) (a7 : (List (List (Bool × (Int × Int))))) (c1 : (Option Bool)) (s1 : (Int × (List Int))) : Option ((Int × (List Int)) ⊕ (List Int)) :=
  bif (decide (s1.1 < 6)) then
    let c2 := (ref10_Levels N (a7.getD (s1.1).toNat []) (bif (c1.getD default) then (1 : Int) else 0))
    if (0 : Int) ≤ s1.1 ∧ s1.1 < 6 ∧ (s1.1).toNat < 6 ∧ c2.isSome = true then
      let c3 := (ref11_Raster N (c2.getD default).1)
      if c3.isSome = true ∧ (0 : Int) ≤ s1.1 ∧ s1.1 < 6 ∧ (64 * (s1.1).toNat) + 64 ≤ 384 then
        if inK .i64 (s1.1 + 1) then
          some (.inl ((s1.1 + 1), (layL s1.2 (64 * (s1.1).toNat) (c3.getD default) 64)))
        else none
      else none
    else none
  else
    some (.inr s1.2)
def ref29_Levels (N : Nat) (a1 : Int) (a2 : Bool) (a3 : Int) (a4 : Int) (a5 : (List Int)) (a6 : (List Int)) (a7 : (List (List (Bool × (Int × Int))))) : Option (List Int) :=
  let c1 := (ref21_Intra N a3)
  if c1.isSome = true then
    (iter (ref29_Levels_b1 N a7 c1) N (0, (List.replicate 384 0))).bind fun v1 =>
      some v1
  else none
def sp_ref29_Levels (N : Nat) : X.Spec := fun args lk => match args with
  | [.v (.agg [.cs [.int .i64 a1, .bool a2, .int .i64 a3, .int .i64 a4], .ints 2 .i64 a5, .ints 6 .i64 a6, .fzs 6 (.pair .bool (.pair (.int .i64) (.int .i64))) a7])] => some ⟨(ref29_Levels N a1 a2 a3 a4 a5 a6 a7).isSome = true, .v (.agg [.ints 384 .i64 ((ref29_Levels N a1 a2 a3 a4 a5 a6 a7).getD default)]), [], []⟩
  | _ => none
set_option maxRecDepth 100000 in
set_option maxHeartbeats 1000000 in
theorem ok_ref29_Levels (N : Nat) : FnOK Tryd.prog gt0 31 (sp_ref29_Levels N) := by
  refine fnOK_handed Tryd.func31 rfl (by kernel_rfl) tt_ok (ktCons (ok_ref11_Raster N) (ktCons (ok_ref10_Levels N) (ktCons (ok_ref21_Intra N) (ktNil)))) ?_
  intro args lk r h hp
  unfold sp_ref29_Levels at h
  split at h
  · rename_i a1 a2 a3 a4 a5 a6 a7
    change (List Int) at a5
    change (List Int) at a6
    change (List (List (Bool × (Int × Int)))) at a7
    cases h
    obtain ⟨x, hx⟩ := Option.isSome_iff_exists.1 hp
    simp only [hx, Option.getD_some]
    refine hand0 rfl rfl (fun w0 M ε0 hX => ?_)
    refine rCount (fun hε => ?_)
    have hT : ref29_Levels N a1 a2 a3 a4 a5 a6 a7 = some x := hx; clear hx hp; unfold ref29_Levels at hT
    refine rSeq ?_
    refine zReg md0 hX rfl rfl rfl ?_
    refine rThen ?_
    refine rSeq ?_
    refine zReg md0 hX rfl rfl rfl ?_
    refine rThen ?_
    refine rSeq ?_
    refine rSeq ?_
    let c1 := (ref21_Intra N a3)
    replace hT := sIf hT; obtain ⟨o1, hT⟩ := hT
    refine zReg md0 hX rfl rfl rfl ?_
    refine rThen ?_
    refine rJoin ⟨[(1, .v (.c (.ptr 0 0 0 0 0 0))), (2, .v (.c (.ptr 1 0 0 0 0 0))), (3, .v (.c (.int .i64 (bif (c1.getD default) then (1 : Int) else 0))))], [(0, .mem true 37 none (.flat [.cs [.int .i64 a1, .bool a2, .int .i64 a3, .int .i64 a4], .ints 2 .i64 a5, .ints 6 .i64 a6, .fzs 6 (.pair .bool (.pair (.int .i64) (.int .i64))) a7])), (1, .mem true 39 none (.flat [.ints 384 .i64 (List.replicate 384 0)]))], 2⟩ ?_ (fun hj => ?_)
    · skip
      refine rThen ?_
      refine rSeq ?_
      refine zReg md0 hX rfl rfl rfl ?_
      refine rThen ?_
      refine rSeq ?_
      refine rSeq ?_
      refine zReg md0 hX rfl rfl rfl ?_
      refine rThen ?_
      refine rBlock ?_
      replace hT := sBind hT; obtain ⟨w1, hl, hT⟩ := hT
      refine rJoinA (fun v1 => v1 = w1) (fun v1 => ⟨[(2, .v (.c (.ptr 1 0 0 0 0 0))), (4, .v (.c (.ptr 2 0 0 0 0 0)))], [(1, .mem true 39 none (.flat [.ints 384 .i64 (List.replicate 384 0)])), (2, .mem true 39 none (.flat [.ints 384 .i64 v1]))], 3⟩) (.exit 0) (fun v1 hv => ?_) (fun hxs10 => ?_)
      · subst hv; clear hl
        refine rInHit ?_
        refine rThen ?_
        refine rSeq ?_
        refine zReg md0 hX rfl rfl rfl ?_
        refine rThen ?_
        refine rRet ?_
        have hy := Option.some.inj hT; subst hy
        exact zEnd0 hX rfl
      refine rLoopM (ref29_Levels_b1 N a7 c1) (fun s1 => ⟨[(1, .v (.c (.ptr 0 0 0 0 0 0))), (2, .v (.c (.ptr 1 0 0 0 0 0))), (3, .v (.c (.int .i64 (bif (c1.getD default) then (1 : Int) else 0)))), (4, .v (.c (.ptr 2 0 0 0 0 0))), (5, .v (.c (.int .i64 s1.1)))], [(0, .mem true 37 none (.flat [.cs [.int .i64 a1, .bool a2, .int .i64 a3, .int .i64 a4], .ints 2 .i64 a5, .ints 6 .i64 a6, .fzs 6 (.pair .bool (.pair (.int .i64) (.int .i64))) a7])), (1, .mem true 39 none (.flat [.ints 384 .i64 (List.replicate 384 0)])), (2, .mem true 39 none (.flat [.ints 384 .i64 s1.2]))], 3⟩) hl (To.mk' [] 0 hε rfl (by repeat' first | exact True.intro | exact rfl | apply And.intro) (by repeat' first | exact True.intro | exact rfl | apply And.intro)) (fun s1 zs1 NNs1 hz hnexts1 houts1 => ?_)
      clear hl hT
      have hT := hz; clear hz
      refine rSeq ?_
      refine rSeq ?_
      refine zReg md0 hX rfl rfl rfl ?_
      refine rThen ?_
      refine zCond rfl rfl (fun hc => ?_) (fun hc => ?_)
      · replace hT := sT hc hT
        refine rSkip ?_
        refine rThen ?_
        refine rSeq ?_
        refine rBlock ?_
        refine rSeq ?_
        let c2 := (ref10_Levels N (a7.getD (s1.1).toNat []) (bif (c1.getD default) then (1 : Int) else 0))
        replace hT := sIf hT; obtain ⟨⟨o1, o2, o3, o4⟩, hT⟩ := hT
        refine zReg md0 hX rfl rfl rfl ?_
        refine rThen ?_
        let c3 := (ref11_Raster N (c2.getD default).1)
        replace hT := sIf hT; obtain ⟨⟨o1, o2, o3, o4⟩, hT⟩ := hT
        refine zReg md0 hX rfl rfl rfl ?_
        refine rInNormal ?_
        refine rThen ?_
        replace hT := sIf hT; obtain ⟨o1, hT⟩ := hT
        refine zReg md0 hX rfl rfl rfl ?_
        exact hnexts1 _ (Option.some.inj hT).symm _ (To.mk' [] 0 hε rfl (by repeat' first | exact True.intro | exact rfl | apply And.intro) (by repeat' first | exact True.intro | exact rfl | apply And.intro))
      · replace hT := sF hc hT
        refine rExit ?_
        refine rThenExit ?_
        refine rThenExit ?_
        exact zTo [] 0 hε (hxs10 _ (houts1 _ (Option.some.inj hT).symm))
    · clear hT
      refine zCond rfl rfl (fun hc => ?_) (fun hc => ?_)
      · skip
        refine zReg md0 hX rfl rfl rfl ?_
        exact rTo (To.mk' [] 0 hε rfl (by (repeat' first | exact True.intro | exact rfl | apply And.intro) <;> (repeat' first | exact rfl | refine Eq.trans ?_ (cTr (by assumption)) | refine Eq.trans ?_ (cFr (by assumption)) | refine Eq.trans (cTl (by assumption)) ?_ | refine Eq.trans (cFl (by assumption)) ?_)) (by (repeat' first | exact True.intro | exact rfl | apply And.intro) <;> (repeat' first | exact rfl | refine Eq.trans ?_ (cTr (by assumption)) | refine Eq.trans ?_ (cFr (by assumption)) | refine Eq.trans (cTl (by assumption)) ?_ | refine Eq.trans (cFl (by assumption)) ?_))) hj
      · skip
        refine rSkip ?_
        exact rTo (To.mk' [] 0 hε rfl (by (repeat' first | exact True.intro | exact rfl | apply And.intro) <;> (repeat' first | exact rfl | refine Eq.trans ?_ (cTr (by assumption)) | refine Eq.trans ?_ (cFr (by assumption)) | refine Eq.trans (cTl (by assumption)) ?_ | refine Eq.trans (cFl (by assumption)) ?_)) (by (repeat' first | exact True.intro | exact rfl | apply And.intro) <;> (repeat' first | exact rfl | refine Eq.trans ?_ (cTr (by assumption)) | refine Eq.trans ?_ (cFr (by assumption)) | refine Eq.trans (cTl (by assumption)) ?_ | refine Eq.trans (cFl (by assumption)) ?_))) hj
  · cases h
def ref12_amount (N : Nat) (a1 : Int) (a2 : Int) : Option Int :=
  bif (decide (a1 = 0)) then
    some 0
  else
    if (0 : Int) ≤ a2 then
      bif (decide ((a2 % 2) = 1)) then
        if inK .i64 ((2 : Int) * a1) ∧ inK .i64 (((2 : Int) * a1) + 1) ∧ inK .i64 (a2 * (((2 : Int) * a1) + 1)) then
          some (a2 * (((2 : Int) * a1) + 1))
        else none
      else
        if inK .i64 ((2 : Int) * a1) ∧ inK .i64 (((2 : Int) * a1) + 1) ∧ inK .i64 (a2 * (((2 : Int) * a1) + 1)) ∧ inK .i64 ((a2 * (((2 : Int) * a1) + 1)) - 1) then
          some ((a2 * (((2 : Int) * a1) + 1)) - 1)
        else none
    else none
def sp_ref12_amount (N : Nat) : X.Spec := fun args lk => match args with
  | [.v (.c (.int .i64 a1)), .v (.c (.int .i64 a2))] => some ⟨(ref12_amount N a1 a2).isSome = true, .v (.c (.int .i64 ((ref12_amount N a1 a2).getD default))), [], []⟩
  | _ => none
set_option maxRecDepth 100000 in
set_option maxHeartbeats 1000000 in
theorem ok_ref12_amount (N : Nat) : FnOK Tryd.prog gt0 112 (sp_ref12_amount N) := by
  refine fnOK_handed Tryd.func112 rfl (by kernel_rfl) tt_ok (ktNil) ?_
  intro args lk r h hp
  unfold sp_ref12_amount at h
  split at h
  · rename_i a1 a2
    cases h
    obtain ⟨x, hx⟩ := Option.isSome_iff_exists.1 hp
    simp only [hx, Option.getD_some]
    refine hand0 rfl rfl (fun w0 M ε0 hX => ?_)
    refine rCount (fun hε => ?_)
    have hT : ref12_amount N a1 a2 = some x := hx; clear hx hp; unfold ref12_amount at hT
    refine rSeq ?_
    refine zReg md0 hX rfl rfl rfl ?_
    refine rThen ?_
    refine rSeq ?_
    refine rSeq ?_
    refine zReg md0 hX rfl rfl rfl ?_
    refine rThen ?_
    refine zCond rfl rfl (fun hc => ?_) (fun hc => ?_)
    · replace hT := sT hc hT
      refine rSeq ?_
      refine zReg md0 hX rfl rfl rfl ?_
      refine rThen ?_
      refine rRet ?_
      refine rThenRet ?_
      have hy := Option.some.inj hT; subst hy
      exact zEnd0 hX rfl
    · replace hT := sF hc hT
      refine rSkip ?_
      refine rThen ?_
      refine rSeq ?_
      refine rSeq ?_
      replace hT := sIf hT; obtain ⟨o1, hT⟩ := hT
      refine zReg md0 hX rfl rfl rfl ?_
      refine rThen ?_
      refine zCond rfl rfl (fun hc => ?_) (fun hc => ?_)
      · replace hT := sT hc hT
        refine rSeq ?_
        replace hT := sIf hT; obtain ⟨⟨o1, o2, o3⟩, hT⟩ := hT
        refine zReg md0 hX rfl rfl rfl ?_
        refine rThen ?_
        refine rRet ?_
        refine rThenRet ?_
        have hy := Option.some.inj hT; subst hy
        exact zEnd0 hX rfl
      · replace hT := sF hc hT
        refine rSkip ?_
        refine rThen ?_
        refine rSeq ?_
        replace hT := sIf hT; obtain ⟨⟨o1, o2, o3, o4⟩, hT⟩ := hT
        refine zReg md0 hX rfl rfl rfl ?_
        refine rThen ?_
        refine rRet ?_
        have hy := Option.some.inj hT; subst hy
        exact zEnd0 hX rfl
  · cases h
def ref12_Value (N : Nat) (a1 : Int) (a2 : Int) : Option Int :=
  let c1 := (ref01_Clip N a2 1 31)
  if c1.isSome = true then
    let c2 := (ref01_Clip N a1 (-127) 127)
    if c2.isSome = true then
      bif (decide ((c2.getD default) < 0)) then
        let c3 := (ref12_amount N (-(c2.getD default)) (c1.getD default))
        let c4 := (ref01_Clip N (-(c3.getD default)) (-2048) 2047)
        if inK .i64 (-(c2.getD default)) ∧ c3.isSome = true ∧ inK .i64 (-(c3.getD default)) ∧ c4.isSome = true then
          some (c4.getD default)
        else none
      else
        let c5 := (ref12_amount N (c2.getD default) (c1.getD default))
        let c6 := (ref01_Clip N (c5.getD default) (-2048) 2047)
        if c5.isSome = true ∧ c6.isSome = true then
          some (c6.getD default)
        else none
    else none
  else none
def sp_ref12_Value (N : Nat) : X.Spec := fun args lk => match args with
  | [.v (.c (.int .i64 a1)), .v (.c (.int .i64 a2))] => some ⟨(ref12_Value N a1 a2).isSome = true, .v (.c (.int .i64 ((ref12_Value N a1 a2).getD default))), [], []⟩
  | _ => none
set_option maxRecDepth 100000 in
set_option maxHeartbeats 1000000 in
theorem ok_ref12_Value (N : Nat) : FnOK Tryd.prog gt0 56 (sp_ref12_Value N) := by
  refine fnOK_handed Tryd.func56 rfl (by kernel_rfl) tt_ok (ktCons (ok_ref12_amount N) (ktCons (ok_ref01_Clip N) (ktNil))) ?_
  intro args lk r h hp
  unfold sp_ref12_Value at h
  split at h
  · rename_i a1 a2
    cases h
    obtain ⟨x, hx⟩ := Option.isSome_iff_exists.1 hp
    simp only [hx, Option.getD_some]
    refine hand0 rfl rfl (fun w0 M ε0 hX => ?_)
    refine rCount (fun hε => ?_)
    have hT : ref12_Value N a1 a2 = some x := hx; clear hx hp; unfold ref12_Value at hT
    refine rSeq ?_
    refine zReg md0 hX rfl rfl rfl ?_
    refine rThen ?_
    refine rSeq ?_
    let c1 := (ref01_Clip N a2 1 31)
    replace hT := sIf hT; obtain ⟨o1, hT⟩ := hT
    refine zReg md0 hX rfl rfl rfl ?_
    refine rThen ?_
    refine rSeq ?_
    let c2 := (ref01_Clip N a1 (-127) 127)
    replace hT := sIf hT; obtain ⟨o1, hT⟩ := hT
    refine zReg md0 hX rfl rfl rfl ?_
    refine rThen ?_
    refine rSeq ?_
    refine rSeq ?_
    refine zReg md0 hX rfl rfl rfl ?_
    refine rThen ?_
    refine zCond rfl rfl (fun hc => ?_) (fun hc => ?_)
    · replace hT := sT hc hT
      refine rSeq ?_
      let c3 := (ref12_amount N (-(c2.getD default)) (c1.getD default))
      let c4 := (ref01_Clip N (-(c3.getD default)) (-2048) 2047)
      replace hT := sIf hT; obtain ⟨⟨o1, o2, o3, o4⟩, hT⟩ := hT
      refine zReg md0 hX rfl rfl rfl ?_
      refine rThen ?_
      refine rRet ?_
      refine rThenRet ?_
      have hy := Option.some.inj hT; subst hy
      exact zEnd0 hX rfl
    · replace hT := sF hc hT
      refine rSkip ?_
      refine rThen ?_
      refine rSeq ?_
      let c5 := (ref12_amount N (c2.getD default) (c1.getD default))
      let c6 := (ref01_Clip N (c5.getD default) (-2048) 2047)
      replace hT := sIf hT; obtain ⟨⟨o1, o2⟩, hT⟩ := hT
      refine zReg md0 hX rfl rfl rfl ?_
      refine rThen ?_
      refine rRet ?_
      have hy := Option.some.inj hT; subst hy
      exact zEnd0 hX rfl
  · cases h
def ref12_Dc (N : Nat) (a1 : Int) : Option Int :=
  let c1 := (ref01_Clip N a1 1 254)
  if c1.isSome = true ∧ inK .i64 ((8 : Int) * (c1.getD default)) then
    some ((8 : Int) * (c1.getD default))
  else none
def sp_ref12_Dc (N : Nat) : X.Spec := fun args lk => match args with
  | [.v (.c (.int .i64 a1))] => some ⟨(ref12_Dc N a1).isSome = true, .v (.c (.int .i64 ((ref12_Dc N a1).getD default))), [], []⟩
  | _ => none
set_option maxRecDepth 100000 in
set_option maxHeartbeats 1000000 in
theorem ok_ref12_Dc (N : Nat) : FnOK Tryd.prog gt0 128 (sp_ref12_Dc N) := by
  refine fnOK_handed Tryd.func128 rfl (by kernel_rfl) tt_ok (ktCons (ok_ref01_Clip N) (ktNil)) ?_
  intro args lk r h hp
  unfold sp_ref12_Dc at h
  split at h
  · rename_i a1
    cases h
    obtain ⟨x, hx⟩ := Option.isSome_iff_exists.1 hp
    simp only [hx, Option.getD_some]
    refine hand0 rfl rfl (fun w0 M ε0 hX => ?_)
    refine rCount (fun hε => ?_)
    have hT : ref12_Dc N a1 = some x := hx; clear hx hp; unfold ref12_Dc at hT
    refine rSeq ?_
    refine zReg md0 hX rfl rfl rfl ?_
    refine rThen ?_
    refine rSeq ?_
    let c1 := (ref01_Clip N a1 1 254)
    replace hT := sIf hT; obtain ⟨⟨o1, o2⟩, hT⟩ := hT
    refine zReg md0 hX rfl rfl rfl ?_
    refine rThen ?_
    refine rRet ?_
    have hy := Option.some.inj hT; subst hy
    exact zEnd0 hX rfl
  · cases h
def ref12_Block_b1 (N : Nat) (a1 : (List Int)) (a2 : Int) (a3 : Bool) (a4 : Int) (s1 : (Int × (List Int))) : Option ((Int × (List Int)) ⊕ (List Int)) :=
  bif (decide (s1.1 < 64)) then
    let c1 := (ref12_Value N (a1.getD (s1.1).toNat 0) a2)
    if (0 : Int) ≤ s1.1 ∧ s1.1 < 64 ∧ (s1.1).toNat < 64 ∧ c1.isSome = true then
      joinK (fun (v2 : (List Int)) =>
        if inK .i64 (s1.1 + 1) then
          some (.inl ((s1.1 + 1), v2))
        else none
      ) fun k1 =>
        bif (bif (decide (s1.1 = 0)) then a3 else false) then
          let c2 := (ref12_Dc N a4)
          if c2.isSome = true ∧ (0 : Int) ≤ s1.1 ∧ s1.1 < 64 ∧ (s1.1).toNat < 64 then
            k1 ((s1.2.set (s1.1).toNat (c1.getD default)).set (s1.1).toNat (c2.getD default))
          else none
        else
          k1 (s1.2.set (s1.1).toNat (c1.getD default))
    else none
  else
    some (.inr s1.2)
def ref12_Block (N : Nat) (a1 : (List Int)) (a2 : Int) (a3 : Bool) (a4 : Int) : Option (List Int) :=
  (iter (ref12_Block_b1 N a1 a2 a3 a4) N (0, (List.replicate 64 0))).bind fun v1 =>
    some v1
def sp_ref12_Block (N : Nat) : X.Spec := fun args lk => match args with
  | [.v (.agg [.ints 64 .i64 a1]), .v (.c (.int .i64 a2)), .v (.c (.bool a3)), .v (.c (.int .i64 a4))] => some ⟨(ref12_Block N a1 a2 a3 a4).isSome = true, .v (.agg [.ints 64 .i64 ((ref12_Block N a1 a2 a3 a4).getD default)]), [], []⟩
  | _ => none
set_option maxRecDepth 100000 in
set_option maxHeartbeats 1000000 in
theorem ok_ref12_Block (N : Nat) : FnOK Tryd.prog gt0 81 (sp_ref12_Block N) := by
  refine fnOK_handed Tryd.func81 rfl (by kernel_rfl) tt_ok (ktCons (ok_ref12_Dc N) (ktCons (ok_ref12_Value N) (ktNil))) ?_
  intro args lk r h hp
  unfold sp_ref12_Block at h
  split at h
  · rename_i a1 a2 a3 a4
    change (List Int) at a1
    cases h
    obtain ⟨x, hx⟩ := Option.isSome_iff_exists.1 hp
    simp only [hx, Option.getD_some]
    refine hand0 rfl rfl (fun w0 M ε0 hX => ?_)
    refine rCount (fun hε => ?_)
    have hT : ref12_Block N a1 a2 a3 a4 = some x := hx; clear hx hp; unfold ref12_Block at hT
    refine rSeq ?_
    refine zReg md0 hX rfl rfl rfl ?_
    refine rThen ?_
    refine rSeq ?_
    refine zReg md0 hX rfl rfl rfl ?_
    refine rThen ?_
    refine rSeq ?_
    refine rSeq ?_
    refine zReg md0 hX rfl rfl rfl ?_
    refine rThen ?_
    refine rBlock ?_
    replace hT := sBind hT; obtain ⟨w1, hl, hT⟩ := hT
    refine rJoinA (fun v1 => v1 = w1) (fun v1 => ⟨[(8, .v (.c (.ptr 1 0 0 0 0 0))), (9, .v (.c (.ptr 2 0 0 0 0 0)))], [(1, .mem true 22 none (.flat [.ints 64 .i64 (List.replicate 64 0)])), (2, .mem true 22 none (.flat [.ints 64 .i64 v1]))], 3⟩) (.exit 0) (fun v1 hv => ?_) (fun hxs10 => ?_)
    · subst hv; clear hl
      refine rInHit ?_
      refine rThen ?_
      refine rSeq ?_
      refine zReg md0 hX rfl rfl rfl ?_
      refine rThen ?_
      refine rRet ?_
      have hy := Option.some.inj hT; subst hy
      exact zEnd0 hX rfl
    refine rLoopM (ref12_Block_b1 N a1 a2 a3 a4) (fun s1 => ⟨[(1, .v (.c (.int .i64 a2))), (2, .v (.c (.bool a3))), (3, .v (.c (.int .i64 a4))), (4, .v (.c (.ptr 0 0 0 0 0 0))), (8, .v (.c (.ptr 1 0 0 0 0 0))), (9, .v (.c (.ptr 2 0 0 0 0 0))), (10, .v (.c (.int .i64 s1.1)))], [(0, .mem true 22 none (.flat [.ints 64 .i64 a1])), (1, .mem true 22 none (.flat [.ints 64 .i64 (List.replicate 64 0)])), (2, .mem true 22 none (.flat [.ints 64 .i64 s1.2]))], 3⟩) hl (To.mk' [] 0 hε rfl (by repeat' first | exact True.intro | exact rfl | apply And.intro) (by repeat' first | exact True.intro | exact rfl | apply And.intro)) (fun s1 zs1 NNs1 hz hnexts1 houts1 => ?_)
    clear hl hT
    have hT := hz; clear hz
    refine rSeq ?_
    refine rSeq ?_
    refine zReg md0 hX rfl rfl rfl ?_
    refine rThen ?_
    refine zCond rfl rfl (fun hc => ?_) (fun hc => ?_)
    · replace hT := sT hc hT
      refine rSkip ?_
      refine rThen ?_
      refine rSeq ?_
      refine rBlock ?_
      refine rSeq ?_
      let c1 := (ref12_Value N (a1.getD (s1.1).toNat 0) a2)
      replace hT := sIf hT; obtain ⟨⟨o1, o2, o3, o4⟩, hT⟩ := hT
      refine zReg md0 hX rfl rfl rfl ?_
      refine rThen ?_
      refine rSeq ?_
      refine zReg md0 hX rfl rfl rfl ?_
      refine rThen ?_
      refine rJoinK hT (fun v2 => ⟨[(1, .v (.c (.int .i64 a2))), (2, .v (.c (.bool a3))), (3, .v (.c (.int .i64 a4))), (4, .v (.c (.ptr 0 0 0 0 0 0))), (8, .v (.c (.ptr 1 0 0 0 0 0))), (9, .v (.c (.ptr 2 0 0 0 0 0))), (10, .v (.c (.int .i64 s1.1))), (11, .v (.c (.int .i64 s1.1))), (12, .v (.c (.bool (decide (s1.1 < 64))))), (15, .v (.c (.int .i64 s1.1))), (16, .v (.c (.int .i64 s1.1))), (17, .v (.c (.ptr 0 0 0 0 1 (s1.1).toNat))), (18, .v (.c (.int .i64 (a1.getD (s1.1).toNat 0)))), (19, .v (.c (.int .i64 a2))), (20, .v (.c (.int .i64 (c1.getD default)))), (21, .v (.c (.ptr 2 0 0 0 1 (s1.1).toNat))), (22, .v (.c (.int .i64 s1.1))), (23, .v (.c (.bool (decide (s1.1 = 0))))), (24, .v (.c (.bool (decide (s1.1 = 0))))), (26, .v (.c (.bool (bif (decide (s1.1 = 0)) then a3 else false))))], [(0, .mem true 22 none (.flat [.ints 64 .i64 a1])), (1, .mem true 22 none (.flat [.ints 64 .i64 (List.replicate 64 0)])), (2, .mem true 22 none (.flat [.ints 64 .i64 v2]))], 3⟩) (fun v2 hT => ?_) (fun k1 hjk1 hT => ?_)
      · skip
        refine rInNormal ?_
        refine rThen ?_
        replace hT := sIf hT; obtain ⟨o1, hT⟩ := hT
        refine zReg md0 hX rfl rfl rfl ?_
        exact hnexts1 _ (Option.some.inj hT).symm _ (To.mk' [] 0 hε rfl (by repeat' first | exact True.intro | exact rfl | apply And.intro) (by repeat' first | exact True.intro | exact rfl | apply And.intro))
      · skip
        refine zCond rfl rfl (fun hc => ?_) (fun hc => ?_)
        · replace hT := sT hc hT
          let c2 := (ref12_Dc N a4)
          replace hT := sIf hT; obtain ⟨⟨o1, o2, o3, o4⟩, hT⟩ := hT
          refine zReg md0 hX rfl rfl rfl ?_
          exact zTo [] 0 hε (hjk1 _ hT)
        · replace hT := sF hc hT
          refine rSkip ?_
          exact zTo [] 0 hε (hjk1 _ hT)
    · replace hT := sF hc hT
      refine rExit ?_
      refine rThenExit ?_
      refine rThenExit ?_
      exact zTo [] 0 hε (hxs10 _ (houts1 _ (Option.some.inj hT).symm))
  · cases h
def ref29_Values_b1 (N : Nat) (a3 : Int) (a6 : (List Int)) (a8 : Int) (s1 : (Int × (List Int))) : Option ((Int × (List Int)) ⊕ (List Int)) :=
  bif (decide (s1.1 < 6)) then
    let c2 := (ref21_Intra N a3)
    let c3 := (ref12_Block N ((s1.2.drop (64 * (s1.1).toNat)).take 64) a8 (c2.getD default) (a6.getD (s1.1).toNat 0))
    if (0 : Int) ≤ s1.1 ∧ s1.1 < 6 ∧ (64 * (s1.1).toNat) + 64 ≤ 384 ∧ c2.isSome = true ∧ (s1.1).toNat < 6 ∧ c3.isSome = true then
      if inK .i64 (s1.1 + 1) then
        some (.inl ((s1.1 + 1), (layL s1.2 (64 * (s1.1).toNat) (c3.getD default) 64)))
      else none
    else none
  else
    some (.inr s1.2)
def ref29_Values (N : Nat) (a1 : Int) (a2 : Bool) (a3 : Int) (a4 : Int) (a5 : (List Int)) (a6 : (List Int)) (a7 : (List (List (Bool × (Int × Int))))) (a8 : Int) : Option (List Int) :=
  let c1 := (ref29_Levels N a1 a2 a3 a4 a5 a6 a7)
  if c1.isSome = true then
    (iter (ref29_Values_b1 N a3 a6 a8) N (0, (c1.getD default))).bind fun v1 =>
      some v1
  else none
def sp_ref29_Values (N : Nat) : X.Spec := fun args lk => match args with
  | [.v (.agg [.cs [.int .i64 a1, .bool a2, .int .i64 a3, .int .i64 a4], .ints 2 .i64 a5, .ints 6 .i64 a6, .fzs 6 (.pair .bool (.pair (.int .i64) (.int .i64))) a7]), .v (.c (.int .i64 a8))] => some ⟨(ref29_Values N a1 a2 a3 a4 a5 a6 a7 a8).isSome = true, .v (.agg [.ints 384 .i64 ((ref29_Values N a1 a2 a3 a4 a5 a6 a7 a8).getD default)]), [], []⟩
  | _ => none
set_option maxRecDepth 100000 in
set_option maxHeartbeats 1000000 in
theorem ok_ref29_Values (N : Nat) : FnOK Tryd.prog gt0 32 (sp_ref29_Values N) := by
  refine fnOK_handed Tryd.func32 rfl (by kernel_rfl) tt_ok (ktCons (ok_ref12_Block N) (ktCons (ok_ref21_Intra N) (ktCons (ok_ref29_Levels N) (ktNil)))) ?_
  intro args lk r h hp
  unfold sp_ref29_Values at h
  split at h
  · rename_i a1 a2 a3 a4 a5 a6 a7 a8
    change (List Int) at a5
    change (List Int) at a6
    change (List (List (Bool × (Int × Int)))) at a7
    cases h
    obtain ⟨x, hx⟩ := Option.isSome_iff_exists.1 hp
    simp only [hx, Option.getD_some]
    refine hand0 rfl rfl (fun w0 M ε0 hX => ?_)
    refine rCount (fun hε => ?_)
    have hT : ref29_Values N a1 a2 a3 a4 a5 a6 a7 a8 = some x := hx; clear hx hp; unfold ref29_Values at hT
    refine rSeq ?_
    refine zReg md0 hX rfl rfl rfl ?_
    refine rThen ?_
    refine rSeq ?_
    let c1 := (ref29_Levels N a1 a2 a3 a4 a5 a6 a7)
    replace hT := sIf hT; obtain ⟨o1, hT⟩ := hT
    refine zReg md0 hX rfl rfl rfl ?_
    refine rThen ?_
    refine rSeq ?_
    refine rSeq ?_
    refine zReg md0 hX rfl rfl rfl ?_
    refine rThen ?_
    refine rBlock ?_
    replace hT := sBind hT; obtain ⟨w1, hl, hT⟩ := hT
    refine rJoinA (fun v1 => v1 = w1) (fun v1 => ⟨[(4, .v (.c (.ptr 1 0 0 0 0 0))), (5, .v (.c (.ptr 2 0 0 0 0 0)))], [(1, .mem true 39 none (.flat [.ints 384 .i64 (List.replicate 384 0)])), (2, .mem true 39 none (.flat [.ints 384 .i64 v1]))], 3⟩) (.exit 0) (fun v1 hv => ?_) (fun hxs10 => ?_)
    · subst hv; clear hl
      refine rInHit ?_
      refine rThen ?_
      refine rSeq ?_
      refine zReg md0 hX rfl rfl rfl ?_
      refine rThen ?_
      refine rRet ?_
      have hy := Option.some.inj hT; subst hy
      exact zEnd0 hX rfl
    refine rLoopM (ref29_Values_b1 N a3 a6 a8) (fun s1 => ⟨[(1, .v (.c (.int .i64 a8))), (2, .v (.c (.ptr 0 0 0 0 0 0))), (4, .v (.c (.ptr 1 0 0 0 0 0))), (5, .v (.c (.ptr 2 0 0 0 0 0))), (6, .v (.c (.int .i64 s1.1)))], [(0, .mem true 37 none (.flat [.cs [.int .i64 a1, .bool a2, .int .i64 a3, .int .i64 a4], .ints 2 .i64 a5, .ints 6 .i64 a6, .fzs 6 (.pair .bool (.pair (.int .i64) (.int .i64))) a7])), (1, .mem true 39 none (.flat [.ints 384 .i64 (List.replicate 384 0)])), (2, .mem true 39 none (.flat [.ints 384 .i64 s1.2]))], 3⟩) hl (To.mk' [] 0 hε rfl (by repeat' first | exact True.intro | exact rfl | apply And.intro) (by repeat' first | exact True.intro | exact rfl | apply And.intro)) (fun s1 zs1 NNs1 hz hnexts1 houts1 => ?_)
    clear hl hT
    have hT := hz; clear hz
    refine rSeq ?_
    refine rSeq ?_
    refine zReg md0 hX rfl rfl rfl ?_
    refine rThen ?_
    refine zCond rfl rfl (fun hc => ?_) (fun hc => ?_)
    · replace hT := sT hc hT
      refine rSkip ?_
      refine rThen ?_
      refine rSeq ?_
      refine rBlock ?_
      let c2 := (ref21_Intra N a3)
      let c3 := (ref12_Block N ((s1.2.drop (64 * (s1.1).toNat)).take 64) a8 (c2.getD default) (a6.getD (s1.1).toNat 0))
      replace hT := sIf hT; obtain ⟨⟨o1, o2, o3, o4, o5, o6⟩, hT⟩ := hT
      refine zDraw md0 1 [14] hX mixed rfl rfl rfl rfl rfl ?_
      refine rInNormal ?_
      refine rThen ?_
      replace hT := sIf hT; obtain ⟨o1, hT⟩ := hT
      refine zReg md0 hX rfl rfl rfl ?_
      exact hnexts1 _ (Option.some.inj hT).symm _ (To.mk' [] 0 hε rfl (by repeat' first | exact True.intro | exact rfl | apply And.intro) (by repeat' first | exact True.intro | exact rfl | apply And.intro))
    · replace hT := sF hc hT
      refine rExit ?_
      refine rThenExit ?_
      refine rThenExit ?_
      exact zTo [] 0 hε (hxs10 _ (houts1 _ (Option.some.inj hT).symm))
  · cases h
def ref14_Weight (N : Nat) (a1 : Int) (a2 : Int) : Option Int :=
  let x1 := (layL (layL (layL (layL (layL (layL (layL (layL (List.replicate 32 0) 0 (((((List.replicate 4 0).set 0 64).set 1 64).set 2 64).set 3 64) 4) 4 (((((List.replicate 4 0).set 0 89).set 1 75).set 2 50).set 3 18) 4) 8 (((((List.replicate 4 0).set 0 83).set 1 36).set 2 (-36)).set 3 (-83)) 4) 12 (((((List.replicate 4 0).set 0 75).set 1 (-18)).set 2 (-89)).set 3 (-50)) 4) 16 (((((List.replicate 4 0).set 0 64).set 1 (-64)).set 2 (-64)).set 3 64) 4) 20 (((((List.replicate 4 0).set 0 50).set 1 (-89)).set 2 18).set 3 75) 4) 24 (((((List.replicate 4 0).set 0 36).set 1 (-83)).set 2 83).set 3 (-36)) 4) 28 (((((List.replicate 4 0).set 0 18).set 1 (-50)).set 2 75).set 3 (-89)) 4)
  bif (decide (a2 < 4)) then
    if (0 : Int) ≤ a1 ∧ a1 < 8 ∧ (0 : Int) ≤ a2 ∧ a2 < 4 ∧ ((a1).toNat * 4 + (a2).toNat) < 32 then
      some (x1.getD ((a1).toNat * 4 + (a2).toNat) 0)
    else none
  else
    if (0 : Int) ≤ a1 then
      bif (decide ((a1 % 2) = 1)) then
        if inK .i64 ((7 : Int) - a2) ∧ (0 : Int) ≤ a1 ∧ a1 < 8 ∧ (0 : Int) ≤ ((7 : Int) - a2) ∧ ((7 : Int) - a2) < 4 ∧ ((a1).toNat * 4 + ((7 : Int) - a2).toNat) < 32 ∧ inK .i64 (-(x1.getD ((a1).toNat * 4 + ((7 : Int) - a2).toNat) 0)) then
          some (-(x1.getD ((a1).toNat * 4 + ((7 : Int) - a2).toNat) 0))
        else none
      else
        if inK .i64 ((7 : Int) - a2) ∧ (0 : Int) ≤ a1 ∧ a1 < 8 ∧ (0 : Int) ≤ ((7 : Int) - a2) ∧ ((7 : Int) - a2) < 4 ∧ ((a1).toNat * 4 + ((7 : Int) - a2).toNat) < 32 then
          some (x1.getD ((a1).toNat * 4 + ((7 : Int) - a2).toNat) 0)
        else none
    else none
def sp_ref14_Weight (N : Nat) : X.Spec := fun args lk => match args with
  | [.v (.c (.int .i64 a1)), .v (.c (.int .i64 a2))] => some ⟨(ref14_Weight N a1 a2).isSome = true, .v (.c (.int .i64 ((ref14_Weight N a1 a2).getD default))), [], []⟩
  | _ => none
set_option maxRecDepth 100000 in
set_option maxHeartbeats 1000000 in
theorem ok_ref14_Weight (N : Nat) : FnOK Tryd.prog gt0 141 (sp_ref14_Weight N) := by
  refine fnOK_handed Tryd.func141 rfl (by kernel_rfl) tt_ok (ktNil) ?_
  intro args lk r h hp
  unfold sp_ref14_Weight at h
  split at h
  · rename_i a1 a2
    cases h
    obtain ⟨x, hx⟩ := Option.isSome_iff_exists.1 hp
    simp only [hx, Option.getD_some]
    refine hand0 rfl rfl (fun w0 M ε0 hX => ?_)
    refine rCount (fun hε => ?_)
    have hT : ref14_Weight N a1 a2 = some x := hx; clear hx hp; unfold ref14_Weight at hT
    refine rSeq ?_
    refine zReg md0 hX rfl rfl rfl ?_
    refine rThen ?_
    refine rSeq ?_
    let x1 := (layL (layL (layL (layL (layL (layL (layL (layL (List.replicate 32 0) 0 (((((List.replicate 4 0).set 0 64).set 1 64).set 2 64).set 3 64) 4) 4 (((((List.replicate 4 0).set 0 89).set 1 75).set 2 50).set 3 18) 4) 8 (((((List.replicate 4 0).set 0 83).set 1 36).set 2 (-36)).set 3 (-83)) 4) 12 (((((List.replicate 4 0).set 0 75).set 1 (-18)).set 2 (-89)).set 3 (-50)) 4) 16 (((((List.replicate 4 0).set 0 64).set 1 (-64)).set 2 (-64)).set 3 64) 4) 20 (((((List.replicate 4 0).set 0 50).set 1 (-89)).set 2 18).set 3 75) 4) 24 (((((List.replicate 4 0).set 0 36).set 1 (-83)).set 2 83).set 3 (-36)) 4) 28 (((((List.replicate 4 0).set 0 18).set 1 (-50)).set 2 75).set 3 (-89)) 4)
    refine zReg md0 hX rfl rfl rfl ?_
    refine rThen ?_
    refine rSeq ?_
    refine rSeq ?_
    refine zReg md0 hX rfl rfl rfl ?_
    refine rThen ?_
    refine zCond rfl rfl (fun hc => ?_) (fun hc => ?_)
    · replace hT := sT hc hT
      refine rSeq ?_
      replace hT := sIf hT; obtain ⟨⟨o1, o2, o3, o4, o5⟩, hT⟩ := hT
      refine zReg md0 hX rfl rfl rfl ?_
      refine rThen ?_
      refine rRet ?_
      refine rThenRet ?_
      have hy := Option.some.inj hT; subst hy
      exact zEnd0 hX rfl
    · replace hT := sF hc hT
      refine rSkip ?_
      refine rThen ?_
      refine rSeq ?_
      refine rSeq ?_
      replace hT := sIf hT; obtain ⟨o1, hT⟩ := hT
      refine zReg md0 hX rfl rfl rfl ?_
      refine rThen ?_
      refine zCond rfl rfl (fun hc => ?_) (fun hc => ?_)
      · replace hT := sT hc hT
        refine rSeq ?_
        replace hT := sIf hT; obtain ⟨⟨o1, o2, o3, o4, o5, o6, o7⟩, hT⟩ := hT
        refine zReg md0 hX rfl rfl rfl ?_
        refine rThen ?_
        refine rRet ?_
        refine rThenRet ?_
        have hy := Option.some.inj hT; subst hy
        exact zEnd0 hX rfl
      · replace hT := sF hc hT
        refine rSkip ?_
        refine rThen ?_
        refine rSeq ?_
        replace hT := sIf hT; obtain ⟨⟨o1, o2, o3, o4, o5, o6⟩, hT⟩ := hT
        refine zReg md0 hX rfl rfl rfl ?_
        refine rThen ?_
        refine rRet ?_
        have hy := Option.some.inj hT; subst hy
        exact zEnd0 hX rfl
  · cases h
def ref14_weights_b2 (N : Nat) (s1 : (Int × (List Int))) (s2 : (Int × (List Int))) : Option ((Int × (List Int)) ⊕ (Int × Int × Bool × (List Int))) :=
  bif (decide (s2.1 < 8)) then
    let c1 := (ref14_Weight N s1.1 s2.1)
    if c1.isSome = true ∧ (0 : Int) ≤ s1.1 ∧ s1.1 < 8 ∧ (0 : Int) ≤ s2.1 ∧ s2.1 < 8 ∧ ((s1.1).toNat * 8 + (s2.1).toNat) < 64 then
      if inK .i64 (s2.1 + 1) then
        some (.inl ((s2.1 + 1), (s2.2.set ((s1.1).toNat * 8 + (s2.1).toNat) (c1.getD default))))
      else none
    else none
  else
    some (.inr (s2.1, s2.1, (decide (s2.1 < 8)), s2.2))
def ref14_weights_b1 (N : Nat) (s1 : (Int × (List Int))) : Option ((Int × (List Int)) ⊕ (List Int)) :=
  bif (decide (s1.1 < 8)) then
    (iter (ref14_weights_b2 N s1) N (0, s1.2)).bind fun v2 =>
      if inK .i64 (s1.1 + 1) then
        some (.inl ((s1.1 + 1), v2.2.2.2))
      else none
  else
    some (.inr s1.2)
def ref14_weights (N : Nat) : Option (List Int) :=
  (iter (ref14_weights_b1 N) N (0, (List.replicate 64 0))).bind fun v1 =>
    some v1
def sp_ref14_weights (N : Nat) : X.Spec := fun args lk => match args with
  | [] => some ⟨(ref14_weights N).isSome = true, .v (.agg [.ints 64 .i64 ((ref14_weights N).getD default)]), [], []⟩
  | _ => none
set_option maxRecDepth 100000 in
set_option maxHeartbeats 1000000 in
theorem ok_ref14_weights (N : Nat) : FnOK Tryd.prog gt0 110 (sp_ref14_weights N) := by
  refine fnOK_handed Tryd.func110 rfl (by kernel_rfl) tt_ok (ktCons (ok_ref14_Weight N) (ktNil)) ?_
  intro args lk r h hp
  unfold sp_ref14_weights at h
  split at h
  · skip
    cases h
    obtain ⟨x, hx⟩ := Option.isSome_iff_exists.1 hp
    simp only [hx, Option.getD_some]
    refine hand0 rfl rfl (fun w0 M ε0 hX => ?_)
    refine rCount (fun hε => ?_)
    have hT : ref14_weights N = some x := hx; clear hx hp; unfold ref14_weights at hT
    refine rSeq ?_
    refine zReg md0 hX rfl rfl rfl ?_
    refine rThen ?_
    refine rSeq ?_
    refine zReg md0 hX rfl rfl rfl ?_
    refine rThen ?_
    refine rSeq ?_
    refine rSeq ?_
    refine zReg md0 hX rfl rfl rfl ?_
    refine rThen ?_
    refine rBlock ?_
    replace hT := sBind hT; obtain ⟨w1, hl, hT⟩ := hT
    refine rJoinA (fun v1 => v1 = w1) (fun v1 => ⟨[(0, .v (.c (.ptr 0 0 0 0 0 0))), (1, .v (.c (.ptr 1 0 0 0 0 0)))], [(0, .mem true 134 none (.flat [.ints 64 .i64 (List.replicate 64 0)])), (1, .mem true 134 none (.flat [.ints 64 .i64 v1]))], 2⟩) (.exit 0) (fun v1 hv => ?_) (fun hxs10 => ?_)
    · subst hv; clear hl
      refine rInHit ?_
      refine rThen ?_
      refine rSeq ?_
      refine zReg md0 hX rfl rfl rfl ?_
      refine rThen ?_
      refine rRet ?_
      have hy := Option.some.inj hT; subst hy
      exact zEnd0 hX rfl
    refine rLoopM (ref14_weights_b1 N) (fun s1 => ⟨[(0, .v (.c (.ptr 0 0 0 0 0 0))), (1, .v (.c (.ptr 1 0 0 0 0 0))), (2, .v (.c (.int .i64 s1.1)))], [(0, .mem true 134 none (.flat [.ints 64 .i64 (List.replicate 64 0)])), (1, .mem true 134 none (.flat [.ints 64 .i64 s1.2]))], 2⟩) hl (To.mk' [] 0 hε rfl (by repeat' first | exact True.intro | exact rfl | apply And.intro) (by repeat' first | exact True.intro | exact rfl | apply And.intro)) (fun s1 zs1 NNs1 hz hnexts1 houts1 => ?_)
    clear hl hT
    have hT := hz; clear hz
    refine rSeq ?_
    refine rSeq ?_
    refine zReg md0 hX rfl rfl rfl ?_
    refine rThen ?_
    refine zCond rfl rfl (fun hc => ?_) (fun hc => ?_)
    · replace hT := sT hc hT
      refine rSkip ?_
      refine rThen ?_
      refine rSeq ?_
      refine rBlock ?_
      refine rSeq ?_
      refine zReg md0 hX rfl rfl rfl ?_
      refine rThen ?_
      refine rBlock ?_
      replace hT := sBind hT; obtain ⟨w2, hl, hT⟩ := hT
      refine rJoinA (fun v2 => v2 = w2) (fun v2 => ⟨[(0, .v (.c (.ptr 0 0 0 0 0 0))), (1, .v (.c (.ptr 1 0 0 0 0 0))), (2, .v (.c (.int .i64 s1.1))), (3, .v (.c (.int .i64 v2.1))), (4, .v (.c (.int .i64 s1.1))), (5, .v (.c (.bool (decide (s1.1 < 8))))), (8, .v (.c (.int .i64 v2.2.1))), (9, .v (.c (.bool v2.2.2.1)))], [(0, .mem true 134 none (.flat [.ints 64 .i64 (List.replicate 64 0)])), (1, .mem true 134 none (.flat [.ints 64 .i64 v2.2.2.2]))], 2⟩) (.exit 2) (fun v2 hv => ?_) (fun hxs20 => ?_)
      · subst hv; clear hl
        refine rInHit ?_
        refine rInNormal ?_
        refine rThen ?_
        replace hT := sIf hT; obtain ⟨o1, hT⟩ := hT
        refine zReg md0 hX rfl rfl rfl ?_
        exact hnexts1 _ (Option.some.inj hT).symm _ (To.mk' [] 0 hε rfl (by repeat' first | exact True.intro | exact rfl | apply And.intro) (by repeat' first | exact True.intro | exact rfl | apply And.intro))
      refine rLoopM (ref14_weights_b2 N s1) (fun s2 => ⟨[(0, .v (.c (.ptr 0 0 0 0 0 0))), (1, .v (.c (.ptr 1 0 0 0 0 0))), (2, .v (.c (.int .i64 s1.1))), (3, .v (.c (.int .i64 s2.1))), (4, .v (.c (.int .i64 s1.1))), (5, .v (.c (.bool (decide (s1.1 < 8)))))], [(0, .mem true 134 none (.flat [.ints 64 .i64 (List.replicate 64 0)])), (1, .mem true 134 none (.flat [.ints 64 .i64 s2.2]))], 2⟩) hl (To.mk' [] 0 hε rfl (by repeat' first | exact True.intro | exact rfl | apply And.intro) (by repeat' first | exact True.intro | exact rfl | apply And.intro)) (fun s2 zs2 NNs2 hz hnexts2 houts2 => ?_)
      clear hl hT
      have hT := hz; clear hz
      refine rSeq ?_
      refine rSeq ?_
      refine zReg md0 hX rfl rfl rfl ?_
      refine rThen ?_
      refine zCond rfl rfl (fun hc => ?_) (fun hc => ?_)
      · replace hT := sT hc hT
        refine rSkip ?_
        refine rThen ?_
        refine rSeq ?_
        refine rBlock ?_
        let c1 := (ref14_Weight N s1.1 s2.1)
        replace hT := sIf hT; obtain ⟨⟨o1, o2, o3, o4, o5, o6⟩, hT⟩ := hT
        refine zDraw md0 1 [7] hX mixed rfl rfl rfl rfl rfl ?_
        refine rInNormal ?_
        refine rThen ?_
        replace hT := sIf hT; obtain ⟨o1, hT⟩ := hT
        refine zReg md0 hX rfl rfl rfl ?_
        exact hnexts2 _ (Option.some.inj hT).symm _ (To.mk' [] 0 hε rfl (by repeat' first | exact True.intro | exact rfl | apply And.intro) (by repeat' first | exact True.intro | exact rfl | apply And.intro))
      · replace hT := sF hc hT
        refine rExit ?_
        refine rThenExit ?_
        refine rThenExit ?_
        exact zTo [] 0 hε (hxs20 _ (houts2 _ (Option.some.inj hT).symm))
    · replace hT := sF hc hT
      refine rExit ?_
      refine rThenExit ?_
      refine rThenExit ?_
      exact zTo [] 0 hε (hxs10 _ (houts1 _ (Option.some.inj hT).symm))
  · cases h
def ref01_Round_b1 (N : Nat) (c2 : (Option Int)) (s1 : (Int × Int)) : Option ((Int × Int) ⊕ Int) :=
  bif (decide (s1.2 < (c2.getD default))) then
    if inK .i64 ((2 : Int) * s1.1) then
      if inK .i64 (s1.2 + 1) then
        some (.inl (((2 : Int) * s1.1), (s1.2 + 1)))
      else none
    else none
  else
    some (.inr s1.1)
def ref01_Round (N : Nat) (a1 : Int) (a2 : Int) : Option Int :=
  let c1 := (ref01_Clip N a1 (-1099511627776) 1099511627776)
  if c1.isSome = true then
    let c2 := (ref01_Clip N a2 0 32)
    if c2.isSome = true then
      bif (decide ((c2.getD default) = 0)) then
        some (c1.getD default)
      else
        (iter (ref01_Round_b1 N c2) N (1, 0)).bind fun v1 =>
          if inK .i64 (Int.tdiv v1 2) ∧ inK .i64 ((c1.getD default) + (Int.tdiv v1 2)) then
            if v1 ≠ 0 ∧ inK .i64 (Int.tdiv ((c1.getD default) + (Int.tdiv v1 2)) v1) then
              let x2 := (bif (decide (((c1.getD default) + (Int.tdiv v1 2)) < 0)) then (decide (((Int.tdiv ((c1.getD default) + (Int.tdiv v1 2)) v1) * v1) ≠ ((c1.getD default) + (Int.tdiv v1 2)))) else false)
              if ((decide (((c1.getD default) + (Int.tdiv v1 2)) < 0)) = true → inK .i64 ((Int.tdiv ((c1.getD default) + (Int.tdiv v1 2)) v1) * v1)) then
                if (x2 = true → inK .i64 ((Int.tdiv ((c1.getD default) + (Int.tdiv v1 2)) v1) - 1)) then
                  let x3 := (bif x2 then ((Int.tdiv ((c1.getD default) + (Int.tdiv v1 2)) v1) - 1) else (Int.tdiv ((c1.getD default) + (Int.tdiv v1 2)) v1))
                  some x3
                else none
              else none
            else none
          else none
    else none
  else none
def sp_ref01_Round (N : Nat) : X.Spec := fun args lk => match args with
  | [.v (.c (.int .i64 a1)), .v (.c (.int .i64 a2))] => some ⟨(ref01_Round N a1 a2).isSome = true, .v (.c (.int .i64 ((ref01_Round N a1 a2).getD default))), [], []⟩
  | _ => none
set_option maxRecDepth 100000 in
set_option maxHeartbeats 1000000 in
theorem ok_ref01_Round (N : Nat) : FnOK Tryd.prog gt0 111 (sp_ref01_Round N) := by
  refine fnOK_handed Tryd.func111 rfl (by kernel_rfl) tt_ok (ktCons (ok_ref01_Clip N) (ktNil)) ?_
  intro args lk r h hp
  unfold sp_ref01_Round at h
  split at h
  · rename_i a1 a2
    cases h
    obtain ⟨x, hx⟩ := Option.isSome_iff_exists.1 hp
    simp only [hx, Option.getD_some]
    refine hand0 rfl rfl (fun w0 M ε0 hX => ?_)
    refine rCount (fun hε => ?_)
    have hT : ref01_Round N a1 a2 = some x := hx; clear hx hp; unfold ref01_Round at hT
    refine rSeq ?_
    refine zReg mdT hX rfl rfl rfl ?_
    refine rThen ?_
    refine rSeq ?_
    let c1 := (ref01_Clip N a1 (-1099511627776) 1099511627776)
    replace hT := sIf hT; obtain ⟨o1, hT⟩ := hT
    refine zReg mdT hX rfl rfl rfl ?_
    refine rThen ?_
    refine rSeq ?_
    let c2 := (ref01_Clip N a2 0 32)
    replace hT := sIf hT; obtain ⟨o1, hT⟩ := hT
    refine zReg mdT hX rfl rfl rfl ?_
    refine rThen ?_
    refine rSeq ?_
    refine rSeq ?_
    refine zReg mdT hX rfl rfl rfl ?_
    refine rThen ?_
    refine zCond rfl rfl (fun hc => ?_) (fun hc => ?_)
    · replace hT := sT hc hT
      refine rSeq ?_
      refine zReg mdT hX rfl rfl rfl ?_
      refine rThen ?_
      refine rRet ?_
      refine rThenRet ?_
      have hy := Option.some.inj hT; subst hy
      exact zEnd0 hX rfl
    · replace hT := sF hc hT
      refine rSkip ?_
      refine rThen ?_
      refine rSeq ?_
      refine zReg mdT hX rfl rfl rfl ?_
      refine rThen ?_
      refine rSeq ?_
      refine rSeq ?_
      refine zReg mdT hX rfl rfl rfl ?_
      refine rThen ?_
      refine rBlock ?_
      replace hT := sBind hT; obtain ⟨w1, hl, hT⟩ := hT
      refine rJoinA (fun v1 => v1 = w1) (fun v1 => ⟨[(0, .v (.c (.int .i64 (c1.getD default)))), (4, .v (.c (.int .i64 0))), (5, .v (.c (.int .i64 v1)))], [], 0⟩) (.exit 0) (fun v1 hv => ?_) (fun hxs10 => ?_)
      · subst hv; clear hl
        refine rInHit ?_
        refine rThen ?_
        refine rSeq ?_
        replace hT := sIf hT; obtain ⟨⟨o1, o2⟩, hT⟩ := hT
        refine zReg mdT hX rfl rfl rfl ?_
        refine rThen ?_
        refine rSeq ?_
        replace hT := sIf hT; obtain ⟨⟨o1, o2⟩, hT⟩ := hT
        refine zReg mdT hX rfl rfl rfl ?_
        refine rThen ?_
        refine rSeq ?_
        refine rSeq ?_
        let x2 := (bif (decide (((c1.getD default) + (Int.tdiv v1 2)) < 0)) then (decide (((Int.tdiv ((c1.getD default) + (Int.tdiv v1 2)) v1) * v1) ≠ ((c1.getD default) + (Int.tdiv v1 2)))) else false)
        replace hT := sIf hT; obtain ⟨o1, hT⟩ := hT
        refine rRegC mdT hX rfl rfl rfl (by (repeat' first | exact True.intro | with_reducible assumption | (with_reducible apply And.intro) | intro _) <;> first | assumption | exact o1 (by assumption) | exact rfl | omega | exact Nat.le_of_ble_eq_true rfl | exact selF (by assumption) | exact selT (by assumption) | exact And.intro rfl rfl | exact And.intro (by assumption) rfl | exact And.intro (by omega) rfl | (simp only [inK] at *; omega) | (simp_all [sel] <;> fail) | fail) ?_
        refine rThen ?_
        replace hT := sIf hT; obtain ⟨q1, hT⟩ := hT
        refine rJoin ⟨[(4, .v (.c (.int .i64 0))), (8, .v (.c (.int .i64 (bif x2 then ((Int.tdiv ((c1.getD default) + (Int.tdiv v1 2)) v1) - 1) else (Int.tdiv ((c1.getD default) + (Int.tdiv v1 2)) v1)))))], [], 0⟩ ?_ (fun hj => ?_)
        · skip
          let x3 := (bif x2 then ((Int.tdiv ((c1.getD default) + (Int.tdiv v1 2)) v1) - 1) else (Int.tdiv ((c1.getD default) + (Int.tdiv v1 2)) v1))
          refine rThen ?_
          refine rSeq ?_
          refine zReg mdT hX rfl rfl rfl ?_
          refine rThen ?_
          refine rRet ?_
          have hy := Option.some.inj hT; subst hy
          exact zEnd0 hX rfl
        · clear hT
          refine zCond rfl rfl (fun hc => ?_) (fun hc => ?_)
          · skip
            have q1 := q1 hc
            refine zReg mdT hX rfl rfl rfl ?_
            exact rTo (To.mk' [] 0 hε rfl (by (repeat' first | exact True.intro | exact rfl | apply And.intro) <;> (repeat' first | exact rfl | refine Eq.trans ?_ (cTr (by assumption)) | refine Eq.trans ?_ (cFr (by assumption)) | refine Eq.trans (cTl (by assumption)) ?_ | refine Eq.trans (cFl (by assumption)) ?_)) (by (repeat' first | exact True.intro | exact rfl | apply And.intro) <;> (repeat' first | exact rfl | refine Eq.trans ?_ (cTr (by assumption)) | refine Eq.trans ?_ (cFr (by assumption)) | refine Eq.trans (cTl (by assumption)) ?_ | refine Eq.trans (cFl (by assumption)) ?_))) hj
          · skip
            refine rSkip ?_
            exact rTo (To.mk' [] 0 hε rfl (by (repeat' first | exact True.intro | exact rfl | apply And.intro) <;> (repeat' first | exact rfl | refine Eq.trans ?_ (cTr (by assumption)) | refine Eq.trans ?_ (cFr (by assumption)) | refine Eq.trans (cTl (by assumption)) ?_ | refine Eq.trans (cFl (by assumption)) ?_)) (by (repeat' first | exact True.intro | exact rfl | apply And.intro) <;> (repeat' first | exact rfl | refine Eq.trans ?_ (cTr (by assumption)) | refine Eq.trans ?_ (cFr (by assumption)) | refine Eq.trans (cTl (by assumption)) ?_ | refine Eq.trans (cFl (by assumption)) ?_))) hj
      refine rLoopM (ref01_Round_b1 N c2) (fun s1 => ⟨[(0, .v (.c (.int .i64 (c1.getD default)))), (1, .v (.c (.int .i64 (c2.getD default)))), (4, .v (.c (.int .i64 0))), (5, .v (.c (.int .i64 s1.1))), (6, .v (.c (.int .i64 s1.2)))], [], 0⟩) hl (To.mk' [] 0 hε rfl (by repeat' first | exact True.intro | exact rfl | apply And.intro) (by repeat' first | exact True.intro | exact rfl | apply And.intro)) (fun s1 zs1 NNs1 hz hnexts1 houts1 => ?_)
      clear hl hT
      have hT := hz; clear hz
      refine rSeq ?_
      refine rSeq ?_
      refine zReg mdT hX rfl rfl rfl ?_
      refine rThen ?_
      refine zCond rfl rfl (fun hc => ?_) (fun hc => ?_)
      · replace hT := sT hc hT
        refine rSkip ?_
        refine rThen ?_
        refine rSeq ?_
        refine rBlock ?_
        replace hT := sIf hT; obtain ⟨o1, hT⟩ := hT
        refine zReg mdT hX rfl rfl rfl ?_
        refine rInNormal ?_
        refine rThen ?_
        replace hT := sIf hT; obtain ⟨o1, hT⟩ := hT
        refine zReg mdT hX rfl rfl rfl ?_
        exact hnexts1 _ (Option.some.inj hT).symm _ (To.mk' [] 0 hε rfl (by repeat' first | exact True.intro | exact rfl | apply And.intro) (by repeat' first | exact True.intro | exact rfl | apply And.intro))
      · replace hT := sF hc hT
        refine rExit ?_
        refine rThenExit ?_
        refine rThenExit ?_
        exact zTo [] 0 hε (hxs10 _ (houts1 _ (Option.some.inj hT).symm))
  · cases h
def ref14_Inverse_b2 (N : Nat) (a1 : (List Int)) (c1 : (Option (List Int))) (s1 : (Int × (List Int))) (s2 : (Int × Int)) : Option ((Int × Int) ⊕ (Int × Int × Int × Bool)) :=
  bif (decide (s2.2 < 64)) then
    if (0 : Int) ≤ s2.2 ∧ s2.2 < 64 ∧ (s2.2).toNat < 64 then
      let c4 := (ref01_Clip N (a1.getD (s2.2).toNat 0) (-2048) 2047)
      if ((decide ((a1.getD (s2.2).toNat 0) ≠ 0)) = true → (0 : Int) ≤ s2.2) ∧ ((decide ((a1.getD (s2.2).toNat 0) ≠ 0)) = true → (0 : Int) ≤ s1.1) ∧ ((decide ((a1.getD (s2.2).toNat 0) ≠ 0)) = true → (0 : Int) ≤ (s2.2 % 8)) ∧ ((decide ((a1.getD (s2.2).toNat 0) ≠ 0)) = true → (s2.2 % 8) < 8) ∧ ((decide ((a1.getD (s2.2).toNat 0) ≠ 0)) = true → (0 : Int) ≤ (s1.1 % 8)) ∧ ((decide ((a1.getD (s2.2).toNat 0) ≠ 0)) = true → (s1.1 % 8) < 8) ∧ ((decide ((a1.getD (s2.2).toNat 0) ≠ 0)) = true → ((s2.2 % 8).toNat * 8 + (s1.1 % 8).toNat) < 64) ∧ ((decide ((a1.getD (s2.2).toNat 0) ≠ 0)) = true → (0 : Int) ≤ (s2.2 / 8)) ∧ ((decide ((a1.getD (s2.2).toNat 0) ≠ 0)) = true → (s2.2 / 8) < 8) ∧ ((decide ((a1.getD (s2.2).toNat 0) ≠ 0)) = true → (0 : Int) ≤ (s1.1 / 8)) ∧ ((decide ((a1.getD (s2.2).toNat 0) ≠ 0)) = true → (s1.1 / 8) < 8) ∧ ((decide ((a1.getD (s2.2).toNat 0) ≠ 0)) = true → ((s2.2 / 8).toNat * 8 + (s1.1 / 8).toNat) < 64) ∧ ((decide ((a1.getD (s2.2).toNat 0) ≠ 0)) = true → inK .i64 (((c1.getD default).getD ((s2.2 % 8).toNat * 8 + (s1.1 % 8).toNat) 0) * ((c1.getD default).getD ((s2.2 / 8).toNat * 8 + (s1.1 / 8).toNat) 0))) ∧ ((decide ((a1.getD (s2.2).toNat 0) ≠ 0)) = true → s2.2 < 64) ∧ ((decide ((a1.getD (s2.2).toNat 0) ≠ 0)) = true → (s2.2).toNat < 64) ∧ ((decide ((a1.getD (s2.2).toNat 0) ≠ 0)) = true → c4.isSome = true) ∧ ((decide ((a1.getD (s2.2).toNat 0) ≠ 0)) = true → inK .i64 ((((c1.getD default).getD ((s2.2 % 8).toNat * 8 + (s1.1 % 8).toNat) 0) * ((c1.getD default).getD ((s2.2 / 8).toNat * 8 + (s1.1 / 8).toNat) 0)) * (c4.getD default))) ∧ ((decide ((a1.getD (s2.2).toNat 0) ≠ 0)) = true → inK .i64 (s2.1 + ((((c1.getD default).getD ((s2.2 % 8).toNat * 8 + (s1.1 % 8).toNat) 0) * ((c1.getD default).getD ((s2.2 / 8).toNat * 8 + (s1.1 / 8).toNat) 0)) * (c4.getD default)))) then
        let x1 := (bif (decide ((a1.getD (s2.2).toNat 0) ≠ 0)) then (s2.1 + ((((c1.getD default).getD ((s2.2 % 8).toNat * 8 + (s1.1 % 8).toNat) 0) * ((c1.getD default).getD ((s2.2 / 8).toNat * 8 + (s1.1 / 8).toNat) 0)) * (c4.getD default))) else s2.1)
        if inK .i64 (s2.2 + 1) then
          some (.inl (x1, (s2.2 + 1)))
        else none
      else none
    else none
  else
    some (.inr (s2.1, s2.2, s2.2, (decide (s2.2 < 64))))
def ref14_Inverse_b1 (N : Nat) (a1 : (List Int)) (c1 : (Option (List Int))) (s1 : (Int × (List Int))) : Option ((Int × (List Int)) ⊕ (List Int)) :=
  bif (decide (s1.1 < 64)) then
    (iter (ref14_Inverse_b2 N a1 c1 s1) N (0, 0)).bind fun v2 =>
      let c2 := (ref01_Round N v2.1 15)
      let c3 := (ref01_Clip N (c2.getD default) (-256) 255)
      if c2.isSome = true ∧ c3.isSome = true ∧ (0 : Int) ≤ s1.1 ∧ s1.1 < 64 ∧ (s1.1).toNat < 64 then
        if inK .i64 (s1.1 + 1) then
          some (.inl ((s1.1 + 1), (s1.2.set (s1.1).toNat (c3.getD default))))
        else none
      else none
  else
    some (.inr s1.2)
def ref14_Inverse (N : Nat) (a1 : (List Int)) : Option (List Int) :=
  let c1 := (ref14_weights N)
  if c1.isSome = true then
    (iter (ref14_Inverse_b1 N a1 c1) N (0, (List.replicate 64 0))).bind fun v1 =>
      some v1
  else none
def sp_ref14_Inverse (N : Nat) : X.Spec := fun args lk => match args with
  | [.v (.agg [.ints 64 .i64 a1])] => some ⟨(ref14_Inverse N a1).isSome = true, .v (.agg [.ints 64 .i64 ((ref14_Inverse N a1).getD default)]), [], []⟩
  | _ => none
set_option maxRecDepth 100000 in
set_option maxHeartbeats 1000000 in
theorem ok_ref14_Inverse (N : Nat) : FnOK Tryd.prog gt0 77 (sp_ref14_Inverse N) := by
  refine fnOK_handed Tryd.func77 rfl (by kernel_rfl) tt_ok (ktCons (ok_ref01_Clip N) (ktCons (ok_ref01_Round N) (ktCons (ok_ref14_weights N) (ktNil)))) ?_
  intro args lk r h hp
  unfold sp_ref14_Inverse at h
  split at h
  · rename_i a1
    change (List Int) at a1
    cases h
    obtain ⟨x, hx⟩ := Option.isSome_iff_exists.1 hp
    simp only [hx, Option.getD_some]
    refine hand0 rfl rfl (fun w0 M ε0 hX => ?_)
    refine rCount (fun hε => ?_)
    have hT : ref14_Inverse N a1 = some x := hx; clear hx hp; unfold ref14_Inverse at hT
    refine rSeq ?_
    refine zReg md0 hX rfl rfl rfl ?_
    refine rThen ?_
    refine rSeq ?_
    let c1 := (ref14_weights N)
    replace hT := sIf hT; obtain ⟨o1, hT⟩ := hT
    refine zReg md0 hX rfl rfl rfl ?_
    refine rThen ?_
    refine rSeq ?_
    refine zReg md0 hX rfl rfl rfl ?_
    refine rThen ?_
    refine rSeq ?_
    refine rSeq ?_
    refine zReg md0 hX rfl rfl rfl ?_
    refine rThen ?_
    refine rBlock ?_
    replace hT := sBind hT; obtain ⟨w1, hl, hT⟩ := hT
    refine rJoinA (fun v1 => v1 = w1) (fun v1 => ⟨[(2, .v (.c (.ptr 1 0 0 0 0 0))), (4, .v (.c (.ptr 3 0 0 0 0 0)))], [(1, .mem true 22 none (.flat [.ints 64 .i64 (List.replicate 64 0)])), (3, .mem true 22 none (.flat [.ints 64 .i64 v1]))], 4⟩) (.exit 0) (fun v1 hv => ?_) (fun hxs10 => ?_)
    · subst hv; clear hl
      refine rInHit ?_
      refine rThen ?_
      refine rSeq ?_
      refine zReg md0 hX rfl rfl rfl ?_
      refine rThen ?_
      refine rRet ?_
      have hy := Option.some.inj hT; subst hy
      exact zEnd0 hX rfl
    refine rLoopM (ref14_Inverse_b1 N a1 c1) (fun s1 => ⟨[(1, .v (.c (.ptr 0 0 0 0 0 0))), (2, .v (.c (.ptr 1 0 0 0 0 0))), (3, .v (.c (.ptr 2 0 0 0 0 0))), (4, .v (.c (.ptr 3 0 0 0 0 0))), (5, .v (.c (.int .i64 s1.1)))], [(0, .mem true 22 none (.flat [.ints 64 .i64 a1])), (1, .mem true 22 none (.flat [.ints 64 .i64 (List.replicate 64 0)])), (2, .mem true 134 none (.flat [.ints 64 .i64 (c1.getD default)])), (3, .mem true 22 none (.flat [.ints 64 .i64 s1.2]))], 4⟩) hl (To.mk' [] 0 hε rfl (by repeat' first | exact True.intro | exact rfl | apply And.intro) (by repeat' first | exact True.intro | exact rfl | apply And.intro)) (fun s1 zs1 NNs1 hz hnexts1 houts1 => ?_)
    clear hl hT
    have hT := hz; clear hz
    refine rSeq ?_
    refine rSeq ?_
    refine zReg md0 hX rfl rfl rfl ?_
    refine rThen ?_
    refine zCond rfl rfl (fun hc => ?_) (fun hc => ?_)
    · replace hT := sT hc hT
      refine rSkip ?_
      refine rThen ?_
      refine rSeq ?_
      refine rBlock ?_
      refine rSeq ?_
      refine zReg md0 hX rfl rfl rfl ?_
      refine rThen ?_
      refine rSeq ?_
      refine rSeq ?_
      refine zReg md0 hX rfl rfl rfl ?_
      refine rThen ?_
      refine rBlock ?_
      replace hT := sBind hT; obtain ⟨w2, hl, hT⟩ := hT
      refine rJoinA (fun v2 => v2 = w2) (fun v2 => ⟨[(1, .v (.c (.ptr 0 0 0 0 0 0))), (2, .v (.c (.ptr 1 0 0 0 0 0))), (3, .v (.c (.ptr 2 0 0 0 0 0))), (4, .v (.c (.ptr 3 0 0 0 0 0))), (5, .v (.c (.int .i64 s1.1))), (6, .v (.c (.int .i64 v2.1))), (7, .v (.c (.int .i64 v2.2.1))), (9, .v (.c (.int .i64 s1.1))), (10, .v (.c (.bool (decide (s1.1 < 64))))), (13, .v (.c (.int .i64 v2.2.2.1))), (14, .v (.c (.bool v2.2.2.2)))], [(0, .mem true 22 none (.flat [.ints 64 .i64 a1])), (1, .mem true 22 none (.flat [.ints 64 .i64 (List.replicate 64 0)])), (2, .mem true 134 none (.flat [.ints 64 .i64 (c1.getD default)])), (3, .mem true 22 none (.flat [.ints 64 .i64 s1.2]))], 4⟩) (.exit 2) (fun v2 hv => ?_) (fun hxs20 => ?_)
      · subst hv; clear hl
        refine rInHit ?_
        refine rThen ?_
        let c2 := (ref01_Round N v2.1 15)
        let c3 := (ref01_Clip N (c2.getD default) (-256) 255)
        replace hT := sIf hT; obtain ⟨⟨o1, o2, o3, o4, o5⟩, hT⟩ := hT
        refine zReg md0 hX rfl rfl rfl ?_
        refine rInNormal ?_
        refine rThen ?_
        replace hT := sIf hT; obtain ⟨o1, hT⟩ := hT
        refine zReg md0 hX rfl rfl rfl ?_
        exact hnexts1 _ (Option.some.inj hT).symm _ (To.mk' [] 0 hε rfl (by repeat' first | exact True.intro | exact rfl | apply And.intro) (by repeat' first | exact True.intro | exact rfl | apply And.intro))
      refine rLoopM (ref14_Inverse_b2 N a1 c1 s1) (fun s2 => ⟨[(1, .v (.c (.ptr 0 0 0 0 0 0))), (2, .v (.c (.ptr 1 0 0 0 0 0))), (3, .v (.c (.ptr 2 0 0 0 0 0))), (4, .v (.c (.ptr 3 0 0 0 0 0))), (5, .v (.c (.int .i64 s1.1))), (6, .v (.c (.int .i64 s2.1))), (7, .v (.c (.int .i64 s2.2))), (9, .v (.c (.int .i64 s1.1))), (10, .v (.c (.bool (decide (s1.1 < 64)))))], [(0, .mem true 22 none (.flat [.ints 64 .i64 a1])), (1, .mem true 22 none (.flat [.ints 64 .i64 (List.replicate 64 0)])), (2, .mem true 134 none (.flat [.ints 64 .i64 (c1.getD default)])), (3, .mem true 22 none (.flat [.ints 64 .i64 s1.2]))], 4⟩) hl (To.mk' [] 0 hε rfl (by repeat' first | exact True.intro | exact rfl | apply And.intro) (by repeat' first | exact True.intro | exact rfl | apply And.intro)) (fun s2 zs2 NNs2 hz hnexts2 houts2 => ?_)
      clear hl hT
      have hT := hz; clear hz
      refine rSeq ?_
      refine rSeq ?_
      refine zReg md0 hX rfl rfl rfl ?_
      refine rThen ?_
      refine zCond rfl rfl (fun hc => ?_) (fun hc => ?_)
      · replace hT := sT hc hT
        refine rSkip ?_
        refine rThen ?_
        refine rSeq ?_
        refine rBlock ?_
        refine rSeq ?_
        replace hT := sIf hT; obtain ⟨⟨o1, o2, o3⟩, hT⟩ := hT
        refine zReg md0 hX rfl rfl rfl ?_
        refine rThen ?_
        let c4 := (ref01_Clip N (a1.getD (s2.2).toNat 0) (-2048) 2047)
        replace hT := sIf hT; obtain ⟨⟨q1, q2, q3, q4, q5, q6, q7, q8, q9, q10, q11, q12, q13, q14, q15, q16, q17, q18⟩, hT⟩ := hT
        refine rJoin ⟨[(1, .v (.c (.ptr 0 0 0 0 0 0))), (2, .v (.c (.ptr 1 0 0 0 0 0))), (3, .v (.c (.ptr 2 0 0 0 0 0))), (4, .v (.c (.ptr 3 0 0 0 0 0))), (5, .v (.c (.int .i64 s1.1))), (6, .v (.c (.int .i64 (bif (decide ((a1.getD (s2.2).toNat 0) ≠ 0)) then (s2.1 + ((((c1.getD default).getD ((s2.2 % 8).toNat * 8 + (s1.1 % 8).toNat) 0) * ((c1.getD default).getD ((s2.2 / 8).toNat * 8 + (s1.1 / 8).toNat) 0)) * (c4.getD default))) else s2.1)))), (7, .v (.c (.int .i64 s2.2))), (9, .v (.c (.int .i64 s1.1))), (10, .v (.c (.bool (decide (s1.1 < 64))))), (13, .v (.c (.int .i64 s2.2))), (14, .v (.c (.bool (decide (s2.2 < 64))))), (17, .v (.c (.int .i64 s2.2))), (18, .v (.c (.ptr 0 0 0 0 1 (s2.2).toNat))), (19, .v (.c (.int .i64 (a1.getD (s2.2).toNat 0)))), (20, .v (.c (.bool (decide ((a1.getD (s2.2).toNat 0) ≠ 0)))))], [(0, .mem true 22 none (.flat [.ints 64 .i64 a1])), (1, .mem true 22 none (.flat [.ints 64 .i64 (List.replicate 64 0)])), (2, .mem true 134 none (.flat [.ints 64 .i64 (c1.getD default)])), (3, .mem true 22 none (.flat [.ints 64 .i64 s1.2]))], 4⟩ ?_ (fun hj => ?_)
        · skip
          let x1 := (bif (decide ((a1.getD (s2.2).toNat 0) ≠ 0)) then (s2.1 + ((((c1.getD default).getD ((s2.2 % 8).toNat * 8 + (s1.1 % 8).toNat) 0) * ((c1.getD default).getD ((s2.2 / 8).toNat * 8 + (s1.1 / 8).toNat) 0)) * (c4.getD default))) else s2.1)
          refine rInNormal ?_
          refine rThen ?_
          replace hT := sIf hT; obtain ⟨o1, hT⟩ := hT
          refine zReg md0 hX rfl rfl rfl ?_
          exact hnexts2 _ (Option.some.inj hT).symm _ (To.mk' [] 0 hε rfl (by repeat' first | exact True.intro | exact rfl | apply And.intro) (by repeat' first | exact True.intro | exact rfl | apply And.intro))
        · clear hT
          refine zCond rfl rfl (fun hc => ?_) (fun hc => ?_)
          · skip
            have q1 := q1 hc
            have q2 := q2 hc
            have q3 := q3 hc
            have q4 := q4 hc
            have q5 := q5 hc
            have q6 := q6 hc
            have q7 := q7 hc
            have q8 := q8 hc
            have q9 := q9 hc
            have q10 := q10 hc
            have q11 := q11 hc
            have q12 := q12 hc
            have q13 := q13 hc
            have q14 := q14 hc
            have q15 := q15 hc
            have q16 := q16 hc
            have q17 := q17 hc
            have q18 := q18 hc
            refine zDraw md0 1 [22] hX mixed rfl rfl rfl rfl rfl ?_
            exact rTo (To.mk' [] 0 hε rfl (by (repeat' first | exact True.intro | exact rfl | apply And.intro) <;> (repeat' first | exact rfl | refine Eq.trans ?_ (cTr (by assumption)) | refine Eq.trans ?_ (cFr (by assumption)) | refine Eq.trans (cTl (by assumption)) ?_ | refine Eq.trans (cFl (by assumption)) ?_)) (by (repeat' first | exact True.intro | exact rfl | apply And.intro) <;> (repeat' first | exact rfl | refine Eq.trans ?_ (cTr (by assumption)) | refine Eq.trans ?_ (cFr (by assumption)) | refine Eq.trans (cTl (by assumption)) ?_ | refine Eq.trans (cFl (by assumption)) ?_))) hj
          · skip
            refine rSkip ?_
            exact rTo (To.mk' [] 0 hε rfl (by (repeat' first | exact True.intro | exact rfl | apply And.intro) <;> (repeat' first | exact rfl | refine Eq.trans ?_ (cTr (by assumption)) | refine Eq.trans ?_ (cFr (by assumption)) | refine Eq.trans (cTl (by assumption)) ?_ | refine Eq.trans (cFl (by assumption)) ?_)) (by (repeat' first | exact True.intro | exact rfl | apply And.intro) <;> (repeat' first | exact rfl | refine Eq.trans ?_ (cTr (by assumption)) | refine Eq.trans ?_ (cFr (by assumption)) | refine Eq.trans (cTl (by assumption)) ?_ | refine Eq.trans (cFl (by assumption)) ?_))) hj
      · replace hT := sF hc hT
        refine rExit ?_
        refine rThenExit ?_
        refine rThenExit ?_
        exact zTo [] 0 hε (hxs20 _ (houts2 _ (Option.some.inj hT).symm))
    · replace hT := sF hc hT
      refine rExit ?_
      refine rThenExit ?_
      refine rThenExit ?_
      exact zTo [] 0 hε (hxs10 _ (houts1 _ (Option.some.inj hT).symm))
  · cases h
def ref29_Of_b1 (N : Nat) (s1 : (Int × (List Int))) : Option ((Int × (List Int)) ⊕ (List Int)) :=
  bif (decide (s1.1 < 6)) then
    let c2 := (ref14_Inverse N ((s1.2.drop (64 * (s1.1).toNat)).take 64))
    if (0 : Int) ≤ s1.1 ∧ s1.1 < 6 ∧ (64 * (s1.1).toNat) + 64 ≤ 384 ∧ c2.isSome = true then
      if inK .i64 (s1.1 + 1) then
        some (.inl ((s1.1 + 1), (layL s1.2 (64 * (s1.1).toNat) (c2.getD default) 64)))
      else none
    else none
  else
    some (.inr s1.2)
def ref29_Of (N : Nat) (a1 : Int) (a2 : Bool) (a3 : Int) (a4 : Int) (a5 : (List Int)) (a6 : (List Int)) (a7 : (List (List (Bool × (Int × Int))))) (a8 : Int) : Option (List Int) :=
  let c1 := (ref29_Values N a1 a2 a3 a4 a5 a6 a7 a8)
  if c1.isSome = true then
    (iter (ref29_Of_b1 N) N (0, (c1.getD default))).bind fun v1 =>
      some v1
  else none
def sp_ref29_Of (N : Nat) : X.Spec := fun args lk => match args with
  | [.v (.agg [.cs [.int .i64 a1, .bool a2, .int .i64 a3, .int .i64 a4], .ints 2 .i64 a5, .ints 6 .i64 a6, .fzs 6 (.pair .bool (.pair (.int .i64) (.int .i64))) a7]), .v (.c (.int .i64 a8))] => some ⟨(ref29_Of N a1 a2 a3 a4 a5 a6 a7 a8).isSome = true, .v (.agg [.ints 384 .i64 ((ref29_Of N a1 a2 a3 a4 a5 a6 a7 a8).getD default)]), [], []⟩
  | _ => none
set_option maxRecDepth 100000 in
set_option maxHeartbeats 1000000 in
theorem ok_ref29_Of (N : Nat) : FnOK Tryd.prog gt0 29 (sp_ref29_Of N) := by
  refine fnOK_handed Tryd.func29 rfl (by kernel_rfl) tt_ok (ktCons (ok_ref14_Inverse N) (ktCons (ok_ref29_Values N) (ktNil))) ?_
  intro args lk r h hp
  unfold sp_ref29_Of at h
  split at h
  · rename_i a1 a2 a3 a4 a5 a6 a7 a8
    change (List Int) at a5
    change (List Int) at a6
    change (List (List (Bool × (Int × Int)))) at a7
    cases h
    obtain ⟨x, hx⟩ := Option.isSome_iff_exists.1 hp
    simp only [hx, Option.getD_some]
    refine hand0 rfl rfl (fun w0 M ε0 hX => ?_)
    refine rCount (fun hε => ?_)
    have hT : ref29_Of N a1 a2 a3 a4 a5 a6 a7 a8 = some x := hx; clear hx hp; unfold ref29_Of at hT
    refine rSeq ?_
    refine zReg md0 hX rfl rfl rfl ?_
    refine rThen ?_
    refine rSeq ?_
    let c1 := (ref29_Values N a1 a2 a3 a4 a5 a6 a7 a8)
    replace hT := sIf hT; obtain ⟨o1, hT⟩ := hT
    refine zReg md0 hX rfl rfl rfl ?_
    refine rThen ?_
    refine rSeq ?_
    refine rSeq ?_
    refine zReg md0 hX rfl rfl rfl ?_
    refine rThen ?_
    refine rBlock ?_
    replace hT := sBind hT; obtain ⟨w1, hl, hT⟩ := hT
    refine rJoinA (fun v1 => v1 = w1) (fun v1 => ⟨[(4, .v (.c (.ptr 1 0 0 0 0 0))), (5, .v (.c (.ptr 2 0 0 0 0 0)))], [(1, .mem true 39 none (.flat [.ints 384 .i64 (List.replicate 384 0)])), (2, .mem true 39 none (.flat [.ints 384 .i64 v1]))], 3⟩) (.exit 0) (fun v1 hv => ?_) (fun hxs10 => ?_)
    · subst hv; clear hl
      refine rInHit ?_
      refine rThen ?_
      refine rSeq ?_
      refine zReg md0 hX rfl rfl rfl ?_
      refine rThen ?_
      refine rRet ?_
      have hy := Option.some.inj hT; subst hy
      exact zEnd0 hX rfl
    refine rLoopM (ref29_Of_b1 N) (fun s1 => ⟨[(4, .v (.c (.ptr 1 0 0 0 0 0))), (5, .v (.c (.ptr 2 0 0 0 0 0))), (6, .v (.c (.int .i64 s1.1)))], [(1, .mem true 39 none (.flat [.ints 384 .i64 (List.replicate 384 0)])), (2, .mem true 39 none (.flat [.ints 384 .i64 s1.2]))], 3⟩) hl (To.mk' [] 0 hε rfl (by repeat' first | exact True.intro | exact rfl | apply And.intro) (by repeat' first | exact True.intro | exact rfl | apply And.intro)) (fun s1 zs1 NNs1 hz hnexts1 houts1 => ?_)
    clear hl hT
    have hT := hz; clear hz
    refine rSeq ?_
    refine rSeq ?_
    refine zReg md0 hX rfl rfl rfl ?_
    refine rThen ?_
    refine zCond rfl rfl (fun hc => ?_) (fun hc => ?_)
    · replace hT := sT hc hT
      refine rSkip ?_
      refine rThen ?_
      refine rSeq ?_
      refine rBlock ?_
      let c2 := (ref14_Inverse N ((s1.2.drop (64 * (s1.1).toNat)).take 64))
      replace hT := sIf hT; obtain ⟨⟨o1, o2, o3, o4⟩, hT⟩ := hT
      refine zReg md0 hX rfl rfl rfl ?_
      refine rInNormal ?_
      refine rThen ?_
      replace hT := sIf hT; obtain ⟨o1, hT⟩ := hT
      refine zReg md0 hX rfl rfl rfl ?_
      exact hnexts1 _ (Option.some.inj hT).symm _ (To.mk' [] 0 hε rfl (by repeat' first | exact True.intro | exact rfl | apply And.intro) (by repeat' first | exact True.intro | exact rfl | apply And.intro))
    · replace hT := sF hc hT
      refine rExit ?_
      refine rThenExit ?_
      refine rThenExit ?_
      exact zTo [] 0 hε (hxs10 _ (houts1 _ (Option.some.inj hT).symm))
  · cases h
def ref31_Sum_b2 (N : Nat) (a1 : (List Int)) (a2 : (List Int)) (s1 : (Int × (List Int))) (s2 : (Int × (List Int))) : Option ((Int × (List Int)) ⊕ (Int × Int × Bool × (List Int))) :=
  bif (decide (s2.1 < 64)) then
    let c1 := (ref01_Clip N (a1.getD ((s1.1).toNat * 64 + (s2.1).toNat) 0) (-1024) 1024)
    let c2 := (ref01_Clip N (a2.getD ((s1.1).toNat * 64 + (s2.1).toNat) 0) (-1024) 1024)
    let c3 := (ref01_Clip N ((c1.getD default) + (c2.getD default)) 0 255)
    if (0 : Int) ≤ s1.1 ∧ s1.1 < 6 ∧ (0 : Int) ≤ s2.1 ∧ s2.1 < 64 ∧ ((s1.1).toNat * 64 + (s2.1).toNat) < 384 ∧ c1.isSome = true ∧ c2.isSome = true ∧ inK .i64 ((c1.getD default) + (c2.getD default)) ∧ c3.isSome = true then
      if inK .i64 (s2.1 + 1) then
        some (.inl ((s2.1 + 1), (s2.2.set ((s1.1).toNat * 64 + (s2.1).toNat) (c3.getD default))))
      else none
    else none
  else
    some (.inr (s2.1, s2.1, (decide (s2.1 < 64)), s2.2))
def ref31_Sum_b1 (N : Nat) (a1 : (List Int)) (a2 : (List Int)) (s1 : (Int × (List Int))) : Option ((Int × (List Int)) ⊕ (List Int)) :=
  bif (decide (s1.1 < 6)) then
    (iter (ref31_Sum_b2 N a1 a2 s1) N (0, s1.2)).bind fun v2 =>
      if inK .i64 (s1.1 + 1) then
        some (.inl ((s1.1 + 1), v2.2.2.2))
      else none
  else
    some (.inr s1.2)
def ref31_Sum (N : Nat) (a1 : (List Int)) (a2 : (List Int)) : Option (List Int) :=
  (iter (ref31_Sum_b1 N a1 a2) N (0, (List.replicate 384 0))).bind fun v1 =>
    some v1
def sp_ref31_Sum (N : Nat) : X.Spec := fun args lk => match args with
  | [.v (.agg [.ints 384 .i64 a1]), .v (.agg [.ints 384 .i64 a2])] => some ⟨(ref31_Sum N a1 a2).isSome = true, .v (.agg [.ints 384 .i64 ((ref31_Sum N a1 a2).getD default)]), [], []⟩
  | _ => none
set_option maxRecDepth 100000 in
set_option maxHeartbeats 1000000 in
theorem ok_ref31_Sum (N : Nat) : FnOK Tryd.prog gt0 90 (sp_ref31_Sum N) := by
  refine fnOK_handed Tryd.func90 rfl (by kernel_rfl) tt_ok (ktCons (ok_ref01_Clip N) (ktNil)) ?_
  intro args lk r h hp
  unfold sp_ref31_Sum at h
  split at h
  · rename_i a1 a2
    change (List Int) at a1
    change (List Int) at a2
    cases h
    obtain ⟨x, hx⟩ := Option.isSome_iff_exists.1 hp
    simp only [hx, Option.getD_some]
    refine hand0 rfl rfl (fun w0 M ε0 hX => ?_)
    refine rCount (fun hε => ?_)
    have hT : ref31_Sum N a1 a2 = some x := hx; clear hx hp; unfold ref31_Sum at hT
    refine rSeq ?_
    refine zReg md0 hX rfl rfl rfl ?_
    refine rThen ?_
    refine rSeq ?_
    refine zReg md0 hX rfl rfl rfl ?_
    refine rThen ?_
    refine rSeq ?_
    refine rSeq ?_
    refine zReg md0 hX rfl rfl rfl ?_
    refine rThen ?_
    refine rBlock ?_
    replace hT := sBind hT; obtain ⟨w1, hl, hT⟩ := hT
    refine rJoinA (fun v1 => v1 = w1) (fun v1 => ⟨[(4, .v (.c (.ptr 2 0 0 0 0 0))), (5, .v (.c (.ptr 3 0 0 0 0 0)))], [(2, .mem true 39 none (.flat [.ints 384 .i64 (List.replicate 384 0)])), (3, .mem true 39 none (.flat [.ints 384 .i64 v1]))], 4⟩) (.exit 0) (fun v1 hv => ?_) (fun hxs10 => ?_)
    · subst hv; clear hl
      refine rInHit ?_
      refine rThen ?_
      refine rSeq ?_
      refine zReg md0 hX rfl rfl rfl ?_
      refine rThen ?_
      refine rRet ?_
      have hy := Option.some.inj hT; subst hy
      exact zEnd0 hX rfl
    refine rLoopM (ref31_Sum_b1 N a1 a2) (fun s1 => ⟨[(2, .v (.c (.ptr 0 0 0 0 0 0))), (3, .v (.c (.ptr 1 0 0 0 0 0))), (4, .v (.c (.ptr 2 0 0 0 0 0))), (5, .v (.c (.ptr 3 0 0 0 0 0))), (6, .v (.c (.int .i64 s1.1)))], [(0, .mem true 39 none (.flat [.ints 384 .i64 a1])), (1, .mem true 39 none (.flat [.ints 384 .i64 a2])), (2, .mem true 39 none (.flat [.ints 384 .i64 (List.replicate 384 0)])), (3, .mem true 39 none (.flat [.ints 384 .i64 s1.2]))], 4⟩) hl (To.mk' [] 0 hε rfl (by repeat' first | exact True.intro | exact rfl | apply And.intro) (by repeat' first | exact True.intro | exact rfl | apply And.intro)) (fun s1 zs1 NNs1 hz hnexts1 houts1 => ?_)
    clear hl hT
    have hT := hz; clear hz
    refine rSeq ?_
    refine rSeq ?_
    refine zReg md0 hX rfl rfl rfl ?_
    refine rThen ?_
    refine zCond rfl rfl (fun hc => ?_) (fun hc => ?_)
    · replace hT := sT hc hT
      refine rSkip ?_
      refine rThen ?_
      refine rSeq ?_
      refine rBlock ?_
      refine rSeq ?_
      refine zReg md0 hX rfl rfl rfl ?_
      refine rThen ?_
      refine rBlock ?_
      replace hT := sBind hT; obtain ⟨w2, hl, hT⟩ := hT
      refine rJoinA (fun v2 => v2 = w2) (fun v2 => ⟨[(2, .v (.c (.ptr 0 0 0 0 0 0))), (3, .v (.c (.ptr 1 0 0 0 0 0))), (4, .v (.c (.ptr 2 0 0 0 0 0))), (5, .v (.c (.ptr 3 0 0 0 0 0))), (6, .v (.c (.int .i64 s1.1))), (7, .v (.c (.int .i64 v2.1))), (8, .v (.c (.int .i64 s1.1))), (9, .v (.c (.bool (decide (s1.1 < 6))))), (12, .v (.c (.int .i64 v2.2.1))), (13, .v (.c (.bool v2.2.2.1)))], [(0, .mem true 39 none (.flat [.ints 384 .i64 a1])), (1, .mem true 39 none (.flat [.ints 384 .i64 a2])), (2, .mem true 39 none (.flat [.ints 384 .i64 (List.replicate 384 0)])), (3, .mem true 39 none (.flat [.ints 384 .i64 v2.2.2.2]))], 4⟩) (.exit 2) (fun v2 hv => ?_) (fun hxs20 => ?_)
      · subst hv; clear hl
        refine rInHit ?_
        refine rInNormal ?_
        refine rThen ?_
        replace hT := sIf hT; obtain ⟨o1, hT⟩ := hT
        refine zReg md0 hX rfl rfl rfl ?_
        exact hnexts1 _ (Option.some.inj hT).symm _ (To.mk' [] 0 hε rfl (by repeat' first | exact True.intro | exact rfl | apply And.intro) (by repeat' first | exact True.intro | exact rfl | apply And.intro))
      refine rLoopM (ref31_Sum_b2 N a1 a2 s1) (fun s2 => ⟨[(2, .v (.c (.ptr 0 0 0 0 0 0))), (3, .v (.c (.ptr 1 0 0 0 0 0))), (4, .v (.c (.ptr 2 0 0 0 0 0))), (5, .v (.c (.ptr 3 0 0 0 0 0))), (6, .v (.c (.int .i64 s1.1))), (7, .v (.c (.int .i64 s2.1))), (8, .v (.c (.int .i64 s1.1))), (9, .v (.c (.bool (decide (s1.1 < 6)))))], [(0, .mem true 39 none (.flat [.ints 384 .i64 a1])), (1, .mem true 39 none (.flat [.ints 384 .i64 a2])), (2, .mem true 39 none (.flat [.ints 384 .i64 (List.replicate 384 0)])), (3, .mem true 39 none (.flat [.ints 384 .i64 s2.2]))], 4⟩) hl (To.mk' [] 0 hε rfl (by repeat' first | exact True.intro | exact rfl | apply And.intro) (by repeat' first | exact True.intro | exact rfl | apply And.intro)) (fun s2 zs2 NNs2 hz hnexts2 houts2 => ?_)
      clear hl hT
      have hT := hz; clear hz
      refine rSeq ?_
      refine rSeq ?_
      refine zReg md0 hX rfl rfl rfl ?_
      refine rThen ?_
      refine zCond rfl rfl (fun hc => ?_) (fun hc => ?_)
      · replace hT := sT hc hT
        refine rSkip ?_
        refine rThen ?_
        refine rSeq ?_
        refine rBlock ?_
        let c1 := (ref01_Clip N (a1.getD ((s1.1).toNat * 64 + (s2.1).toNat) 0) (-1024) 1024)
        let c2 := (ref01_Clip N (a2.getD ((s1.1).toNat * 64 + (s2.1).toNat) 0) (-1024) 1024)
        let c3 := (ref01_Clip N ((c1.getD default) + (c2.getD default)) 0 255)
        replace hT := sIf hT; obtain ⟨⟨o1, o2, o3, o4, o5, o6, o7, o8, o9⟩, hT⟩ := hT
        refine zDraw md0 1 [18] hX mixed rfl rfl rfl rfl rfl ?_
        refine rInNormal ?_
        refine rThen ?_
        replace hT := sIf hT; obtain ⟨o1, hT⟩ := hT
        refine zReg md0 hX rfl rfl rfl ?_
        exact hnexts2 _ (Option.some.inj hT).symm _ (To.mk' [] 0 hε rfl (by repeat' first | exact True.intro | exact rfl | apply And.intro) (by repeat' first | exact True.intro | exact rfl | apply And.intro))
      · replace hT := sF hc hT
        refine rExit ?_
        refine rThenExit ?_
        refine rThenExit ?_
        exact zTo [] 0 hε (hxs20 _ (houts2 _ (Option.some.inj hT).symm))
    · replace hT := sF hc hT
      refine rExit ?_
      refine rThenExit ?_
      refine rThenExit ?_
      exact zTo [] 0 hε (hxs10 _ (houts1 _ (Option.some.inj hT).symm))
  · cases h
def ref31_Cell (N : Nat) (a1 : Int) (a2 : (List (List Int))) (a3 : Int) (a4 : Int) (a5 : Bool) (a6 : Int) (a7 : Int) (a8 : (List Int)) (a9 : (List Int)) (a10 : (List (List (Bool × (Int × Int))))) (a11 : Int) : Option (List Int) :=
  let c1 := (ref21_Intra N a6)
  if c1.isSome = true then
    let c2 := (ref18_Predict N a1 a2 a3 a8)
    if ((!(c1.getD default)) = true → c2.isSome = true) then
      let c3 := (ref29_Of N a4 a5 a6 a7 a8 a9 a10 a11)
      let c4 := (ref31_Sum N (bif (!(c1.getD default)) then (c2.getD default) else (List.replicate 384 0)) (c3.getD default))
      if c3.isSome = true ∧ c4.isSome = true then
        some (c4.getD default)
      else none
    else none
  else none
def sp_ref31_Cell (N : Nat) : X.Spec := fun args lk => match args with
  | [.v (.agg [.cs [.int .i64 a1], .fzs 3 (.int .u8) a2]), .v (.c (.int .i64 a3)), .v (.agg [.cs [.int .i64 a4, .bool a5, .int .i64 a6, .int .i64 a7], .ints 2 .i64 a8, .ints 6 .i64 a9, .fzs 6 (.pair .bool (.pair (.int .i64) (.int .i64))) a10]), .v (.c (.int .i64 a11))] => some ⟨(ref31_Cell N a1 a2 a3 a4 a5 a6 a7 a8 a9 a10 a11).isSome = true, .v (.agg [.ints 384 .i64 ((ref31_Cell N a1 a2 a3 a4 a5 a6 a7 a8 a9 a10 a11).getD default)]), [], []⟩
  | _ => none
set_option maxRecDepth 100000 in
set_option maxHeartbeats 1000000 in
theorem ok_ref31_Cell (N : Nat) : FnOK Tryd.prog gt0 42 (sp_ref31_Cell N) := by
  refine fnOK_handed Tryd.func42 rfl (by kernel_rfl) tt_ok (ktCons (ok_ref31_Sum N) (ktCons (ok_ref29_Of N) (ktCons (ok_ref18_Predict N) (ktCons (ok_ref21_Intra N) (ktNil))))) ?_
  intro args lk r h hp
  unfold sp_ref31_Cell at h
  split at h
  · rename_i a1 a2 a3 a4 a5 a6 a7 a8 a9 a10 a11
    change (List (List Int)) at a2
    change (List Int) at a8
    change (List Int) at a9
    change (List (List (Bool × (Int × Int)))) at a10
    cases h
    obtain ⟨x, hx⟩ := Option.isSome_iff_exists.1 hp
    simp only [hx, Option.getD_some]
    refine hand0 rfl rfl (fun w0 M ε0 hX => ?_)
    refine rCount (fun hε => ?_)
    have hT : ref31_Cell N a1 a2 a3 a4 a5 a6 a7 a8 a9 a10 a11 = some x := hx; clear hx hp; unfold ref31_Cell at hT
    refine rSeq ?_
    refine zReg md0 hX rfl rfl rfl ?_
    refine rThen ?_
    refine rSeq ?_
    refine zReg md0 hX rfl rfl rfl ?_
    refine rThen ?_
    refine rSeq ?_
    refine rSeq ?_
    let c1 := (ref21_Intra N a6)
    replace hT := sIf hT; obtain ⟨o1, hT⟩ := hT
    refine zReg md0 hX rfl rfl rfl ?_
    refine rThen ?_
    let c2 := (ref18_Predict N a1 a2 a3 a8)
    replace hT := sIf hT; obtain ⟨q1, hT⟩ := hT
    refine rJoin ⟨[(3, .v (.c (.int .i64 a11))), (6, .v (.c (.ptr 1 0 0 0 0 0))), (8, .v (.c (.ptr 2 0 0 0 0 0))), (9, .v (.c (.ptr 3 0 0 0 0 0)))], [(1, .mem true 37 none (.flat [.cs [.int .i64 a4, .bool a5, .int .i64 a6, .int .i64 a7], .ints 2 .i64 a8, .ints 6 .i64 a9, .fzs 6 (.pair .bool (.pair (.int .i64) (.int .i64))) a10])), (2, .mem true 39 none (.flat [.ints 384 .i64 (List.replicate 384 0)])), (3, .mem true 39 none (.flat [.ints 384 .i64 (bif (!(c1.getD default)) then (c2.getD default) else (List.replicate 384 0))]))], 4⟩ ?_ (fun hj => ?_)
    · skip
      refine rThen ?_
      refine rSeq ?_
      let c3 := (ref29_Of N a4 a5 a6 a7 a8 a9 a10 a11)
      let c4 := (ref31_Sum N (bif (!(c1.getD default)) then (c2.getD default) else (List.replicate 384 0)) (c3.getD default))
      replace hT := sIf hT; obtain ⟨⟨o1, o2⟩, hT⟩ := hT
      refine zDraw md0 1 [5] hX mixed rfl rfl rfl rfl rfl ?_
      refine rThen ?_
      refine rRet ?_
      have hy := Option.some.inj hT; subst hy
      exact zEnd0 hX rfl
    · clear hT
      refine zCond rfl rfl (fun hc => ?_) (fun hc => ?_)
      · skip
        have q1 := q1 hc
        refine zReg md0 hX rfl rfl rfl ?_
        exact rTo (To.mk' [] 0 hε rfl (by (repeat' first | exact True.intro | exact rfl | apply And.intro) <;> (repeat' first | exact rfl | refine Eq.trans ?_ (cTr (by assumption)) | refine Eq.trans ?_ (cFr (by assumption)) | refine Eq.trans (cTl (by assumption)) ?_ | refine Eq.trans (cFl (by assumption)) ?_)) (by (repeat' first | exact True.intro | exact rfl | apply And.intro) <;> (repeat' first | exact rfl | refine Eq.trans ?_ (cTr (by assumption)) | refine Eq.trans ?_ (cFr (by assumption)) | refine Eq.trans (cTl (by assumption)) ?_ | refine Eq.trans (cFl (by assumption)) ?_))) hj
      · skip
        refine rSkip ?_
        exact rTo (To.mk' [] 0 hε rfl (by (repeat' first | exact True.intro | exact rfl | apply And.intro) <;> (repeat' first | exact rfl | refine Eq.trans ?_ (cTr (by assumption)) | refine Eq.trans ?_ (cFr (by assumption)) | refine Eq.trans (cTl (by assumption)) ?_ | refine Eq.trans (cFl (by assumption)) ?_)) (by (repeat' first | exact True.intro | exact rfl | apply And.intro) <;> (repeat' first | exact rfl | refine Eq.trans ?_ (cTr (by assumption)) | refine Eq.trans ?_ (cFr (by assumption)) | refine Eq.trans (cTl (by assumption)) ?_ | refine Eq.trans (cFl (by assumption)) ?_))) hj
  · cases h
def law31_RebuildCells_b1 (N : Nat) (a10 : (List (List (Bool × (Int × Int))))) (s1 : Int) : Option (Int ⊕ (Bool ⊕ Unit)) :=
  bif (decide (s1 < 6)) then
    if (0 : Int) ≤ s1 ∧ s1 < 6 ∧ (s1).toNat < 6 then
      bif (decide ((100 : Int) < ((a10.getD (s1).toNat []).length : Int))) then
        let c12 := (law31_lives N)
        if c12.isSome = true then
          some (.inr (Sum.inl (c12.getD default)))
        else none
      else
        if inK .i64 (s1 + 1) then
          some (.inl (s1 + 1))
        else none
    else none
  else
    some (.inr (Sum.inr ()))
def law31_RebuildCells (N : Nat) (a1 : Int) (a2 : (List (List Int))) (a3 : Int) (a4 : Int) (a5 : Bool) (a6 : Int) (a7 : Int) (a8 : (List Int)) (a9 : (List Int)) (a10 : (List (List (Bool × (Int × Int))))) (a11 : Int) : Option Bool :=
  (iter (law31_RebuildCells_b1 N a10) N 0).bind fun w1 =>
    (Sum.elim (fun v1 =>
      some v1
    )
      (fun v2 =>
        let c1 := (law17_Light N a1 a2)
        if c1.isSome = true then
          bif (!(c1.getD default)) then
            let c2 := (law31_lives N)
            if c2.isSome = true then
              some (c2.getD default)
            else none
          else
            let c3 := (rebuild_Cell N a1 a2 a3 a4 a5 a6 a7 a8 a9 a10 a11)
            if c3.isSome = true then
              let c4 := (ref22_Right N true a4 a5 a6 a7 a8 a9 a10)
              if c4.isSome = true then
                let c5 := (ref21_Intra N a6)
                let c6 := (ref17_Right N a1 a2)
                let c7 := (ref16_Many N a1)
                let c8 := (ref18_May N a1 a3 a8)
                if ((!(c4.getD default)) = false → c5.isSome = true) ∧ ((!(c4.getD default)) = false → ((!(c5.getD default)) = true → c6.isSome = true)) ∧ ((!(c4.getD default)) = false → ((!(c5.getD default)) = true → ((!(bif (!(c6.getD default)) then true else (decide (a3 < 0)))) = true → c7.isSome = true))) ∧ ((!(c4.getD default)) = false → ((!(c5.getD default)) = true → ((bif (bif (!(c6.getD default)) then true else (decide (a3 < 0))) then true else (decide ((c7.getD default) ≤ a3))) = false → c8.isSome = true))) then
                  let x1 := (bif (!(c4.getD default)) then 12 else (bif (!(c5.getD default)) then (bif (bif (bif (!(c6.getD default)) then true else (decide (a3 < 0))) then true else (decide ((c7.getD default) ≤ a3))) then 1 else (bif (!(c8.getD default)) then (8 : Int) else 0)) else 0))
                  bif (decide (x1 ≠ 0)) then
                    let c9 := (law31_lives N)
                    let x2 := (bif (bif (decide ((c3.getD default).1 = (List.replicate 384 0))) then (decide ((c3.getD default).2 = x1)) else false) then (c9.getD default) else false)
                    if ((bif (decide ((c3.getD default).1 = (List.replicate 384 0))) then (decide ((c3.getD default).2 = x1)) else false) = true → c9.isSome = true) then
                      some x2
                    else none
                  else
                    let c10 := (ref31_Cell N a1 a2 a3 a4 a5 a6 a7 a8 a9 a10 a11)
                    let c11 := (law31_lives N)
                    let x4 := (bif (bif (decide ((c3.getD default).1 = (c10.getD default))) then (decide ((c3.getD default).2 = 0)) else false) then (c11.getD default) else false)
                    if c10.isSome = true ∧ ((bif (decide ((c3.getD default).1 = (c10.getD default))) then (decide ((c3.getD default).2 = 0)) else false) = true → c11.isSome = true) then
                      some x4
                    else none
                else none
              else none
            else none
        else none
      )
    ) w1
def sp_law31_RebuildCells (N : Nat) : X.Spec := fun args lk => match args with
  | [.v (.agg [.cs [.int .i64 a1], .fzs 3 (.int .u8) a2]), .v (.c (.int .i64 a3)), .v (.agg [.cs [.int .i64 a4, .bool a5, .int .i64 a6, .int .i64 a7], .ints 2 .i64 a8, .ints 6 .i64 a9, .fzs 6 (.pair .bool (.pair (.int .i64) (.int .i64))) a10, .cs [.int .i64 a11]])] => some ⟨(law31_RebuildCells N a1 a2 a3 a4 a5 a6 a7 a8 a9 a10 a11).isSome = true, .v (.c (.bool ((law31_RebuildCells N a1 a2 a3 a4 a5 a6 a7 a8 a9 a10 a11).getD default))), [], []⟩
  | _ => none
set_option maxRecDepth 100000 in
set_option maxHeartbeats 1000000 in
theorem ok_law31_RebuildCells (N : Nat) : FnOK Tryd.prog gt0 10 (sp_law31_RebuildCells N) := by
  refine fnOK_handed Tryd.func10 rfl (by kernel_rfl) tt_ok (ktCons (ok_ref31_Cell N) (ktCons (ok_ref18_May N) (ktCons (ok_ref16_Many N) (ktCons (ok_ref17_Right N) (ktCons (ok_ref21_Intra N) (ktCons (ok_ref22_Right N) (ktCons (ok_rebuild_Cell N) (ktCons (ok_law31_lives N) (ktCons (ok_law17_Light N) (ktNil)))))))))) ?_
  intro args lk r h hp
  unfold sp_law31_RebuildCells at h
  split at h
  · rename_i a1 a2 a3 a4 a5 a6 a7 a8 a9 a10 a11
    change (List (List Int)) at a2
    change (List Int) at a8
    change (List Int) at a9
    change (List (List (Bool × (Int × Int)))) at a10
    cases h
    obtain ⟨x, hx⟩ := Option.isSome_iff_exists.1 hp
    simp only [hx, Option.getD_some]
    refine hand0 rfl rfl (fun w0 M ε0 hX => ?_)
    refine rCount (fun hε => ?_)
    have hT : law31_RebuildCells N a1 a2 a3 a4 a5 a6 a7 a8 a9 a10 a11 = some x := hx; clear hx hp; unfold law31_RebuildCells at hT
    refine rSeq ?_
    refine zReg md0 hX rfl rfl rfl ?_
    refine rThen ?_
    refine rSeq ?_
    refine rSeq ?_
    refine zReg md0 hX rfl rfl rfl ?_
    refine rThen ?_
    refine rBlock ?_
    replace hT := sBind hT; obtain ⟨w1, hl, hT⟩ := hT
    refine rJoinA (fun v1 => (Sum.inl v1) = w1) (fun v1 => ⟨[(6, .v (.c (.bool v1)))], [], 2⟩) .ret (fun v1 hv => ?_) (fun hxs10 => ?_)
    · subst hv; clear hl; replace hT := (sElimL hT)
      refine rInRet ?_
      refine rThenRet ?_
      have hy := Option.some.inj hT; subst hy
      exact zEnd0 hX rfl
    refine rJoinA (fun v2 => (Sum.inr v2) = w1) (fun v2 => ⟨[(1, .v (.c (.int .i64 a3))), (3, .v (.c (.ptr 0 0 0 0 0 0))), (5, .v (.c (.ptr 1 0 0 0 0 0))), (6, .v (.c (.bool false)))], [(0, .mem true 62 none (.flat [.cs [.int .i64 a1], .fzs 3 (.int .u8) a2])), (1, .mem true 64 none (.flat [.cs [.int .i64 a4, .bool a5, .int .i64 a6, .int .i64 a7], .ints 2 .i64 a8, .ints 6 .i64 a9, .fzs 6 (.pair .bool (.pair (.int .i64) (.int .i64))) a10, .cs [.int .i64 a11]]))], 2⟩) (.exit 0) (fun v2 hv => ?_) (fun hxs11 => ?_)
    · subst hv; clear hl; replace hT := (sElimR hT)
      refine rInHit ?_
      refine rThen ?_
      refine rSeq ?_
      refine rSeq ?_
      let c1 := (law17_Light N a1 a2)
      replace hT := sIf hT; obtain ⟨o1, hT⟩ := hT
      refine zReg md0 hX rfl rfl rfl ?_
      refine rThen ?_
      refine zCond rfl rfl (fun hc => ?_) (fun hc => ?_)
      · replace hT := sT hc hT
        refine rSeq ?_
        let c2 := (law31_lives N)
        replace hT := sIf hT; obtain ⟨o1, hT⟩ := hT
        refine zReg md0 hX rfl rfl rfl ?_
        refine rThen ?_
        refine rRet ?_
        refine rThenRet ?_
        have hy := Option.some.inj hT; subst hy
        exact zEnd0 hX rfl
      · replace hT := sF hc hT
        refine rSkip ?_
        refine rThen ?_
        refine rSeq ?_
        let c3 := (rebuild_Cell N a1 a2 a3 a4 a5 a6 a7 a8 a9 a10 a11)
        replace hT := sIf hT; obtain ⟨o1, hT⟩ := hT
        refine zReg md0 hX rfl rfl rfl ?_
        refine rThen ?_
        refine rSeq ?_
        refine zReg md0 hX rfl rfl rfl ?_
        refine rThen ?_
        refine rSeq ?_
        refine rSeq ?_
        let c4 := (ref22_Right N true a4 a5 a6 a7 a8 a9 a10)
        replace hT := sIf hT; obtain ⟨o1, hT⟩ := hT
        refine zReg md0 hX rfl rfl rfl ?_
        refine rThen ?_
        let c5 := (ref21_Intra N a6)
        let c6 := (ref17_Right N a1 a2)
        let c7 := (ref16_Many N a1)
        let c8 := (ref18_May N a1 a3 a8)
        replace hT := sIf hT; obtain ⟨⟨q1, q2, q3, q4⟩, hT⟩ := hT
        refine rJoin ⟨[(1, .v (.c (.int .i64 a3))), (3, .v (.c (.ptr 0 0 0 0 0 0))), (5, .v (.c (.ptr 1 0 0 0 0 0))), (6, .v (.c (.bool false))), (8, .v (.c (.ptr 2 0 0 0 0 0))), (9, .v (.c (.int .i64 (c3.getD default).2))), (10, .v (.c (.int .i64 (bif (!(c4.getD default)) then 12 else (bif (!(c5.getD default)) then (bif (bif (bif (!(c6.getD default)) then true else (decide (a3 < 0))) then true else (decide ((c7.getD default) ≤ a3))) then 1 else (bif (!(c8.getD default)) then (8 : Int) else 0)) else 0)))))], [(0, .mem true 62 none (.flat [.cs [.int .i64 a1], .fzs 3 (.int .u8) a2])), (1, .mem true 64 none (.flat [.cs [.int .i64 a4, .bool a5, .int .i64 a6, .int .i64 a7], .ints 2 .i64 a8, .ints 6 .i64 a9, .fzs 6 (.pair .bool (.pair (.int .i64) (.int .i64))) a10, .cs [.int .i64 a11]])), (2, .mem true 39 none (.flat [.ints 384 .i64 (c3.getD default).1]))], 3⟩ ?_ (fun hj => ?_)
        · skip
          let x1 := (bif (!(c4.getD default)) then 12 else (bif (!(c5.getD default)) then (bif (bif (bif (!(c6.getD default)) then true else (decide (a3 < 0))) then true else (decide ((c7.getD default) ≤ a3))) then 1 else (bif (!(c8.getD default)) then (8 : Int) else 0)) else 0))
          refine rThen ?_
          refine rSeq ?_
          refine rSeq ?_
          refine zReg md0 hX rfl rfl rfl ?_
          refine rThen ?_
          refine zCond rfl rfl (fun hc => ?_) (fun hc => ?_)
          · replace hT := sT hc hT
            refine rSeq ?_
            let c9 := (law31_lives N)
            let x2 := (bif (bif (decide ((c3.getD default).1 = (List.replicate 384 0))) then (decide ((c3.getD default).2 = x1)) else false) then (c9.getD default) else false)
            replace hT := sIf hT; obtain ⟨o1, hT⟩ := hT
            refine rRegC md0 hX rfl rfl rfl (by (repeat' first | exact True.intro | with_reducible assumption | (with_reducible apply And.intro) | intro _) <;> first | assumption | exact o1 (by assumption) | exact rfl | omega | exact Nat.le_of_ble_eq_true rfl | exact selF (by assumption) | exact selT (by assumption) | exact And.intro rfl rfl | exact And.intro (by assumption) rfl | exact And.intro (by omega) rfl | (simp only [inK] at *; omega) | (simp_all [sel] <;> fail) | fail) ?_
            refine rThen ?_
            refine rRet ?_
            refine rThenRet ?_
            have hy := Option.some.inj hT; subst hy
            exact zEnd0 hX rfl
          · replace hT := sF hc hT
            refine rSkip ?_
            refine rThen ?_
            refine rSeq ?_
            let c10 := (ref31_Cell N a1 a2 a3 a4 a5 a6 a7 a8 a9 a10 a11)
            let c11 := (law31_lives N)
            let x4 := (bif (bif (decide ((c3.getD default).1 = (c10.getD default))) then (decide ((c3.getD default).2 = 0)) else false) then (c11.getD default) else false)
            replace hT := sIf hT; obtain ⟨⟨o1, o2⟩, hT⟩ := hT
            refine rDrawM md0 0 [] hX mixed rfl rfl rfl rfl rfl (by (repeat' first | exact True.intro | with_reducible assumption | (with_reducible apply And.intro) | intro _) <;> first | assumption | exact o2 (by assumption) | exact rfl | omega | exact Nat.le_of_ble_eq_true rfl | exact selF (by assumption) | exact selT (by assumption) | exact And.intro rfl rfl | exact And.intro (by assumption) rfl | exact And.intro (by omega) rfl | (simp only [inK] at *; omega) | (simp_all [sel] <;> fail) | fail) ?_
            refine rThen ?_
            refine rRet ?_
            have hy := Option.some.inj hT; subst hy
            exact zEnd0 hX rfl
        · clear hT
          refine zCond rfl rfl (fun hc => ?_) (fun hc => ?_)
          · skip
            refine zReg md0 hX rfl rfl rfl ?_
            exact rTo (To.mk' [] 0 hε rfl (by (repeat' first | exact True.intro | exact rfl | apply And.intro) <;> (repeat' first | exact rfl | refine Eq.trans ?_ (cTr (by assumption)) | refine Eq.trans ?_ (cFr (by assumption)) | refine Eq.trans (cTl (by assumption)) ?_ | refine Eq.trans (cFl (by assumption)) ?_)) (by (repeat' first | exact True.intro | exact rfl | apply And.intro) <;> (repeat' first | exact rfl | refine Eq.trans ?_ (cTr (by assumption)) | refine Eq.trans ?_ (cFr (by assumption)) | refine Eq.trans (cTl (by assumption)) ?_ | refine Eq.trans (cFl (by assumption)) ?_))) hj
          · skip
            have q1 := q1 hc
            have q2 := q2 hc
            have q3 := q3 hc
            have q4 := q4 hc
            refine rSeq ?_
            refine zReg md0 hX rfl rfl rfl ?_
            refine rThen ?_
            refine zCond rfl rfl (fun hc => ?_) (fun hc => ?_)
            · skip
              refine rSeq ?_
              refine zReg md0 hX rfl rfl rfl ?_
              refine rThen ?_
              refine zCond rfl rfl (fun hc => ?_) (fun hc => ?_)
              · skip
                refine zReg md0 hX rfl rfl rfl ?_
                exact rTo (To.mk' [] 0 hε rfl (by (repeat' first | exact True.intro | exact rfl | apply And.intro) <;> (repeat' first | exact rfl | refine Eq.trans ?_ (cTr (by assumption)) | refine Eq.trans ?_ (cFr (by assumption)) | refine Eq.trans (cTl (by assumption)) ?_ | refine Eq.trans (cFl (by assumption)) ?_)) (by (repeat' first | exact True.intro | exact rfl | apply And.intro) <;> (repeat' first | exact rfl | refine Eq.trans ?_ (cTr (by assumption)) | refine Eq.trans ?_ (cFr (by assumption)) | refine Eq.trans (cTl (by assumption)) ?_ | refine Eq.trans (cFl (by assumption)) ?_))) hj
              · skip
                refine rSeq ?_
                refine zReg md0 hX rfl rfl rfl ?_
                refine rThen ?_
                refine zCond rfl rfl (fun hc => ?_) (fun hc => ?_)
                · skip
                  refine zReg md0 hX rfl rfl rfl ?_
                  exact rTo (To.mk' [] 0 hε rfl (by (repeat' first | exact True.intro | exact rfl | apply And.intro) <;> (repeat' first | exact rfl | refine Eq.trans ?_ (cTr (by assumption)) | refine Eq.trans ?_ (cFr (by assumption)) | refine Eq.trans (cTl (by assumption)) ?_ | refine Eq.trans (cFl (by assumption)) ?_)) (by (repeat' first | exact True.intro | exact rfl | apply And.intro) <;> (repeat' first | exact rfl | refine Eq.trans ?_ (cTr (by assumption)) | refine Eq.trans ?_ (cFr (by assumption)) | refine Eq.trans (cTl (by assumption)) ?_ | refine Eq.trans (cFl (by assumption)) ?_))) hj
                · skip
                  refine rSkip ?_
                  exact rTo (To.mk' [] 0 hε rfl (by (repeat' first | exact True.intro | exact rfl | apply And.intro) <;> (repeat' first | exact rfl | refine Eq.trans ?_ (cTr (by assumption)) | refine Eq.trans ?_ (cFr (by assumption)) | refine Eq.trans (cTl (by assumption)) ?_ | refine Eq.trans (cFl (by assumption)) ?_)) (by (repeat' first | exact True.intro | exact rfl | apply And.intro) <;> (repeat' first | exact rfl | refine Eq.trans ?_ (cTr (by assumption)) | refine Eq.trans ?_ (cFr (by assumption)) | refine Eq.trans (cTl (by assumption)) ?_ | refine Eq.trans (cFl (by assumption)) ?_))) hj
            · skip
              refine rSkip ?_
              exact rTo (To.mk' [] 0 hε rfl (by (repeat' first | exact True.intro | exact rfl | apply And.intro) <;> (repeat' first | exact rfl | refine Eq.trans ?_ (cTr (by assumption)) | refine Eq.trans ?_ (cFr (by assumption)) | refine Eq.trans (cTl (by assumption)) ?_ | refine Eq.trans (cFl (by assumption)) ?_)) (by (repeat' first | exact True.intro | exact rfl | apply And.intro) <;> (repeat' first | exact rfl | refine Eq.trans ?_ (cTr (by assumption)) | refine Eq.trans ?_ (cFr (by assumption)) | refine Eq.trans (cTl (by assumption)) ?_ | refine Eq.trans (cFl (by assumption)) ?_))) hj
    refine rLoopM (law31_RebuildCells_b1 N a10) (fun s1 => ⟨[(1, .v (.c (.int .i64 a3))), (3, .v (.c (.ptr 0 0 0 0 0 0))), (5, .v (.c (.ptr 1 0 0 0 0 0))), (6, .v (.c (.bool false))), (7, .v (.c (.int .i64 s1)))], [(0, .mem true 62 none (.flat [.cs [.int .i64 a1], .fzs 3 (.int .u8) a2])), (1, .mem true 64 none (.flat [.cs [.int .i64 a4, .bool a5, .int .i64 a6, .int .i64 a7], .ints 2 .i64 a8, .ints 6 .i64 a9, .fzs 6 (.pair .bool (.pair (.int .i64) (.int .i64))) a10, .cs [.int .i64 a11]]))], 2⟩) hl (To.mk' [] 0 hε rfl (by repeat' first | exact True.intro | exact rfl | apply And.intro) (by repeat' first | exact True.intro | exact rfl | apply And.intro)) (fun s1 zs1 NNs1 hz hnexts1 houts1 => ?_)
    clear hl hT
    have hT := hz; clear hz
    refine rSeq ?_
    refine rSeq ?_
    refine zReg md0 hX rfl rfl rfl ?_
    refine rThen ?_
    refine zCond rfl rfl (fun hc => ?_) (fun hc => ?_)
    · replace hT := sT hc hT
      refine rSkip ?_
      refine rThen ?_
      refine rSeq ?_
      refine rBlock ?_
      refine rSeq ?_
      replace hT := sIf hT; obtain ⟨⟨o1, o2, o3⟩, hT⟩ := hT
      refine zReg md0 hX rfl rfl rfl ?_
      refine rThen ?_
      refine zCond rfl rfl (fun hc => ?_) (fun hc => ?_)
      · replace hT := sT hc hT
        refine rSeq ?_
        let c12 := (law31_lives N)
        replace hT := sIf hT; obtain ⟨o1, hT⟩ := hT
        refine zReg md0 hX rfl rfl rfl ?_
        refine rThen ?_
        refine rRet ?_
        refine rInRet ?_
        refine rThenRet ?_
        refine rThenRet ?_
        exact zTo [] 0 hε (hxs10 _ (houts1 _ (Option.some.inj hT).symm))
      · replace hT := sF hc hT
        refine rSkip ?_
        refine rInNormal ?_
        refine rThen ?_
        replace hT := sIf hT; obtain ⟨o1, hT⟩ := hT
        refine zReg md0 hX rfl rfl rfl ?_
        exact hnexts1 _ (Option.some.inj hT).symm _ (To.mk' [] 0 hε rfl (by repeat' first | exact True.intro | exact rfl | apply And.intro) (by repeat' first | exact True.intro | exact rfl | apply And.intro))
    · replace hT := sF hc hT
      refine rExit ?_
      refine rThenExit ?_
      refine rThenExit ?_
      exact zTo [] 0 hε (hxs11 _ (houts1 _ (Option.some.inj hT).symm))
  · cases h

end Go.Proofs.YtkfaebbbjahcpaaDoor
