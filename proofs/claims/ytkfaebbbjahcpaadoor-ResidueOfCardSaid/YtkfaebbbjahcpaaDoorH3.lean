/- Models of functions, and that the program does what they tell. -/
import Derived.Test.YtkfaebbbjahcpaaDoorH2
set_option linter.unusedVariables false
set_option linter.unusedSimpArgs false
namespace Go.Proofs.YtkfaebbbjahcpaaDoor
open Go.X

def coarse_Block_b1 (N : Nat) (a1 : (List Int)) (a2 : Int) (s1 : (Int × (List Int))) : Option ((Int × (List Int)) ⊕ (List Int)) :=
  bif (decide (s1.1 < 64)) then
    if (0 : Int) ≤ s1.1 ∧ s1.1 < 64 ∧ (s1.1).toNat < 64 then
      let c1 := (coarse_Intra N (a1.getD (s1.1).toNat 0) a2)
      if c1.isSome = true ∧ (0 : Int) ≤ s1.1 ∧ s1.1 < 64 ∧ (s1.1).toNat < 64 then
        if inK .i64 (s1.1 + 1) then
          some (.inl ((s1.1 + 1), (s1.2.set (s1.1).toNat (c1.getD default))))
        else none
      else none
    else none
  else
    some (.inr s1.2)
def coarse_Block_b2 (N : Nat) (a1 : (List Int)) (a2 : Int) (s2 : (Int × (List Int))) : Option ((Int × (List Int)) ⊕ (List Int)) :=
  bif (decide (s2.1 < 64)) then
    if (0 : Int) ≤ s2.1 ∧ s2.1 < 64 ∧ (s2.1).toNat < 64 then
      let c2 := (coarse_Inter N (a1.getD (s2.1).toNat 0) a2)
      if c2.isSome = true ∧ (0 : Int) ≤ s2.1 ∧ s2.1 < 64 ∧ (s2.1).toNat < 64 then
        if inK .i64 (s2.1 + 1) then
          some (.inl ((s2.1 + 1), (s2.2.set (s2.1).toNat (c2.getD default))))
        else none
      else none
    else none
  else
    some (.inr s2.2)
def coarse_Block (N : Nat) (a1 : (List Int)) (a2 : Int) (a3 : Bool) : Option (List Int) :=
  bif a3 then
    (iter (coarse_Block_b1 N a1 a2) N (0, (List.replicate 64 0))).bind fun v1 =>
      some (v1.set 0 0)
  else
    (iter (coarse_Block_b2 N a1 a2) N (0, (List.replicate 64 0))).bind fun v2 =>
      some v2
def sp_coarse_Block (N : Nat) : X.Spec := fun args lk => match args with
  | [.v (.agg [.ints 64 .i64 a1]), .v (.c (.int .i64 a2)), .v (.c (.bool a3))] => some ⟨(coarse_Block N a1 a2 a3).isSome = true, .v (.agg [.ints 64 .i64 ((coarse_Block N a1 a2 a3).getD default)]), [], []⟩
  | _ => none
set_option maxRecDepth 100000 in
set_option maxHeartbeats 1000000 in
theorem ok_coarse_Block (N : Nat) : FnOK Tryd.prog gt0 52 (sp_coarse_Block N) := by
  refine fnOK_handed Tryd.func52 rfl (by kernel_rfl) tt_ok (ktCons (ok_coarse_Inter N) (ktCons (ok_coarse_Intra N) (ktNil))) ?_
  intro args lk r h hp
  unfold sp_coarse_Block at h
  split at h
  · rename_i a1 a2 a3
    change (List Int) at a1
    cases h
    obtain ⟨x, hx⟩ := Option.isSome_iff_exists.1 hp
    simp only [hx, Option.getD_some]
    refine hand0 rfl rfl (fun w0 M ε0 hX => ?_)
    refine rCount (fun hε => ?_)
    have hT : coarse_Block N a1 a2 a3 = some x := hx; clear hx hp; unfold coarse_Block at hT
    refine rSeq ?_
    refine zReg md0 hX rfl rfl rfl ?_
    refine rThen ?_
    refine rSeq ?_
    refine zReg md0 hX rfl rfl rfl ?_
    refine rThen ?_
    refine rSeq ?_
    refine rSeq ?_
    refine zReg md0 hX rfl rfl rfl ?_
    refine rThen ?_
    refine zCond rfl rfl (fun hc => ?_) (fun hc => ?_)
    · replace hT := sT hc hT
      refine zReg md0 hX rfl rfl rfl ?_
      refine rThen ?_
      refine rSeq ?_
      refine zReg md0 hX rfl rfl rfl ?_
      refine rThen ?_
      refine rSeq ?_
      refine rSeq ?_
      refine zReg md0 hX rfl rfl rfl ?_
      refine rThen ?_
      refine rBlock ?_
      replace hT := sBind hT; obtain ⟨w1, hl, hT⟩ := hT
      refine rJoinA (fun v1 => v1 = w1) (fun v1 => ⟨[(2, .v (.c (.bool a3))), (6, .v (.c (.ptr 1 0 0 0 0 0))), (8, .v (.c (.ptr 2 0 0 0 0 0)))], [(1, .mem true 22 none (.flat [.ints 64 .i64 (List.replicate 64 0)])), (2, .mem true 22 none (.flat [.ints 64 .i64 v1]))], 3⟩) (.exit 0) (fun v1 hv => ?_) (fun hxs10 => ?_)
      · subst hv; clear hl
        refine rInHit ?_
        refine rThen ?_
        refine rSeq ?_
        refine rSeq ?_
        refine zReg md0 hX rfl rfl rfl ?_
        refine rThen ?_
        refine rCondT rfl rfl (by (repeat' first | exact True.intro | with_reducible assumption | (with_reducible apply And.intro) | intro _) <;> first | assumption | exact rfl | omega | exact Nat.le_of_ble_eq_true rfl | exact selF (by assumption) | exact selT (by assumption) | exact And.intro rfl rfl | exact And.intro (by assumption) rfl | exact And.intro (by omega) rfl | (simp only [inK] at *; omega) | (simp_all [sel] <;> fail) | fail) (by assumption) ?_
        refine zReg md0 hX rfl rfl rfl ?_
        refine rThen ?_
        refine rSeq ?_
        refine zReg md0 hX rfl rfl rfl ?_
        refine rThen ?_
        refine rRet ?_
        have hy := Option.some.inj hT; subst hy
        exact zEnd0 hX rfl
      refine rLoopM (coarse_Block_b1 N a1 a2) (fun s1 => ⟨[(1, .v (.c (.int .i64 a2))), (2, .v (.c (.bool a3))), (6, .v (.c (.ptr 1 0 0 0 0 0))), (7, .v (.c (.clo 109 []))), (8, .v (.c (.ptr 2 0 0 0 0 0))), (12, .v (.agg [.ints 64 .i64 a1])), (13, .v (.c (.int .i64 s1.1)))], [(1, .mem true 22 none (.flat [.ints 64 .i64 (List.replicate 64 0)])), (2, .mem true 22 none (.flat [.ints 64 .i64 s1.2]))], 3⟩) hl (To.mk' [] 0 hε rfl (by repeat' first | exact True.intro | exact rfl | apply And.intro) (by repeat' first | exact True.intro | exact rfl | apply And.intro)) (fun s1 zs1 NNs1 hz hnexts1 houts1 => ?_)
      clear hl hT
      have hT := hz; clear hz
      refine rSeq ?_
      refine zReg md0 hX rfl rfl rfl ?_
      refine rThen ?_
      refine rSeq ?_
      refine zCond rfl rfl (fun hc => ?_) (fun hc => ?_)
      · replace hT := sT hc hT
        refine rSkip ?_
        refine rThen ?_
        refine rSeq ?_
        refine rBlock ?_
        refine rSeq ?_
        replace hT := sIf hT; obtain ⟨⟨o1, o2, o3⟩, hT⟩ := hT
        refine zReg md0 hX rfl rfl rfl ?_
        refine rThen ?_
        let c1 := (coarse_Intra N (a1.getD (s1.1).toNat 0) a2)
        replace hT := sIf hT; obtain ⟨⟨o1, o2, o3, o4⟩, hT⟩ := hT
        refine zReg md0 hX rfl rfl rfl ?_
        refine rInNormal ?_
        refine rThen ?_
        replace hT := sIf hT; obtain ⟨o1, hT⟩ := hT
        refine zReg md0 hX rfl rfl rfl ?_
        exact hnexts1 _ (Option.some.inj hT).symm _ (To.mk' [] 0 hε rfl (by repeat' first | exact True.intro | exact rfl | apply And.intro) (by repeat' first | exact True.intro | exact rfl | apply And.intro))
      · replace hT := sF hc hT
        refine rExit ?_
        refine rThenExit ?_
        refine rThenExit ?_
        exact zTo [] 0 hε (hxs10 _ (houts1 _ (Option.some.inj hT).symm))
    · replace hT := sF hc hT
      refine rSkip ?_
      refine rThen ?_
      refine rSeq ?_
      refine zReg md0 hX rfl rfl rfl ?_
      refine rThen ?_
      refine rSeq ?_
      refine rSeq ?_
      refine zReg md0 hX rfl rfl rfl ?_
      refine rThen ?_
      refine rBlock ?_
      replace hT := sBind hT; obtain ⟨w2, hl, hT⟩ := hT
      refine rJoinA (fun v2 => v2 = w2) (fun v2 => ⟨[(2, .v (.c (.bool a3))), (6, .v (.c (.ptr 1 0 0 0 0 0))), (8, .v (.c (.ptr 2 0 0 0 0 0)))], [(1, .mem true 22 none (.flat [.ints 64 .i64 (List.replicate 64 0)])), (2, .mem true 22 none (.flat [.ints 64 .i64 v2]))], 3⟩) (.exit 0) (fun v2 hv => ?_) (fun hxs20 => ?_)
      · subst hv; clear hl
        refine rInHit ?_
        refine rThen ?_
        refine rSeq ?_
        refine rSeq ?_
        refine zReg md0 hX rfl rfl rfl ?_
        refine rThen ?_
        refine rCondF rfl rfl (by (repeat' first | exact True.intro | with_reducible assumption | (with_reducible apply And.intro) | intro _) <;> first | assumption | exact rfl | omega | exact Nat.le_of_ble_eq_true rfl | exact selF (by assumption) | exact selT (by assumption) | exact And.intro rfl rfl | exact And.intro (by assumption) rfl | exact And.intro (by omega) rfl | (simp only [inK] at *; omega) | (simp_all [sel] <;> fail) | fail) (by assumption) ?_
        refine rSkip ?_
        refine rThen ?_
        refine rSeq ?_
        refine zReg md0 hX rfl rfl rfl ?_
        refine rThen ?_
        refine rRet ?_
        have hy := Option.some.inj hT; subst hy
        exact zEnd0 hX rfl
      refine rLoopM (coarse_Block_b2 N a1 a2) (fun s2 => ⟨[(1, .v (.c (.int .i64 a2))), (2, .v (.c (.bool a3))), (6, .v (.c (.ptr 1 0 0 0 0 0))), (7, .v (.c (.clo 108 []))), (8, .v (.c (.ptr 2 0 0 0 0 0))), (12, .v (.agg [.ints 64 .i64 a1])), (13, .v (.c (.int .i64 s2.1)))], [(1, .mem true 22 none (.flat [.ints 64 .i64 (List.replicate 64 0)])), (2, .mem true 22 none (.flat [.ints 64 .i64 s2.2]))], 3⟩) hl (To.mk' [] 0 hε rfl (by repeat' first | exact True.intro | exact rfl | apply And.intro) (by repeat' first | exact True.intro | exact rfl | apply And.intro)) (fun s2 zs2 NNs2 hz hnexts2 houts2 => ?_)
      clear hl hT
      have hT := hz; clear hz
      refine rSeq ?_
      refine zReg md0 hX rfl rfl rfl ?_
      refine rThen ?_
      refine rSeq ?_
      refine zCond rfl rfl (fun hc => ?_) (fun hc => ?_)
      · replace hT := sT hc hT
        refine rSkip ?_
        refine rThen ?_
        refine rSeq ?_
        refine rBlock ?_
        refine rSeq ?_
        replace hT := sIf hT; obtain ⟨⟨o1, o2, o3⟩, hT⟩ := hT
        refine zReg md0 hX rfl rfl rfl ?_
        refine rThen ?_
        let c2 := (coarse_Inter N (a1.getD (s2.1).toNat 0) a2)
        replace hT := sIf hT; obtain ⟨⟨o1, o2, o3, o4⟩, hT⟩ := hT
        refine zReg md0 hX rfl rfl rfl ?_
        refine rInNormal ?_
        refine rThen ?_
        replace hT := sIf hT; obtain ⟨o1, hT⟩ := hT
        refine zReg md0 hX rfl rfl rfl ?_
        exact hnexts2 _ (Option.some.inj hT).symm _ (To.mk' [] 0 hε rfl (by repeat' first | exact True.intro | exact rfl | apply And.intro) (by repeat' first | exact True.intro | exact rfl | apply And.intro))
      · replace hT := sF hc hT
        refine rExit ?_
        refine rThenExit ?_
        refine rThenExit ?_
        exact zTo [] 0 hε (hxs20 _ (houts2 _ (Option.some.inj hT).symm))
  · cases h
def feed_Block_b1 (N : Nat) (c3 : (Option (List Int))) (s1 : (Int × (List Int))) : Option ((Int × (List Int)) ⊕ (List Int)) :=
  bif (decide (s1.1 < 64)) then
    if (0 : Int) ≤ s1.1 ∧ s1.1 < 64 ∧ (s1.1).toNat < 64 then
      let x2 := (s1.2.set (s1.1).toNat ((s1.2.getD (s1.1).toNat 0) + ((c3.getD default).getD (s1.1).toNat 0)))
      if (0 : Int) ≤ s1.1 ∧ s1.1 < 64 ∧ (s1.1).toNat < 64 ∧ inK .i64 ((s1.2.getD (s1.1).toNat 0) + ((c3.getD default).getD (s1.1).toNat 0)) then
        if inK .i64 (s1.1 + 1) then
          some (.inl ((s1.1 + 1), x2))
        else none
      else none
    else none
  else
    some (.inr s1.2)
def feed_Block (N : Nat) (a1 : (List Int)) (a2 : (List Int)) (a3 : Int) (a4 : Int) (a5 : Bool) : Option (List Int) :=
  let c1 := (feed_plain N a1 a2 a3 a4 a5)
  if c1.isSome = true then
    let x1 := (bif (decide ((c1.getD default).2.2.1 = (c1.getD default).2.2.2.1)) then (decide ((c1.getD default).2.1 = (List.replicate 64 0))) else false)
    bif x1 then
      some (c1.getD default).1
    else
      let c2 := (scale_Block N (c1.getD default).1 (c1.getD default).2.2.1 false 0)
      if c2.isSome = true then
        let c3 := (dct_Forward N (c1.getD default).2.1)
        if c3.isSome = true then
          (iter (feed_Block_b1 N c3) N (0, (c2.getD default))).bind fun v1 =>
            let c4 := (coarse_Block N v1 (c1.getD default).2.2.2.1 (c1.getD default).2.2.2.2)
            if c4.isSome = true then
              some (c4.getD default)
            else none
        else none
      else none
  else none
def sp_feed_Block (N : Nat) : X.Spec := fun args lk => match args with
  | [.v (.agg [.ints 64 .i64 a1, .ints 64 .i64 a2, .cs [.int .i64 a3, .int .i64 a4, .bool a5]])] => some ⟨(feed_Block N a1 a2 a3 a4 a5).isSome = true, .v (.agg [.ints 64 .i64 ((feed_Block N a1 a2 a3 a4 a5).getD default)]), [], []⟩
  | _ => none
set_option maxRecDepth 100000 in
set_option maxHeartbeats 1000000 in
theorem ok_feed_Block (N : Nat) : FnOK Tryd.prog gt0 13 (sp_feed_Block N) := by
  refine fnOK_handed Tryd.func13 rfl (by kernel_rfl) tt_ok (ktCons (ok_coarse_Block N) (ktCons (ok_dct_Forward N) (ktCons (ok_scale_Block N) (ktCons (ok_feed_plain N) (ktNil))))) ?_
  intro args lk r h hp
  unfold sp_feed_Block at h
  split at h
  · rename_i a1 a2 a3 a4 a5
    change (List Int) at a1
    change (List Int) at a2
    cases h
    obtain ⟨x, hx⟩ := Option.isSome_iff_exists.1 hp
    simp only [hx, Option.getD_some]
    refine hand0 rfl rfl (fun w0 M ε0 hX => ?_)
    refine rCount (fun hε => ?_)
    have hT : feed_Block N a1 a2 a3 a4 a5 = some x := hx; clear hx hp; unfold feed_Block at hT
    refine rSeq ?_
    refine zReg md0 hX rfl rfl rfl ?_
    refine rThen ?_
    refine rSeq ?_
    let c1 := (feed_plain N a1 a2 a3 a4 a5)
    replace hT := sIf hT; obtain ⟨o1, hT⟩ := hT
    refine zReg md0 hX rfl rfl rfl ?_
    refine rThen ?_
    refine rSeq ?_
    refine rSeq ?_
    let x1 := (bif (decide ((c1.getD default).2.2.1 = (c1.getD default).2.2.2.1)) then (decide ((c1.getD default).2.1 = (List.replicate 64 0))) else false)
    refine zReg md0 hX rfl rfl rfl ?_
    refine rThen ?_
    refine zCond rfl rfl (fun hc => ?_) (fun hc => ?_)
    · replace hT := sT hc hT
      refine rSeq ?_
      refine zReg md0 hX rfl rfl rfl ?_
      refine rThen ?_
      refine rRet ?_
      refine rThenRet ?_
      have hy := Option.some.inj hT; subst hy
      exact zEnd0 hX rfl
    · replace hT := sF hc hT
      refine rSkip ?_
      refine rThen ?_
      refine rSeq ?_
      let c2 := (scale_Block N (c1.getD default).1 (c1.getD default).2.2.1 false 0)
      replace hT := sIf hT; obtain ⟨o1, hT⟩ := hT
      refine zReg md0 hX rfl rfl rfl ?_
      refine rThen ?_
      refine rSeq ?_
      refine rSeq ?_
      let c3 := (dct_Forward N (c1.getD default).2.1)
      replace hT := sIf hT; obtain ⟨o1, hT⟩ := hT
      refine zReg md0 hX rfl rfl rfl ?_
      refine rThen ?_
      refine rBlock ?_
      replace hT := sBind hT; obtain ⟨w1, hl, hT⟩ := hT
      refine rJoinA (fun v1 => v1 = w1) (fun v1 => ⟨[(1, .v (.c (.ptr 0 0 0 0 0 0))), (2, .v (.c (.ptr 1 0 0 0 0 0))), (3, .v (.c (.ptr 2 0 0 0 0 0)))], [(0, .mem true 26 none (.flat [.ints 64 .i64 (c1.getD default).1, .ints 64 .i64 (c1.getD default).2.1, .cs [.int .i64 (c1.getD default).2.2.1, .int .i64 (c1.getD default).2.2.2.1, .bool (c1.getD default).2.2.2.2]])), (1, .mem true 22 none (.flat [.ints 64 .i64 (List.replicate 64 0)])), (2, .mem true 22 none (.flat [.ints 64 .i64 v1]))], 3⟩) (.exit 0) (fun v1 hv => ?_) (fun hxs10 => ?_)
      · subst hv; clear hl
        refine rInHit ?_
        refine rThen ?_
        refine rSeq ?_
        let c4 := (coarse_Block N v1 (c1.getD default).2.2.2.1 (c1.getD default).2.2.2.2)
        replace hT := sIf hT; obtain ⟨o1, hT⟩ := hT
        refine zReg md0 hX rfl rfl rfl ?_
        refine rThen ?_
        refine rRet ?_
        have hy := Option.some.inj hT; subst hy
        exact zEnd0 hX rfl
      refine rLoopM (feed_Block_b1 N c3) (fun s1 => ⟨[(1, .v (.c (.ptr 0 0 0 0 0 0))), (2, .v (.c (.ptr 1 0 0 0 0 0))), (3, .v (.c (.ptr 2 0 0 0 0 0))), (28, .v (.agg [.ints 64 .i64 (c3.getD default)])), (29, .v (.c (.int .i64 s1.1)))], [(0, .mem true 26 none (.flat [.ints 64 .i64 (c1.getD default).1, .ints 64 .i64 (c1.getD default).2.1, .cs [.int .i64 (c1.getD default).2.2.1, .int .i64 (c1.getD default).2.2.2.1, .bool (c1.getD default).2.2.2.2]])), (1, .mem true 22 none (.flat [.ints 64 .i64 (List.replicate 64 0)])), (2, .mem true 22 none (.flat [.ints 64 .i64 s1.2]))], 3⟩) hl (To.mk' [] 0 hε rfl (by repeat' first | exact True.intro | exact rfl | apply And.intro) (by repeat' first | exact True.intro | exact rfl | apply And.intro)) (fun s1 zs1 NNs1 hz hnexts1 houts1 => ?_)
      clear hl hT
      have hT := hz; clear hz
      refine rSeq ?_
      refine zReg md0 hX rfl rfl rfl ?_
      refine rThen ?_
      refine rSeq ?_
      refine zCond rfl rfl (fun hc => ?_) (fun hc => ?_)
      · replace hT := sT hc hT
        refine rSkip ?_
        refine rThen ?_
        refine rSeq ?_
        refine rBlock ?_
        refine rSeq ?_
        replace hT := sIf hT; obtain ⟨⟨o1, o2, o3⟩, hT⟩ := hT
        refine zReg md0 hX rfl rfl rfl ?_
        refine rThen ?_
        let x2 := (s1.2.set (s1.1).toNat ((s1.2.getD (s1.1).toNat 0) + ((c3.getD default).getD (s1.1).toNat 0)))
        replace hT := sIf hT; obtain ⟨⟨o1, o2, o3, o4⟩, hT⟩ := hT
        refine zReg md0 hX rfl rfl rfl ?_
        refine rInNormal ?_
        refine rThen ?_
        replace hT := sIf hT; obtain ⟨o1, hT⟩ := hT
        refine zReg md0 hX rfl rfl rfl ?_
        exact hnexts1 _ (Option.some.inj hT).symm _ (To.mk' [] 0 hε rfl (by repeat' first | exact True.intro | exact rfl | apply And.intro) (by repeat' first | exact True.intro | exact rfl | apply And.intro))
      · replace hT := sF hc hT
        refine rExit ?_
        refine rThenExit ?_
        refine rThenExit ?_
        exact zTo [] 0 hε (hxs10 _ (houts1 _ (Option.some.inj hT).symm))
  · cases h
def law35_lives_b1 (N : Nat) (s1 : (Int × (List Int))) : Option ((Int × (List Int)) ⊕ (List Int)) :=
  bif (decide (s1.1 < 64)) then
    if (0 : Int) ≤ s1.1 ∧ s1.1 < 64 ∧ (s1.1).toNat < 64 then
      if inK .i64 (s1.1 + 1) then
        some (.inl ((s1.1 + 1), (s1.2.set (s1.1).toNat 10)))
      else none
    else none
  else
    some (.inr s1.2)
def law35_lives (N : Nat) : Option Bool :=
  (iter (law35_lives_b1 N) N (0, (List.replicate 64 0))).bind fun v1 =>
    let c1 := (feed_Block N ((List.replicate 64 0).set 0 3) (List.replicate 64 0) 5 10 false)
    let c2 := (feed_Block N (List.replicate 64 0) v1 1 5 false)
    let x1 := (bif (decide ((c1.getD default) = ((List.replicate 64 0).set 0 1))) then (decide ((c2.getD default) = ((List.replicate 64 0).set 0 7))) else false)
    if c1.isSome = true ∧ ((decide ((c1.getD default) = ((List.replicate 64 0).set 0 1))) = true → c2.isSome = true) then
      some x1
    else none
def sp_law35_lives (N : Nat) : X.Spec := fun args lk => match args with
  | [] => some ⟨(law35_lives N).isSome = true, .v (.c (.bool ((law35_lives N).getD default))), [], []⟩
  | _ => none
set_option maxRecDepth 100000 in
set_option maxHeartbeats 1000000 in
theorem ok_law35_lives (N : Nat) : FnOK Tryd.prog gt0 15 (sp_law35_lives N) := by
  refine fnOK_handed Tryd.func15 rfl (by kernel_rfl) tt_ok (ktCons (ok_feed_Block N) (ktNil)) ?_
  intro args lk r h hp
  unfold sp_law35_lives at h
  split at h
  · skip
    cases h
    obtain ⟨x, hx⟩ := Option.isSome_iff_exists.1 hp
    simp only [hx, Option.getD_some]
    refine hand0 rfl rfl (fun w0 M ε0 hX => ?_)
    refine rCount (fun hε => ?_)
    have hT : law35_lives N = some x := hx; clear hx hp; unfold law35_lives at hT
    refine rSeq ?_
    refine zReg md0 hX rfl rfl rfl ?_
    refine rThen ?_
    refine rSeq ?_
    refine zReg md0 hX rfl rfl rfl ?_
    refine rThen ?_
    refine rSeq ?_
    refine rSeq ?_
    refine zReg md0 hX rfl rfl rfl ?_
    refine rThen ?_
    refine rBlock ?_
    replace hT := sBind hT; obtain ⟨w1, hl, hT⟩ := hT
    refine rJoinA (fun v1 => v1 = w1) (fun v1 => ⟨[(0, .v (.c (.bool false))), (1, .v (.c (.ptr 0 0 0 0 0 0)))], [(0, .mem true 22 none (.flat [.ints 64 .i64 v1]))], 1⟩) (.exit 0) (fun v1 hv => ?_) (fun hxs10 => ?_)
    · subst hv; clear hl
      refine rInHit ?_
      refine rThen ?_
      refine rSeq ?_
      let c1 := (feed_Block N ((List.replicate 64 0).set 0 3) (List.replicate 64 0) 5 10 false)
      let c2 := (feed_Block N (List.replicate 64 0) v1 1 5 false)
      let x1 := (bif (decide ((c1.getD default) = ((List.replicate 64 0).set 0 1))) then (decide ((c2.getD default) = ((List.replicate 64 0).set 0 7))) else false)
      replace hT := sIf hT; obtain ⟨⟨o1, o2⟩, hT⟩ := hT
      refine rRegC md0 hX rfl rfl rfl (by (repeat' first | exact True.intro | with_reducible assumption | (with_reducible apply And.intro) | intro _) <;> first | assumption | exact o2 (by assumption) | exact rfl | omega | exact Nat.le_of_ble_eq_true rfl | exact selF (by assumption) | exact selT (by assumption) | exact And.intro rfl rfl | exact And.intro (by assumption) rfl | exact And.intro (by omega) rfl | (simp only [inK] at *; omega) | (simp_all [sel] <;> fail) | fail) ?_
      refine rThen ?_
      refine rRet ?_
      have hy := Option.some.inj hT; subst hy
      exact zEnd0 hX rfl
    refine rLoopM (law35_lives_b1 N) (fun s1 => ⟨[(0, .v (.c (.bool false))), (1, .v (.c (.ptr 0 0 0 0 0 0))), (2, .v (.c (.int .i64 s1.1)))], [(0, .mem true 22 none (.flat [.ints 64 .i64 s1.2]))], 1⟩) hl (To.mk' [] 0 hε rfl (by repeat' first | exact True.intro | exact rfl | apply And.intro) (by repeat' first | exact True.intro | exact rfl | apply And.intro)) (fun s1 zs1 NNs1 hz hnexts1 houts1 => ?_)
    clear hl hT
    have hT := hz; clear hz
    refine rSeq ?_
    refine rSeq ?_
    refine zReg md0 hX rfl rfl rfl ?_
    refine rThen ?_
    refine zCond rfl rfl (fun hc => ?_) (fun hc => ?_)
    · replace hT := sT hc hT
      refine rSkip ?_
      refine rThen ?_
      refine rSeq ?_
      refine rBlock ?_
      replace hT := sIf hT; obtain ⟨⟨o1, o2, o3⟩, hT⟩ := hT
      refine zReg md0 hX rfl rfl rfl ?_
      refine rInNormal ?_
      refine rThen ?_
      replace hT := sIf hT; obtain ⟨o1, hT⟩ := hT
      refine zReg md0 hX rfl rfl rfl ?_
      exact hnexts1 _ (Option.some.inj hT).symm _ (To.mk' [] 0 hε rfl (by repeat' first | exact True.intro | exact rfl | apply And.intro) (by repeat' first | exact True.intro | exact rfl | apply And.intro))
    · replace hT := sF hc hT
      refine rExit ?_
      refine rThenExit ?_
      refine rThenExit ?_
      exact zTo [] 0 hε (hxs10 _ (houts1 _ (Option.some.inj hT).symm))
  · cases h
def feed_Cell_b1 (N : Nat) (a3 : Int) (a8 : (List Int)) (a9 : Int) (a10 : Int) (s1 : (Int × (List Int))) : Option ((Int × (List Int)) ⊕ (List Int)) :=
  bif (decide (s1.1 < 6)) then
    let c2 := (feed_Block N ((s1.2.drop (64 * (s1.1).toNat)).take 64) ((a8.drop (64 * (s1.1).toNat)).take 64) a9 a10 (bif (decide (a3 = 3)) then true else (decide (a3 = 4))))
    if (0 : Int) ≤ s1.1 ∧ s1.1 < 6 ∧ (64 * (s1.1).toNat) + 64 ≤ 384 ∧ c2.isSome = true then
      if inK .i64 (s1.1 + 1) then
        some (.inl ((s1.1 + 1), (layL s1.2 (64 * (s1.1).toNat) (c2.getD default) 64)))
      else none
    else none
  else
    some (.inr s1.2)
def feed_Cell (N : Nat) (a1 : Int) (a2 : Bool) (a3 : Int) (a4 : Int) (a5 : (List Int)) (a6 : (List Int)) (a7 : (List (List (Bool × (Int × Int))))) (a8 : (List Int)) (a9 : Int) (a10 : Int) : Option ((List Int) × Int) :=
  let c1 := (residue_Levels N a1 a2 a3 a4 a5 a6 a7)
  if c1.isSome = true then
    bif (decide ((c1.getD default).2 ≠ 0)) then
      some ((List.replicate 384 0), (c1.getD default).2)
    else
      (iter (feed_Cell_b1 N a3 a8 a9 a10) N (0, (c1.getD default).1)).bind fun v1 =>
        some (v1, 0)
  else none
def sp_feed_Cell (N : Nat) : X.Spec := fun args lk => match args with
  | [.v (.agg [.cs [.int .i64 a1, .bool a2, .int .i64 a3, .int .i64 a4], .ints 2 .i64 a5, .ints 6 .i64 a6, .fzs 6 (.pair .bool (.pair (.int .i64) (.int .i64))) a7]), .v (.agg [.ints 384 .i64 a8]), .v (.c (.int .i64 a9)), .v (.c (.int .i64 a10))] => some ⟨(feed_Cell N a1 a2 a3 a4 a5 a6 a7 a8 a9 a10).isSome = true, .tup [.agg [.ints 384 .i64 ((feed_Cell N a1 a2 a3 a4 a5 a6 a7 a8 a9 a10).getD default).1], .c (.int .i64 ((feed_Cell N a1 a2 a3 a4 a5 a6 a7 a8 a9 a10).getD default).2)], [], []⟩
  | _ => none
set_option maxRecDepth 100000 in
set_option maxHeartbeats 1000000 in
theorem ok_feed_Cell (N : Nat) : FnOK Tryd.prog gt0 33 (sp_feed_Cell N) := by
  refine fnOK_handed Tryd.func33 rfl (by kernel_rfl) tt_ok (ktCons (ok_feed_Block N) (ktCons (ok_residue_Levels N) (ktNil))) ?_
  intro args lk r h hp
  unfold sp_feed_Cell at h
  split at h
  · rename_i a1 a2 a3 a4 a5 a6 a7 a8 a9 a10
    change (List Int) at a5
    change (List Int) at a6
    change (List (List (Bool × (Int × Int)))) at a7
    change (List Int) at a8
    cases h
    obtain ⟨x, hx⟩ := Option.isSome_iff_exists.1 hp
    simp only [hx, Option.getD_some]
    refine hand0 rfl rfl (fun w0 M ε0 hX => ?_)
    refine rCount (fun hε => ?_)
    have hT : feed_Cell N a1 a2 a3 a4 a5 a6 a7 a8 a9 a10 = some x := hx; clear hx hp; unfold feed_Cell at hT
    refine rSeq ?_
    refine zReg md0 hX rfl rfl rfl ?_
    refine rThen ?_
    refine rSeq ?_
    let c1 := (residue_Levels N a1 a2 a3 a4 a5 a6 a7)
    replace hT := sIf hT; obtain ⟨o1, hT⟩ := hT
    refine zReg md0 hX rfl rfl rfl ?_
    refine rThen ?_
    refine rSeq ?_
    refine rSeq ?_
    refine zReg md0 hX rfl rfl rfl ?_
    refine rThen ?_
    refine zCond rfl rfl (fun hc => ?_) (fun hc => ?_)
    · replace hT := sT hc hT
      refine rSeq ?_
      refine zReg md0 hX rfl rfl rfl ?_
      refine rThen ?_
      refine rRet ?_
      refine rThenRet ?_
      have hy := Option.some.inj hT; subst hy
      exact zEnd0 hX rfl
    · replace hT := sF hc hT
      refine rSkip ?_
      refine rThen ?_
      refine rSeq ?_
      refine zReg md0 hX rfl rfl rfl ?_
      refine rThen ?_
      refine rSeq ?_
      refine rSeq ?_
      refine zReg md0 hX rfl rfl rfl ?_
      refine rThen ?_
      refine rBlock ?_
      replace hT := sBind hT; obtain ⟨w1, hl, hT⟩ := hT
      refine rJoinA (fun v1 => v1 = w1) (fun v1 => ⟨[(8, .v (.c (.ptr 2 0 0 0 0 0))), (9, .v (.c (.int .i64 0))), (10, .v (.c (.ptr 3 0 0 0 0 0)))], [(2, .mem true 39 none (.flat [.ints 384 .i64 (List.replicate 384 0)])), (3, .mem true 39 none (.flat [.ints 384 .i64 v1]))], 4⟩) (.exit 0) (fun v1 hv => ?_) (fun hxs10 => ?_)
      · subst hv; clear hl
        refine rInHit ?_
        refine rThen ?_
        refine rSeq ?_
        refine zReg md0 hX rfl rfl rfl ?_
        refine rThen ?_
        refine rRet ?_
        have hy := Option.some.inj hT; subst hy
        exact zEnd0 hX rfl
      refine rLoopM (feed_Cell_b1 N a3 a8 a9 a10) (fun s1 => ⟨[(2, .v (.c (.int .i64 a9))), (3, .v (.c (.int .i64 a10))), (5, .v (.c (.ptr 1 0 0 0 0 0))), (8, .v (.c (.ptr 2 0 0 0 0 0))), (9, .v (.c (.int .i64 0))), (10, .v (.c (.ptr 3 0 0 0 0 0))), (12, .v (.c (.bool (bif (decide (a3 = 3)) then true else (decide (a3 = 4)))))), (31, .v (.c (.int .i64 s1.1)))], [(1, .mem true 39 none (.flat [.ints 384 .i64 a8])), (2, .mem true 39 none (.flat [.ints 384 .i64 (List.replicate 384 0)])), (3, .mem true 39 none (.flat [.ints 384 .i64 s1.2]))], 4⟩) hl (To.mk' [] 0 hε rfl (by repeat' first | exact True.intro | exact rfl | apply And.intro) (by repeat' first | exact True.intro | exact rfl | apply And.intro)) (fun s1 zs1 NNs1 hz hnexts1 houts1 => ?_)
      clear hl hT
      have hT := hz; clear hz
      refine rSeq ?_
      refine zReg md0 hX rfl rfl rfl ?_
      refine rThen ?_
      refine rSeq ?_
      refine zCond rfl rfl (fun hc => ?_) (fun hc => ?_)
      · replace hT := sT hc hT
        refine rSkip ?_
        refine rThen ?_
        refine rSeq ?_
        refine rBlock ?_
        refine rSeq ?_
        refine zReg md0 hX rfl rfl rfl ?_
        refine rThen ?_
        let c2 := (feed_Block N ((s1.2.drop (64 * (s1.1).toNat)).take 64) ((a8.drop (64 * (s1.1).toNat)).take 64) a9 a10 (bif (decide (a3 = 3)) then true else (decide (a3 = 4))))
        replace hT := sIf hT; obtain ⟨⟨o1, o2, o3, o4⟩, hT⟩ := hT
        refine zDraw md0 1 [13] hX mixed rfl rfl rfl rfl rfl ?_
        refine rInNormal ?_
        refine rThen ?_
        replace hT := sIf hT; obtain ⟨o1, hT⟩ := hT
        refine zReg md0 hX rfl rfl rfl ?_
        exact hnexts1 _ (Option.some.inj hT).symm _ (To.mk' [] 0 hε rfl (by repeat' first | exact True.intro | exact rfl | apply And.intro) (by repeat' first | exact True.intro | exact rfl | apply And.intro))
      · replace hT := sF hc hT
        refine rExit ?_
        refine rThenExit ?_
        refine rThenExit ?_
        exact zTo [] 0 hε (hxs10 _ (houts1 _ (Option.some.inj hT).symm))
  · cases h
def ref35_nought_b1 (N : Nat) (a1 : (List Int)) (s1 : Int) : Option (Int ⊕ (Unit ⊕ Unit)) :=
  bif (decide (s1 < 64)) then
    if (0 : Int) ≤ s1 ∧ s1 < 64 ∧ (s1).toNat < 64 then
      bif (decide ((a1.getD (s1).toNat 0) ≠ 0)) then
        some (.inr (Sum.inl ()))
      else
        if inK .i64 (s1 + 1) then
          some (.inl (s1 + 1))
        else none
    else none
  else
    some (.inr (Sum.inr ()))
def ref35_nought (N : Nat) (a1 : (List Int)) : Option Bool :=
  (iter (ref35_nought_b1 N a1) N 0).bind fun w1 =>
    (Sum.elim (fun v1 =>
      some false
    )
      (fun v2 =>
        some true
      )
    ) w1
def sp_ref35_nought (N : Nat) : X.Spec := fun args lk => match args with
  | [.v (.agg [.ints 64 .i64 a1])] => some ⟨(ref35_nought N a1).isSome = true, .v (.c (.bool ((ref35_nought N a1).getD default))), [], []⟩
  | _ => none
set_option maxRecDepth 100000 in
set_option maxHeartbeats 1000000 in
theorem ok_ref35_nought (N : Nat) : FnOK Tryd.prog gt0 54 (sp_ref35_nought N) := by
  refine fnOK_handed Tryd.func54 rfl (by kernel_rfl) tt_ok (ktNil) ?_
  intro args lk r h hp
  unfold sp_ref35_nought at h
  split at h
  · rename_i a1
    change (List Int) at a1
    cases h
    obtain ⟨x, hx⟩ := Option.isSome_iff_exists.1 hp
    simp only [hx, Option.getD_some]
    refine hand0 rfl rfl (fun w0 M ε0 hX => ?_)
    refine rCount (fun hε => ?_)
    have hT : ref35_nought N a1 = some x := hx; clear hx hp; unfold ref35_nought at hT
    refine rSeq ?_
    refine zReg md0 hX rfl rfl rfl ?_
    refine rThen ?_
    refine rSeq ?_
    refine rSeq ?_
    refine zReg md0 hX rfl rfl rfl ?_
    refine rThen ?_
    refine rBlock ?_
    replace hT := sBind hT; obtain ⟨w1, hl, hT⟩ := hT
    refine rJoinA (fun v1 => (Sum.inl v1) = w1) (fun v1 => ⟨[(2, .v (.c (.bool false)))], [], 1⟩) .ret (fun v1 hv => ?_) (fun hxs10 => ?_)
    · subst hv; clear hl; replace hT := (sElimL hT)
      refine rInRet ?_
      refine rThenRet ?_
      have hy := Option.some.inj hT; subst hy
      exact zEnd0 hX rfl
    refine rJoinA (fun v2 => (Sum.inr v2) = w1) (fun v2 => ⟨[(2, .v (.c (.bool false)))], [], 1⟩) (.exit 0) (fun v2 hv => ?_) (fun hxs11 => ?_)
    · subst hv; clear hl; replace hT := (sElimR hT)
      refine rInHit ?_
      refine rThen ?_
      refine rSeq ?_
      refine zReg md0 hX rfl rfl rfl ?_
      refine rThen ?_
      refine rRet ?_
      have hy := Option.some.inj hT; subst hy
      exact zEnd0 hX rfl
    refine rLoopM (ref35_nought_b1 N a1) (fun s1 => ⟨[(1, .v (.c (.ptr 0 0 0 0 0 0))), (2, .v (.c (.bool false))), (3, .v (.c (.int .i64 s1)))], [(0, .mem true 22 none (.flat [.ints 64 .i64 a1]))], 1⟩) hl (To.mk' [] 0 hε rfl (by repeat' first | exact True.intro | exact rfl | apply And.intro) (by repeat' first | exact True.intro | exact rfl | apply And.intro)) (fun s1 zs1 NNs1 hz hnexts1 houts1 => ?_)
    clear hl hT
    have hT := hz; clear hz
    refine rSeq ?_
    refine rSeq ?_
    refine zReg md0 hX rfl rfl rfl ?_
    refine rThen ?_
    refine zCond rfl rfl (fun hc => ?_) (fun hc => ?_)
    · replace hT := sT hc hT
      refine rSkip ?_
      refine rThen ?_
      refine rSeq ?_
      refine rBlock ?_
      refine rSeq ?_
      replace hT := sIf hT; obtain ⟨⟨o1, o2, o3⟩, hT⟩ := hT
      refine zReg md0 hX rfl rfl rfl ?_
      refine rThen ?_
      refine zCond rfl rfl (fun hc => ?_) (fun hc => ?_)
      · replace hT := sT hc hT
        refine rSeq ?_
        refine zReg md0 hX rfl rfl rfl ?_
        refine rThen ?_
        refine rRet ?_
        refine rInRet ?_
        refine rThenRet ?_
        refine rThenRet ?_
        exact zTo [] 0 hε (hxs10 _ (houts1 _ (Option.some.inj hT).symm))
      · replace hT := sF hc hT
        refine rSkip ?_
        refine rInNormal ?_
        refine rThen ?_
        replace hT := sIf hT; obtain ⟨o1, hT⟩ := hT
        refine zReg md0 hX rfl rfl rfl ?_
        exact hnexts1 _ (Option.some.inj hT).symm _ (To.mk' [] 0 hε rfl (by repeat' first | exact True.intro | exact rfl | apply And.intro) (by repeat' first | exact True.intro | exact rfl | apply And.intro))
    · replace hT := sF hc hT
      refine rExit ?_
      refine rThenExit ?_
      refine rThenExit ?_
      exact zTo [] 0 hε (hxs11 _ (houts1 _ (Option.some.inj hT).symm))
  · cases h
def ref14_Forward_b2 (N : Nat) (a1 : (List Int)) (c1 : (Option (List Int))) (s1 : (Int × (List Int))) (s2 : (Int × Int)) : Option ((Int × Int) ⊕ (Int × Int × Int × Bool)) :=
  bif (decide (s2.2 < 64)) then
    if (0 : Int) ≤ s2.2 ∧ s2.2 < 64 ∧ (s2.2).toNat < 64 then
      let c4 := (ref01_Clip N (a1.getD (s2.2).toNat 0) (-2048) 2047)
      if ((decide ((a1.getD (s2.2).toNat 0) ≠ 0)) = true → (0 : Int) ≤ s1.1) ∧ ((decide ((a1.getD (s2.2).toNat 0) ≠ 0)) = true → (0 : Int) ≤ s2.2) ∧ ((decide ((a1.getD (s2.2).toNat 0) ≠ 0)) = true → (0 : Int) ≤ (s1.1 % 8)) ∧ ((decide ((a1.getD (s2.2).toNat 0) ≠ 0)) = true → (s1.1 % 8) < 8) ∧ ((decide ((a1.getD (s2.2).toNat 0) ≠ 0)) = true → (0 : Int) ≤ (s2.2 % 8)) ∧ ((decide ((a1.getD (s2.2).toNat 0) ≠ 0)) = true → (s2.2 % 8) < 8) ∧ ((decide ((a1.getD (s2.2).toNat 0) ≠ 0)) = true → ((s1.1 % 8).toNat * 8 + (s2.2 % 8).toNat) < 64) ∧ ((decide ((a1.getD (s2.2).toNat 0) ≠ 0)) = true → (0 : Int) ≤ (s1.1 / 8)) ∧ ((decide ((a1.getD (s2.2).toNat 0) ≠ 0)) = true → (s1.1 / 8) < 8) ∧ ((decide ((a1.getD (s2.2).toNat 0) ≠ 0)) = true → (0 : Int) ≤ (s2.2 / 8)) ∧ ((decide ((a1.getD (s2.2).toNat 0) ≠ 0)) = true → (s2.2 / 8) < 8) ∧ ((decide ((a1.getD (s2.2).toNat 0) ≠ 0)) = true → ((s1.1 / 8).toNat * 8 + (s2.2 / 8).toNat) < 64) ∧ ((decide ((a1.getD (s2.2).toNat 0) ≠ 0)) = true → inK .i64 (((c1.getD default).getD ((s1.1 % 8).toNat * 8 + (s2.2 % 8).toNat) 0) * ((c1.getD default).getD ((s1.1 / 8).toNat * 8 + (s2.2 / 8).toNat) 0))) ∧ ((decide ((a1.getD (s2.2).toNat 0) ≠ 0)) = true → s2.2 < 64) ∧ ((decide ((a1.getD (s2.2).toNat 0) ≠ 0)) = true → (s2.2).toNat < 64) ∧ ((decide ((a1.getD (s2.2).toNat 0) ≠ 0)) = true → c4.isSome = true) ∧ ((decide ((a1.getD (s2.2).toNat 0) ≠ 0)) = true → inK .i64 ((((c1.getD default).getD ((s1.1 % 8).toNat * 8 + (s2.2 % 8).toNat) 0) * ((c1.getD default).getD ((s1.1 / 8).toNat * 8 + (s2.2 / 8).toNat) 0)) * (c4.getD default))) ∧ ((decide ((a1.getD (s2.2).toNat 0) ≠ 0)) = true → inK .i64 (s2.1 + ((((c1.getD default).getD ((s1.1 % 8).toNat * 8 + (s2.2 % 8).toNat) 0) * ((c1.getD default).getD ((s1.1 / 8).toNat * 8 + (s2.2 / 8).toNat) 0)) * (c4.getD default)))) then
        let x1 := (bif (decide ((a1.getD (s2.2).toNat 0) ≠ 0)) then (s2.1 + ((((c1.getD default).getD ((s1.1 % 8).toNat * 8 + (s2.2 % 8).toNat) 0) * ((c1.getD default).getD ((s1.1 / 8).toNat * 8 + (s2.2 / 8).toNat) 0)) * (c4.getD default))) else s2.1)
        if inK .i64 (s2.2 + 1) then
          some (.inl (x1, (s2.2 + 1)))
        else none
      else none
    else none
  else
    some (.inr (s2.1, s2.2, s2.2, (decide (s2.2 < 64))))
def ref14_Forward_b1 (N : Nat) (a1 : (List Int)) (c1 : (Option (List Int))) (s1 : (Int × (List Int))) : Option ((Int × (List Int)) ⊕ (List Int)) :=
  bif (decide (s1.1 < 64)) then
    (iter (ref14_Forward_b2 N a1 c1 s1) N (0, 0)).bind fun v2 =>
      let c2 := (ref01_Round N v2.1 15)
      let c3 := (ref01_Clip N (c2.getD default) (-2048) 2047)
      if c2.isSome = true ∧ c3.isSome = true ∧ (0 : Int) ≤ s1.1 ∧ s1.1 < 64 ∧ (s1.1).toNat < 64 then
        if inK .i64 (s1.1 + 1) then
          some (.inl ((s1.1 + 1), (s1.2.set (s1.1).toNat (c3.getD default))))
        else none
      else none
  else
    some (.inr s1.2)
def ref14_Forward (N : Nat) (a1 : (List Int)) : Option (List Int) :=
  let c1 := (ref14_weights N)
  if c1.isSome = true then
    (iter (ref14_Forward_b1 N a1 c1) N (0, (List.replicate 64 0))).bind fun v1 =>
      some v1
  else none
def sp_ref14_Forward (N : Nat) : X.Spec := fun args lk => match args with
  | [.v (.agg [.ints 64 .i64 a1])] => some ⟨(ref14_Forward N a1).isSome = true, .v (.agg [.ints 64 .i64 ((ref14_Forward N a1).getD default)]), [], []⟩
  | _ => none
set_option maxRecDepth 100000 in
set_option maxHeartbeats 1000000 in
theorem ok_ref14_Forward (N : Nat) : FnOK Tryd.prog gt0 55 (sp_ref14_Forward N) := by
  refine fnOK_handed Tryd.func55 rfl (by kernel_rfl) tt_ok (ktCons (ok_ref01_Clip N) (ktCons (ok_ref01_Round N) (ktCons (ok_ref14_weights N) (ktNil)))) ?_
  intro args lk r h hp
  unfold sp_ref14_Forward at h
  split at h
  · rename_i a1
    change (List Int) at a1
    cases h
    obtain ⟨x, hx⟩ := Option.isSome_iff_exists.1 hp
    simp only [hx, Option.getD_some]
    refine hand0 rfl rfl (fun w0 M ε0 hX => ?_)
    refine rCount (fun hε => ?_)
    have hT : ref14_Forward N a1 = some x := hx; clear hx hp; unfold ref14_Forward at hT
    refine rSeq ?_
    refine zReg md0 hX rfl rfl rfl ?_
    refine rThen ?_
    refine rSeq ?_
    let c1 := (ref14_weights N)
    replace hT := sIf hT; obtain ⟨o1, hT⟩ := hT
    refine zReg md0 hX rfl rfl rfl ?_
    refine rThen ?_
    refine rSeq ?_
    refine zReg md0 hX rfl rfl rfl ?_
    refine rThen ?_
    refine rSeq ?_
    refine rSeq ?_
    refine zReg md0 hX rfl rfl rfl ?_
    refine rThen ?_
    refine rBlock ?_
    replace hT := sBind hT; obtain ⟨w1, hl, hT⟩ := hT
    refine rJoinA (fun v1 => v1 = w1) (fun v1 => ⟨[(2, .v (.c (.ptr 1 0 0 0 0 0))), (4, .v (.c (.ptr 3 0 0 0 0 0)))], [(1, .mem true 22 none (.flat [.ints 64 .i64 (List.replicate 64 0)])), (3, .mem true 22 none (.flat [.ints 64 .i64 v1]))], 4⟩) (.exit 0) (fun v1 hv => ?_) (fun hxs10 => ?_)
    · subst hv; clear hl
      refine rInHit ?_
      refine rThen ?_
      refine rSeq ?_
      refine zReg md0 hX rfl rfl rfl ?_
      refine rThen ?_
      refine rRet ?_
      have hy := Option.some.inj hT; subst hy
      exact zEnd0 hX rfl
    refine rLoopM (ref14_Forward_b1 N a1 c1) (fun s1 => ⟨[(1, .v (.c (.ptr 0 0 0 0 0 0))), (2, .v (.c (.ptr 1 0 0 0 0 0))), (3, .v (.c (.ptr 2 0 0 0 0 0))), (4, .v (.c (.ptr 3 0 0 0 0 0))), (5, .v (.c (.int .i64 s1.1)))], [(0, .mem true 22 none (.flat [.ints 64 .i64 a1])), (1, .mem true 22 none (.flat [.ints 64 .i64 (List.replicate 64 0)])), (2, .mem true 134 none (.flat [.ints 64 .i64 (c1.getD default)])), (3, .mem true 22 none (.flat [.ints 64 .i64 s1.2]))], 4⟩) hl (To.mk' [] 0 hε rfl (by repeat' first | exact True.intro | exact rfl | apply And.intro) (by repeat' first | exact True.intro | exact rfl | apply And.intro)) (fun s1 zs1 NNs1 hz hnexts1 houts1 => ?_)
    clear hl hT
    have hT := hz; clear hz
    refine rSeq ?_
    refine rSeq ?_
    refine zReg md0 hX rfl rfl rfl ?_
    refine rThen ?_
    refine zCond rfl rfl (fun hc => ?_) (fun hc => ?_)
    · replace hT := sT hc hT
      refine rSkip ?_
      refine rThen ?_
      refine rSeq ?_
      refine rBlock ?_
      refine rSeq ?_
      refine zReg md0 hX rfl rfl rfl ?_
      refine rThen ?_
      refine rSeq ?_
      refine rSeq ?_
      refine zReg md0 hX rfl rfl rfl ?_
      refine rThen ?_
      refine rBlock ?_
      replace hT := sBind hT; obtain ⟨w2, hl, hT⟩ := hT
      refine rJoinA (fun v2 => v2 = w2) (fun v2 => ⟨[(1, .v (.c (.ptr 0 0 0 0 0 0))), (2, .v (.c (.ptr 1 0 0 0 0 0))), (3, .v (.c (.ptr 2 0 0 0 0 0))), (4, .v (.c (.ptr 3 0 0 0 0 0))), (5, .v (.c (.int .i64 s1.1))), (6, .v (.c (.int .i64 v2.1))), (7, .v (.c (.int .i64 v2.2.1))), (9, .v (.c (.int .i64 s1.1))), (10, .v (.c (.bool (decide (s1.1 < 64))))), (13, .v (.c (.int .i64 v2.2.2.1))), (14, .v (.c (.bool v2.2.2.2)))], [(0, .mem true 22 none (.flat [.ints 64 .i64 a1])), (1, .mem true 22 none (.flat [.ints 64 .i64 (List.replicate 64 0)])), (2, .mem true 134 none (.flat [.ints 64 .i64 (c1.getD default)])), (3, .mem true 22 none (.flat [.ints 64 .i64 s1.2]))], 4⟩) (.exit 2) (fun v2 hv => ?_) (fun hxs20 => ?_)
      · subst hv; clear hl
        refine rInHit ?_
        refine rThen ?_
        let c2 := (ref01_Round N v2.1 15)
        let c3 := (ref01_Clip N (c2.getD default) (-2048) 2047)
        replace hT := sIf hT; obtain ⟨⟨o1, o2, o3, o4, o5⟩, hT⟩ := hT
        refine zReg md0 hX rfl rfl rfl ?_
        refine rInNormal ?_
        refine rThen ?_
        replace hT := sIf hT; obtain ⟨o1, hT⟩ := hT
        refine zReg md0 hX rfl rfl rfl ?_
        exact hnexts1 _ (Option.some.inj hT).symm _ (To.mk' [] 0 hε rfl (by repeat' first | exact True.intro | exact rfl | apply And.intro) (by repeat' first | exact True.intro | exact rfl | apply And.intro))
      refine rLoopM (ref14_Forward_b2 N a1 c1 s1) (fun s2 => ⟨[(1, .v (.c (.ptr 0 0 0 0 0 0))), (2, .v (.c (.ptr 1 0 0 0 0 0))), (3, .v (.c (.ptr 2 0 0 0 0 0))), (4, .v (.c (.ptr 3 0 0 0 0 0))), (5, .v (.c (.int .i64 s1.1))), (6, .v (.c (.int .i64 s2.1))), (7, .v (.c (.int .i64 s2.2))), (9, .v (.c (.int .i64 s1.1))), (10, .v (.c (.bool (decide (s1.1 < 64)))))], [(0, .mem true 22 none (.flat [.ints 64 .i64 a1])), (1, .mem true 22 none (.flat [.ints 64 .i64 (List.replicate 64 0)])), (2, .mem true 134 none (.flat [.ints 64 .i64 (c1.getD default)])), (3, .mem true 22 none (.flat [.ints 64 .i64 s1.2]))], 4⟩) hl (To.mk' [] 0 hε rfl (by repeat' first | exact True.intro | exact rfl | apply And.intro) (by repeat' first | exact True.intro | exact rfl | apply And.intro)) (fun s2 zs2 NNs2 hz hnexts2 houts2 => ?_)
      clear hl hT
      have hT := hz; clear hz
      refine rSeq ?_
      refine rSeq ?_
      refine zReg md0 hX rfl rfl rfl ?_
      refine rThen ?_
      refine zCond rfl rfl (fun hc => ?_) (fun hc => ?_)
      · replace hT := sT hc hT
        refine rSkip ?_
        refine rThen ?_
        refine rSeq ?_
        refine rBlock ?_
        refine rSeq ?_
        replace hT := sIf hT; obtain ⟨⟨o1, o2, o3⟩, hT⟩ := hT
        refine zReg md0 hX rfl rfl rfl ?_
        refine rThen ?_
        let c4 := (ref01_Clip N (a1.getD (s2.2).toNat 0) (-2048) 2047)
        replace hT := sIf hT; obtain ⟨⟨q1, q2, q3, q4, q5, q6, q7, q8, q9, q10, q11, q12, q13, q14, q15, q16, q17, q18⟩, hT⟩ := hT
        refine rJoin ⟨[(1, .v (.c (.ptr 0 0 0 0 0 0))), (2, .v (.c (.ptr 1 0 0 0 0 0))), (3, .v (.c (.ptr 2 0 0 0 0 0))), (4, .v (.c (.ptr 3 0 0 0 0 0))), (5, .v (.c (.int .i64 s1.1))), (6, .v (.c (.int .i64 (bif (decide ((a1.getD (s2.2).toNat 0) ≠ 0)) then (s2.1 + ((((c1.getD default).getD ((s1.1 % 8).toNat * 8 + (s2.2 % 8).toNat) 0) * ((c1.getD default).getD ((s1.1 / 8).toNat * 8 + (s2.2 / 8).toNat) 0)) * (c4.getD default))) else s2.1)))), (7, .v (.c (.int .i64 s2.2))), (9, .v (.c (.int .i64 s1.1))), (10, .v (.c (.bool (decide (s1.1 < 64))))), (13, .v (.c (.int .i64 s2.2))), (14, .v (.c (.bool (decide (s2.2 < 64))))), (17, .v (.c (.int .i64 s2.2))), (18, .v (.c (.ptr 0 0 0 0 1 (s2.2).toNat))), (19, .v (.c (.int .i64 (a1.getD (s2.2).toNat 0)))), (20, .v (.c (.bool (decide ((a1.getD (s2.2).toNat 0) ≠ 0)))))], [(0, .mem true 22 none (.flat [.ints 64 .i64 a1])), (1, .mem true 22 none (.flat [.ints 64 .i64 (List.replicate 64 0)])), (2, .mem true 134 none (.flat [.ints 64 .i64 (c1.getD default)])), (3, .mem true 22 none (.flat [.ints 64 .i64 s1.2]))], 4⟩ ?_ (fun hj => ?_)
        · skip
          let x1 := (bif (decide ((a1.getD (s2.2).toNat 0) ≠ 0)) then (s2.1 + ((((c1.getD default).getD ((s1.1 % 8).toNat * 8 + (s2.2 % 8).toNat) 0) * ((c1.getD default).getD ((s1.1 / 8).toNat * 8 + (s2.2 / 8).toNat) 0)) * (c4.getD default))) else s2.1)
          refine rInNormal ?_
          refine rThen ?_
          replace hT := sIf hT; obtain ⟨o1, hT⟩ := hT
          refine zReg md0 hX rfl rfl rfl ?_
          exact hnexts2 _ (Option.some.inj hT).symm _ (To.mk' [] 0 hε rfl (by repeat' first | exact True.intro | exact rfl | apply And.intro) (by repeat' first | exact True.intro | exact rfl | apply And.intro))
        · clear hT
          refine zCond rfl rfl (fun hc => ?_) (fun hc => ?_)
          · skip
            have q1 := q1 hc
            have q2 := q2 hc
            have q3 := q3 hc
            have q4 := q4 hc
            have q5 := q5 hc
            have q6 := q6 hc
            have q7 := q7 hc
            have q8 := q8 hc
            have q9 := q9 hc
            have q10 := q10 hc
            have q11 := q11 hc
            have q12 := q12 hc
            have q13 := q13 hc
            have q14 := q14 hc
            have q15 := q15 hc
            have q16 := q16 hc
            have q17 := q17 hc
            have q18 := q18 hc
            refine zDraw md0 1 [22] hX mixed rfl rfl rfl rfl rfl ?_
            exact rTo (To.mk' [] 0 hε rfl (by (repeat' first | exact True.intro | exact rfl | apply And.intro) <;> (repeat' first | exact rfl | refine Eq.trans ?_ (cTr (by assumption)) | refine Eq.trans ?_ (cFr (by assumption)) | refine Eq.trans (cTl (by assumption)) ?_ | refine Eq.trans (cFl (by assumption)) ?_)) (by (repeat' first | exact True.intro | exact rfl | apply And.intro) <;> (repeat' first | exact rfl | refine Eq.trans ?_ (cTr (by assumption)) | refine Eq.trans ?_ (cFr (by assumption)) | refine Eq.trans (cTl (by assumption)) ?_ | refine Eq.trans (cFl (by assumption)) ?_))) hj
          · skip
            refine rSkip ?_
            exact rTo (To.mk' [] 0 hε rfl (by (repeat' first | exact True.intro | exact rfl | apply And.intro) <;> (repeat' first | exact rfl | refine Eq.trans ?_ (cTr (by assumption)) | refine Eq.trans ?_ (cFr (by assumption)) | refine Eq.trans (cTl (by assumption)) ?_ | refine Eq.trans (cFl (by assumption)) ?_)) (by (repeat' first | exact True.intro | exact rfl | apply And.intro) <;> (repeat' first | exact rfl | refine Eq.trans ?_ (cTr (by assumption)) | refine Eq.trans ?_ (cFr (by assumption)) | refine Eq.trans (cTl (by assumption)) ?_ | refine Eq.trans (cFl (by assumption)) ?_))) hj
      · replace hT := sF hc hT
        refine rExit ?_
        refine rThenExit ?_
        refine rThenExit ?_
        exact zTo [] 0 hε (hxs20 _ (houts2 _ (Option.some.inj hT).symm))
    · replace hT := sF hc hT
      refine rExit ?_
      refine rThenExit ?_
      refine rThenExit ?_
      exact zTo [] 0 hε (hxs10 _ (houts1 _ (Option.some.inj hT).symm))
  · cases h
def ref13_amount_b1 (N : Nat) (a1 : Int) (a2 : Int) (s1 : Int) : Option (Int ⊕ Int) :=
  if ((decide (s1 < 127)) = true → inK .i64 (s1 + 1)) ∧ ((decide (s1 < 127)) = true → inK .i64 ((s1 + 1) * a2)) then
    bif (bif (decide (s1 < 127)) then (decide (((s1 + 1) * a2) ≤ a1)) else false) then
      if inK .i64 (s1 + 1) then
        some (.inl (s1 + 1))
      else none
    else
      some (.inr s1)
  else none
def ref13_amount (N : Nat) (a1 : Int) (a2 : Int) : Option Int :=
  (iter (ref13_amount_b1 N a1 a2) N 0).bind fun v1 =>
    some v1
def sp_ref13_amount (N : Nat) : X.Spec := fun args lk => match args with
  | [.v (.c (.int .i64 a1)), .v (.c (.int .i64 a2))] => some ⟨(ref13_amount N a1 a2).isSome = true, .v (.c (.int .i64 ((ref13_amount N a1 a2).getD default))), [], []⟩
  | _ => none
set_option maxRecDepth 100000 in
set_option maxHeartbeats 1000000 in
theorem ok_ref13_amount (N : Nat) : FnOK Tryd.prog gt0 142 (sp_ref13_amount N) := by
  refine fnOK_handed Tryd.func142 rfl (by kernel_rfl) tt_ok (ktNil) ?_
  intro args lk r h hp
  unfold sp_ref13_amount at h
  split at h
  · rename_i a1 a2
    cases h
    obtain ⟨x, hx⟩ := Option.isSome_iff_exists.1 hp
    simp only [hx, Option.getD_some]
    refine hand0 rfl rfl (fun w0 M ε0 hX => ?_)
    refine rCount (fun hε => ?_)
    have hT : ref13_amount N a1 a2 = some x := hx; clear hx hp; unfold ref13_amount at hT
    refine rSeq ?_
    refine zReg md0 hX rfl rfl rfl ?_
    refine rThen ?_
    refine rSeq ?_
    refine zReg md0 hX rfl rfl rfl ?_
    refine rThen ?_
    refine rSeq ?_
    refine rBlock ?_
    replace hT := sBind hT; obtain ⟨w1, hl, hT⟩ := hT
    refine rJoinA (fun v1 => v1 = w1) (fun v1 => ⟨[(4, .v (.c (.int .i64 0))), (5, .v (.c (.int .i64 v1)))], [], 0⟩) (.exit 0) (fun v1 hv => ?_) (fun hxs10 => ?_)
    · subst hv; clear hl
      refine rInHit ?_
      refine rThen ?_
      refine rSeq ?_
      refine zReg md0 hX rfl rfl rfl ?_
      refine rThen ?_
      refine rRet ?_
      have hy := Option.some.inj hT; subst hy
      exact zEnd0 hX rfl
    refine rLoopM (ref13_amount_b1 N a1 a2) (fun s1 => ⟨[(0, .v (.c (.int .i64 a1))), (1, .v (.c (.int .i64 a2))), (4, .v (.c (.int .i64 0))), (5, .v (.c (.int .i64 s1)))], [], 0⟩) hl (To.mk' [] 0 hε rfl (by repeat' first | exact True.intro | exact rfl | apply And.intro) (by repeat' first | exact True.intro | exact rfl | apply And.intro)) (fun s1 zs1 NNs1 hz hnexts1 houts1 => ?_)
    clear hl hT
    have hT := hz; clear hz
    refine rSeq ?_
    refine rSeq ?_
    replace hT := sIf hT; obtain ⟨⟨o1, o2⟩, hT⟩ := hT
    refine rRegC md0 hX rfl rfl rfl (by (repeat' first | exact True.intro | with_reducible assumption | (with_reducible apply And.intro) | intro _) <;> first | assumption | exact o1 (by assumption) | exact o2 (by assumption) | exact rfl | omega | exact Nat.le_of_ble_eq_true rfl | exact selF (by assumption) | exact selT (by assumption) | exact And.intro rfl rfl | exact And.intro (by assumption) rfl | exact And.intro (by omega) rfl | (simp only [inK] at *; omega) | (simp_all [sel] <;> fail) | fail) ?_
    refine rThen ?_
    refine zCond rfl rfl (fun hc => ?_) (fun hc => ?_)
    · replace hT := sT hc hT
      refine rSkip ?_
      refine rThen ?_
      refine rBlock ?_
      replace hT := sIf hT; obtain ⟨o1, hT⟩ := hT
      refine zReg md0 hX rfl rfl rfl ?_
      refine rInNormal ?_
      exact hnexts1 _ (Option.some.inj hT).symm _ (To.mk' [] 0 hε rfl (by repeat' first | exact True.intro | exact rfl | apply And.intro) (by repeat' first | exact True.intro | exact rfl | apply And.intro))
    · replace hT := sF hc hT
      refine rExit ?_
      refine rThenExit ?_
      refine rThenExit ?_
      exact zTo [] 0 hε (hxs10 _ (houts1 _ (Option.some.inj hT).symm))
  · cases h
def ref13_Level (N : Nat) (a1 : Int) (a2 : Int) (a3 : Bool) : Option Int :=
  let c1 := (ref01_Clip N a2 1 31)
  if c1.isSome = true then
    let c2 := (ref01_Clip N a1 (-2048) 2047)
    if c2.isSome = true then
      if (0 : Int) ≤ (c1.getD default) then
        bif (decide ((c2.getD default) < 0)) then
          let c3 := (ref13_amount N ((-(c2.getD default)) - (bif a3 then 0 else ((c1.getD default) / 2))) ((2 : Int) * (c1.getD default)))
          if inK .i64 (-(c2.getD default)) ∧ inK .i64 ((-(c2.getD default)) - (bif a3 then 0 else ((c1.getD default) / 2))) ∧ inK .i64 ((2 : Int) * (c1.getD default)) ∧ c3.isSome = true ∧ inK .i64 (-(c3.getD default)) then
            some (-(c3.getD default))
          else none
        else
          let c4 := (ref13_amount N ((c2.getD default) - (bif a3 then 0 else ((c1.getD default) / 2))) ((2 : Int) * (c1.getD default)))
          if inK .i64 ((c2.getD default) - (bif a3 then 0 else ((c1.getD default) / 2))) ∧ inK .i64 ((2 : Int) * (c1.getD default)) ∧ c4.isSome = true then
            some (c4.getD default)
          else none
      else none
    else none
  else none
def sp_ref13_Level (N : Nat) : X.Spec := fun args lk => match args with
  | [.v (.c (.int .i64 a1)), .v (.c (.int .i64 a2)), .v (.c (.bool a3))] => some ⟨(ref13_Level N a1 a2 a3).isSome = true, .v (.c (.int .i64 ((ref13_Level N a1 a2 a3).getD default))), [], []⟩
  | _ => none
set_option maxRecDepth 100000 in
set_option maxHeartbeats 1000000 in
theorem ok_ref13_Level (N : Nat) : FnOK Tryd.prog gt0 113 (sp_ref13_Level N) := by
  refine fnOK_handed Tryd.func113 rfl (by kernel_rfl) tt_ok (ktCons (ok_ref13_amount N) (ktCons (ok_ref01_Clip N) (ktNil))) ?_
  intro args lk r h hp
  unfold sp_ref13_Level at h
  split at h
  · rename_i a1 a2 a3
    cases h
    obtain ⟨x, hx⟩ := Option.isSome_iff_exists.1 hp
    simp only [hx, Option.getD_some]
    refine hand0 rfl rfl (fun w0 M ε0 hX => ?_)
    refine rCount (fun hε => ?_)
    have hT : ref13_Level N a1 a2 a3 = some x := hx; clear hx hp; unfold ref13_Level at hT
    refine rSeq ?_
    refine zReg md0 hX rfl rfl rfl ?_
    refine rThen ?_
    refine rSeq ?_
    let c1 := (ref01_Clip N a2 1 31)
    replace hT := sIf hT; obtain ⟨o1, hT⟩ := hT
    refine zReg md0 hX rfl rfl rfl ?_
    refine rThen ?_
    refine rSeq ?_
    let c2 := (ref01_Clip N a1 (-2048) 2047)
    replace hT := sIf hT; obtain ⟨o1, hT⟩ := hT
    refine zReg md0 hX rfl rfl rfl ?_
    refine rThen ?_
    refine rSeq ?_
    replace hT := sIf hT; obtain ⟨o1, hT⟩ := hT
    refine zReg md0 hX rfl rfl rfl ?_
    refine rThen ?_
    refine rSeq ?_
    refine rSeq ?_
    refine zReg md0 hX rfl rfl rfl ?_
    refine rThen ?_
    refine rJoin ⟨[(6, .v (.c (.int .i64 0))), (7, .v (.c (.int .i64 (c1.getD default)))), (8, .v (.c (.int .i64 (c2.getD default)))), (9, .v (.c (.int .i64 (bif a3 then 0 else ((c1.getD default) / 2)))))], [], 0⟩ ?_ (fun hj => ?_)
    · skip
      refine rThen ?_
      refine rSeq ?_
      refine rSeq ?_
      refine zReg md0 hX rfl rfl rfl ?_
      refine rThen ?_
      refine zCond rfl rfl (fun hc => ?_) (fun hc => ?_)
      · replace hT := sT hc hT
        refine rSeq ?_
        let c3 := (ref13_amount N ((-(c2.getD default)) - (bif a3 then 0 else ((c1.getD default) / 2))) ((2 : Int) * (c1.getD default)))
        replace hT := sIf hT; obtain ⟨⟨o1, o2, o3, o4, o5⟩, hT⟩ := hT
        refine zReg md0 hX rfl rfl rfl ?_
        refine rThen ?_
        refine rRet ?_
        refine rThenRet ?_
        have hy := Option.some.inj hT; subst hy
        exact zEnd0 hX rfl
      · replace hT := sF hc hT
        refine rSkip ?_
        refine rThen ?_
        refine rSeq ?_
        let c4 := (ref13_amount N ((c2.getD default) - (bif a3 then 0 else ((c1.getD default) / 2))) ((2 : Int) * (c1.getD default)))
        replace hT := sIf hT; obtain ⟨⟨o1, o2, o3⟩, hT⟩ := hT
        refine zReg md0 hX rfl rfl rfl ?_
        refine rThen ?_
        refine rRet ?_
        have hy := Option.some.inj hT; subst hy
        exact zEnd0 hX rfl
    · clear hT
      refine zCond rfl rfl (fun hc => ?_) (fun hc => ?_)
      · skip
        refine zReg md0 hX rfl rfl rfl ?_
        exact rTo (To.mk' [] 0 hε rfl (by (repeat' first | exact True.intro | exact rfl | apply And.intro) <;> (repeat' first | exact rfl | refine Eq.trans ?_ (cTr (by assumption)) | refine Eq.trans ?_ (cFr (by assumption)) | refine Eq.trans (cTl (by assumption)) ?_ | refine Eq.trans (cFl (by assumption)) ?_)) (by (repeat' first | exact True.intro | exact rfl | apply And.intro) <;> (repeat' first | exact rfl | refine Eq.trans ?_ (cTr (by assumption)) | refine Eq.trans ?_ (cFr (by assumption)) | refine Eq.trans (cTl (by assumption)) ?_ | refine Eq.trans (cFl (by assumption)) ?_))) hj
      · skip
        refine rSkip ?_
        exact rTo (To.mk' [] 0 hε rfl (by (repeat' first | exact True.intro | exact rfl | apply And.intro) <;> (repeat' first | exact rfl | refine Eq.trans ?_ (cTr (by assumption)) | refine Eq.trans ?_ (cFr (by assumption)) | refine Eq.trans (cTl (by assumption)) ?_ | refine Eq.trans (cFl (by assumption)) ?_)) (by (repeat' first | exact True.intro | exact rfl | apply And.intro) <;> (repeat' first | exact rfl | refine Eq.trans ?_ (cTr (by assumption)) | refine Eq.trans ?_ (cFr (by assumption)) | refine Eq.trans (cTl (by assumption)) ?_ | refine Eq.trans (cFl (by assumption)) ?_))) hj
  · cases h
def ref13_Block_b1 (N : Nat) (a1 : (List Int)) (a2 : Int) (a3 : Bool) (s1 : (Int × (List Int))) : Option ((Int × (List Int)) ⊕ (List Int)) :=
  bif (decide (s1.1 < 64)) then
    joinK (fun (v2 : (List Int)) =>
      if inK .i64 (s1.1 + 1) then
        some (.inl ((s1.1 + 1), v2))
      else none
    ) fun k1 =>
      bif (bif (decide ((0 : Int) < s1.1)) then true else (!a3)) then
        let c1 := (ref13_Level N (a1.getD (s1.1).toNat 0) a2 a3)
        if (0 : Int) ≤ s1.1 ∧ s1.1 < 64 ∧ (s1.1).toNat < 64 ∧ c1.isSome = true then
          k1 (s1.2.set (s1.1).toNat (c1.getD default))
        else none
      else
        k1 s1.2
  else
    some (.inr s1.2)
def ref13_Block (N : Nat) (a1 : (List Int)) (a2 : Int) (a3 : Bool) : Option (List Int) :=
  (iter (ref13_Block_b1 N a1 a2 a3) N (0, (List.replicate 64 0))).bind fun v1 =>
    some v1
def sp_ref13_Block (N : Nat) : X.Spec := fun args lk => match args with
  | [.v (.agg [.ints 64 .i64 a1]), .v (.c (.int .i64 a2)), .v (.c (.bool a3))] => some ⟨(ref13_Block N a1 a2 a3).isSome = true, .v (.agg [.ints 64 .i64 ((ref13_Block N a1 a2 a3).getD default)]), [], []⟩
  | _ => none
set_option maxRecDepth 100000 in
set_option maxHeartbeats 1000000 in
theorem ok_ref13_Block (N : Nat) : FnOK Tryd.prog gt0 57 (sp_ref13_Block N) := by
  refine fnOK_handed Tryd.func57 rfl (by kernel_rfl) tt_ok (ktCons (ok_ref13_Level N) (ktNil)) ?_
  intro args lk r h hp
  unfold sp_ref13_Block at h
  split at h
  · rename_i a1 a2 a3
    change (List Int) at a1
    cases h
    obtain ⟨x, hx⟩ := Option.isSome_iff_exists.1 hp
    simp only [hx, Option.getD_some]
    refine hand0 rfl rfl (fun w0 M ε0 hX => ?_)
    refine rCount (fun hε => ?_)
    have hT : ref13_Block N a1 a2 a3 = some x := hx; clear hx hp; unfold ref13_Block at hT
    refine rSeq ?_
    refine zReg md0 hX rfl rfl rfl ?_
    refine rThen ?_
    refine rSeq ?_
    refine zReg md0 hX rfl rfl rfl ?_
    refine rThen ?_
    refine rSeq ?_
    refine rSeq ?_
    refine zReg md0 hX rfl rfl rfl ?_
    refine rThen ?_
    refine rBlock ?_
    replace hT := sBind hT; obtain ⟨w1, hl, hT⟩ := hT
    refine rJoinA (fun v1 => v1 = w1) (fun v1 => ⟨[(6, .v (.c (.ptr 1 0 0 0 0 0))), (7, .v (.c (.ptr 2 0 0 0 0 0)))], [(1, .mem true 22 none (.flat [.ints 64 .i64 (List.replicate 64 0)])), (2, .mem true 22 none (.flat [.ints 64 .i64 v1]))], 3⟩) (.exit 0) (fun v1 hv => ?_) (fun hxs10 => ?_)
    · subst hv; clear hl
      refine rInHit ?_
      refine rThen ?_
      refine rSeq ?_
      refine zReg md0 hX rfl rfl rfl ?_
      refine rThen ?_
      refine rRet ?_
      have hy := Option.some.inj hT; subst hy
      exact zEnd0 hX rfl
    refine rLoopM (ref13_Block_b1 N a1 a2 a3) (fun s1 => ⟨[(1, .v (.c (.int .i64 a2))), (2, .v (.c (.bool a3))), (3, .v (.c (.ptr 0 0 0 0 0 0))), (6, .v (.c (.ptr 1 0 0 0 0 0))), (7, .v (.c (.ptr 2 0 0 0 0 0))), (8, .v (.c (.int .i64 s1.1)))], [(0, .mem true 22 none (.flat [.ints 64 .i64 a1])), (1, .mem true 22 none (.flat [.ints 64 .i64 (List.replicate 64 0)])), (2, .mem true 22 none (.flat [.ints 64 .i64 s1.2]))], 3⟩) hl (To.mk' [] 0 hε rfl (by repeat' first | exact True.intro | exact rfl | apply And.intro) (by repeat' first | exact True.intro | exact rfl | apply And.intro)) (fun s1 zs1 NNs1 hz hnexts1 houts1 => ?_)
    clear hl hT
    have hT := hz; clear hz
    refine rSeq ?_
    refine rSeq ?_
    refine zReg md0 hX rfl rfl rfl ?_
    refine rThen ?_
    refine zCond rfl rfl (fun hc => ?_) (fun hc => ?_)
    · replace hT := sT hc hT
      refine rSkip ?_
      refine rThen ?_
      refine rSeq ?_
      refine rBlock ?_
      refine rSeq ?_
      refine zReg md0 hX rfl rfl rfl ?_
      refine rThen ?_
      refine rJoinK hT (fun v2 => ⟨[(1, .v (.c (.int .i64 a2))), (2, .v (.c (.bool a3))), (3, .v (.c (.ptr 0 0 0 0 0 0))), (6, .v (.c (.ptr 1 0 0 0 0 0))), (7, .v (.c (.ptr 2 0 0 0 0 0))), (8, .v (.c (.int .i64 s1.1))), (9, .v (.c (.int .i64 s1.1))), (10, .v (.c (.bool (decide (s1.1 < 64))))), (13, .v (.c (.int .i64 s1.1))), (14, .v (.c (.bool (decide ((0 : Int) < s1.1))))), (15, .v (.c (.bool (decide ((0 : Int) < s1.1))))), (18, .v (.c (.bool (bif (decide ((0 : Int) < s1.1)) then true else (!a3)))))], [(0, .mem true 22 none (.flat [.ints 64 .i64 a1])), (1, .mem true 22 none (.flat [.ints 64 .i64 (List.replicate 64 0)])), (2, .mem true 22 none (.flat [.ints 64 .i64 v2]))], 3⟩) (fun v2 hT => ?_) (fun k1 hjk1 hT => ?_)
      · skip
        refine rInNormal ?_
        refine rThen ?_
        replace hT := sIf hT; obtain ⟨o1, hT⟩ := hT
        refine zReg md0 hX rfl rfl rfl ?_
        exact hnexts1 _ (Option.some.inj hT).symm _ (To.mk' [] 0 hε rfl (by repeat' first | exact True.intro | exact rfl | apply And.intro) (by repeat' first | exact True.intro | exact rfl | apply And.intro))
      · skip
        refine zCond rfl rfl (fun hc => ?_) (fun hc => ?_)
        · replace hT := sT hc hT
          let c1 := (ref13_Level N (a1.getD (s1.1).toNat 0) a2 a3)
          replace hT := sIf hT; obtain ⟨⟨o1, o2, o3, o4⟩, hT⟩ := hT
          refine zReg md0 hX rfl rfl rfl ?_
          exact zTo [] 0 hε (hjk1 _ hT)
        · replace hT := sF hc hT
          refine rSkip ?_
          exact zTo [] 0 hε (hjk1 _ hT)
    · replace hT := sF hc hT
      refine rExit ?_
      refine rThenExit ?_
      refine rThenExit ?_
      exact zTo [] 0 hε (hxs10 _ (houts1 _ (Option.some.inj hT).symm))
  · cases h
def ref35_Block_b1 (N : Nat) (c1 : (Option Int)) (x1 : (List Int)) (s1 : (Int × (List Int) × (List Int))) : Option ((Int × (List Int) × (List Int)) ⊕ ((List Int) × (List Int))) :=
  bif (decide (s1.1 < 64)) then
    let c7 := (ref01_Clip N (s1.2.1.getD (s1.1).toNat 0) (-127) 127)
    if (0 : Int) ≤ s1.1 ∧ s1.1 < 64 ∧ (s1.1).toNat < 64 ∧ c7.isSome = true then
      let c8 := (ref12_Value N ((s1.2.1.set (s1.1).toNat (c7.getD default)).getD (s1.1).toNat 0) (c1.getD default))
      if (0 : Int) ≤ s1.1 ∧ s1.1 < 64 ∧ (s1.1).toNat < 64 ∧ c8.isSome = true then
        let x4 := ((s1.2.2.set (s1.1).toNat (c8.getD default)).set (s1.1).toNat (((s1.2.2.set (s1.1).toNat (c8.getD default)).getD (s1.1).toNat 0) + (x1.getD (s1.1).toNat 0)))
        if (0 : Int) ≤ s1.1 ∧ s1.1 < 64 ∧ (s1.1).toNat < 64 ∧ inK .i64 (((s1.2.2.set (s1.1).toNat (c8.getD default)).getD (s1.1).toNat 0) + (x1.getD (s1.1).toNat 0)) then
          if inK .i64 (s1.1 + 1) then
            some (.inl ((s1.1 + 1), (s1.2.1.set (s1.1).toNat (c7.getD default)), x4))
          else none
        else none
      else none
    else none
  else
    some (.inr (s1.2.1, s1.2.2))
def ref35_Block (N : Nat) (a1 : (List Int)) (a2 : (List Int)) (a3 : Int) (a4 : Int) (a5 : Bool) : Option (List Int) :=
  let c1 := (ref01_Clip N a3 1 31)
  if c1.isSome = true then
    let c2 := (ref01_Clip N a4 1 31)
    if c2.isSome = true then
      let c3 := (ref35_nought N a2)
      if ((!a5) = true → c3.isSome = true) then
        let c4 := (ref14_Forward N a2)
        if ((bif (!a5) then (!(c3.getD default)) else false) = true → c4.isSome = true) then
          let x1 := (bif (bif (!a5) then (!(c3.getD default)) else false) then (c4.getD default) else (List.replicate 64 0))
          (iter (ref35_Block_b1 N c1 x1) N (0, a1, (List.replicate 64 0))).bind fun v1 =>
            let c5 := (ref35_nought N a2)
            let x2 := (bif (decide ((c1.getD default) = (c2.getD default))) then (bif a5 then true else (c5.getD default)) else false)
            if (((decide ((c1.getD default) = (c2.getD default))) && (!a5)) = true → c5.isSome = true) ∧ ((decide ((c1.getD default) = (c2.getD default))) = true → (a5 = false → ((decide ((c1.getD default) = (c2.getD default))) && (!a5)) = true)) then
              bif x2 then
                some (bif a5 then (v1.1.set 0 0) else v1.1)
              else
                let c6 := (ref13_Block N v1.2 (c2.getD default) a5)
                if c6.isSome = true then
                  some (c6.getD default)
                else none
            else none
        else none
      else none
    else none
  else none
def sp_ref35_Block (N : Nat) : X.Spec := fun args lk => match args with
  | [.v (.agg [.ints 64 .i64 a1]), .v (.agg [.ints 64 .i64 a2]), .v (.c (.int .i64 a3)), .v (.c (.int .i64 a4)), .v (.c (.bool a5))] => some ⟨(ref35_Block N a1 a2 a3 a4 a5).isSome = true, .v (.agg [.ints 64 .i64 ((ref35_Block N a1 a2 a3 a4 a5).getD default)]), [], []⟩
  | _ => none
set_option maxRecDepth 100000 in
set_option maxHeartbeats 1000000 in
theorem ok_ref35_Block (N : Nat) : FnOK Tryd.prog gt0 14 (sp_ref35_Block N) := by
  refine fnOK_handed Tryd.func14 rfl (by kernel_rfl) tt_ok (ktCons (ok_ref12_Value N) (ktCons (ok_ref13_Block N) (ktCons (ok_ref14_Forward N) (ktCons (ok_ref35_nought N) (ktCons (ok_ref01_Clip N) (ktNil)))))) ?_
  intro args lk r h hp
  unfold sp_ref35_Block at h
  split at h
  · rename_i a1 a2 a3 a4 a5
    change (List Int) at a1
    change (List Int) at a2
    cases h
    obtain ⟨x, hx⟩ := Option.isSome_iff_exists.1 hp
    simp only [hx, Option.getD_some]
    refine hand0 rfl rfl (fun w0 M ε0 hX => ?_)
    refine rCount (fun hε => ?_)
    have hT : ref35_Block N a1 a2 a3 a4 a5 = some x := hx; clear hx hp; unfold ref35_Block at hT
    refine rSeq ?_
    refine zReg md0 hX rfl rfl rfl ?_
    refine rThen ?_
    refine rSeq ?_
    let c1 := (ref01_Clip N a3 1 31)
    replace hT := sIf hT; obtain ⟨o1, hT⟩ := hT
    refine zReg md0 hX rfl rfl rfl ?_
    refine rThen ?_
    refine rSeq ?_
    let c2 := (ref01_Clip N a4 1 31)
    replace hT := sIf hT; obtain ⟨o1, hT⟩ := hT
    refine zReg md0 hX rfl rfl rfl ?_
    refine rThen ?_
    refine rSeq ?_
    refine zReg md0 hX rfl rfl rfl ?_
    refine rThen ?_
    refine rSeq ?_
    refine zReg md0 hX rfl rfl rfl ?_
    refine rThen ?_
    refine rSeq ?_
    refine rSeq ?_
    let c3 := (ref35_nought N a2)
    replace hT := sIf hT; obtain ⟨o1, hT⟩ := hT
    refine rRegC md0 hX rfl rfl rfl (by (repeat' first | exact True.intro | with_reducible assumption | (with_reducible apply And.intro) | intro _) <;> first | assumption | exact o1 (by assumption) | exact rfl | omega | exact Nat.le_of_ble_eq_true rfl | exact selF (by assumption) | exact selT (by assumption) | exact And.intro rfl rfl | exact And.intro (by assumption) rfl | exact And.intro (by omega) rfl | (simp only [inK] at *; omega) | (simp_all [sel] <;> fail) | fail) ?_
    refine rThen ?_
    let c4 := (ref14_Forward N a2)
    replace hT := sIf hT; obtain ⟨q1, hT⟩ := hT
    refine rJoin ⟨[(2, .v (.c (.int .i64 (c1.getD default)))), (3, .v (.c (.int .i64 (c2.getD default)))), (4, .v (.c (.bool a5))), (5, .v (.c (.ptr 0 0 0 0 0 0))), (6, .v (.c (.ptr 1 0 0 0 0 0))), (10, .v (.c (.ptr 2 0 0 0 0 0))), (11, .v (.c (.ptr 3 0 0 0 0 0))), (12, .v (.c (.ptr 4 0 0 0 0 0)))], [(0, .mem true 22 none (.flat [.ints 64 .i64 a1])), (1, .mem true 22 none (.flat [.ints 64 .i64 a2])), (2, .mem true 22 none (.flat [.ints 64 .i64 (List.replicate 64 0)])), (3, .mem true 22 none (.flat [.ints 64 .i64 (List.replicate 64 0)])), (4, .mem true 22 none (.flat [.ints 64 .i64 (bif (bif (!a5) then (!(c3.getD default)) else false) then (c4.getD default) else (List.replicate 64 0))]))], 5⟩ ?_ (fun hj => ?_)
    · skip
      let x1 := (bif (bif (!a5) then (!(c3.getD default)) else false) then (c4.getD default) else (List.replicate 64 0))
      refine rThen ?_
      refine rSeq ?_
      refine rSeq ?_
      refine zReg md0 hX rfl rfl rfl ?_
      refine rThen ?_
      refine rBlock ?_
      replace hT := sBind hT; obtain ⟨w1, hl, hT⟩ := hT
      refine rJoinA (fun v1 => v1 = w1) (fun v1 => ⟨[(2, .v (.c (.int .i64 (c1.getD default)))), (3, .v (.c (.int .i64 (c2.getD default)))), (4, .v (.c (.bool a5))), (5, .v (.c (.ptr 0 0 0 0 0 0))), (6, .v (.c (.ptr 1 0 0 0 0 0))), (10, .v (.c (.ptr 2 0 0 0 0 0))), (11, .v (.c (.ptr 3 0 0 0 0 0)))], [(0, .mem true 22 none (.flat [.ints 64 .i64 v1.1])), (1, .mem true 22 none (.flat [.ints 64 .i64 a2])), (2, .mem true 22 none (.flat [.ints 64 .i64 (List.replicate 64 0)])), (3, .mem true 22 none (.flat [.ints 64 .i64 v1.2]))], 5⟩) (.exit 0) (fun v1 hv => ?_) (fun hxs10 => ?_)
      · subst hv; clear hl
        refine rInHit ?_
        refine rThen ?_
        refine rSeq ?_
        refine rSeq ?_
        refine zReg md0 hX rfl rfl rfl ?_
        refine rThen ?_
        refine rJoin ⟨[(2, .v (.c (.int .i64 (c1.getD default)))), (3, .v (.c (.int .i64 (c2.getD default)))), (4, .v (.c (.bool a5))), (5, .v (.c (.ptr 0 0 0 0 0 0))), (6, .v (.c (.ptr 1 0 0 0 0 0))), (10, .v (.c (.ptr 2 0 0 0 0 0))), (11, .v (.c (.ptr 3 0 0 0 0 0)))], [(0, .mem true 22 none (.flat [.ints 64 .i64 (bif a5 then (v1.1.set 0 0) else v1.1)])), (1, .mem true 22 none (.flat [.ints 64 .i64 a2])), (2, .mem true 22 none (.flat [.ints 64 .i64 (List.replicate 64 0)])), (3, .mem true 22 none (.flat [.ints 64 .i64 v1.2]))], 5⟩ ?_ (fun hj => ?_)
        · skip
          refine rThen ?_
          refine rSeq ?_
          refine rSeq ?_
          let c5 := (ref35_nought N a2)
          let x2 := (bif (decide ((c1.getD default) = (c2.getD default))) then (bif a5 then true else (c5.getD default)) else false)
          replace hT := sIf hT; obtain ⟨⟨o1, o2⟩, hT⟩ := hT
          refine rRegC md0 hX rfl rfl rfl (by (repeat' first | exact True.intro | with_reducible assumption | (with_reducible apply And.intro) | intro _) <;> first | assumption | exact o1 (by assumption) | exact o2 (by assumption) | exact rfl | omega | exact Nat.le_of_ble_eq_true rfl | exact selF (by assumption) | exact selT (by assumption) | exact And.intro rfl rfl | exact And.intro (by assumption) rfl | exact And.intro (by omega) rfl | (simp only [inK] at *; omega) | (simp_all [sel] <;> fail) | fail) ?_
          refine rThen ?_
          refine zCond rfl rfl (fun hc => ?_) (fun hc => ?_)
          · replace hT := sT hc hT
            refine rSeq ?_
            refine zReg md0 hX rfl rfl rfl ?_
            refine rThen ?_
            refine rRet ?_
            refine rThenRet ?_
            have hy := Option.some.inj hT; subst hy
            exact zEnd0 hX rfl
          · replace hT := sF hc hT
            refine rSkip ?_
            refine rThen ?_
            refine rSeq ?_
            let c6 := (ref13_Block N v1.2 (c2.getD default) a5)
            replace hT := sIf hT; obtain ⟨o1, hT⟩ := hT
            refine zReg md0 hX rfl rfl rfl ?_
            refine rThen ?_
            refine rRet ?_
            have hy := Option.some.inj hT; subst hy
            exact zEnd0 hX rfl
        · clear hT
          refine zCond rfl rfl (fun hc => ?_) (fun hc => ?_)
          · skip
            refine zReg md0 hX rfl rfl rfl ?_
            exact rTo (To.mk' [] 0 hε rfl (by (repeat' first | exact True.intro | exact rfl | apply And.intro) <;> (repeat' first | exact rfl | refine Eq.trans ?_ (cTr (by assumption)) | refine Eq.trans ?_ (cFr (by assumption)) | refine Eq.trans (cTl (by assumption)) ?_ | refine Eq.trans (cFl (by assumption)) ?_)) (by (repeat' first | exact True.intro | exact rfl | apply And.intro) <;> (repeat' first | exact rfl | refine Eq.trans ?_ (cTr (by assumption)) | refine Eq.trans ?_ (cFr (by assumption)) | refine Eq.trans (cTl (by assumption)) ?_ | refine Eq.trans (cFl (by assumption)) ?_))) hj
          · skip
            refine rSkip ?_
            exact rTo (To.mk' [] 0 hε rfl (by (repeat' first | exact True.intro | exact rfl | apply And.intro) <;> (repeat' first | exact rfl | refine Eq.trans ?_ (cTr (by assumption)) | refine Eq.trans ?_ (cFr (by assumption)) | refine Eq.trans (cTl (by assumption)) ?_ | refine Eq.trans (cFl (by assumption)) ?_)) (by (repeat' first | exact True.intro | exact rfl | apply And.intro) <;> (repeat' first | exact rfl | refine Eq.trans ?_ (cTr (by assumption)) | refine Eq.trans ?_ (cFr (by assumption)) | refine Eq.trans (cTl (by assumption)) ?_ | refine Eq.trans (cFl (by assumption)) ?_))) hj
      refine rLoopM (ref35_Block_b1 N c1 x1) (fun s1 => ⟨[(2, .v (.c (.int .i64 (c1.getD default)))), (3, .v (.c (.int .i64 (c2.getD default)))), (4, .v (.c (.bool a5))), (5, .v (.c (.ptr 0 0 0 0 0 0))), (6, .v (.c (.ptr 1 0 0 0 0 0))), (10, .v (.c (.ptr 2 0 0 0 0 0))), (11, .v (.c (.ptr 3 0 0 0 0 0))), (12, .v (.c (.ptr 4 0 0 0 0 0))), (13, .v (.c (.int .i64 s1.1)))], [(0, .mem true 22 none (.flat [.ints 64 .i64 s1.2.1])), (1, .mem true 22 none (.flat [.ints 64 .i64 a2])), (2, .mem true 22 none (.flat [.ints 64 .i64 (List.replicate 64 0)])), (3, .mem true 22 none (.flat [.ints 64 .i64 s1.2.2])), (4, .mem true 22 none (.flat [.ints 64 .i64 x1]))], 5⟩) hl (To.mk' [] 0 hε rfl (by repeat' first | exact True.intro | exact rfl | apply And.intro) (by repeat' first | exact True.intro | exact rfl | apply And.intro)) (fun s1 zs1 NNs1 hz hnexts1 houts1 => ?_)
      clear hl hT
      have hT := hz; clear hz
      refine rSeq ?_
      refine rSeq ?_
      refine zReg md0 hX rfl rfl rfl ?_
      refine rThen ?_
      refine zCond rfl rfl (fun hc => ?_) (fun hc => ?_)
      · replace hT := sT hc hT
        refine rSkip ?_
        refine rThen ?_
        refine rSeq ?_
        refine rBlock ?_
        refine rSeq ?_
        let c7 := (ref01_Clip N (s1.2.1.getD (s1.1).toNat 0) (-127) 127)
        replace hT := sIf hT; obtain ⟨⟨o1, o2, o3, o4⟩, hT⟩ := hT
        refine zReg md0 hX rfl rfl rfl ?_
        refine rThen ?_
        refine rSeq ?_
        let c8 := (ref12_Value N ((s1.2.1.set (s1.1).toNat (c7.getD default)).getD (s1.1).toNat 0) (c1.getD default))
        replace hT := sIf hT; obtain ⟨⟨o1, o2, o3, o4⟩, hT⟩ := hT
        refine zReg md0 hX rfl rfl rfl ?_
        refine rThen ?_
        let x4 := ((s1.2.2.set (s1.1).toNat (c8.getD default)).set (s1.1).toNat (((s1.2.2.set (s1.1).toNat (c8.getD default)).getD (s1.1).toNat 0) + (x1.getD (s1.1).toNat 0)))
        replace hT := sIf hT; obtain ⟨⟨o1, o2, o3, o4⟩, hT⟩ := hT
        refine zDraw md0 1 [9] hX mixed rfl rfl rfl rfl rfl ?_
        refine rInNormal ?_
        refine rThen ?_
        replace hT := sIf hT; obtain ⟨o1, hT⟩ := hT
        refine zReg md0 hX rfl rfl rfl ?_
        exact hnexts1 _ (Option.some.inj hT).symm _ (To.mk' [] 0 hε rfl (by repeat' first | exact True.intro | exact rfl | apply And.intro) (by repeat' first | exact True.intro | exact rfl | apply And.intro))
      · replace hT := sF hc hT
        refine rExit ?_
        refine rThenExit ?_
        refine rThenExit ?_
        exact zTo [] 0 hε (hxs10 _ (houts1 _ (Option.some.inj hT).symm))
    · clear hT
      refine zCond rfl rfl (fun hc => ?_) (fun hc => ?_)
      · skip
        have q1 := q1 hc
        refine zReg md0 hX rfl rfl rfl ?_
        exact rTo (To.mk' [] 0 hε rfl (by (repeat' first | exact True.intro | exact rfl | apply And.intro) <;> (repeat' first | exact rfl | refine Eq.trans ?_ (cTr (by assumption)) | refine Eq.trans ?_ (cFr (by assumption)) | refine Eq.trans (cTl (by assumption)) ?_ | refine Eq.trans (cFl (by assumption)) ?_)) (by (repeat' first | exact True.intro | exact rfl | apply And.intro) <;> (repeat' first | exact rfl | refine Eq.trans ?_ (cTr (by assumption)) | refine Eq.trans ?_ (cFr (by assumption)) | refine Eq.trans (cTl (by assumption)) ?_ | refine Eq.trans (cFl (by assumption)) ?_))) hj
      · skip
        refine rSkip ?_
        exact rTo (To.mk' [] 0 hε rfl (by (repeat' first | exact True.intro | exact rfl | apply And.intro) <;> (repeat' first | exact rfl | refine Eq.trans ?_ (cTr (by assumption)) | refine Eq.trans ?_ (cFr (by assumption)) | refine Eq.trans (cTl (by assumption)) ?_ | refine Eq.trans (cFl (by assumption)) ?_)) (by (repeat' first | exact True.intro | exact rfl | apply And.intro) <;> (repeat' first | exact rfl | refine Eq.trans ?_ (cTr (by assumption)) | refine Eq.trans ?_ (cFr (by assumption)) | refine Eq.trans (cTl (by assumption)) ?_ | refine Eq.trans (cFl (by assumption)) ?_))) hj
  · cases h
def ref35_Cell_b1 (N : Nat) (a3 : Int) (a8 : (List Int)) (a9 : Int) (a10 : Int) (c1 : (Option (List Int))) (s1 : (Int × (List Int))) : Option ((Int × (List Int)) ⊕ (List Int)) :=
  bif (decide (s1.1 < 6)) then
    let c2 := (ref21_Intra N a3)
    let c3 := (ref35_Block N (((c1.getD default).drop (64 * (s1.1).toNat)).take 64) ((a8.drop (64 * (s1.1).toNat)).take 64) a9 a10 (c2.getD default))
    if (0 : Int) ≤ s1.1 ∧ s1.1 < 6 ∧ (64 * (s1.1).toNat) + 64 ≤ 384 ∧ c2.isSome = true ∧ c3.isSome = true then
      if inK .i64 (s1.1 + 1) then
        some (.inl ((s1.1 + 1), (layL s1.2 (64 * (s1.1).toNat) (c3.getD default) 64)))
      else none
    else none
  else
    some (.inr s1.2)
def ref35_Cell (N : Nat) (a1 : Int) (a2 : Bool) (a3 : Int) (a4 : Int) (a5 : (List Int)) (a6 : (List Int)) (a7 : (List (List (Bool × (Int × Int))))) (a8 : (List Int)) (a9 : Int) (a10 : Int) : Option (List Int) :=
  let c1 := (ref29_Levels N a1 a2 a3 a4 a5 a6 a7)
  if c1.isSome = true then
    (iter (ref35_Cell_b1 N a3 a8 a9 a10 c1) N (0, (List.replicate 384 0))).bind fun v1 =>
      some v1
  else none
def sp_ref35_Cell (N : Nat) : X.Spec := fun args lk => match args with
  | [.v (.agg [.cs [.int .i64 a1, .bool a2, .int .i64 a3, .int .i64 a4], .ints 2 .i64 a5, .ints 6 .i64 a6, .fzs 6 (.pair .bool (.pair (.int .i64) (.int .i64))) a7]), .v (.agg [.ints 384 .i64 a8]), .v (.c (.int .i64 a9)), .v (.c (.int .i64 a10))] => some ⟨(ref35_Cell N a1 a2 a3 a4 a5 a6 a7 a8 a9 a10).isSome = true, .v (.agg [.ints 384 .i64 ((ref35_Cell N a1 a2 a3 a4 a5 a6 a7 a8 a9 a10).getD default)]), [], []⟩
  | _ => none
set_option maxRecDepth 100000 in
set_option maxHeartbeats 1000000 in
theorem ok_ref35_Cell (N : Nat) : FnOK Tryd.prog gt0 34 (sp_ref35_Cell N) := by
  refine fnOK_handed Tryd.func34 rfl (by kernel_rfl) tt_ok (ktCons (ok_ref35_Block N) (ktCons (ok_ref21_Intra N) (ktCons (ok_ref29_Levels N) (ktNil)))) ?_
  intro args lk r h hp
  unfold sp_ref35_Cell at h
  split at h
  · rename_i a1 a2 a3 a4 a5 a6 a7 a8 a9 a10
    change (List Int) at a5
    change (List Int) at a6
    change (List (List (Bool × (Int × Int)))) at a7
    change (List Int) at a8
    cases h
    obtain ⟨x, hx⟩ := Option.isSome_iff_exists.1 hp
    simp only [hx, Option.getD_some]
    refine hand0 rfl rfl (fun w0 M ε0 hX => ?_)
    refine rCount (fun hε => ?_)
    have hT : ref35_Cell N a1 a2 a3 a4 a5 a6 a7 a8 a9 a10 = some x := hx; clear hx hp; unfold ref35_Cell at hT
    refine rSeq ?_
    refine zReg md0 hX rfl rfl rfl ?_
    refine rThen ?_
    refine rSeq ?_
    let c1 := (ref29_Levels N a1 a2 a3 a4 a5 a6 a7)
    replace hT := sIf hT; obtain ⟨o1, hT⟩ := hT
    refine zReg md0 hX rfl rfl rfl ?_
    refine rThen ?_
    refine rSeq ?_
    refine zReg md0 hX rfl rfl rfl ?_
    refine rThen ?_
    refine rSeq ?_
    refine rSeq ?_
    refine zReg md0 hX rfl rfl rfl ?_
    refine rThen ?_
    refine rBlock ?_
    replace hT := sBind hT; obtain ⟨w1, hl, hT⟩ := hT
    refine rJoinA (fun v1 => v1 = w1) (fun v1 => ⟨[(8, .v (.c (.ptr 2 0 0 0 0 0))), (10, .v (.c (.ptr 4 0 0 0 0 0)))], [(2, .mem true 39 none (.flat [.ints 384 .i64 (List.replicate 384 0)])), (4, .mem true 39 none (.flat [.ints 384 .i64 v1]))], 5⟩) (.exit 0) (fun v1 hv => ?_) (fun hxs10 => ?_)
    · subst hv; clear hl
      refine rInHit ?_
      refine rThen ?_
      refine rSeq ?_
      refine zReg md0 hX rfl rfl rfl ?_
      refine rThen ?_
      refine rRet ?_
      have hy := Option.some.inj hT; subst hy
      exact zEnd0 hX rfl
    refine rLoopM (ref35_Cell_b1 N a3 a8 a9 a10 c1) (fun s1 => ⟨[(2, .v (.c (.int .i64 a9))), (3, .v (.c (.int .i64 a10))), (4, .v (.c (.ptr 0 0 0 0 0 0))), (5, .v (.c (.ptr 1 0 0 0 0 0))), (8, .v (.c (.ptr 2 0 0 0 0 0))), (9, .v (.c (.ptr 3 0 0 0 0 0))), (10, .v (.c (.ptr 4 0 0 0 0 0))), (11, .v (.c (.int .i64 s1.1)))], [(0, .mem true 37 none (.flat [.cs [.int .i64 a1, .bool a2, .int .i64 a3, .int .i64 a4], .ints 2 .i64 a5, .ints 6 .i64 a6, .fzs 6 (.pair .bool (.pair (.int .i64) (.int .i64))) a7])), (1, .mem true 39 none (.flat [.ints 384 .i64 a8])), (2, .mem true 39 none (.flat [.ints 384 .i64 (List.replicate 384 0)])), (3, .mem true 39 none (.flat [.ints 384 .i64 (c1.getD default)])), (4, .mem true 39 none (.flat [.ints 384 .i64 s1.2]))], 5⟩) hl (To.mk' [] 0 hε rfl (by repeat' first | exact True.intro | exact rfl | apply And.intro) (by repeat' first | exact True.intro | exact rfl | apply And.intro)) (fun s1 zs1 NNs1 hz hnexts1 houts1 => ?_)
    clear hl hT
    have hT := hz; clear hz
    refine rSeq ?_
    refine rSeq ?_
    refine zReg md0 hX rfl rfl rfl ?_
    refine rThen ?_
    refine zCond rfl rfl (fun hc => ?_) (fun hc => ?_)
    · replace hT := sT hc hT
      refine rSkip ?_
      refine rThen ?_
      refine rSeq ?_
      refine rBlock ?_
      let c2 := (ref21_Intra N a3)
      let c3 := (ref35_Block N (((c1.getD default).drop (64 * (s1.1).toNat)).take 64) ((a8.drop (64 * (s1.1).toNat)).take 64) a9 a10 (c2.getD default))
      replace hT := sIf hT; obtain ⟨⟨o1, o2, o3, o4, o5⟩, hT⟩ := hT
      refine zDraw md0 1 [14] hX mixed rfl rfl rfl rfl rfl ?_
      refine rInNormal ?_
      refine rThen ?_
      replace hT := sIf hT; obtain ⟨o1, hT⟩ := hT
      refine zReg md0 hX rfl rfl rfl ?_
      exact hnexts1 _ (Option.some.inj hT).symm _ (To.mk' [] 0 hε rfl (by repeat' first | exact True.intro | exact rfl | apply And.intro) (by repeat' first | exact True.intro | exact rfl | apply And.intro))
    · replace hT := sF hc hT
      refine rExit ?_
      refine rThenExit ?_
      refine rThenExit ?_
      exact zTo [] 0 hε (hxs10 _ (houts1 _ (Option.some.inj hT).symm))
  · cases h
def law35_FeedCells_b1 (N : Nat) (a7 : (List (List (Bool × (Int × Int))))) (s1 : Int) : Option (Int ⊕ (Bool ⊕ Unit)) :=
  bif (decide (s1 < 6)) then
    if (0 : Int) ≤ s1 ∧ s1 < 6 ∧ (s1).toNat < 6 then
      bif (decide ((100 : Int) < ((a7.getD (s1).toNat []).length : Int))) then
        let c6 := (law35_lives N)
        if c6.isSome = true then
          some (.inr (Sum.inl (c6.getD default)))
        else none
      else
        if inK .i64 (s1 + 1) then
          some (.inl (s1 + 1))
        else none
    else none
  else
    some (.inr (Sum.inr ()))
def law35_FeedCells (N : Nat) (a1 : Int) (a2 : Bool) (a3 : Int) (a4 : Int) (a5 : (List Int)) (a6 : (List Int)) (a7 : (List (List (Bool × (Int × Int))))) (a8 : (List Int)) (a9 : (List Int)) : Option Bool :=
  (iter (law35_FeedCells_b1 N a7) N 0).bind fun w1 =>
    (Sum.elim (fun v1 =>
      some v1
    )
      (fun v2 =>
        let c1 := (feed_Cell N a1 a2 a3 a4 a5 a6 a7 a8 (a9.getD 0 0) (a9.getD 1 0))
        if c1.isSome = true then
          let c2 := (ref22_Right N true a1 a2 a3 a4 a5 a6 a7)
          if c2.isSome = true then
            bif (!(c2.getD default)) then
              let c3 := (law35_lives N)
              let x1 := (bif (bif (decide ((c1.getD default).1 = (List.replicate 384 0))) then (decide ((c1.getD default).2 = 12)) else false) then (c3.getD default) else false)
              if ((bif (decide ((c1.getD default).1 = (List.replicate 384 0))) then (decide ((c1.getD default).2 = 12)) else false) = true → c3.isSome = true) then
                some x1
              else none
            else
              let c4 := (ref35_Cell N a1 a2 a3 a4 a5 a6 a7 a8 (a9.getD 0 0) (a9.getD 1 0))
              let c5 := (law35_lives N)
              let x3 := (bif (bif (decide ((c1.getD default).1 = (c4.getD default))) then (decide ((c1.getD default).2 = 0)) else false) then (c5.getD default) else false)
              if c4.isSome = true ∧ ((bif (decide ((c1.getD default).1 = (c4.getD default))) then (decide ((c1.getD default).2 = 0)) else false) = true → c5.isSome = true) then
                some x3
              else none
          else none
        else none
      )
    ) w1
def sp_law35_FeedCells (N : Nat) : X.Spec := fun args lk => match args with
  | [.v (.agg [.cs [.int .i64 a1, .bool a2, .int .i64 a3, .int .i64 a4], .ints 2 .i64 a5, .ints 6 .i64 a6, .fzs 6 (.pair .bool (.pair (.int .i64) (.int .i64))) a7]), .v (.agg [.ints 384 .i64 a8]), .v (.agg [.ints 2 .i64 a9])] => some ⟨(law35_FeedCells N a1 a2 a3 a4 a5 a6 a7 a8 a9).isSome = true, .v (.c (.bool ((law35_FeedCells N a1 a2 a3 a4 a5 a6 a7 a8 a9).getD default))), [], []⟩
  | _ => none
set_option maxRecDepth 100000 in
set_option maxHeartbeats 1000000 in
theorem ok_law35_FeedCells (N : Nat) : FnOK Tryd.prog gt0 9 (sp_law35_FeedCells N) := by
  refine fnOK_handed Tryd.func9 rfl (by kernel_rfl) tt_ok (ktCons (ok_ref35_Cell N) (ktCons (ok_law35_lives N) (ktCons (ok_ref22_Right N) (ktCons (ok_feed_Cell N) (ktNil))))) ?_
  intro args lk r h hp
  unfold sp_law35_FeedCells at h
  split at h
  · rename_i a1 a2 a3 a4 a5 a6 a7 a8 a9
    change (List Int) at a5
    change (List Int) at a6
    change (List (List (Bool × (Int × Int)))) at a7
    change (List Int) at a8
    change (List Int) at a9
    cases h
    obtain ⟨x, hx⟩ := Option.isSome_iff_exists.1 hp
    simp only [hx, Option.getD_some]
    refine hand0 rfl rfl (fun w0 M ε0 hX => ?_)
    refine rCount (fun hε => ?_)
    have hT : law35_FeedCells N a1 a2 a3 a4 a5 a6 a7 a8 a9 = some x := hx; clear hx hp; unfold law35_FeedCells at hT
    refine rSeq ?_
    refine zReg md0 hX rfl rfl rfl ?_
    refine rThen ?_
    refine rSeq ?_
    refine rSeq ?_
    refine zReg md0 hX rfl rfl rfl ?_
    refine rThen ?_
    refine rBlock ?_
    replace hT := sBind hT; obtain ⟨w1, hl, hT⟩ := hT
    refine rJoinA (fun v1 => (Sum.inl v1) = w1) (fun v1 => ⟨[(6, .v (.c (.bool v1)))], [], 3⟩) .ret (fun v1 hv => ?_) (fun hxs10 => ?_)
    · subst hv; clear hl; replace hT := (sElimL hT)
      refine rInRet ?_
      refine rThenRet ?_
      have hy := Option.some.inj hT; subst hy
      exact zEnd0 hX rfl
    refine rJoinA (fun v2 => (Sum.inr v2) = w1) (fun v2 => ⟨[(3, .v (.c (.ptr 0 0 0 0 0 0))), (4, .v (.c (.ptr 1 0 0 0 0 0))), (5, .v (.c (.ptr 2 0 0 0 0 0))), (6, .v (.c (.bool false)))], [(0, .mem true 37 none (.flat [.cs [.int .i64 a1, .bool a2, .int .i64 a3, .int .i64 a4], .ints 2 .i64 a5, .ints 6 .i64 a6, .fzs 6 (.pair .bool (.pair (.int .i64) (.int .i64))) a7])), (1, .mem true 39 none (.flat [.ints 384 .i64 a8])), (2, .mem true 32 none (.flat [.ints 2 .i64 a9]))], 3⟩) (.exit 0) (fun v2 hv => ?_) (fun hxs11 => ?_)
    · subst hv; clear hl; replace hT := (sElimR hT)
      refine rInHit ?_
      refine rThen ?_
      refine rSeq ?_
      let c1 := (feed_Cell N a1 a2 a3 a4 a5 a6 a7 a8 (a9.getD 0 0) (a9.getD 1 0))
      replace hT := sIf hT; obtain ⟨o1, hT⟩ := hT
      refine zReg md0 hX rfl rfl rfl ?_
      refine rThen ?_
      refine rSeq ?_
      refine rSeq ?_
      let c2 := (ref22_Right N true a1 a2 a3 a4 a5 a6 a7)
      replace hT := sIf hT; obtain ⟨o1, hT⟩ := hT
      refine zReg md0 hX rfl rfl rfl ?_
      refine rThen ?_
      refine zCond rfl rfl (fun hc => ?_) (fun hc => ?_)
      · replace hT := sT hc hT
        refine rSeq ?_
        let c3 := (law35_lives N)
        let x1 := (bif (bif (decide ((c1.getD default).1 = (List.replicate 384 0))) then (decide ((c1.getD default).2 = 12)) else false) then (c3.getD default) else false)
        replace hT := sIf hT; obtain ⟨o1, hT⟩ := hT
        refine rRegC md0 hX rfl rfl rfl (by (repeat' first | exact True.intro | with_reducible assumption | (with_reducible apply And.intro) | intro _) <;> first | assumption | exact o1 (by assumption) | exact rfl | omega | exact Nat.le_of_ble_eq_true rfl | exact selF (by assumption) | exact selT (by assumption) | exact And.intro rfl rfl | exact And.intro (by assumption) rfl | exact And.intro (by omega) rfl | (simp only [inK] at *; omega) | (simp_all [sel] <;> fail) | fail) ?_
        refine rThen ?_
        refine rRet ?_
        refine rThenRet ?_
        have hy := Option.some.inj hT; subst hy
        exact zEnd0 hX rfl
      · replace hT := sF hc hT
        refine rSkip ?_
        refine rThen ?_
        refine rSeq ?_
        let c4 := (ref35_Cell N a1 a2 a3 a4 a5 a6 a7 a8 (a9.getD 0 0) (a9.getD 1 0))
        let c5 := (law35_lives N)
        let x3 := (bif (bif (decide ((c1.getD default).1 = (c4.getD default))) then (decide ((c1.getD default).2 = 0)) else false) then (c5.getD default) else false)
        replace hT := sIf hT; obtain ⟨⟨o1, o2⟩, hT⟩ := hT
        refine rDrawM md0 0 [] hX mixed rfl rfl rfl rfl rfl (by (repeat' first | exact True.intro | with_reducible assumption | (with_reducible apply And.intro) | intro _) <;> first | assumption | exact o2 (by assumption) | exact rfl | omega | exact Nat.le_of_ble_eq_true rfl | exact selF (by assumption) | exact selT (by assumption) | exact And.intro rfl rfl | exact And.intro (by assumption) rfl | exact And.intro (by omega) rfl | (simp only [inK] at *; omega) | (simp_all [sel] <;> fail) | fail) ?_
        refine rThen ?_
        refine rRet ?_
        have hy := Option.some.inj hT; subst hy
        exact zEnd0 hX rfl
    refine rLoopM (law35_FeedCells_b1 N a7) (fun s1 => ⟨[(3, .v (.c (.ptr 0 0 0 0 0 0))), (4, .v (.c (.ptr 1 0 0 0 0 0))), (5, .v (.c (.ptr 2 0 0 0 0 0))), (6, .v (.c (.bool false))), (7, .v (.c (.int .i64 s1)))], [(0, .mem true 37 none (.flat [.cs [.int .i64 a1, .bool a2, .int .i64 a3, .int .i64 a4], .ints 2 .i64 a5, .ints 6 .i64 a6, .fzs 6 (.pair .bool (.pair (.int .i64) (.int .i64))) a7])), (1, .mem true 39 none (.flat [.ints 384 .i64 a8])), (2, .mem true 32 none (.flat [.ints 2 .i64 a9]))], 3⟩) hl (To.mk' [] 0 hε rfl (by repeat' first | exact True.intro | exact rfl | apply And.intro) (by repeat' first | exact True.intro | exact rfl | apply And.intro)) (fun s1 zs1 NNs1 hz hnexts1 houts1 => ?_)
    clear hl hT
    have hT := hz; clear hz
    refine rSeq ?_
    refine rSeq ?_
    refine zReg md0 hX rfl rfl rfl ?_
    refine rThen ?_
    refine zCond rfl rfl (fun hc => ?_) (fun hc => ?_)
    · replace hT := sT hc hT
      refine rSkip ?_
      refine rThen ?_
      refine rSeq ?_
      refine rBlock ?_
      refine rSeq ?_
      replace hT := sIf hT; obtain ⟨⟨o1, o2, o3⟩, hT⟩ := hT
      refine zReg md0 hX rfl rfl rfl ?_
      refine rThen ?_
      refine zCond rfl rfl (fun hc => ?_) (fun hc => ?_)
      · replace hT := sT hc hT
        refine rSeq ?_
        let c6 := (law35_lives N)
        replace hT := sIf hT; obtain ⟨o1, hT⟩ := hT
        refine zReg md0 hX rfl rfl rfl ?_
        refine rThen ?_
        refine rRet ?_
        refine rInRet ?_
        refine rThenRet ?_
        refine rThenRet ?_
        exact zTo [] 0 hε (hxs10 _ (houts1 _ (Option.some.inj hT).symm))
      · replace hT := sF hc hT
        refine rSkip ?_
        refine rInNormal ?_
        refine rThen ?_
        replace hT := sIf hT; obtain ⟨o1, hT⟩ := hT
        refine zReg md0 hX rfl rfl rfl ?_
        exact hnexts1 _ (Option.some.inj hT).symm _ (To.mk' [] 0 hε rfl (by repeat' first | exact True.intro | exact rfl | apply And.intro) (by repeat' first | exact True.intro | exact rfl | apply And.intro))
    · replace hT := sF hc hT
      refine rExit ?_
      refine rThenExit ?_
      refine rThenExit ?_
      exact zTo [] 0 hε (hxs11 _ (houts1 _ (Option.some.inj hT).symm))
  · cases h

end Go.Proofs.YtkfaebbbjahcpaaDoor
