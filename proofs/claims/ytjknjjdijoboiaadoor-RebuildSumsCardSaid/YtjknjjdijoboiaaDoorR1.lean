/- Models of functions, and that the program does what they tell. -/
import Derived.Test.YtjknjjdijoboiaaDoorR0
set_option linter.unusedVariables false
set_option linter.unusedSimpArgs false
namespace Go.Proofs.YtjknjjdijoboiaaDoor
open Go.X

def whole_Clip (N : Nat) (a1 : Int) (a2 : Int) (a3 : Int) : Option Int :=
  bif (bif (decide (a3 < a2)) then (decide (a3 < a2)) else (decide (a1 < a2))) then
    some a2
  else
    bif (decide (a3 < a1)) then
      some a3
    else
      some a1
def sp_whole_Clip (N : Nat) : X.Spec := fun args lk => match args with
  | [.v (.c (.int .i64 a1)), .v (.c (.int .i64 a2)), .v (.c (.int .i64 a3))] => some ⟨(whole_Clip N a1 a2 a3).isSome = true, .v (.c (.int .i64 ((whole_Clip N a1 a2 a3).getD default))), [], []⟩
  | _ => none
set_option maxRecDepth 100000 in
set_option maxHeartbeats 1000000 in
theorem ok_whole_Clip (N : Nat) : FnOK Tryd.prog gt0 7 (sp_whole_Clip N) := by
  refine fnOK_handed Tryd.func7 rfl (by kernel_rfl) tt_ok (ktNil) ?_
  intro args lk r h hp
  unfold sp_whole_Clip at h
  split at h
  · rename_i a1 a2 a3
    cases h
    obtain ⟨x, hx⟩ := Option.isSome_iff_exists.1 hp
    simp only [hx, Option.getD_some]
    refine hand0 rfl rfl (fun w0 M ε0 hX => ?_)
    refine rCount (fun hε => ?_)
    have hT : whole_Clip N a1 a2 a3 = some x := hx; clear hx hp; unfold whole_Clip at hT
    refine rSeq ?_
    refine zReg md0 hX rfl rfl rfl ?_
    refine rThen ?_
    refine rSeq ?_
    refine rBlock ?_
    refine rSeq ?_
    refine rSeq ?_
    refine zReg md0 hX rfl rfl rfl ?_
    refine rThen ?_
    refine rJoin ⟨[(0, .v (.c (.int .i64 a1))), (1, .v (.c (.int .i64 a2))), (2, .v (.c (.int .i64 a3))), (6, .v (.c (.int .i64 0))), (7, .v (.c (.bool (bif (decide (a3 < a2)) then (decide (a3 < a2)) else (decide (a1 < a2))))))], [], 0⟩ ?_ (fun hj => ?_)
    · skip
      refine rThen ?_
      refine zCond rfl rfl (fun hc => ?_) (fun hc => ?_)
      · replace hT := sT hc hT
        refine rSeq ?_
        refine zReg md0 hX rfl rfl rfl ?_
        refine rThen ?_
        refine rRet ?_
        refine rInRet ?_
        refine rThenRet ?_
        have hy := Option.some.inj hT; subst hy
        exact zEnd0 hX rfl
      · replace hT := sF hc hT
        refine rSeq ?_
        refine zReg md0 hX rfl rfl rfl ?_
        refine rThen ?_
        refine zCond rfl rfl (fun hc => ?_) (fun hc => ?_)
        · replace hT := sT hc hT
          refine rSeq ?_
          refine zReg md0 hX rfl rfl rfl ?_
          refine rThen ?_
          refine rRet ?_
          refine rInRet ?_
          refine rThenRet ?_
          have hy := Option.some.inj hT; subst hy
          exact zEnd0 hX rfl
        · replace hT := sF hc hT
          refine rSkip ?_
          refine rInNormal ?_
          refine rThen ?_
          refine rSeq ?_
          refine zReg md0 hX rfl rfl rfl ?_
          refine rThen ?_
          refine rRet ?_
          have hy := Option.some.inj hT; subst hy
          exact zEnd0 hX rfl
    · clear hT
      refine zCond rfl rfl (fun hc => ?_) (fun hc => ?_)
      · skip
        refine rSkip ?_
        exact rTo (To.mk' [] 0 hε rfl (by (repeat' first | exact True.intro | exact rfl | apply And.intro) <;> (repeat' first | exact rfl | refine Eq.trans ?_ (cTr (by assumption)) | refine Eq.trans ?_ (cFr (by assumption)) | refine Eq.trans (cTl (by assumption)) ?_ | refine Eq.trans (cFl (by assumption)) ?_)) (by (repeat' first | exact True.intro | exact rfl | apply And.intro) <;> (repeat' first | exact rfl | refine Eq.trans ?_ (cTr (by assumption)) | refine Eq.trans ?_ (cFr (by assumption)) | refine Eq.trans (cTl (by assumption)) ?_ | refine Eq.trans (cFl (by assumption)) ?_))) hj
      · skip
        refine zReg md0 hX rfl rfl rfl ?_
        exact rTo (To.mk' [] 0 hε rfl (by (repeat' first | exact True.intro | exact rfl | apply And.intro) <;> (repeat' first | exact rfl | refine Eq.trans ?_ (cTr (by assumption)) | refine Eq.trans ?_ (cFr (by assumption)) | refine Eq.trans (cTl (by assumption)) ?_ | refine Eq.trans (cFl (by assumption)) ?_)) (by (repeat' first | exact True.intro | exact rfl | apply And.intro) <;> (repeat' first | exact rfl | refine Eq.trans ?_ (cTr (by assumption)) | refine Eq.trans ?_ (cFr (by assumption)) | refine Eq.trans (cTl (by assumption)) ?_ | refine Eq.trans (cFl (by assumption)) ?_))) hj
  · cases h
def rebuild_Sum_b2 (N : Nat) (a1 : (List Int)) (a2 : (List Int)) (s1 : (Int × (List Int))) (s2 : (Int × (List Int))) : Option ((Int × (List Int)) ⊕ (Int × Bool × (List Int))) :=
  bif (decide (s2.1 < 64)) then
    let c1 := (whole_Clip N (a1.getD ((s1.1).toNat * 64 + (s2.1).toNat) 0) (-1024) 1024)
    let c2 := (whole_Clip N (a2.getD ((s1.1).toNat * 64 + (s2.1).toNat) 0) (-1024) 1024)
    let c3 := (whole_Clip N ((c1.getD default) + (c2.getD default)) 0 255)
    if (0 : Int) ≤ s1.1 ∧ s1.1 < 6 ∧ (0 : Int) ≤ s2.1 ∧ s2.1 < 64 ∧ ((s1.1).toNat * 64 + (s2.1).toNat) < 384 ∧ c1.isSome = true ∧ c2.isSome = true ∧ inK .i64 ((c1.getD default) + (c2.getD default)) ∧ c3.isSome = true then
      if inK .i64 (s2.1 + 1) then
        some (.inl ((s2.1 + 1), (s2.2.set ((s1.1).toNat * 64 + (s2.1).toNat) (c3.getD default))))
      else none
    else none
  else
    some (.inr (s2.1, (decide (s2.1 < 64)), s2.2))
def rebuild_Sum_b1 (N : Nat) (a1 : (List Int)) (a2 : (List Int)) (s1 : (Int × (List Int))) : Option ((Int × (List Int)) ⊕ (List Int)) :=
  bif (decide (s1.1 < 6)) then
    (iter (rebuild_Sum_b2 N a1 a2 s1) N (0, s1.2)).bind fun v2 =>
      if inK .i64 (s1.1 + 1) then
        some (.inl ((s1.1 + 1), v2.2.2))
      else none
  else
    some (.inr s1.2)
def rebuild_Sum (N : Nat) (a1 : (List Int)) (a2 : (List Int)) : Option (List Int) :=
  (iter (rebuild_Sum_b1 N a1 a2) N (0, (List.replicate 384 0))).bind fun v1 =>
    some v1
def sp_rebuild_Sum (N : Nat) : X.Spec := fun args lk => match args with
  | [.v (.agg [.ints 384 .i64 a1]), .v (.agg [.ints 384 .i64 a2])] => some ⟨(rebuild_Sum N a1 a2).isSome = true, .v (.agg [.ints 384 .i64 ((rebuild_Sum N a1 a2).getD default)]), [], []⟩
  | _ => none
set_option maxRecDepth 100000 in
set_option maxHeartbeats 1000000 in
theorem ok_rebuild_Sum (N : Nat) : FnOK Tryd.prog gt0 4 (sp_rebuild_Sum N) := by
  refine fnOK_handed Tryd.func4 rfl (by kernel_rfl) tt_ok (ktCons (ok_whole_Clip N) (ktNil)) ?_
  intro args lk r h hp
  unfold sp_rebuild_Sum at h
  split at h
  · rename_i a1 a2
    change (List Int) at a1
    change (List Int) at a2
    cases h
    obtain ⟨x, hx⟩ := Option.isSome_iff_exists.1 hp
    simp only [hx, Option.getD_some]
    refine hand0 rfl rfl (fun w0 M ε0 hX => ?_)
    refine rCount (fun hε => ?_)
    have hT : rebuild_Sum N a1 a2 = some x := hx; clear hx hp; unfold rebuild_Sum at hT
    refine rSeq ?_
    refine zReg md0 hX rfl rfl rfl ?_
    refine rThen ?_
    refine rSeq ?_
    refine zReg md0 hX rfl rfl rfl ?_
    refine rThen ?_
    refine rSeq ?_
    refine rSeq ?_
    refine zReg md0 hX rfl rfl rfl ?_
    refine rThen ?_
    refine rBlock ?_
    replace hT := sBind hT; obtain ⟨w1, hl, hT⟩ := hT
    refine rJoinA (fun v1 => v1 = w1) (fun v1 => ⟨[(4, .v (.c (.ptr 2 0 0 0 0 0))), (5, .v (.c (.ptr 3 0 0 0 0 0)))], [(2, .mem true 24 none (.flat [.ints 384 .i64 (List.replicate 384 0)])), (3, .mem true 24 none (.flat [.ints 384 .i64 v1]))], 4⟩) (.exit 0) (fun v1 hv => ?_) (fun hxs10 => ?_)
    · subst hv; clear hl
      refine rInHit ?_
      refine rThen ?_
      refine rSeq ?_
      refine zReg md0 hX rfl rfl rfl ?_
      refine rThen ?_
      refine rRet ?_
      have hy := Option.some.inj hT; subst hy
      exact zEnd0 hX rfl
    refine rLoopM (rebuild_Sum_b1 N a1 a2) (fun s1 => ⟨[(2, .v (.c (.ptr 0 0 0 0 0 0))), (3, .v (.c (.ptr 1 0 0 0 0 0))), (4, .v (.c (.ptr 2 0 0 0 0 0))), (5, .v (.c (.ptr 3 0 0 0 0 0))), (8, .v (.c (.int .i64 s1.1)))], [(0, .mem true 24 none (.flat [.ints 384 .i64 a1])), (1, .mem true 24 none (.flat [.ints 384 .i64 a2])), (2, .mem true 24 none (.flat [.ints 384 .i64 (List.replicate 384 0)])), (3, .mem true 24 none (.flat [.ints 384 .i64 s1.2]))], 4⟩) hl (To.mk' [] 0 hε rfl (by repeat' first | exact True.intro | exact rfl | apply And.intro) (by repeat' first | exact True.intro | exact rfl | apply And.intro)) (fun s1 zs1 NNs1 hz hnexts1 houts1 => ?_)
    clear hl hT
    have hT := hz; clear hz
    refine rSeq ?_
    refine zReg md0 hX rfl rfl rfl ?_
    refine rThen ?_
    refine rSeq ?_
    refine zCond rfl rfl (fun hc => ?_) (fun hc => ?_)
    · replace hT := sT hc hT
      refine rSkip ?_
      refine rThen ?_
      refine rSeq ?_
      refine rBlock ?_
      refine rSeq ?_
      refine zReg md0 hX rfl rfl rfl ?_
      refine rThen ?_
      refine rSeq ?_
      refine zReg md0 hX rfl rfl rfl ?_
      refine rThen ?_
      refine rBlock ?_
      replace hT := sBind hT; obtain ⟨w2, hl, hT⟩ := hT
      refine rJoinA (fun v2 => v2 = w2) (fun v2 => ⟨[(2, .v (.c (.ptr 0 0 0 0 0 0))), (3, .v (.c (.ptr 1 0 0 0 0 0))), (4, .v (.c (.ptr 2 0 0 0 0 0))), (5, .v (.c (.ptr 3 0 0 0 0 0))), (6, .v (.c (.int .i64 s1.1))), (8, .v (.c (.int .i64 s1.1))), (9, .v (.c (.bool (decide (s1.1 < 6))))), (10, .v (.c (.int .i64 s1.1))), (11, .v (.c (.int .i64 v2.1))), (12, .v (.c (.bool v2.2.1)))], [(0, .mem true 24 none (.flat [.ints 384 .i64 a1])), (1, .mem true 24 none (.flat [.ints 384 .i64 a2])), (2, .mem true 24 none (.flat [.ints 384 .i64 (List.replicate 384 0)])), (3, .mem true 24 none (.flat [.ints 384 .i64 v2.2.2]))], 4⟩) (.exit 2) (fun v2 hv => ?_) (fun hxs20 => ?_)
      · subst hv; clear hl
        refine rInHit ?_
        refine rInNormal ?_
        refine rThen ?_
        replace hT := sIf hT; obtain ⟨o1, hT⟩ := hT
        refine zReg md0 hX rfl rfl rfl ?_
        exact hnexts1 _ (Option.some.inj hT).symm _ (To.mk' [] 0 hε rfl (by repeat' first | exact True.intro | exact rfl | apply And.intro) (by repeat' first | exact True.intro | exact rfl | apply And.intro))
      refine rLoopM (rebuild_Sum_b2 N a1 a2 s1) (fun s2 => ⟨[(2, .v (.c (.ptr 0 0 0 0 0 0))), (3, .v (.c (.ptr 1 0 0 0 0 0))), (4, .v (.c (.ptr 2 0 0 0 0 0))), (5, .v (.c (.ptr 3 0 0 0 0 0))), (6, .v (.c (.int .i64 s1.1))), (8, .v (.c (.int .i64 s1.1))), (9, .v (.c (.bool (decide (s1.1 < 6))))), (10, .v (.c (.int .i64 s1.1))), (11, .v (.c (.int .i64 s2.1)))], [(0, .mem true 24 none (.flat [.ints 384 .i64 a1])), (1, .mem true 24 none (.flat [.ints 384 .i64 a2])), (2, .mem true 24 none (.flat [.ints 384 .i64 (List.replicate 384 0)])), (3, .mem true 24 none (.flat [.ints 384 .i64 s2.2]))], 4⟩) hl (To.mk' [] 0 hε rfl (by repeat' first | exact True.intro | exact rfl | apply And.intro) (by repeat' first | exact True.intro | exact rfl | apply And.intro)) (fun s2 zs2 NNs2 hz hnexts2 houts2 => ?_)
      clear hl hT
      have hT := hz; clear hz
      refine rSeq ?_
      refine zReg md0 hX rfl rfl rfl ?_
      refine rThen ?_
      refine rSeq ?_
      refine zCond rfl rfl (fun hc => ?_) (fun hc => ?_)
      · replace hT := sT hc hT
        refine rSkip ?_
        refine rThen ?_
        refine rSeq ?_
        refine rBlock ?_
        refine rSeq ?_
        refine zReg md0 hX rfl rfl rfl ?_
        refine rThen ?_
        let c1 := (whole_Clip N (a1.getD ((s1.1).toNat * 64 + (s2.1).toNat) 0) (-1024) 1024)
        let c2 := (whole_Clip N (a2.getD ((s1.1).toNat * 64 + (s2.1).toNat) 0) (-1024) 1024)
        let c3 := (whole_Clip N ((c1.getD default) + (c2.getD default)) 0 255)
        replace hT := sIf hT; obtain ⟨⟨o1, o2, o3, o4, o5, o6, o7, o8, o9⟩, hT⟩ := hT
        refine zDraw md0 1 [18] hX mixed rfl rfl rfl rfl rfl ?_
        refine rInNormal ?_
        refine rThen ?_
        replace hT := sIf hT; obtain ⟨o1, hT⟩ := hT
        refine zReg md0 hX rfl rfl rfl ?_
        exact hnexts2 _ (Option.some.inj hT).symm _ (To.mk' [] 0 hε rfl (by repeat' first | exact True.intro | exact rfl | apply And.intro) (by repeat' first | exact True.intro | exact rfl | apply And.intro))
      · replace hT := sF hc hT
        refine rExit ?_
        refine rThenExit ?_
        refine rThenExit ?_
        exact zTo [] 0 hε (hxs20 _ (houts2 _ (Option.some.inj hT).symm))
    · replace hT := sF hc hT
      refine rExit ?_
      refine rThenExit ?_
      refine rThenExit ?_
      exact zTo [] 0 hε (hxs10 _ (houts1 _ (Option.some.inj hT).symm))
  · cases h
def ref01_Clip (N : Nat) (a1 : Int) (a2 : Int) (a3 : Int) : Option Int :=
  bif (bif (decide (a3 < a2)) then true else (decide (a1 < a2))) then
    some a2
  else
    bif (decide (a3 < a1)) then
      some a3
    else
      some a1
def sp_ref01_Clip (N : Nat) : X.Spec := fun args lk => match args with
  | [.v (.c (.int .i64 a1)), .v (.c (.int .i64 a2)), .v (.c (.int .i64 a3))] => some ⟨(ref01_Clip N a1 a2 a3).isSome = true, .v (.c (.int .i64 ((ref01_Clip N a1 a2 a3).getD default))), [], []⟩
  | _ => none
set_option maxRecDepth 100000 in
set_option maxHeartbeats 1000000 in
theorem ok_ref01_Clip (N : Nat) : FnOK Tryd.prog gt0 8 (sp_ref01_Clip N) := by
  refine fnOK_handed Tryd.func8 rfl (by kernel_rfl) tt_ok (ktNil) ?_
  intro args lk r h hp
  unfold sp_ref01_Clip at h
  split at h
  · rename_i a1 a2 a3
    cases h
    obtain ⟨x, hx⟩ := Option.isSome_iff_exists.1 hp
    simp only [hx, Option.getD_some]
    refine hand0 rfl rfl (fun w0 M ε0 hX => ?_)
    refine rCount (fun hε => ?_)
    have hT : ref01_Clip N a1 a2 a3 = some x := hx; clear hx hp; unfold ref01_Clip at hT
    refine rSeq ?_
    refine zReg md0 hX rfl rfl rfl ?_
    refine rThen ?_
    refine rSeq ?_
    refine rSeq ?_
    refine zReg md0 hX rfl rfl rfl ?_
    refine rThen ?_
    refine zCond rfl rfl (fun hc => ?_) (fun hc => ?_)
    · replace hT := sT hc hT
      refine rSeq ?_
      refine zReg md0 hX rfl rfl rfl ?_
      refine rThen ?_
      refine rRet ?_
      refine rThenRet ?_
      have hy := Option.some.inj hT; subst hy
      exact zEnd0 hX rfl
    · replace hT := sF hc hT
      refine rSkip ?_
      refine rThen ?_
      refine rSeq ?_
      refine rSeq ?_
      refine zReg md0 hX rfl rfl rfl ?_
      refine rThen ?_
      refine zCond rfl rfl (fun hc => ?_) (fun hc => ?_)
      · replace hT := sT hc hT
        refine rSeq ?_
        refine zReg md0 hX rfl rfl rfl ?_
        refine rThen ?_
        refine rRet ?_
        refine rThenRet ?_
        have hy := Option.some.inj hT; subst hy
        exact zEnd0 hX rfl
      · replace hT := sF hc hT
        refine rSkip ?_
        refine rThen ?_
        refine rSeq ?_
        refine zReg md0 hX rfl rfl rfl ?_
        refine rThen ?_
        refine rRet ?_
        have hy := Option.some.inj hT; subst hy
        exact zEnd0 hX rfl
  · cases h
def ref31_Sum_b2 (N : Nat) (a1 : (List Int)) (a2 : (List Int)) (s1 : (Int × (List Int))) (s2 : (Int × (List Int))) : Option ((Int × (List Int)) ⊕ (Int × Int × Bool × (List Int))) :=
  bif (decide (s2.1 < 64)) then
    let c1 := (ref01_Clip N (a1.getD ((s1.1).toNat * 64 + (s2.1).toNat) 0) (-1024) 1024)
    let c2 := (ref01_Clip N (a2.getD ((s1.1).toNat * 64 + (s2.1).toNat) 0) (-1024) 1024)
    let c3 := (ref01_Clip N ((c1.getD default) + (c2.getD default)) 0 255)
    if (0 : Int) ≤ s1.1 ∧ s1.1 < 6 ∧ (0 : Int) ≤ s2.1 ∧ s2.1 < 64 ∧ ((s1.1).toNat * 64 + (s2.1).toNat) < 384 ∧ c1.isSome = true ∧ c2.isSome = true ∧ inK .i64 ((c1.getD default) + (c2.getD default)) ∧ c3.isSome = true then
      if inK .i64 (s2.1 + 1) then
        some (.inl ((s2.1 + 1), (s2.2.set ((s1.1).toNat * 64 + (s2.1).toNat) (c3.getD default))))
      else none
    else none
  else
    some (.inr (s2.1, s2.1, (decide (s2.1 < 64)), s2.2))
def ref31_Sum_b1 (N : Nat) (a1 : (List Int)) (a2 : (List Int)) (s1 : (Int × (List Int))) : Option ((Int × (List Int)) ⊕ (List Int)) :=
  bif (decide (s1.1 < 6)) then
    (iter (ref31_Sum_b2 N a1 a2 s1) N (0, s1.2)).bind fun v2 =>
      if inK .i64 (s1.1 + 1) then
        some (.inl ((s1.1 + 1), v2.2.2.2))
      else none
  else
    some (.inr s1.2)
def ref31_Sum (N : Nat) (a1 : (List Int)) (a2 : (List Int)) : Option (List Int) :=
  (iter (ref31_Sum_b1 N a1 a2) N (0, (List.replicate 384 0))).bind fun v1 =>
    some v1
def sp_ref31_Sum (N : Nat) : X.Spec := fun args lk => match args with
  | [.v (.agg [.ints 384 .i64 a1]), .v (.agg [.ints 384 .i64 a2])] => some ⟨(ref31_Sum N a1 a2).isSome = true, .v (.agg [.ints 384 .i64 ((ref31_Sum N a1 a2).getD default)]), [], []⟩
  | _ => none
set_option maxRecDepth 100000 in
set_option maxHeartbeats 1000000 in
theorem ok_ref31_Sum (N : Nat) : FnOK Tryd.prog gt0 5 (sp_ref31_Sum N) := by
  refine fnOK_handed Tryd.func5 rfl (by kernel_rfl) tt_ok (ktCons (ok_ref01_Clip N) (ktNil)) ?_
  intro args lk r h hp
  unfold sp_ref31_Sum at h
  split at h
  · rename_i a1 a2
    change (List Int) at a1
    change (List Int) at a2
    cases h
    obtain ⟨x, hx⟩ := Option.isSome_iff_exists.1 hp
    simp only [hx, Option.getD_some]
    refine hand0 rfl rfl (fun w0 M ε0 hX => ?_)
    refine rCount (fun hε => ?_)
    have hT : ref31_Sum N a1 a2 = some x := hx; clear hx hp; unfold ref31_Sum at hT
    refine rSeq ?_
    refine zReg md0 hX rfl rfl rfl ?_
    refine rThen ?_
    refine rSeq ?_
    refine zReg md0 hX rfl rfl rfl ?_
    refine rThen ?_
    refine rSeq ?_
    refine rSeq ?_
    refine zReg md0 hX rfl rfl rfl ?_
    refine rThen ?_
    refine rBlock ?_
    replace hT := sBind hT; obtain ⟨w1, hl, hT⟩ := hT
    refine rJoinA (fun v1 => v1 = w1) (fun v1 => ⟨[(4, .v (.c (.ptr 2 0 0 0 0 0))), (5, .v (.c (.ptr 3 0 0 0 0 0)))], [(2, .mem true 24 none (.flat [.ints 384 .i64 (List.replicate 384 0)])), (3, .mem true 24 none (.flat [.ints 384 .i64 v1]))], 4⟩) (.exit 0) (fun v1 hv => ?_) (fun hxs10 => ?_)
    · subst hv; clear hl
      refine rInHit ?_
      refine rThen ?_
      refine rSeq ?_
      refine zReg md0 hX rfl rfl rfl ?_
      refine rThen ?_
      refine rRet ?_
      have hy := Option.some.inj hT; subst hy
      exact zEnd0 hX rfl
    refine rLoopM (ref31_Sum_b1 N a1 a2) (fun s1 => ⟨[(2, .v (.c (.ptr 0 0 0 0 0 0))), (3, .v (.c (.ptr 1 0 0 0 0 0))), (4, .v (.c (.ptr 2 0 0 0 0 0))), (5, .v (.c (.ptr 3 0 0 0 0 0))), (6, .v (.c (.int .i64 s1.1)))], [(0, .mem true 24 none (.flat [.ints 384 .i64 a1])), (1, .mem true 24 none (.flat [.ints 384 .i64 a2])), (2, .mem true 24 none (.flat [.ints 384 .i64 (List.replicate 384 0)])), (3, .mem true 24 none (.flat [.ints 384 .i64 s1.2]))], 4⟩) hl (To.mk' [] 0 hε rfl (by repeat' first | exact True.intro | exact rfl | apply And.intro) (by repeat' first | exact True.intro | exact rfl | apply And.intro)) (fun s1 zs1 NNs1 hz hnexts1 houts1 => ?_)
    clear hl hT
    have hT := hz; clear hz
    refine rSeq ?_
    refine rSeq ?_
    refine zReg md0 hX rfl rfl rfl ?_
    refine rThen ?_
    refine zCond rfl rfl (fun hc => ?_) (fun hc => ?_)
    · replace hT := sT hc hT
      refine rSkip ?_
      refine rThen ?_
      refine rSeq ?_
      refine rBlock ?_
      refine rSeq ?_
      refine zReg md0 hX rfl rfl rfl ?_
      refine rThen ?_
      refine rBlock ?_
      replace hT := sBind hT; obtain ⟨w2, hl, hT⟩ := hT
      refine rJoinA (fun v2 => v2 = w2) (fun v2 => ⟨[(2, .v (.c (.ptr 0 0 0 0 0 0))), (3, .v (.c (.ptr 1 0 0 0 0 0))), (4, .v (.c (.ptr 2 0 0 0 0 0))), (5, .v (.c (.ptr 3 0 0 0 0 0))), (6, .v (.c (.int .i64 s1.1))), (7, .v (.c (.int .i64 v2.1))), (8, .v (.c (.int .i64 s1.1))), (9, .v (.c (.bool (decide (s1.1 < 6))))), (12, .v (.c (.int .i64 v2.2.1))), (13, .v (.c (.bool v2.2.2.1)))], [(0, .mem true 24 none (.flat [.ints 384 .i64 a1])), (1, .mem true 24 none (.flat [.ints 384 .i64 a2])), (2, .mem true 24 none (.flat [.ints 384 .i64 (List.replicate 384 0)])), (3, .mem true 24 none (.flat [.ints 384 .i64 v2.2.2.2]))], 4⟩) (.exit 2) (fun v2 hv => ?_) (fun hxs20 => ?_)
      · subst hv; clear hl
        refine rInHit ?_
        refine rInNormal ?_
        refine rThen ?_
        replace hT := sIf hT; obtain ⟨o1, hT⟩ := hT
        refine zReg md0 hX rfl rfl rfl ?_
        exact hnexts1 _ (Option.some.inj hT).symm _ (To.mk' [] 0 hε rfl (by repeat' first | exact True.intro | exact rfl | apply And.intro) (by repeat' first | exact True.intro | exact rfl | apply And.intro))
      refine rLoopM (ref31_Sum_b2 N a1 a2 s1) (fun s2 => ⟨[(2, .v (.c (.ptr 0 0 0 0 0 0))), (3, .v (.c (.ptr 1 0 0 0 0 0))), (4, .v (.c (.ptr 2 0 0 0 0 0))), (5, .v (.c (.ptr 3 0 0 0 0 0))), (6, .v (.c (.int .i64 s1.1))), (7, .v (.c (.int .i64 s2.1))), (8, .v (.c (.int .i64 s1.1))), (9, .v (.c (.bool (decide (s1.1 < 6)))))], [(0, .mem true 24 none (.flat [.ints 384 .i64 a1])), (1, .mem true 24 none (.flat [.ints 384 .i64 a2])), (2, .mem true 24 none (.flat [.ints 384 .i64 (List.replicate 384 0)])), (3, .mem true 24 none (.flat [.ints 384 .i64 s2.2]))], 4⟩) hl (To.mk' [] 0 hε rfl (by repeat' first | exact True.intro | exact rfl | apply And.intro) (by repeat' first | exact True.intro | exact rfl | apply And.intro)) (fun s2 zs2 NNs2 hz hnexts2 houts2 => ?_)
      clear hl hT
      have hT := hz; clear hz
      refine rSeq ?_
      refine rSeq ?_
      refine zReg md0 hX rfl rfl rfl ?_
      refine rThen ?_
      refine zCond rfl rfl (fun hc => ?_) (fun hc => ?_)
      · replace hT := sT hc hT
        refine rSkip ?_
        refine rThen ?_
        refine rSeq ?_
        refine rBlock ?_
        let c1 := (ref01_Clip N (a1.getD ((s1.1).toNat * 64 + (s2.1).toNat) 0) (-1024) 1024)
        let c2 := (ref01_Clip N (a2.getD ((s1.1).toNat * 64 + (s2.1).toNat) 0) (-1024) 1024)
        let c3 := (ref01_Clip N ((c1.getD default) + (c2.getD default)) 0 255)
        replace hT := sIf hT; obtain ⟨⟨o1, o2, o3, o4, o5, o6, o7, o8, o9⟩, hT⟩ := hT
        refine zDraw md0 1 [18] hX mixed rfl rfl rfl rfl rfl ?_
        refine rInNormal ?_
        refine rThen ?_
        replace hT := sIf hT; obtain ⟨o1, hT⟩ := hT
        refine zReg md0 hX rfl rfl rfl ?_
        exact hnexts2 _ (Option.some.inj hT).symm _ (To.mk' [] 0 hε rfl (by repeat' first | exact True.intro | exact rfl | apply And.intro) (by repeat' first | exact True.intro | exact rfl | apply And.intro))
      · replace hT := sF hc hT
        refine rExit ?_
        refine rThenExit ?_
        refine rThenExit ?_
        exact zTo [] 0 hε (hxs20 _ (houts2 _ (Option.some.inj hT).symm))
    · replace hT := sF hc hT
      refine rExit ?_
      refine rThenExit ?_
      refine rThenExit ?_
      exact zTo [] 0 hε (hxs10 _ (houts1 _ (Option.some.inj hT).symm))
  · cases h
def cellout_bare_b1 (N : Nat) (a7 : (List (List (Bool × (Int × Int))))) (s1 : (Bool × Int)) : Option ((Bool × Int) ⊕ Bool) :=
  bif (decide (s1.2 < 6)) then
    if (0 : Int) ≤ s1.2 ∧ s1.2 < 6 ∧ (s1.2).toNat < 6 then
      if inK .i64 (s1.2 + 1) then
        some (.inl ((bif s1.1 then (decide (((a7.getD (s1.2).toNat []).length : Int) = 0)) else false), (s1.2 + 1)))
      else none
    else none
  else
    some (.inr s1.1)
def cellout_bare (N : Nat) (a1 : Int) (a2 : Bool) (a3 : Int) (a4 : Int) (a5 : (List Int)) (a6 : (List Int)) (a7 : (List (List (Bool × (Int × Int))))) : Option Bool :=
  let x2 := (bif (bif (bif (decide (a3 = 0)) then (decide (a4 = 0)) else false) then (decide (a5 = (List.replicate 2 0))) else false) then (decide (a6 = (List.replicate 6 0))) else false)
  (iter (cellout_bare_b1 N a7) N (x2, 0)).bind fun v1 =>
    some v1
def sp_cellout_bare (N : Nat) : X.Spec := fun args lk => match args with
  | [.v (.agg [.cs [.int .i64 a1, .bool a2, .int .i64 a3, .int .i64 a4], .ints 2 .i64 a5, .ints 6 .i64 a6, .fzs 6 (.pair .bool (.pair (.int .i64) (.int .i64))) a7])] => some ⟨(cellout_bare N a1 a2 a3 a4 a5 a6 a7).isSome = true, .v (.c (.bool ((cellout_bare N a1 a2 a3 a4 a5 a6 a7).getD default))), [], []⟩
  | _ => none
set_option maxRecDepth 100000 in
set_option maxHeartbeats 1000000 in
theorem ok_cellout_bare (N : Nat) : FnOK Tryd.prog gt0 28 (sp_cellout_bare N) := by
  refine fnOK_handed Tryd.func28 rfl (by kernel_rfl) tt_ok (ktNil) ?_
  intro args lk r h hp
  unfold sp_cellout_bare at h
  split at h
  · rename_i a1 a2 a3 a4 a5 a6 a7
    change (List Int) at a5
    change (List Int) at a6
    change (List (List (Bool × (Int × Int)))) at a7
    cases h
    obtain ⟨x, hx⟩ := Option.isSome_iff_exists.1 hp
    simp only [hx, Option.getD_some]
    refine hand0 rfl rfl (fun w0 M ε0 hX => ?_)
    refine rCount (fun hε => ?_)
    have hT : cellout_bare N a1 a2 a3 a4 a5 a6 a7 = some x := hx; clear hx hp; unfold cellout_bare at hT
    refine rSeq ?_
    refine zReg md0 hX rfl rfl rfl ?_
    refine rThen ?_
    refine rSeq ?_
    let x2 := (bif (bif (bif (decide (a3 = 0)) then (decide (a4 = 0)) else false) then (decide (a5 = (List.replicate 2 0))) else false) then (decide (a6 = (List.replicate 6 0))) else false)
    refine zReg md0 hX rfl rfl rfl ?_
    refine rThen ?_
    refine rSeq ?_
    refine rSeq ?_
    refine zReg md0 hX rfl rfl rfl ?_
    refine rThen ?_
    refine rBlock ?_
    replace hT := sBind hT; obtain ⟨w1, hl, hT⟩ := hT
    refine rJoinA (fun v1 => v1 = w1) (fun v1 => ⟨[(2, .v (.c (.bool false))), (3, .v (.c (.bool v1)))], [], 1⟩) (.exit 0) (fun v1 hv => ?_) (fun hxs10 => ?_)
    · subst hv; clear hl
      refine rInHit ?_
      refine rThen ?_
      refine rSeq ?_
      refine zReg md0 hX rfl rfl rfl ?_
      refine rThen ?_
      refine rRet ?_
      have hy := Option.some.inj hT; subst hy
      exact zEnd0 hX rfl
    refine rLoopM (cellout_bare_b1 N a7) (fun s1 => ⟨[(2, .v (.c (.bool false))), (3, .v (.c (.bool s1.1))), (27, .v (.agg [.fzs 6 (.pair .bool (.pair (.int .i64) (.int .i64))) a7])), (28, .v (.c (.int .i64 s1.2)))], [], 1⟩) hl (To.mk' [] 0 hε rfl (by repeat' first | exact True.intro | exact rfl | apply And.intro) (by repeat' first | exact True.intro | exact rfl | apply And.intro)) (fun s1 zs1 NNs1 hz hnexts1 houts1 => ?_)
    clear hl hT
    have hT := hz; clear hz
    refine rSeq ?_
    refine zReg md0 hX rfl rfl rfl ?_
    refine rThen ?_
    refine rSeq ?_
    refine zCond rfl rfl (fun hc => ?_) (fun hc => ?_)
    · replace hT := sT hc hT
      refine rSkip ?_
      refine rThen ?_
      refine rSeq ?_
      refine rBlock ?_
      refine rSeq ?_
      replace hT := sIf hT; obtain ⟨⟨o1, o2, o3⟩, hT⟩ := hT
      refine zReg md0 hX rfl rfl rfl ?_
      refine rThen ?_
      refine zReg md0 hX rfl rfl rfl ?_
      refine rInNormal ?_
      refine rThen ?_
      replace hT := sIf hT; obtain ⟨o1, hT⟩ := hT
      refine zReg md0 hX rfl rfl rfl ?_
      exact hnexts1 _ (Option.some.inj hT).symm _ (To.mk' [] 0 hε rfl (by repeat' first | exact True.intro | exact rfl | apply And.intro) (by repeat' first | exact True.intro | exact rfl | apply And.intro))
    · replace hT := sF hc hT
      refine rExit ?_
      refine rThenExit ?_
      refine rThenExit ?_
      exact zTo [] 0 hε (hxs10 _ (houts1 _ (Option.some.inj hT).symm))
  · cases h
def cellout_intra (N : Nat) (a1 : Int) : Option Bool :=
  some (bif (decide (a1 = 3)) then true else (decide (a1 = 4)))
def sp_cellout_intra (N : Nat) : X.Spec := fun args lk => match args with
  | [.v (.c (.int .i64 a1))] => some ⟨(cellout_intra N a1).isSome = true, .v (.c (.bool ((cellout_intra N a1).getD default))), [], []⟩
  | _ => none
set_option maxRecDepth 100000 in
set_option maxHeartbeats 1000000 in
theorem ok_cellout_intra (N : Nat) : FnOK Tryd.prog gt0 29 (sp_cellout_intra N) := by
  refine fnOK_handed Tryd.func29 rfl (by kernel_rfl) tt_ok (ktNil) ?_
  intro args lk r h hp
  unfold sp_cellout_intra at h
  split at h
  · rename_i a1
    cases h
    obtain ⟨x, hx⟩ := Option.isSome_iff_exists.1 hp
    simp only [hx, Option.getD_some]
    refine hand0 rfl rfl (fun w0 M ε0 hX => ?_)
    refine rCount (fun hε => ?_)
    have hT : cellout_intra N a1 = some x := hx; clear hx hp; unfold cellout_intra at hT
    refine rSeq ?_
    refine zReg md0 hX rfl rfl rfl ?_
    refine rThen ?_
    refine rSeq ?_
    refine zReg md0 hX rfl rfl rfl ?_
    refine rThen ?_
    refine rRet ?_
    have hy := Option.some.inj hT; subst hy
    exact zEnd0 hX rfl
  · cases h
def steps_Row (N : Nat) (a1 : Int) : Option (ByteArray × Bool) :=
  bif (decide (a1 = (-1))) then
    some (⟨#[48, 48]⟩, true)
  else
    bif (decide (a1 = (-2))) then
      some (⟨#[48, 49]⟩, true)
    else
      bif (decide (a1 = 1)) then
        some (⟨#[49, 48]⟩, true)
      else
        bif (decide (a1 = 2)) then
          some (⟨#[49, 49]⟩, true)
        else
          some (⟨#[]⟩, false)
def sp_steps_Row (N : Nat) : X.Spec := fun args lk => match args with
  | [.v (.c (.int .i64 a1))] => some ⟨(steps_Row N a1).isSome = true, .tup [.c (.str ((steps_Row N a1).getD default).1), .c (.bool ((steps_Row N a1).getD default).2)], [], []⟩
  | _ => none
set_option maxRecDepth 100000 in
set_option maxHeartbeats 1000000 in
theorem ok_steps_Row (N : Nat) : FnOK Tryd.prog gt0 30 (sp_steps_Row N) := by
  refine fnOK_handed Tryd.func30 rfl (by kernel_rfl) tt_ok (ktNil) ?_
  intro args lk r h hp
  unfold sp_steps_Row at h
  split at h
  · rename_i a1
    cases h
    obtain ⟨x, hx⟩ := Option.isSome_iff_exists.1 hp
    simp only [hx, Option.getD_some]
    refine hand0 rfl rfl (fun w0 M ε0 hX => ?_)
    refine rCount (fun hε => ?_)
    have hT : steps_Row N a1 = some x := hx; clear hx hp; unfold steps_Row at hT
    refine rSeq ?_
    refine zReg md0 hX rfl rfl rfl ?_
    refine rThen ?_
    refine rSeq ?_
    refine rSeq ?_
    refine zReg md0 hX rfl rfl rfl ?_
    refine rThen ?_
    refine rBlock ?_
    refine rSeq ?_
    refine zReg md0 hX rfl rfl rfl ?_
    refine rThen ?_
    refine zCond rfl rfl (fun hc => ?_) (fun hc => ?_)
    · replace hT := sT hc hT
      refine rSeq ?_
      refine zReg md0 hX rfl rfl rfl ?_
      refine rThen ?_
      refine rRet ?_
      refine rInRet ?_
      refine rThenRet ?_
      have hy := Option.some.inj hT; subst hy
      exact zEnd0 hX rfl
    · replace hT := sF hc hT
      refine rSeq ?_
      refine zReg md0 hX rfl rfl rfl ?_
      refine rThen ?_
      refine zCond rfl rfl (fun hc => ?_) (fun hc => ?_)
      · replace hT := sT hc hT
        refine rSeq ?_
        refine zReg md0 hX rfl rfl rfl ?_
        refine rThen ?_
        refine rRet ?_
        refine rInRet ?_
        refine rThenRet ?_
        have hy := Option.some.inj hT; subst hy
        exact zEnd0 hX rfl
      · replace hT := sF hc hT
        refine rSeq ?_
        refine zReg md0 hX rfl rfl rfl ?_
        refine rThen ?_
        refine zCond rfl rfl (fun hc => ?_) (fun hc => ?_)
        · replace hT := sT hc hT
          refine rSeq ?_
          refine zReg md0 hX rfl rfl rfl ?_
          refine rThen ?_
          refine rRet ?_
          refine rInRet ?_
          refine rThenRet ?_
          have hy := Option.some.inj hT; subst hy
          exact zEnd0 hX rfl
        · replace hT := sF hc hT
          refine rSeq ?_
          refine zReg md0 hX rfl rfl rfl ?_
          refine rThen ?_
          refine zCond rfl rfl (fun hc => ?_) (fun hc => ?_)
          · replace hT := sT hc hT
            refine rSeq ?_
            refine zReg md0 hX rfl rfl rfl ?_
            refine rThen ?_
            refine rRet ?_
            refine rInRet ?_
            refine rThenRet ?_
            have hy := Option.some.inj hT; subst hy
            exact zEnd0 hX rfl
          · replace hT := sF hc hT
            refine rSkip ?_
            refine rInNormal ?_
            refine rThen ?_
            refine rSeq ?_
            refine zReg md0 hX rfl rfl rfl ?_
            refine rThen ?_
            refine rRet ?_
            have hy := Option.some.inj hT; subst hy
            exact zEnd0 hX rfl
  · cases h
def cellout_stepped (N : Nat) (a1 : Int) : Option Bool :=
  some (bif (decide (a1 = 1)) then true else (decide (a1 = 4)))
def sp_cellout_stepped (N : Nat) : X.Spec := fun args lk => match args with
  | [.v (.c (.int .i64 a1))] => some ⟨(cellout_stepped N a1).isSome = true, .v (.c (.bool ((cellout_stepped N a1).getD default))), [], []⟩
  | _ => none
set_option maxRecDepth 100000 in
set_option maxHeartbeats 1000000 in
theorem ok_cellout_stepped (N : Nat) : FnOK Tryd.prog gt0 31 (sp_cellout_stepped N) := by
  refine fnOK_handed Tryd.func31 rfl (by kernel_rfl) tt_ok (ktNil) ?_
  intro args lk r h hp
  unfold sp_cellout_stepped at h
  split at h
  · rename_i a1
    cases h
    obtain ⟨x, hx⟩ := Option.isSome_iff_exists.1 hp
    simp only [hx, Option.getD_some]
    refine hand0 rfl rfl (fun w0 M ε0 hX => ?_)
    refine rCount (fun hε => ?_)
    have hT : cellout_stepped N a1 = some x := hx; clear hx hp; unfold cellout_stepped at hT
    refine rSeq ?_
    refine zReg md0 hX rfl rfl rfl ?_
    refine rThen ?_
    refine rSeq ?_
    refine zReg md0 hX rfl rfl rfl ?_
    refine rThen ?_
    refine rRet ?_
    have hy := Option.some.inj hT; subst hy
    exact zEnd0 hX rfl
  · cases h
def whole_Wrap (N : Nat) (a1 : Int) : Option Int :=
  bif (decide ((Int.tmod a1 64) < (-32))) then
    if inK .i64 ((Int.tmod a1 64) + 64) then
      some ((Int.tmod a1 64) + 64)
    else none
  else
    bif (decide ((32 : Int) ≤ (Int.tmod a1 64))) then
      if inK .i64 ((Int.tmod a1 64) - 64) then
        some ((Int.tmod a1 64) - 64)
      else none
    else
      some (Int.tmod a1 64)
def sp_whole_Wrap (N : Nat) : X.Spec := fun args lk => match args with
  | [.v (.c (.int .i64 a1))] => some ⟨(whole_Wrap N a1).isSome = true, .v (.c (.int .i64 ((whole_Wrap N a1).getD default))), [], []⟩
  | _ => none
set_option maxRecDepth 100000 in
set_option maxHeartbeats 1000000 in
theorem ok_whole_Wrap (N : Nat) : FnOK Tryd.prog gt0 42 (sp_whole_Wrap N) := by
  refine fnOK_handed Tryd.func42 rfl (by kernel_rfl) tt_ok (ktNil) ?_
  intro args lk r h hp
  unfold sp_whole_Wrap at h
  split at h
  · rename_i a1
    cases h
    obtain ⟨x, hx⟩ := Option.isSome_iff_exists.1 hp
    simp only [hx, Option.getD_some]
    refine hand0 rfl rfl (fun w0 M ε0 hX => ?_)
    refine rCount (fun hε => ?_)
    have hT : whole_Wrap N a1 = some x := hx; clear hx hp; unfold whole_Wrap at hT
    refine rSeq ?_
    refine zReg mdT hX rfl rfl rfl ?_
    refine rThen ?_
    refine rSeq ?_
    refine zReg mdT hX rfl rfl rfl ?_
    refine rThen ?_
    refine rSeq ?_
    refine rBlock ?_
    refine rSeq ?_
    refine zReg mdT hX rfl rfl rfl ?_
    refine rThen ?_
    refine zCond rfl rfl (fun hc => ?_) (fun hc => ?_)
    · replace hT := sT hc hT
      refine rSeq ?_
      replace hT := sIf hT; obtain ⟨o1, hT⟩ := hT
      refine zReg mdT hX rfl rfl rfl ?_
      refine rThen ?_
      refine rRet ?_
      refine rInRet ?_
      refine rThenRet ?_
      have hy := Option.some.inj hT; subst hy
      exact zEnd0 hX rfl
    · replace hT := sF hc hT
      refine rSeq ?_
      refine zReg mdT hX rfl rfl rfl ?_
      refine rThen ?_
      refine zCond rfl rfl (fun hc => ?_) (fun hc => ?_)
      · replace hT := sT hc hT
        refine rSeq ?_
        replace hT := sIf hT; obtain ⟨o1, hT⟩ := hT
        refine zReg mdT hX rfl rfl rfl ?_
        refine rThen ?_
        refine rRet ?_
        refine rInRet ?_
        refine rThenRet ?_
        have hy := Option.some.inj hT; subst hy
        exact zEnd0 hX rfl
      · replace hT := sF hc hT
        refine rSkip ?_
        refine rInNormal ?_
        refine rThen ?_
        refine rSeq ?_
        refine zReg mdT hX rfl rfl rfl ?_
        refine rThen ?_
        refine rRet ?_
        have hy := Option.some.inj hT; subst hy
        exact zEnd0 hX rfl
  · cases h
def cellout_vector (N : Nat) (a1 : Int) (a2 : Bool) (a3 : Int) (a4 : Int) (a5 : (List Int)) (a6 : (List Int)) (a7 : (List (List (Bool × (Int × Int))))) : Option Bool :=
  let c1 := (cellout_intra N a3)
  if c1.isSome = true then
    bif (c1.getD default) then
      some (decide (a5 = (List.replicate 2 0)))
    else
      let c2 := (whole_Wrap N (a5.getD 0 0))
      let c3 := (whole_Wrap N (a5.getD 1 0))
      let x1 := (bif (decide ((c2.getD default) = (a5.getD 0 0))) then (decide ((c3.getD default) = (a5.getD 1 0))) else false)
      if c2.isSome = true ∧ ((decide ((c2.getD default) = (a5.getD 0 0))) = true → c3.isSome = true) then
        some x1
      else none
  else none
def sp_cellout_vector (N : Nat) : X.Spec := fun args lk => match args with
  | [.v (.agg [.cs [.int .i64 a1, .bool a2, .int .i64 a3, .int .i64 a4], .ints 2 .i64 a5, .ints 6 .i64 a6, .fzs 6 (.pair .bool (.pair (.int .i64) (.int .i64))) a7])] => some ⟨(cellout_vector N a1 a2 a3 a4 a5 a6 a7).isSome = true, .v (.c (.bool ((cellout_vector N a1 a2 a3 a4 a5 a6 a7).getD default))), [], []⟩
  | _ => none
set_option maxRecDepth 100000 in
set_option maxHeartbeats 1000000 in
theorem ok_cellout_vector (N : Nat) : FnOK Tryd.prog gt0 32 (sp_cellout_vector N) := by
  refine fnOK_handed Tryd.func32 rfl (by kernel_rfl) tt_ok (ktCons (ok_whole_Wrap N) (ktCons (ok_cellout_intra N) (ktNil))) ?_
  intro args lk r h hp
  unfold sp_cellout_vector at h
  split at h
  · rename_i a1 a2 a3 a4 a5 a6 a7
    change (List Int) at a5
    change (List Int) at a6
    change (List (List (Bool × (Int × Int)))) at a7
    cases h
    obtain ⟨x, hx⟩ := Option.isSome_iff_exists.1 hp
    simp only [hx, Option.getD_some]
    refine hand0 rfl rfl (fun w0 M ε0 hX => ?_)
    refine rCount (fun hε => ?_)
    have hT : cellout_vector N a1 a2 a3 a4 a5 a6 a7 = some x := hx; clear hx hp; unfold cellout_vector at hT
    refine rSeq ?_
    refine zReg md0 hX rfl rfl rfl ?_
    refine rThen ?_
    refine rSeq ?_
    refine rSeq ?_
    let c1 := (cellout_intra N a3)
    replace hT := sIf hT; obtain ⟨o1, hT⟩ := hT
    refine zReg md0 hX rfl rfl rfl ?_
    refine rThen ?_
    refine zCond rfl rfl (fun hc => ?_) (fun hc => ?_)
    · replace hT := sT hc hT
      refine rSeq ?_
      refine zReg md0 hX rfl rfl rfl ?_
      refine rThen ?_
      refine rRet ?_
      refine rThenRet ?_
      have hy := Option.some.inj hT; subst hy
      exact zEnd0 hX rfl
    · replace hT := sF hc hT
      refine rSkip ?_
      refine rThen ?_
      refine rSeq ?_
      let c2 := (whole_Wrap N (a5.getD 0 0))
      let c3 := (whole_Wrap N (a5.getD 1 0))
      let x1 := (bif (decide ((c2.getD default) = (a5.getD 0 0))) then (decide ((c3.getD default) = (a5.getD 1 0))) else false)
      replace hT := sIf hT; obtain ⟨⟨o1, o2⟩, hT⟩ := hT
      refine rDrawM md0 0 [] hX mixed rfl rfl rfl rfl rfl (by (repeat' first | exact True.intro | with_reducible assumption | (with_reducible apply And.intro) | intro _) <;> first | assumption | exact o2 (by assumption) | exact rfl | omega | exact Nat.le_of_ble_eq_true rfl | exact selF (by assumption) | exact selT (by assumption) | exact And.intro rfl rfl | exact And.intro (by assumption) rfl | exact And.intro (by omega) rfl | (simp only [inK] at *; omega) | (simp_all [sel] <;> fail) | fail) ?_
      refine rThen ?_
      refine rRet ?_
      have hy := Option.some.inj hT; subst hy
      exact zEnd0 hX rfl
  · cases h
def outbits_New (N : Nat) : Option (List Bool) :=
  some []
def sp_outbits_New (N : Nat) : X.Spec := fun args lk => match args with
  | [] => some ⟨(outbits_New N).isSome = true, .v (.c (.ptr 0 0 0 0 0 0)), [.obj 5 ((outbits_New N).getD default)], []⟩
  | _ => none
set_option maxRecDepth 100000 in
set_option maxHeartbeats 1000000 in
theorem ok_outbits_New (N : Nat) : FnOK Tryd.prog gt0 34 (sp_outbits_New N) := by
  refine fnOK_handed Tryd.func34 rfl (by kernel_rfl) tt_ok (ktNil) ?_
  intro args lk r h hp
  unfold sp_outbits_New at h
  split at h
  · skip
    cases h
    obtain ⟨x, hx⟩ := Option.isSome_iff_exists.1 hp
    simp only [hx, Option.getD_some]
    refine hand0 rfl rfl (fun w0 M ε0 hX => ?_)
    refine rCount (fun hε => ?_)
    have hT : outbits_New N = some x := hx; clear hx hp; unfold outbits_New at hT
    refine rSeq ?_
    refine zReg md0 hX rfl rfl rfl ?_
    refine rThen ?_
    refine rSeq ?_
    refine zReg md0 hX rfl rfl rfl ?_
    refine rThen ?_
    refine rRet ?_
    refine rShut0Q 0 5 rfl rfl ?_
    have hy := Option.some.inj hT; subst hy
    exact rEndA [0] [.obj 5 []] [] (.v (.c (.ptr 0 0 0 0 0 0))) hX rfl (by repeat' first | exact True.intro | exact rfl | apply And.intro | omega | exact Nat.le_of_ble_eq_true rfl) (by repeat' first | exact True.intro | exact rfl | apply And.intro) rfl rfl rfl (by repeat' first | exact True.intro | exact rfl | exact ⟨_, rfl, rfl⟩ | apply And.intro | exact Or.inl rfl) rfl rfl (by repeat' first | exact True.intro | exact rfl | exact ⟨_, rfl, rfl⟩ | apply And.intro | exact Or.inl rfl) rfl rfl
  · cases h
def blocks_from (N : Nat) (a1 : Bool) : Option Int :=
  bif a1 then
    some 1
  else
    some 0
def sp_blocks_from (N : Nat) : X.Spec := fun args lk => match args with
  | [.v (.c (.bool a1))] => some ⟨(blocks_from N a1).isSome = true, .v (.c (.int .i64 ((blocks_from N a1).getD default))), [], []⟩
  | _ => none
set_option maxRecDepth 100000 in
set_option maxHeartbeats 1000000 in
theorem ok_blocks_from (N : Nat) : FnOK Tryd.prog gt0 52 (sp_blocks_from N) := by
  refine fnOK_handed Tryd.func52 rfl (by kernel_rfl) tt_ok (ktNil) ?_
  intro args lk r h hp
  unfold sp_blocks_from at h
  split at h
  · rename_i a1
    cases h
    obtain ⟨x, hx⟩ := Option.isSome_iff_exists.1 hp
    simp only [hx, Option.getD_some]
    refine hand0 rfl rfl (fun w0 M ε0 hX => ?_)
    refine rCount (fun hε => ?_)
    have hT : blocks_from N a1 = some x := hx; clear hx hp; unfold blocks_from at hT
    refine rSeq ?_
    refine zReg md0 hX rfl rfl rfl ?_
    refine rThen ?_
    refine rSeq ?_
    refine rSeq ?_
    refine zReg md0 hX rfl rfl rfl ?_
    refine rThen ?_
    refine zCond rfl rfl (fun hc => ?_) (fun hc => ?_)
    · replace hT := sT hc hT
      refine rSeq ?_
      refine zReg md0 hX rfl rfl rfl ?_
      refine rThen ?_
      refine rRet ?_
      refine rThenRet ?_
      have hy := Option.some.inj hT; subst hy
      exact zEnd0 hX rfl
    · replace hT := sF hc hT
      refine rSkip ?_
      refine rThen ?_
      refine rSeq ?_
      refine zReg md0 hX rfl rfl rfl ?_
      refine rThen ?_
      refine rRet ?_
      have hy := Option.some.inj hT; subst hy
      exact zEnd0 hX rfl
  · cases h
def tcoef_Right (N : Nat) (a1 : Bool) (a2 : Int) (a3 : Int) : Option Bool :=
  let x1 := (bif (bif (bif (bif (decide ((0 : Int) ≤ a2)) then (decide (a2 ≤ 63)) else false) then (decide (a3 ≠ 0)) else false) then (decide (((-127) : Int) ≤ a3)) else false) then (decide (a3 ≤ 127)) else false)
  some x1
def sp_tcoef_Right (N : Nat) : X.Spec := fun args lk => match args with
  | [.v (.agg [.cs [.bool a1, .int .i64 a2, .int .i64 a3]])] => some ⟨(tcoef_Right N a1 a2 a3).isSome = true, .v (.c (.bool ((tcoef_Right N a1 a2 a3).getD default))), [], []⟩
  | _ => none
set_option maxRecDepth 100000 in
set_option maxHeartbeats 1000000 in
theorem ok_tcoef_Right (N : Nat) : FnOK Tryd.prog gt0 55 (sp_tcoef_Right N) := by
  refine fnOK_handed Tryd.func55 rfl (by kernel_rfl) tt_ok (ktNil) ?_
  intro args lk r h hp
  unfold sp_tcoef_Right at h
  split at h
  · rename_i a1 a2 a3
    cases h
    obtain ⟨x, hx⟩ := Option.isSome_iff_exists.1 hp
    simp only [hx, Option.getD_some]
    refine hand0 rfl rfl (fun w0 M ε0 hX => ?_)
    refine rCount (fun hε => ?_)
    have hT : tcoef_Right N a1 a2 a3 = some x := hx; clear hx hp; unfold tcoef_Right at hT
    refine rSeq ?_
    refine zReg md0 hX rfl rfl rfl ?_
    refine rThen ?_
    refine rSeq ?_
    let x1 := (bif (bif (bif (bif (decide ((0 : Int) ≤ a2)) then (decide (a2 ≤ 63)) else false) then (decide (a3 ≠ 0)) else false) then (decide (((-127) : Int) ≤ a3)) else false) then (decide (a3 ≤ 127)) else false)
    refine zReg md0 hX rfl rfl rfl ?_
    refine rThen ?_
    refine rRet ?_
    have hy := Option.some.inj hT; subst hy
    exact zEnd0 hX rfl
  · cases h
def runs_Levels_b1 (N : Nat) (a1 : (List (Bool × (Int × Int)))) (s1 : (Int × Int × (List Int))) : Option ((Int × Int × (List Int)) ⊕ (Unit ⊕ (List Int))) :=
  bif (decide (s1.2.1 < (a1.length : Int))) then
    if (0 : Int) ≤ s1.2.1 ∧ s1.2.1 < (a1.length : Int) then
      let c1 := (tcoef_Right N (a1.getD (s1.2.1).toNat (false, ((0 : Int), (0 : Int)))).1 (a1.getD (s1.2.1).toNat (false, ((0 : Int), (0 : Int)))).2.1 (a1.getD (s1.2.1).toNat (false, ((0 : Int), (0 : Int)))).2.2)
      let x5 := (bif (bif (!(c1.getD default)) then true else (!((a1.getD (s1.2.1).toNat (false, ((0 : Int), (0 : Int)))).1 == (decide (s1.2.1 = ((a1.length : Int) - 1)))))) then true else (decide ((64 : Int) ≤ (s1.1 + (a1.getD (s1.2.1).toNat (false, ((0 : Int), (0 : Int)))).2.1))))
      if c1.isSome = true ∧ ((!(!(c1.getD default))) = true → inK .i64 ((a1.length : Int) - 1)) ∧ ((!(bif (!(c1.getD default)) then true else (!((a1.getD (s1.2.1).toNat (false, ((0 : Int), (0 : Int)))).1 == (decide (s1.2.1 = ((a1.length : Int) - 1))))))) = true → inK .i64 (s1.1 + (a1.getD (s1.2.1).toNat (false, ((0 : Int), (0 : Int)))).2.1)) then
        bif x5 then
          some (.inr (Sum.inl ()))
        else
          if inK .i64 (s1.1 + (a1.getD (s1.2.1).toNat (false, ((0 : Int), (0 : Int)))).2.1) then
            let x6 := (s1.2.2.set (s1.1 + (a1.getD (s1.2.1).toNat (false, ((0 : Int), (0 : Int)))).2.1).toNat (a1.getD (s1.2.1).toNat (false, ((0 : Int), (0 : Int)))).2.2)
            if (0 : Int) ≤ (s1.1 + (a1.getD (s1.2.1).toNat (false, ((0 : Int), (0 : Int)))).2.1) ∧ (s1.1 + (a1.getD (s1.2.1).toNat (false, ((0 : Int), (0 : Int)))).2.1) < 64 ∧ (s1.1 + (a1.getD (s1.2.1).toNat (false, ((0 : Int), (0 : Int)))).2.1).toNat < 64 then
              if inK .i64 ((s1.1 + (a1.getD (s1.2.1).toNat (false, ((0 : Int), (0 : Int)))).2.1) + 1) then
                if inK .i64 (s1.2.1 + 1) then
                  some (.inl (((s1.1 + (a1.getD (s1.2.1).toNat (false, ((0 : Int), (0 : Int)))).2.1) + 1), (s1.2.1 + 1), x6))
                else none
              else none
            else none
          else none
      else none
    else none
  else
    some (.inr (Sum.inr s1.2.2))
def runs_Levels (N : Nat) (a1 : (List (Bool × (Int × Int)))) (a2 : Int) : Option ((List Int) × Int) :=
  bif (bif (decide (a2 ≠ 0)) then (decide (a2 ≠ 1)) else false) then
    some ((List.replicate 64 0), 1)
  else
    (iter (runs_Levels_b1 N a1) N (a2, 0, (List.replicate 64 0))).bind fun w1 =>
      (Sum.elim (fun v1 =>
        some ((List.replicate 64 0), 7)
      )
        (fun v2 =>
          some (v2, 0)
        )
      ) w1
def sp_runs_Levels (N : Nat) : X.Spec := fun args lk => match args with
  | [.v (.c (.fz (.pair .bool (.pair (.int .i64) (.int .i64))) a1)), .v (.c (.int .i64 a2))] => some ⟨(runs_Levels N a1 a2).isSome = true, .tup [.agg [.ints 64 .i64 ((runs_Levels N a1 a2).getD default).1], .c (.int .i64 ((runs_Levels N a1 a2).getD default).2)], [], []⟩
  | _ => none
set_option maxRecDepth 100000 in
set_option maxHeartbeats 1000000 in
theorem ok_runs_Levels (N : Nat) : FnOK Tryd.prog gt0 50 (sp_runs_Levels N) := by
  refine fnOK_handed Tryd.func50 rfl (by kernel_rfl) tt_ok (ktCons (ok_tcoef_Right N) (ktNil)) ?_
  intro args lk r h hp
  unfold sp_runs_Levels at h
  split at h
  · rename_i a1 a2
    change (List (Bool × (Int × Int))) at a1
    cases h
    obtain ⟨x, hx⟩ := Option.isSome_iff_exists.1 hp
    simp only [hx, Option.getD_some]
    refine hand0 rfl rfl (fun w0 M ε0 hX => ?_)
    refine rCount (fun hε => ?_)
    have hT : runs_Levels N a1 a2 = some x := hx; clear hx hp; unfold runs_Levels at hT
    refine rSeq ?_
    refine zReg md0 hX rfl rfl rfl ?_
    refine rThen ?_
    refine rSeq ?_
    refine rSeq ?_
    refine zReg md0 hX rfl rfl rfl ?_
    refine rThen ?_
    refine zCond rfl rfl (fun hc => ?_) (fun hc => ?_)
    · replace hT := sT hc hT
      refine rSeq ?_
      refine zReg md0 hX rfl rfl rfl ?_
      refine rThen ?_
      refine rRet ?_
      refine rThenRet ?_
      have hy := Option.some.inj hT; subst hy
      exact zEnd0 hX rfl
    · replace hT := sF hc hT
      refine rSkip ?_
      refine rThen ?_
      refine rSeq ?_
      refine zReg md0 hX rfl rfl rfl ?_
      refine rThen ?_
      refine rSeq ?_
      refine zReg md0 hX rfl rfl rfl ?_
      refine rThen ?_
      refine rSeq ?_
      refine rSeq ?_
      refine zReg md0 hX rfl rfl rfl ?_
      refine rThen ?_
      refine rBlock ?_
      replace hT := sBind hT; obtain ⟨w1, hl, hT⟩ := hT
      refine rJoinA (fun v1 => (Sum.inl v1) = w1) (fun v1 => ⟨[(4, .v (.c (.ptr 0 0 0 0 0 0))), (5, .v (.c (.int .i64 7)))], [(0, .mem true 22 none (.flat [.ints 64 .i64 (List.replicate 64 0)]))], 2⟩) .ret (fun v1 hv => ?_) (fun hxs10 => ?_)
      · subst hv; clear hl; replace hT := (sElimL hT)
        refine rInRet ?_
        refine rThenRet ?_
        have hy := Option.some.inj hT; subst hy
        exact zEnd0 hX rfl
      refine rJoinA (fun v2 => (Sum.inr v2) = w1) (fun v2 => ⟨[(4, .v (.c (.ptr 0 0 0 0 0 0))), (5, .v (.c (.int .i64 0))), (6, .v (.c (.ptr 1 0 0 0 0 0)))], [(0, .mem true 22 none (.flat [.ints 64 .i64 (List.replicate 64 0)])), (1, .mem true 22 none (.flat [.ints 64 .i64 v2]))], 2⟩) (.exit 0) (fun v2 hv => ?_) (fun hxs11 => ?_)
      · subst hv; clear hl; replace hT := (sElimR hT)
        refine rInHit ?_
        refine rThen ?_
        refine rSeq ?_
        refine zReg md0 hX rfl rfl rfl ?_
        refine rThen ?_
        refine rRet ?_
        have hy := Option.some.inj hT; subst hy
        exact zEnd0 hX rfl
      refine rLoopM (runs_Levels_b1 N a1) (fun s1 => ⟨[(0, .v (.c (.fz (.pair .bool (.pair (.int .i64) (.int .i64))) a1))), (4, .v (.c (.ptr 0 0 0 0 0 0))), (5, .v (.c (.int .i64 0))), (6, .v (.c (.ptr 1 0 0 0 0 0))), (7, .v (.c (.int .i64 s1.1))), (18, .v (.c (.fz (.pair .bool (.pair (.int .i64) (.int .i64))) a1))), (19, .v (.c (.int .i64 (a1.length : Int)))), (20, .v (.c (.int .i64 s1.2.1)))], [(0, .mem true 22 none (.flat [.ints 64 .i64 (List.replicate 64 0)])), (1, .mem true 22 none (.flat [.ints 64 .i64 s1.2.2]))], 2⟩) hl (To.mk' [] 0 hε rfl (by repeat' first | exact True.intro | exact rfl | apply And.intro) (by repeat' first | exact True.intro | exact rfl | apply And.intro)) (fun s1 zs1 NNs1 hz hnexts1 houts1 => ?_)
      clear hl hT
      have hT := hz; clear hz
      refine rSeq ?_
      refine zReg md0 hX rfl rfl rfl ?_
      refine rThen ?_
      refine rSeq ?_
      refine zCond rfl rfl (fun hc => ?_) (fun hc => ?_)
      · replace hT := sT hc hT
        refine rSkip ?_
        refine rThen ?_
        refine rSeq ?_
        refine rBlock ?_
        refine rSeq ?_
        replace hT := sIf hT; obtain ⟨⟨o1, o2⟩, hT⟩ := hT
        refine zReg md0 hX rfl rfl rfl ?_
        refine rThen ?_
        refine rSeq ?_
        refine rSeq ?_
        let c1 := (tcoef_Right N (a1.getD (s1.2.1).toNat (false, ((0 : Int), (0 : Int)))).1 (a1.getD (s1.2.1).toNat (false, ((0 : Int), (0 : Int)))).2.1 (a1.getD (s1.2.1).toNat (false, ((0 : Int), (0 : Int)))).2.2)
        let x5 := (bif (bif (!(c1.getD default)) then true else (!((a1.getD (s1.2.1).toNat (false, ((0 : Int), (0 : Int)))).1 == (decide (s1.2.1 = ((a1.length : Int) - 1)))))) then true else (decide ((64 : Int) ≤ (s1.1 + (a1.getD (s1.2.1).toNat (false, ((0 : Int), (0 : Int)))).2.1))))
        replace hT := sIf hT; obtain ⟨⟨o1, o2, o3⟩, hT⟩ := hT
        refine rRegC md0 hX rfl rfl rfl (by (repeat' first | exact True.intro | with_reducible assumption | (with_reducible apply And.intro) | intro _) <;> first | assumption | exact o2 (by assumption) | exact o3 (by assumption) | exact rfl | omega | exact Nat.le_of_ble_eq_true rfl | exact selF (by assumption) | exact selT (by assumption) | exact And.intro rfl rfl | exact And.intro (by assumption) rfl | exact And.intro (by omega) rfl | (simp only [inK] at *; omega) | (simp_all [sel] <;> fail) | fail) ?_
        refine rThen ?_
        refine zCond rfl rfl (fun hc => ?_) (fun hc => ?_)
        · replace hT := sT hc hT
          refine rSeq ?_
          refine zReg md0 hX rfl rfl rfl ?_
          refine rThen ?_
          refine rRet ?_
          refine rThenRet ?_
          refine rInRet ?_
          refine rThenRet ?_
          refine rThenRet ?_
          exact zTo [] 0 hε (hxs10 _ (houts1 _ (Option.some.inj hT).symm))
        · replace hT := sF hc hT
          refine rSkip ?_
          refine rThen ?_
          refine rSeq ?_
          replace hT := sIf hT; obtain ⟨o1, hT⟩ := hT
          refine zReg md0 hX rfl rfl rfl ?_
          refine rThen ?_
          refine rSeq ?_
          let x6 := (s1.2.2.set (s1.1 + (a1.getD (s1.2.1).toNat (false, ((0 : Int), (0 : Int)))).2.1).toNat (a1.getD (s1.2.1).toNat (false, ((0 : Int), (0 : Int)))).2.2)
          replace hT := sIf hT; obtain ⟨⟨o1, o2, o3⟩, hT⟩ := hT
          refine zReg md0 hX rfl rfl rfl ?_
          refine rThen ?_
          replace hT := sIf hT; obtain ⟨o1, hT⟩ := hT
          refine zReg md0 hX rfl rfl rfl ?_
          refine rInNormal ?_
          refine rThen ?_
          replace hT := sIf hT; obtain ⟨o1, hT⟩ := hT
          refine zReg md0 hX rfl rfl rfl ?_
          exact hnexts1 _ (Option.some.inj hT).symm _ (To.mk' [] 0 hε rfl (by repeat' first | exact True.intro | exact rfl | apply And.intro) (by repeat' first | exact True.intro | exact rfl | apply And.intro))
      · replace hT := sF hc hT
        refine rExit ?_
        refine rThenExit ?_
        refine rThenExit ?_
        exact zTo [] 0 hε (hxs11 _ (houts1 _ (Option.some.inj hT).symm))
  · cases h
def blocks_may (N : Nat) (a1 : Bool) (a2 : Int) (a3 : (List (Bool × (Int × Int)))) : Option Bool :=
  let x1 := (bif (bif (!(a1 == (decide (a2 ≠ 0)))) then true else (decide (a2 < 0))) then true else (decide ((255 : Int) ≤ a2)))
  bif x1 then
    some false
  else
    let c1 := (blocks_from N a1)
    let c2 := (runs_Levels N a3 (c1.getD default))
    if c1.isSome = true ∧ c2.isSome = true then
      some (decide ((c2.getD default).2 = 0))
    else none
def sp_blocks_may (N : Nat) : X.Spec := fun args lk => match args with
  | [.v (.c (.bool a1)), .v (.c (.int .i64 a2)), .v (.c (.fz (.pair .bool (.pair (.int .i64) (.int .i64))) a3))] => some ⟨(blocks_may N a1 a2 a3).isSome = true, .v (.c (.bool ((blocks_may N a1 a2 a3).getD default))), [], []⟩
  | _ => none
set_option maxRecDepth 100000 in
set_option maxHeartbeats 1000000 in
theorem ok_blocks_may (N : Nat) : FnOK Tryd.prog gt0 43 (sp_blocks_may N) := by
  refine fnOK_handed Tryd.func43 rfl (by kernel_rfl) tt_ok (ktCons (ok_runs_Levels N) (ktCons (ok_blocks_from N) (ktNil))) ?_
  intro args lk r h hp
  unfold sp_blocks_may at h
  split at h
  · rename_i a1 a2 a3
    change (List (Bool × (Int × Int))) at a3
    cases h
    obtain ⟨x, hx⟩ := Option.isSome_iff_exists.1 hp
    simp only [hx, Option.getD_some]
    refine hand0 rfl rfl (fun w0 M ε0 hX => ?_)
    refine rCount (fun hε => ?_)
    have hT : blocks_may N a1 a2 a3 = some x := hx; clear hx hp; unfold blocks_may at hT
    refine rSeq ?_
    refine zReg md0 hX rfl rfl rfl ?_
    refine rThen ?_
    refine rSeq ?_
    refine rSeq ?_
    let x1 := (bif (bif (!(a1 == (decide (a2 ≠ 0)))) then true else (decide (a2 < 0))) then true else (decide ((255 : Int) ≤ a2)))
    refine zReg md0 hX rfl rfl rfl ?_
    refine rThen ?_
    refine zCond rfl rfl (fun hc => ?_) (fun hc => ?_)
    · replace hT := sT hc hT
      refine rSeq ?_
      refine zReg md0 hX rfl rfl rfl ?_
      refine rThen ?_
      refine rRet ?_
      refine rThenRet ?_
      have hy := Option.some.inj hT; subst hy
      exact zEnd0 hX rfl
    · replace hT := sF hc hT
      refine rSkip ?_
      refine rThen ?_
      refine rSeq ?_
      let c1 := (blocks_from N a1)
      let c2 := (runs_Levels N a3 (c1.getD default))
      replace hT := sIf hT; obtain ⟨⟨o1, o2⟩, hT⟩ := hT
      refine zReg md0 hX rfl rfl rfl ?_
      refine rThen ?_
      refine rSeq ?_
      refine zReg md0 hX rfl rfl rfl ?_
      refine rThen ?_
      refine rRet ?_
      have hy := Option.some.inj hT; subst hy
      exact zEnd0 hX rfl
  · cases h
def outbits_fits (N : Nat) (a1 : Int) (a2 : Int) : Option Bool :=
  let x1 := (bif (bif (bif (decide ((0 : Int) ≤ a2)) then (decide (a2 ≤ 32)) else false) then (decide ((0 : Int) ≤ a1)) else false) then (decide (a1 < ((1 : Int) * 2 ^ (Int.toNat a2)))) else false)
  if ((bif (bif (decide ((0 : Int) ≤ a2)) then (decide (a2 ≤ 32)) else false) then (decide ((0 : Int) ≤ a1)) else false) = true → inK .u64 a2) ∧ ((bif (bif (decide ((0 : Int) ≤ a2)) then (decide (a2 ≤ 32)) else false) then (decide ((0 : Int) ≤ a1)) else false) = true → (0 : Int) ≤ a2) ∧ ((bif (bif (decide ((0 : Int) ≤ a2)) then (decide (a2 ≤ 32)) else false) then (decide ((0 : Int) ≤ a1)) else false) = true → (a2).toNat ≤ 64) ∧ ((bif (bif (decide ((0 : Int) ≤ a2)) then (decide (a2 ≤ 32)) else false) then (decide ((0 : Int) ≤ a1)) else false) = true → inK .i64 ((1 : Int) * 2 ^ (Int.toNat a2))) then
    some x1
  else none
def sp_outbits_fits (N : Nat) : X.Spec := fun args lk => match args with
  | [.v (.c (.int .i64 a1)), .v (.c (.int .i64 a2))] => some ⟨(outbits_fits N a1 a2).isSome = true, .v (.c (.bool ((outbits_fits N a1 a2).getD default))), [], []⟩
  | _ => none
set_option maxRecDepth 100000 in
set_option maxHeartbeats 1000000 in
theorem ok_outbits_fits (N : Nat) : FnOK Tryd.prog gt0 53 (sp_outbits_fits N) := by
  refine fnOK_handed Tryd.func53 rfl (by kernel_rfl) tt_ok (ktNil) ?_
  intro args lk r h hp
  unfold sp_outbits_fits at h
  split at h
  · rename_i a1 a2
    cases h
    obtain ⟨x, hx⟩ := Option.isSome_iff_exists.1 hp
    simp only [hx, Option.getD_some]
    refine hand0 rfl rfl (fun w0 M ε0 hX => ?_)
    refine rCount (fun hε => ?_)
    have hT : outbits_fits N a1 a2 = some x := hx; clear hx hp; unfold outbits_fits at hT
    refine rSeq ?_
    refine zReg md0 hX rfl rfl rfl ?_
    refine rThen ?_
    refine rSeq ?_
    let x1 := (bif (bif (bif (decide ((0 : Int) ≤ a2)) then (decide (a2 ≤ 32)) else false) then (decide ((0 : Int) ≤ a1)) else false) then (decide (a1 < ((1 : Int) * 2 ^ (Int.toNat a2)))) else false)
    replace hT := sIf hT; obtain ⟨⟨o1, o2, o3, o4⟩, hT⟩ := hT
    refine rRegC md0 hX rfl rfl rfl (by (repeat' first | exact True.intro | with_reducible assumption | (with_reducible apply And.intro) | intro _) <;> first | assumption | exact o1 (by assumption) | exact o2 (by assumption) | exact o3 (by assumption) | exact o4 (by assumption) | exact rfl | omega | exact Nat.le_of_ble_eq_true rfl | exact selF (by assumption) | exact selT (by assumption) | exact And.intro rfl rfl | exact And.intro (by assumption) rfl | exact And.intro (by omega) rfl | (simp only [inK] at *; omega) | (simp_all [sel] <;> fail) | fail) ?_
    refine rThen ?_
    refine rRet ?_
    have hy := Option.some.inj hT; subst hy
    exact zEnd0 hX rfl
  · cases h
def overspill_outbits_Writer_bit (N : Nat) (a1 : Bool) (a2 : (List Bool)) : Option (List Bool) :=
  if (a2.length : Int) ≤ 9223372036854775800 then
    if (0 : Int) ≤ (a2.length : Int) then
      joinK (fun (v1 : (Nat × Nat × (List Int))) =>
        if (a1 = true → (0 : Int) ≤ (a2.length : Int)) ∧ (a1 = true → (0 : Int) ≤ ((a2.length : Int) / 8)) ∧ (a1 = true → ((a2.length : Int) / 8) < (v1.1 : Int)) ∧ (a1 = true → ((a2.length : Int) / 8).toNat < v1.2.1) ∧ (a1 = true → inK .i64 ((7 : Int) - ((a2.length : Int) % 8))) ∧ (a1 = true → inK .u64 ((7 : Int) - ((a2.length : Int) % 8))) ∧ (a1 = true → (0 : Int) ≤ ((7 : Int) - ((a2.length : Int) % 8))) ∧ (a1 = true → (((7 : Int) - ((a2.length : Int) % 8))).toNat ≤ 8) ∧ (a1 = true → inK .u8 ((1 : Int) * 2 ^ (Int.toNat ((7 : Int) - ((a2.length : Int) % 8))))) ∧ (a1 = true → (0 : Int) ≤ (v1.2.2.getD ((a2.length : Int) / 8).toNat 0)) ∧ (a1 = true → (0 : Int) ≤ ((1 : Int) * 2 ^ (Int.toNat ((7 : Int) - ((a2.length : Int) % 8))))) then
          let x1 := (bif a1 then (v1.2.2.set ((a2.length : Int) / 8).toNat ((Int.toNat (v1.2.2.getD ((a2.length : Int) / 8).toNat 0) ||| Int.toNat ((1 : Int) * 2 ^ (Int.toNat ((7 : Int) - ((a2.length : Int) % 8)))) : Nat) : Int)) else v1.2.2)
          if inK .i64 ((a2.length : Int) + 1) then
            if v1.2.1 = v1.1 ∧ packB (unpB x1 ((a2.length : Int) + 1)) = x1 ∧ ((unpB x1 ((a2.length : Int) + 1)).length : Int) = ((a2.length : Int) + 1) then
              some (unpB x1 ((a2.length : Int) + 1))
            else none
          else none
        else none
      ) fun k1 =>
        bif (decide (((a2.length : Int) % 8) = 0)) then
          if 1 ≤ 1 ∧ (((a2.length + 7) / 8) + 1) * 1 ≤ 140737488355328 ∧ ((a2.length + 7) / 8) + 1 ≤ 9223372036854775807 then
            k1 ((((a2.length + 7) / 8) + 1), (((a2.length + 7) / 8) + 1), ((packB a2) ++ (((List.replicate 1 0).set 0 0).take 1)))
          else none
        else
          k1 (((a2.length + 7) / 8), ((a2.length + 7) / 8), (packB a2))
    else none
  else none
def sp_overspill_outbits_Writer_bit (N : Nat) : X.Spec := fun args lk => match args with
  | [.v (.c (.ptr i0 0 0 0 0 0)), .v (.c (.bool a1))] => (match lk i0 with
    | some (.obj 5 a2) => some ⟨(overspill_outbits_Writer_bit N a1 a2).isSome = true, .tup [], [], [(i0, .obj 5 ((overspill_outbits_Writer_bit N a1 a2).getD default))]⟩
    | _ => none)
  | _ => none
set_option maxRecDepth 100000 in
set_option maxHeartbeats 1000000 in
theorem ok_overspill_outbits_Writer_bit (N : Nat) : FnOK Tryd.prog gt0 54 (sp_overspill_outbits_Writer_bit N) := by
  refine fnOK_handed Tryd.func54 rfl (by kernel_rfl) tt_ok (ktNil) ?_
  intro args lk r h hp
  unfold sp_overspill_outbits_Writer_bit at h
  split at h
  · rename_i i0 a1
    split at h
    · rename_i a2 hl0
      cases h
      obtain ⟨x, hx⟩ := Option.isSome_iff_exists.1 hp
      simp only [hx, Option.getD_some]
      refine handL [i0] 1 [(0, .obj 5 a2)] [.v (.c (.ptr 0 0 0 0 0 0)), .v (.c (.bool a1))] rfl rfl rfl ⟨isSome_of hl0, trivial⟩ ⟨⟨rfl, (by repeat' first | exact True.intro | exact rfl | exact ⟨_, rfl, rfl⟩ | apply And.intro | exact Or.inl rfl), _, hl0, .inl rfl⟩, trivial⟩ rfl (fun w0 M ε0 hX => ?_)
      refine rCount (fun hε => ?_)
      have hT : overspill_outbits_Writer_bit N a1 a2 = some x := hx; clear hx hp; unfold overspill_outbits_Writer_bit at hT
      replace hT := sIf hT; obtain ⟨p0, hT⟩ := hT
      refine rOpen1 p0 (by (repeat' first | exact True.intro | exact rfl | apply And.intro) <;> first | assumption | rfl) (fun ty0 => ?_)
      refine rSeq ?_
      refine rSeq ?_
      replace hT := sIf hT; obtain ⟨o1, hT⟩ := hT
      refine zReg md0 hX rfl rfl rfl ?_
      refine rThen ?_
      refine rJoinK hT (fun v1 => ⟨[(0, .v (.c (.ptr 0 0 0 0 0 0))), (1, .v (.c (.bool a1)))], [(0, .mem true ty0 none (.flat [.cs [.sl 3 0 v1.1 1, .int .i64 (a2.length : Int)]])), (3, .mem true 5 (some 1) (.flat [.ints v1.2.1 .u8 v1.2.2]))], 4⟩) (fun v1 hT => ?_) (fun k1 hjk1 hT => ?_)
      · skip
        refine rThen ?_
        refine rSeq ?_
        refine rSeq ?_
        refine zReg md0 hX rfl rfl rfl ?_
        refine rThen ?_
        replace hT := sIf hT; obtain ⟨⟨q1, q2, q3, q4, q5, q6, q7, q8, q9, q10, q11⟩, hT⟩ := hT
        refine rJoin ⟨[(0, .v (.c (.ptr 0 0 0 0 0 0)))], [(0, .mem true ty0 none (.flat [.cs [.sl 3 0 v1.1 1, .int .i64 (a2.length : Int)]])), (3, .mem true 5 (some 1) (.flat [.ints v1.2.1 .u8 (bif a1 then (v1.2.2.set ((a2.length : Int) / 8).toNat ((Int.toNat (v1.2.2.getD ((a2.length : Int) / 8).toNat 0) ||| Int.toNat ((1 : Int) * 2 ^ (Int.toNat ((7 : Int) - ((a2.length : Int) % 8)))) : Nat) : Int)) else v1.2.2)]))], 4⟩ ?_ (fun hj => ?_)
        · skip
          let x1 := (bif a1 then (v1.2.2.set ((a2.length : Int) / 8).toNat ((Int.toNat (v1.2.2.getD ((a2.length : Int) / 8).toNat 0) ||| Int.toNat ((1 : Int) * 2 ^ (Int.toNat ((7 : Int) - ((a2.length : Int) % 8)))) : Nat) : Int)) else v1.2.2)
          refine rThen ?_
          replace hT := sIf hT; obtain ⟨o1, hT⟩ := hT
          refine zReg md0 hX rfl rfl rfl ?_
          refine rNormal ?_
          replace hT := sIf hT; obtain ⟨⟨p1, p2, p3⟩, hT⟩ := hT
          have hy := Option.some.inj hT; subst hy
          exact rEndObj (unpB x1 ((a2.length : Int) + 1)) hX rfl (by repeat' first | exact True.intro | exact rfl | apply And.intro | omega | exact Nat.le_of_ble_eq_true rfl) rfl rfl rfl rfl rfl (by assumption) rfl (by first | rfl | assumption) (by first | rfl | assumption) rfl rfl
        · clear hT
          refine zCond rfl rfl (fun hc => ?_) (fun hc => ?_)
          · skip
            have q1 := q1 hc
            have q2 := q2 hc
            have q3 := q3 hc
            have q4 := q4 hc
            have q5 := q5 hc
            have q6 := q6 hc
            have q7 := q7 hc
            have q8 := q8 hc
            have q9 := q9 hc
            have q10 := q10 hc
            have q11 := q11 hc
            refine zDraw md0 1 [21] hX mixed rfl rfl rfl rfl rfl ?_
            exact rTo (To.mk' [] 1 hε rfl (by (repeat' first | exact True.intro | exact rfl | apply And.intro) <;> (repeat' first | exact rfl | refine Eq.trans ?_ (cTr (by assumption)) | refine Eq.trans ?_ (cFr (by assumption)) | refine Eq.trans (cTl (by assumption)) ?_ | refine Eq.trans (cFl (by assumption)) ?_)) (by (repeat' first | exact True.intro | exact rfl | apply And.intro) <;> (repeat' first | exact rfl | refine Eq.trans ?_ (cTr (by assumption)) | refine Eq.trans ?_ (cFr (by assumption)) | refine Eq.trans (cTl (by assumption)) ?_ | refine Eq.trans (cFl (by assumption)) ?_))) hj
          · skip
            refine rSkip ?_
            exact rTo (To.mk' [] 1 hε rfl (by (repeat' first | exact True.intro | exact rfl | apply And.intro) <;> (repeat' first | exact rfl | refine Eq.trans ?_ (cTr (by assumption)) | refine Eq.trans ?_ (cFr (by assumption)) | refine Eq.trans (cTl (by assumption)) ?_ | refine Eq.trans (cFl (by assumption)) ?_)) (by (repeat' first | exact True.intro | exact rfl | apply And.intro) <;> (repeat' first | exact rfl | refine Eq.trans ?_ (cTr (by assumption)) | refine Eq.trans ?_ (cFr (by assumption)) | refine Eq.trans (cTl (by assumption)) ?_ | refine Eq.trans (cFl (by assumption)) ?_))) hj
      · skip
        refine zCond rfl rfl (fun hc => ?_) (fun hc => ?_)
        · replace hT := sT hc hT
          replace hT := sIf hT; obtain ⟨⟨o1, o2, o3⟩, hT⟩ := hT
          refine zReg md0 hX rfl rfl rfl ?_
          exact zTo [] 1 hε (hjk1 _ hT)
        · replace hT := sF hc hT
          refine rSkip ?_
          exact zTo [0, 1, 0, 1] 1 hε (hjk1 _ hT)
    · cases h
  · cases h
def overspill_outbits_Writer_Put_b1 (N : Nat) (a1 : Int) (s1 : (Int × (List Bool))) : Option ((Int × (List Bool)) ⊕ (List Bool)) :=
  bif (decide ((0 : Int) ≤ s1.1)) then
    let c2 := (overspill_outbits_Writer_bit N (decide (((Int.toNat (a1 / 2 ^ (Int.toNat s1.1)) &&& Int.toNat 1 : Nat) : Int) = 1)) s1.2)
    if inK .u64 s1.1 ∧ (0 : Int) ≤ s1.1 ∧ (s1.1).toNat ≤ 64 ∧ (0 : Int) ≤ (a1 / 2 ^ (Int.toNat s1.1)) ∧ c2.isSome = true then
      if inK .i64 (s1.1 - 1) then
        some (.inl ((s1.1 - 1), (c2.getD default)))
      else none
    else none
  else
    some (.inr s1.2)
def overspill_outbits_Writer_Put (N : Nat) (a1 : Int) (a2 : Int) (a3 : (List Bool)) : Option (Int × (List Bool)) :=
  let c1 := (outbits_fits N a1 a2)
  if ((!false) = true → c1.isSome = true) then
    bif (bif false then true else (!(c1.getD default))) then
      some (1, a3)
    else
      if inK .i64 (a2 - 1) then
        (iter (overspill_outbits_Writer_Put_b1 N a1) N ((a2 - 1), a3)).bind fun v1 =>
          some (0, v1)
      else none
  else none
def sp_overspill_outbits_Writer_Put (N : Nat) : X.Spec := fun args lk => match args with
  | [.v (.c (.ptr i0 0 0 0 0 0)), .v (.c (.int .i64 a1)), .v (.c (.int .i64 a2))] => (match lk i0 with
    | some (.obj 5 a3) => some ⟨(overspill_outbits_Writer_Put N a1 a2 a3).isSome = true, .v (.c (.int .i64 ((overspill_outbits_Writer_Put N a1 a2 a3).getD default).1)), [], [(i0, .obj 5 ((overspill_outbits_Writer_Put N a1 a2 a3).getD default).2)]⟩
    | _ => none)
  | _ => none
set_option maxRecDepth 100000 in
set_option maxHeartbeats 1000000 in
theorem ok_overspill_outbits_Writer_Put (N : Nat) : FnOK Tryd.prog gt0 44 (sp_overspill_outbits_Writer_Put N) := by
  refine fnOK_handed Tryd.func44 rfl (by kernel_rfl) tt_ok (ktCons (ok_overspill_outbits_Writer_bit N) (ktCons (ok_outbits_fits N) (ktNil))) ?_
  intro args lk r h hp
  unfold sp_overspill_outbits_Writer_Put at h
  split at h
  · rename_i i0 a1 a2
    split at h
    · rename_i a3 hl0
      cases h
      obtain ⟨x, hx⟩ := Option.isSome_iff_exists.1 hp
      simp only [hx, Option.getD_some]
      refine handL [i0] 1 [(0, .obj 5 a3)] [.v (.c (.ptr 0 0 0 0 0 0)), .v (.c (.int .i64 a1)), .v (.c (.int .i64 a2))] rfl rfl rfl ⟨isSome_of hl0, trivial⟩ ⟨⟨rfl, (by repeat' first | exact True.intro | exact rfl | exact ⟨_, rfl, rfl⟩ | apply And.intro | exact Or.inl rfl), _, hl0, .inl rfl⟩, trivial⟩ rfl (fun w0 M ε0 hX => ?_)
      refine rCount (fun hε => ?_)
      have hT : overspill_outbits_Writer_Put N a1 a2 a3 = some x := hx; clear hx hp; unfold overspill_outbits_Writer_Put at hT
      refine rSeq ?_
      refine zReg md0 hX rfl rfl rfl ?_
      refine rThen ?_
      refine rSeq ?_
      refine rSeq ?_
      let c1 := (outbits_fits N a1 a2)
      replace hT := sIf hT; obtain ⟨o1, hT⟩ := hT
      refine rRegC md0 hX rfl rfl rfl (by (repeat' first | exact True.intro | with_reducible assumption | (with_reducible apply And.intro) | intro _) <;> first | assumption | exact o1 (by assumption) | exact rfl | omega | exact Nat.le_of_ble_eq_true rfl | exact selF (by assumption) | exact selT (by assumption) | exact And.intro rfl rfl | exact And.intro (by assumption) rfl | exact And.intro (by omega) rfl | (simp only [inK] at *; omega) | (simp_all [sel] <;> fail) | fail) ?_
      refine rThen ?_
      refine zCond rfl rfl (fun hc => ?_) (fun hc => ?_)
      · replace hT := sT hc hT
        refine rSeq ?_
        refine zReg md0 hX rfl rfl rfl ?_
        refine rThen ?_
        refine rRet ?_
        refine rThenRet ?_
        have hy := Option.some.inj hT; subst hy
        exact rEndA [] [] [(0, .obj 5 a3)] (.v (.c (.int .i64 1))) hX rfl (by repeat' first | exact True.intro | exact rfl | apply And.intro | omega | exact Nat.le_of_ble_eq_true rfl) (by repeat' first | exact True.intro | exact rfl | apply And.intro) rfl rfl rfl (by repeat' first | exact True.intro | exact rfl | exact ⟨_, rfl, rfl⟩ | apply And.intro | exact Or.inl rfl) rfl rfl (by repeat' first | exact True.intro | exact rfl | exact ⟨_, rfl, rfl⟩ | apply And.intro | exact Or.inl rfl) rfl rfl
      · replace hT := sF hc hT
        refine rSkip ?_
        refine rThen ?_
        refine rSeq ?_
        refine rSeq ?_
        replace hT := sIf hT; obtain ⟨o1, hT⟩ := hT
        refine zReg md0 hX rfl rfl rfl ?_
        refine rThen ?_
        refine rBlock ?_
        replace hT := sBind hT; obtain ⟨w1, hl, hT⟩ := hT
        refine rJoinA (fun v1 => v1 = w1) (fun v1 => ⟨[(6, .v (.c (.int .i64 0)))], [(0, .obj 5 v1)], 1⟩) (.exit 0) (fun v1 hv => ?_) (fun hxs10 => ?_)
        · subst hv; clear hl
          refine rInHit ?_
          refine rThen ?_
          refine rSeq ?_
          refine zReg md0 hX rfl rfl rfl ?_
          refine rThen ?_
          refine rRet ?_
          have hy := Option.some.inj hT; subst hy
          exact rEndA [] [] [(0, .obj 5 v1)] (.v (.c (.int .i64 0))) hX rfl (by repeat' first | exact True.intro | exact rfl | apply And.intro | omega | exact Nat.le_of_ble_eq_true rfl) (by repeat' first | exact True.intro | exact rfl | apply And.intro) rfl rfl rfl (by repeat' first | exact True.intro | exact rfl | exact ⟨_, rfl, rfl⟩ | apply And.intro | exact Or.inl rfl) rfl rfl (by repeat' first | exact True.intro | exact rfl | exact ⟨_, rfl, rfl⟩ | apply And.intro | exact Or.inl rfl) rfl rfl
        refine rLoopM (overspill_outbits_Writer_Put_b1 N a1) (fun s1 => ⟨[(0, .v (.c (.ptr 0 0 0 0 0 0))), (1, .v (.c (.int .i64 a1))), (6, .v (.c (.int .i64 0))), (7, .v (.c (.int .i64 s1.1)))], [(0, .obj 5 s1.2)], 1⟩) hl (To.mk' [] 1 hε rfl (by repeat' first | exact True.intro | exact rfl | apply And.intro) (by repeat' first | exact True.intro | exact rfl | apply And.intro)) (fun s1 zs1 NNs1 hz hnexts1 houts1 => ?_)
        clear hl hT
        have hT := hz; clear hz
        refine rSeq ?_
        refine rSeq ?_
        refine zReg md0 hX rfl rfl rfl ?_
        refine rThen ?_
        refine zCond rfl rfl (fun hc => ?_) (fun hc => ?_)
        · replace hT := sT hc hT
          refine rSkip ?_
          refine rThen ?_
          refine rSeq ?_
          refine rBlock ?_
          let c2 := (overspill_outbits_Writer_bit N (decide (((Int.toNat (a1 / 2 ^ (Int.toNat s1.1)) &&& Int.toNat 1 : Nat) : Int) = 1)) s1.2)
          replace hT := sIf hT; obtain ⟨⟨o1, o2, o3, o4, o5⟩, hT⟩ := hT
          refine zReg md0 hX rfl rfl rfl ?_
          refine rInNormal ?_
          refine rThen ?_
          replace hT := sIf hT; obtain ⟨o1, hT⟩ := hT
          refine zReg md0 hX rfl rfl rfl ?_
          exact hnexts1 _ (Option.some.inj hT).symm _ (To.mk' [] 1 hε rfl (by repeat' first | exact True.intro | exact rfl | apply And.intro) (by repeat' first | exact True.intro | exact rfl | apply And.intro))
        · replace hT := sF hc hT
          refine rExit ?_
          refine rThenExit ?_
          refine rThenExit ?_
          exact zTo [] 1 hε (hxs10 _ (houts1 _ (Option.some.inj hT).symm))
    · cases h
  · cases h
def tcoef_many (N : Nat) (a1 : Bool) (a2 : Int) : Option Int :=
  bif (bif a1 then (decide (a2 = 0)) else false) then
    some 3
  else
    bif (bif a1 then (decide (a2 = 1)) else false) then
      some 2
    else
      bif (bif a1 then (decide (a2 ≤ 40)) else false) then
        some 1
      else
        bif a1 then
          some 0
        else
          bif (decide (a2 = 0)) then
            some 12
          else
            bif (decide (a2 = 1)) then
              some 6
            else
              bif (decide (a2 = 2)) then
                some 4
              else
                bif (decide (a2 ≤ 6)) then
                  some 3
                else
                  bif (decide (a2 ≤ 10)) then
                    some 2
                  else
                    bif (decide (a2 ≤ 26)) then
                      some 1
                    else
                      some 0
def sp_tcoef_many (N : Nat) : X.Spec := fun args lk => match args with
  | [.v (.c (.bool a1)), .v (.c (.int .i64 a2))] => some ⟨(tcoef_many N a1 a2).isSome = true, .v (.c (.int .i64 ((tcoef_many N a1 a2).getD default))), [], []⟩
  | _ => none
set_option maxRecDepth 100000 in
set_option maxHeartbeats 1000000 in
theorem ok_tcoef_many (N : Nat) : FnOK Tryd.prog gt0 60 (sp_tcoef_many N) := by
  refine fnOK_handed Tryd.func60 rfl (by kernel_rfl) tt_ok (ktNil) ?_
  intro args lk r h hp
  unfold sp_tcoef_many at h
  split at h
  · rename_i a1 a2
    cases h
    obtain ⟨x, hx⟩ := Option.isSome_iff_exists.1 hp
    simp only [hx, Option.getD_some]
    refine hand0 rfl rfl (fun w0 M ε0 hX => ?_)
    refine rCount (fun hε => ?_)
    have hT : tcoef_many N a1 a2 = some x := hx; clear hx hp; unfold tcoef_many at hT
    refine rSeq ?_
    refine zReg md0 hX rfl rfl rfl ?_
    refine rThen ?_
    refine rSeq ?_
    refine rBlock ?_
    refine rSeq ?_
    refine zReg md0 hX rfl rfl rfl ?_
    refine rThen ?_
    refine zCond rfl rfl (fun hc => ?_) (fun hc => ?_)
    · replace hT := sT hc hT
      refine rSeq ?_
      refine zReg md0 hX rfl rfl rfl ?_
      refine rThen ?_
      refine rRet ?_
      refine rInRet ?_
      refine rThenRet ?_
      have hy := Option.some.inj hT; subst hy
      exact zEnd0 hX rfl
    · replace hT := sF hc hT
      refine rSeq ?_
      refine zReg md0 hX rfl rfl rfl ?_
      refine rThen ?_
      refine zCond rfl rfl (fun hc => ?_) (fun hc => ?_)
      · replace hT := sT hc hT
        refine rSeq ?_
        refine zReg md0 hX rfl rfl rfl ?_
        refine rThen ?_
        refine rRet ?_
        refine rInRet ?_
        refine rThenRet ?_
        have hy := Option.some.inj hT; subst hy
        exact zEnd0 hX rfl
      · replace hT := sF hc hT
        refine rSeq ?_
        refine zReg md0 hX rfl rfl rfl ?_
        refine rThen ?_
        refine zCond rfl rfl (fun hc => ?_) (fun hc => ?_)
        · replace hT := sT hc hT
          refine rSeq ?_
          refine zReg md0 hX rfl rfl rfl ?_
          refine rThen ?_
          refine rRet ?_
          refine rInRet ?_
          refine rThenRet ?_
          have hy := Option.some.inj hT; subst hy
          exact zEnd0 hX rfl
        · replace hT := sF hc hT
          refine rSeq ?_
          refine zReg md0 hX rfl rfl rfl ?_
          refine rThen ?_
          refine zCond rfl rfl (fun hc => ?_) (fun hc => ?_)
          · replace hT := sT hc hT
            refine rSeq ?_
            refine zReg md0 hX rfl rfl rfl ?_
            refine rThen ?_
            refine rRet ?_
            refine rInRet ?_
            refine rThenRet ?_
            have hy := Option.some.inj hT; subst hy
            exact zEnd0 hX rfl
          · replace hT := sF hc hT
            refine rSeq ?_
            refine zReg md0 hX rfl rfl rfl ?_
            refine rThen ?_
            refine zCond rfl rfl (fun hc => ?_) (fun hc => ?_)
            · replace hT := sT hc hT
              refine rSeq ?_
              refine zReg md0 hX rfl rfl rfl ?_
              refine rThen ?_
              refine rRet ?_
              refine rInRet ?_
              refine rThenRet ?_
              have hy := Option.some.inj hT; subst hy
              exact zEnd0 hX rfl
            · replace hT := sF hc hT
              refine rSeq ?_
              refine zReg md0 hX rfl rfl rfl ?_
              refine rThen ?_
              refine zCond rfl rfl (fun hc => ?_) (fun hc => ?_)
              · replace hT := sT hc hT
                refine rSeq ?_
                refine zReg md0 hX rfl rfl rfl ?_
                refine rThen ?_
                refine rRet ?_
                refine rInRet ?_
                refine rThenRet ?_
                have hy := Option.some.inj hT; subst hy
                exact zEnd0 hX rfl
              · replace hT := sF hc hT
                refine rSeq ?_
                refine zReg md0 hX rfl rfl rfl ?_
                refine rThen ?_
                refine zCond rfl rfl (fun hc => ?_) (fun hc => ?_)
                · replace hT := sT hc hT
                  refine rSeq ?_
                  refine zReg md0 hX rfl rfl rfl ?_
                  refine rThen ?_
                  refine rRet ?_
                  refine rInRet ?_
                  refine rThenRet ?_
                  have hy := Option.some.inj hT; subst hy
                  exact zEnd0 hX rfl
                · replace hT := sF hc hT
                  refine rSeq ?_
                  refine zReg md0 hX rfl rfl rfl ?_
                  refine rThen ?_
                  refine zCond rfl rfl (fun hc => ?_) (fun hc => ?_)
                  · replace hT := sT hc hT
                    refine rSeq ?_
                    refine zReg md0 hX rfl rfl rfl ?_
                    refine rThen ?_
                    refine rRet ?_
                    refine rInRet ?_
                    refine rThenRet ?_
                    have hy := Option.some.inj hT; subst hy
                    exact zEnd0 hX rfl
                  · replace hT := sF hc hT
                    refine rSeq ?_
                    refine zReg md0 hX rfl rfl rfl ?_
                    refine rThen ?_
                    refine zCond rfl rfl (fun hc => ?_) (fun hc => ?_)
                    · replace hT := sT hc hT
                      refine rSeq ?_
                      refine zReg md0 hX rfl rfl rfl ?_
                      refine rThen ?_
                      refine rRet ?_
                      refine rInRet ?_
                      refine rThenRet ?_
                      have hy := Option.some.inj hT; subst hy
                      exact zEnd0 hX rfl
                    · replace hT := sF hc hT
                      refine rSeq ?_
                      refine zReg md0 hX rfl rfl rfl ?_
                      refine rThen ?_
                      refine zCond rfl rfl (fun hc => ?_) (fun hc => ?_)
                      · replace hT := sT hc hT
                        refine rSeq ?_
                        refine zReg md0 hX rfl rfl rfl ?_
                        refine rThen ?_
                        refine rRet ?_
                        refine rInRet ?_
                        refine rThenRet ?_
                        have hy := Option.some.inj hT; subst hy
                        exact zEnd0 hX rfl
                      · replace hT := sF hc hT
                        refine rSkip ?_
                        refine rInNormal ?_
                        refine rThen ?_
                        refine rSeq ?_
                        refine zReg md0 hX rfl rfl rfl ?_
                        refine rThen ?_
                        refine rRet ?_
                        have hy := Option.some.inj hT; subst hy
                        exact zEnd0 hX rfl
  · cases h
def tcoef_place_b1 (N : Nat) (a1 : Bool) (a2 : Int) (s1 : (Int × Int)) : Option ((Int × Int) ⊕ Int) :=
  bif (decide (s1.2 < a2)) then
    let c2 := (tcoef_many N a1 s1.2)
    if c2.isSome = true ∧ inK .i64 (s1.1 + (c2.getD default)) then
      if inK .i64 (s1.2 + 1) then
        some (.inl ((s1.1 + (c2.getD default)), (s1.2 + 1)))
      else none
    else none
  else
    some (.inr s1.1)
def tcoef_place_b2 (N : Nat) (s2 : (Int × Int)) : Option ((Int × Int) ⊕ Int) :=
  bif (decide (s2.2 < 63)) then
    let c3 := (tcoef_many N false s2.2)
    if c3.isSome = true ∧ inK .i64 (s2.1 + (c3.getD default)) then
      if inK .i64 (s2.2 + 1) then
        some (.inl ((s2.1 + (c3.getD default)), (s2.2 + 1)))
      else none
    else none
  else
    some (.inr s2.1)
def tcoef_place (N : Nat) (a1 : Bool) (a2 : Int) (a3 : Int) : Option Int :=
  let c1 := (tcoef_many N a1 a2)
  if c1.isSome = true then
    bif (decide ((c1.getD default) < a3)) then
      some (-1)
    else
      joinK (fun (v1 : Int) =>
        (iter (tcoef_place_b1 N a1 a2) N (v1, 0)).bind fun v2 =>
          if inK .i64 (v2 + a3) ∧ inK .i64 ((v2 + a3) - 1) then
            some ((v2 + a3) - 1)
          else none
      ) fun k1 =>
        bif a1 then
          (iter (tcoef_place_b2 N) N (0, 0)).bind fun v3 =>
            k1 v3
        else
          k1 0
  else none
def sp_tcoef_place (N : Nat) : X.Spec := fun args lk => match args with
  | [.v (.c (.bool a1)), .v (.c (.int .i64 a2)), .v (.c (.int .i64 a3))] => some ⟨(tcoef_place N a1 a2 a3).isSome = true, .v (.c (.int .i64 ((tcoef_place N a1 a2 a3).getD default))), [], []⟩
  | _ => none
set_option maxRecDepth 100000 in
set_option maxHeartbeats 1000000 in
theorem ok_tcoef_place (N : Nat) : FnOK Tryd.prog gt0 56 (sp_tcoef_place N) := by
  refine fnOK_handed Tryd.func56 rfl (by kernel_rfl) tt_ok (ktCons (ok_tcoef_many N) (ktNil)) ?_
  intro args lk r h hp
  unfold sp_tcoef_place at h
  split at h
  · rename_i a1 a2 a3
    cases h
    obtain ⟨x, hx⟩ := Option.isSome_iff_exists.1 hp
    simp only [hx, Option.getD_some]
    refine hand0 rfl rfl (fun w0 M ε0 hX => ?_)
    refine rCount (fun hε => ?_)
    have hT : tcoef_place N a1 a2 a3 = some x := hx; clear hx hp; unfold tcoef_place at hT
    refine rSeq ?_
    refine zReg md0 hX rfl rfl rfl ?_
    refine rThen ?_
    refine rSeq ?_
    refine rSeq ?_
    let c1 := (tcoef_many N a1 a2)
    replace hT := sIf hT; obtain ⟨o1, hT⟩ := hT
    refine zReg md0 hX rfl rfl rfl ?_
    refine rThen ?_
    refine zCond rfl rfl (fun hc => ?_) (fun hc => ?_)
    · replace hT := sT hc hT
      refine rSeq ?_
      refine zReg md0 hX rfl rfl rfl ?_
      refine rThen ?_
      refine rRet ?_
      refine rThenRet ?_
      have hy := Option.some.inj hT; subst hy
      exact zEnd0 hX rfl
    · replace hT := sF hc hT
      refine rSkip ?_
      refine rThen ?_
      refine rSeq ?_
      refine zReg md0 hX rfl rfl rfl ?_
      refine rThen ?_
      refine rSeq ?_
      refine rSeq ?_
      refine zReg md0 hX rfl rfl rfl ?_
      refine rThen ?_
      refine rJoinK hT (fun v1 => ⟨[(0, .v (.c (.bool a1))), (1, .v (.c (.int .i64 a2))), (2, .v (.c (.int .i64 a3))), (6, .v (.c (.int .i64 0))), (7, .v (.c (.int .i64 v1)))], [], 0⟩) (fun v1 hT => ?_) (fun k1 hjk1 hT => ?_)
      · skip
        refine rThen ?_
        refine rSeq ?_
        refine rSeq ?_
        refine zReg md0 hX rfl rfl rfl ?_
        refine rThen ?_
        refine rBlock ?_
        replace hT := sBind hT; obtain ⟨w1, hl, hT⟩ := hT
        refine rJoinA (fun v2 => v2 = w1) (fun v2 => ⟨[(2, .v (.c (.int .i64 a3))), (6, .v (.c (.int .i64 0))), (7, .v (.c (.int .i64 v2)))], [], 0⟩) (.exit 2) (fun v2 hv => ?_) (fun hxs10 => ?_)
        · subst hv; clear hl
          refine rInHit ?_
          refine rThen ?_
          refine rSeq ?_
          replace hT := sIf hT; obtain ⟨⟨o1, o2⟩, hT⟩ := hT
          refine zReg md0 hX rfl rfl rfl ?_
          refine rThen ?_
          refine rRet ?_
          have hy := Option.some.inj hT; subst hy
          exact zEnd0 hX rfl
        refine rLoopM (tcoef_place_b1 N a1 a2) (fun s1 => ⟨[(0, .v (.c (.bool a1))), (2, .v (.c (.int .i64 a3))), (6, .v (.c (.int .i64 0))), (7, .v (.c (.int .i64 s1.1))), (24, .v (.c (.int .i64 a2))), (25, .v (.c (.int .i64 s1.2)))], [], 0⟩) hl (To.mk' [] 0 hε rfl (by repeat' first | exact True.intro | exact rfl | apply And.intro) (by repeat' first | exact True.intro | exact rfl | apply And.intro)) (fun s1 zs1 NNs1 hz hnexts1 houts1 => ?_)
        clear hl hT
        have hT := hz; clear hz
        refine rSeq ?_
        refine zReg md0 hX rfl rfl rfl ?_
        refine rThen ?_
        refine rSeq ?_
        refine zCond rfl rfl (fun hc => ?_) (fun hc => ?_)
        · replace hT := sT hc hT
          refine rSkip ?_
          refine rThen ?_
          refine rSeq ?_
          refine rBlock ?_
          refine rSeq ?_
          refine zReg md0 hX rfl rfl rfl ?_
          refine rThen ?_
          let c2 := (tcoef_many N a1 s1.2)
          replace hT := sIf hT; obtain ⟨⟨o1, o2⟩, hT⟩ := hT
          refine zReg md0 hX rfl rfl rfl ?_
          refine rInNormal ?_
          refine rThen ?_
          replace hT := sIf hT; obtain ⟨o1, hT⟩ := hT
          refine zReg md0 hX rfl rfl rfl ?_
          exact hnexts1 _ (Option.some.inj hT).symm _ (To.mk' [] 0 hε rfl (by repeat' first | exact True.intro | exact rfl | apply And.intro) (by repeat' first | exact True.intro | exact rfl | apply And.intro))
        · replace hT := sF hc hT
          refine rExit ?_
          refine rThenExit ?_
          refine rThenExit ?_
          exact zTo [] 0 hε (hxs10 _ (houts1 _ (Option.some.inj hT).symm))
      · skip
        refine zCond rfl rfl (fun hc => ?_) (fun hc => ?_)
        · replace hT := sT hc hT
          refine rSeq ?_
          refine zReg md0 hX rfl rfl rfl ?_
          refine rThen ?_
          refine rBlock ?_
          replace hT := sBind hT; obtain ⟨w2, hl, hT⟩ := hT
          refine rJoinA (fun v3 => v3 = w2) (fun v3 => ⟨[(0, .v (.c (.bool a1))), (1, .v (.c (.int .i64 a2))), (2, .v (.c (.int .i64 a3))), (6, .v (.c (.int .i64 0))), (7, .v (.c (.int .i64 v3)))], [], 0⟩) (.exit 0) (fun v3 hv => ?_) (fun hxs20 => ?_)
          · subst hv; clear hl
            refine rInHit ?_
            exact zTo [] 0 hε (hjk1 _ hT)
          refine rLoopM (tcoef_place_b2 N) (fun s2 => ⟨[(0, .v (.c (.bool a1))), (1, .v (.c (.int .i64 a2))), (2, .v (.c (.int .i64 a3))), (6, .v (.c (.int .i64 0))), (7, .v (.c (.int .i64 s2.1))), (16, .v (.c (.int .i64 s2.2)))], [], 0⟩) hl (To.mk' [] 0 hε rfl (by repeat' first | exact True.intro | exact rfl | apply And.intro) (by repeat' first | exact True.intro | exact rfl | apply And.intro)) (fun s2 zs2 NNs2 hz hnexts2 houts2 => ?_)
          clear hl hT
          have hT := hz; clear hz
          refine rSeq ?_
          refine zReg md0 hX rfl rfl rfl ?_
          refine rThen ?_
          refine rSeq ?_
          refine zCond rfl rfl (fun hc => ?_) (fun hc => ?_)
          · replace hT := sT hc hT
            refine rSkip ?_
            refine rThen ?_
            refine rSeq ?_
            refine rBlock ?_
            refine rSeq ?_
            refine zReg md0 hX rfl rfl rfl ?_
            refine rThen ?_
            let c3 := (tcoef_many N false s2.2)
            replace hT := sIf hT; obtain ⟨⟨o1, o2⟩, hT⟩ := hT
            refine zReg md0 hX rfl rfl rfl ?_
            refine rInNormal ?_
            refine rThen ?_
            replace hT := sIf hT; obtain ⟨o1, hT⟩ := hT
            refine zReg md0 hX rfl rfl rfl ?_
            exact hnexts2 _ (Option.some.inj hT).symm _ (To.mk' [] 0 hε rfl (by repeat' first | exact True.intro | exact rfl | apply And.intro) (by repeat' first | exact True.intro | exact rfl | apply And.intro))
          · replace hT := sF hc hT
            refine rExit ?_
            refine rThenExit ?_
            refine rThenExit ?_
            exact zTo [] 0 hε (hxs20 _ (houts2 _ (Option.some.inj hT).symm))
        · replace hT := sF hc hT
          refine rSkip ?_
          exact zTo [] 0 hε (hjk1 _ hT)
  · cases h
def outbits_Row_b1 (N : Nat) (a1 : Int) (s1 : (Nat × Int × Nat × (List Int))) : Option ((Nat × Int × Nat × (List Int)) ⊕ (Nat × Nat × (List Int))) :=
  bif (decide ((0 : Int) ≤ s1.2.1)) then
    let x2 := (s1.2.2.2 ++ (((List.replicate 1 0).set 0 ((48 : Int) + ((Int.toNat (a1 / 2 ^ (Int.toNat s1.2.1)) &&& Int.toNat 1 : Nat) : Int))).take 1))
    if inK .u64 s1.2.1 ∧ (0 : Int) ≤ s1.2.1 ∧ (s1.2.1).toNat ≤ 64 ∧ (0 : Int) ≤ (a1 / 2 ^ (Int.toNat s1.2.1)) ∧ inK .u8 ((Int.toNat (a1 / 2 ^ (Int.toNat s1.2.1)) &&& Int.toNat 1 : Nat) : Int) ∧ inK .u8 ((48 : Int) + ((Int.toNat (a1 / 2 ^ (Int.toNat s1.2.1)) &&& Int.toNat 1 : Nat) : Int)) ∧ 1 ≤ 1 ∧ s1.2.2.1 = s1.1 ∧ (s1.1 + 1) * 1 ≤ 140737488355328 ∧ s1.1 + 1 ≤ 9223372036854775807 then
      if inK .i64 (s1.2.1 - 1) then
        some (.inl ((s1.1 + 1), (s1.2.1 - 1), (s1.2.2.1 + 1), x2))
      else none
    else none
  else
    some (.inr (s1.1, s1.2.2.1, s1.2.2.2))
def outbits_Row (N : Nat) (a1 : Int) (a2 : Int) : Option (ByteArray × Int) :=
  let c1 := (outbits_fits N a1 a2)
  if c1.isSome = true then
    bif (!(c1.getD default)) then
      some (⟨#[]⟩, 1)
    else
      if (0 : Int) ≤ a2 ∧ a2 * 1 ≤ 140737488355328 then
        if inK .i64 (a2 - 1) then
          (iter (outbits_Row_b1 N a1) N (0, (a2 - 1), 0, (List.replicate 0 0))).bind fun v1 =>
            if v1.1 ≤ v1.2.1 ∧ (v1.1 : Int) ≤ 9223372036854775807 then
              some ((bytesOf (v1.2.2.take v1.1)), 0)
            else none
        else none
      else none
  else none
def sp_outbits_Row (N : Nat) : X.Spec := fun args lk => match args with
  | [.v (.c (.int .i64 a1)), .v (.c (.int .i64 a2))] => some ⟨(outbits_Row N a1 a2).isSome = true, .tup [.c (.str ((outbits_Row N a1 a2).getD default).1), .c (.int .i64 ((outbits_Row N a1 a2).getD default).2)], [], []⟩
  | _ => none
set_option maxRecDepth 100000 in
set_option maxHeartbeats 1000000 in
theorem ok_outbits_Row (N : Nat) : FnOK Tryd.prog gt0 57 (sp_outbits_Row N) := by
  refine fnOK_handed Tryd.func57 rfl (by kernel_rfl) tt_ok (ktCons (ok_outbits_fits N) (ktNil)) ?_
  intro args lk r h hp
  unfold sp_outbits_Row at h
  split at h
  · rename_i a1 a2
    cases h
    obtain ⟨x, hx⟩ := Option.isSome_iff_exists.1 hp
    simp only [hx, Option.getD_some]
    refine hand0 rfl rfl (fun w0 M ε0 hX => ?_)
    refine rCount (fun hε => ?_)
    have hT : outbits_Row N a1 a2 = some x := hx; clear hx hp; unfold outbits_Row at hT
    refine rSeq ?_
    refine zReg md0 hX rfl rfl rfl ?_
    refine rThen ?_
    refine rSeq ?_
    refine rSeq ?_
    let c1 := (outbits_fits N a1 a2)
    replace hT := sIf hT; obtain ⟨o1, hT⟩ := hT
    refine zReg md0 hX rfl rfl rfl ?_
    refine rThen ?_
    refine zCond rfl rfl (fun hc => ?_) (fun hc => ?_)
    · replace hT := sT hc hT
      refine rSeq ?_
      refine zReg md0 hX rfl rfl rfl ?_
      refine rThen ?_
      refine rRet ?_
      refine rThenRet ?_
      have hy := Option.some.inj hT; subst hy
      exact zEnd0 hX rfl
    · replace hT := sF hc hT
      refine rSkip ?_
      refine rThen ?_
      refine rSeq ?_
      replace hT := sIf hT; obtain ⟨⟨o1, o2⟩, hT⟩ := hT
      refine zReg md0 hX rfl rfl rfl ?_
      refine rThen ?_
      refine rSeq ?_
      refine rSeq ?_
      replace hT := sIf hT; obtain ⟨o1, hT⟩ := hT
      refine zReg md0 hX rfl rfl rfl ?_
      refine rThen ?_
      refine rBlock ?_
      replace hT := sBind hT; obtain ⟨w1, hl, hT⟩ := hT
      refine rJoinA (fun v1 => v1 = w1) (fun v1 => ⟨[(4, .v (.c (.str ⟨#[]⟩))), (5, .v (.c (.int .i64 0))), (6, .v (.c (.sl 0 0 v1.1 1)))], [(0, .mem true 5 (some 1) (.flat [.ints v1.2.1 .u8 v1.2.2]))], 1⟩) (.exit 0) (fun v1 hv => ?_) (fun hxs10 => ?_)
      · subst hv; clear hl
        refine rInHit ?_
        refine rThen ?_
        refine rSeq ?_
        replace hT := sIf hT; obtain ⟨⟨o1, o2⟩, hT⟩ := hT
        refine zReg md0 hX rfl rfl rfl ?_
        refine rThen ?_
        refine rRet ?_
        have hy := Option.some.inj hT; subst hy
        exact zEnd0 hX rfl
      refine rLoopM (outbits_Row_b1 N a1) (fun s1 => ⟨[(0, .v (.c (.int .i64 a1))), (4, .v (.c (.str ⟨#[]⟩))), (5, .v (.c (.int .i64 0))), (6, .v (.c (.sl 0 0 s1.1 1))), (7, .v (.c (.int .i64 s1.2.1)))], [(0, .mem true 5 (some 1) (.flat [.ints s1.2.2.1 .u8 s1.2.2.2]))], 1⟩) hl (To.mk' [] 0 hε rfl (by repeat' first | exact True.intro | exact rfl | apply And.intro) (by repeat' first | exact True.intro | exact rfl | apply And.intro)) (fun s1 zs1 NNs1 hz hnexts1 houts1 => ?_)
      clear hl hT
      have hT := hz; clear hz
      refine rSeq ?_
      refine rSeq ?_
      refine zReg md0 hX rfl rfl rfl ?_
      refine rThen ?_
      refine zCond rfl rfl (fun hc => ?_) (fun hc => ?_)
      · replace hT := sT hc hT
        refine rSkip ?_
        refine rThen ?_
        refine rSeq ?_
        refine rBlock ?_
        let x2 := (s1.2.2.2 ++ (((List.replicate 1 0).set 0 ((48 : Int) + ((Int.toNat (a1 / 2 ^ (Int.toNat s1.2.1)) &&& Int.toNat 1 : Nat) : Int))).take 1))
        replace hT := sIf hT; obtain ⟨⟨o1, o2, o3, o4, o5, o6, o7, o8, o9, o10⟩, hT⟩ := hT
        refine zReg md0 hX rfl rfl rfl ?_
        refine rInNormal ?_
        refine rThen ?_
        replace hT := sIf hT; obtain ⟨o1, hT⟩ := hT
        refine zReg md0 hX rfl rfl rfl ?_
        exact hnexts1 _ (Option.some.inj hT).symm _ (To.mk' [2] 0 hε rfl (by repeat' first | exact True.intro | exact rfl | apply And.intro) (by repeat' first | exact True.intro | exact rfl | apply And.intro))
      · replace hT := sF hc hT
        refine rExit ?_
        refine rThenExit ?_
        refine rThenExit ?_
        exact zTo [] 0 hε (hxs10 _ (houts1 _ (Option.some.inj hT).symm))
  · cases h
def tcoef_digit (N : Nat) (a1 : Bool) : Option ByteArray :=
  bif a1 then
    some ⟨#[49]⟩
  else
    some ⟨#[48]⟩
def sp_tcoef_digit (N : Nat) : X.Spec := fun args lk => match args with
  | [.v (.c (.bool a1))] => some ⟨(tcoef_digit N a1).isSome = true, .v (.c (.str ((tcoef_digit N a1).getD default))), [], []⟩
  | _ => none
set_option maxRecDepth 100000 in
set_option maxHeartbeats 1000000 in
theorem ok_tcoef_digit (N : Nat) : FnOK Tryd.prog gt0 58 (sp_tcoef_digit N) := by
  refine fnOK_handed Tryd.func58 rfl (by kernel_rfl) tt_ok (ktNil) ?_
  intro args lk r h hp
  unfold sp_tcoef_digit at h
  split at h
  · rename_i a1
    cases h
    obtain ⟨x, hx⟩ := Option.isSome_iff_exists.1 hp
    simp only [hx, Option.getD_some]
    refine hand0 rfl rfl (fun w0 M ε0 hX => ?_)
    refine rCount (fun hε => ?_)
    have hT : tcoef_digit N a1 = some x := hx; clear hx hp; unfold tcoef_digit at hT
    refine rSeq ?_
    refine zReg md0 hX rfl rfl rfl ?_
    refine rThen ?_
    refine rSeq ?_
    refine rSeq ?_
    refine zReg md0 hX rfl rfl rfl ?_
    refine rThen ?_
    refine zCond rfl rfl (fun hc => ?_) (fun hc => ?_)
    · replace hT := sT hc hT
      refine rSeq ?_
      refine zReg md0 hX rfl rfl rfl ?_
      refine rThen ?_
      refine rRet ?_
      refine rThenRet ?_
      have hy := Option.some.inj hT; subst hy
      exact zEnd0 hX rfl
    · replace hT := sF hc hT
      refine rSkip ?_
      refine rThen ?_
      refine rSeq ?_
      refine zReg md0 hX rfl rfl rfl ?_
      refine rThen ?_
      refine rRet ?_
      have hy := Option.some.inj hT; subst hy
      exact zEnd0 hX rfl
  · cases h
def tcoef_Row (N : Nat) (a1 : Bool) (a2 : Int) (a3 : Int) : Option (ByteArray × Bool) :=
  let c1 := (tcoef_Right N a1 a2 a3)
  if c1.isSome = true then
    bif (!(c1.getD default)) then
      some (⟨#[]⟩, false)
    else
      let c2 := (tcoef_place N a1 a2 (max a3 (-a3)))
      if inK .i64 (-a3) ∧ c2.isSome = true then
        bif (decide ((0 : Int) ≤ (c2.getD default))) then
          let c3 := (outbits_Row N (codesL.getD (c2.getD default).toNat 0) (lensL.getD (c2.getD default).toNat 0))
          if (0 : Int) ≤ (c2.getD default) ∧ (c2.getD default) < 102 ∧ (c2.getD default).toNat < 102 ∧ c3.isSome = true then
            let c4 := (tcoef_digit N (decide (a3 < 0)))
            if c4.isSome = true ∧ (ByteArray.size (c3.getD default).1 : Int) + ByteArray.size (c4.getD default) ≤ 9223372036854775807 then
              some (((c3.getD default).1 ++ (c4.getD default)), true)
            else none
          else none
        else
          let c5 := (outbits_Row N 3 7)
          if c5.isSome = true then
            let c6 := (outbits_Row N a2 6)
            if c6.isSome = true then
              let c7 := (outbits_Row N ((a3 + 256) % 256) 8)
              if inK .i64 (a3 + 256) ∧ (0 : Int) ≤ (a3 + 256) ∧ c7.isSome = true then
                let c8 := (tcoef_digit N a1)
                let x1 := ((((c5.getD default).1 ++ (c8.getD default)) ++ (c6.getD default).1) ++ (c7.getD default).1)
                if c8.isSome = true ∧ (ByteArray.size (c5.getD default).1 : Int) + ByteArray.size (c8.getD default) ≤ 9223372036854775807 ∧ (ByteArray.size ((c5.getD default).1 ++ (c8.getD default)) : Int) + ByteArray.size (c6.getD default).1 ≤ 9223372036854775807 ∧ (ByteArray.size (((c5.getD default).1 ++ (c8.getD default)) ++ (c6.getD default).1) : Int) + ByteArray.size (c7.getD default).1 ≤ 9223372036854775807 then
                  some (x1, true)
                else none
              else none
            else none
          else none
      else none
  else none
def sp_tcoef_Row (N : Nat) : X.Spec := fun args lk => match args with
  | [.v (.agg [.cs [.bool a1, .int .i64 a2, .int .i64 a3]])] => some ⟨(tcoef_Row N a1 a2 a3).isSome = true, .tup [.c (.str ((tcoef_Row N a1 a2 a3).getD default).1), .c (.bool ((tcoef_Row N a1 a2 a3).getD default).2)], [], []⟩
  | _ => none
set_option maxRecDepth 100000 in
set_option maxHeartbeats 1000000 in
theorem ok_tcoef_Row (N : Nat) : FnOK Tryd.prog gt0 45 (sp_tcoef_Row N) := by
  refine fnOK_handed Tryd.func45 rfl (by kernel_rfl) tt_ok (ktCons (ok_tcoef_digit N) (ktCons (ok_outbits_Row N) (ktCons (ok_tcoef_place N) (ktCons (ok_tcoef_Right N) (ktNil))))) ?_
  intro args lk r h hp
  unfold sp_tcoef_Row at h
  split at h
  · rename_i a1 a2 a3
    cases h
    obtain ⟨x, hx⟩ := Option.isSome_iff_exists.1 hp
    simp only [hx, Option.getD_some]
    refine hand0 rfl rfl (fun w0 M ε0 hX => ?_)
    refine rCount (fun hε => ?_)
    have hT : tcoef_Row N a1 a2 a3 = some x := hx; clear hx hp; unfold tcoef_Row at hT
    refine rSeq ?_
    refine zReg md0 hX rfl rfl rfl ?_
    refine rThen ?_
    refine rSeq ?_
    refine rSeq ?_
    let c1 := (tcoef_Right N a1 a2 a3)
    replace hT := sIf hT; obtain ⟨o1, hT⟩ := hT
    refine zReg md0 hX rfl rfl rfl ?_
    refine rThen ?_
    refine zCond rfl rfl (fun hc => ?_) (fun hc => ?_)
    · replace hT := sT hc hT
      refine rSeq ?_
      refine zReg md0 hX rfl rfl rfl ?_
      refine rThen ?_
      refine rRet ?_
      refine rThenRet ?_
      have hy := Option.some.inj hT; subst hy
      exact zEnd0 hX rfl
    · replace hT := sF hc hT
      refine rSkip ?_
      refine rThen ?_
      refine rSeq ?_
      refine rSeq ?_
      let c2 := (tcoef_place N a1 a2 (max a3 (-a3)))
      replace hT := sIf hT; obtain ⟨⟨o1, o2⟩, hT⟩ := hT
      refine zReg md0 hX rfl rfl rfl ?_
      refine rThen ?_
      refine rSeq ?_
      refine zReg md0 hX rfl rfl rfl ?_
      refine rThen ?_
      refine zCond rfl rfl (fun hc => ?_) (fun hc => ?_)
      · replace hT := sT hc hT
        refine rSeq ?_
        let c3 := (outbits_Row N (codesL.getD (c2.getD default).toNat 0) (lensL.getD (c2.getD default).toNat 0))
        replace hT := sIf hT; obtain ⟨⟨o1, o2, o3, o4⟩, hT⟩ := hT
        refine zDraw md0 0 [] hX mixed rfl rfl rfl rfl rfl ?_
        refine rThen ?_
        refine rSeq ?_
        let c4 := (tcoef_digit N (decide (a3 < 0)))
        replace hT := sIf hT; obtain ⟨⟨o1, o2⟩, hT⟩ := hT
        refine zReg md0 hX rfl rfl rfl ?_
        refine rThen ?_
        refine rRet ?_
        refine rThenRet ?_
        have hy := Option.some.inj hT; subst hy
        exact zEnd0 hX rfl
      · replace hT := sF hc hT
        refine rSkip ?_
        refine rThen ?_
        refine rSeq ?_
        let c5 := (outbits_Row N 3 7)
        replace hT := sIf hT; obtain ⟨o1, hT⟩ := hT
        refine zReg md0 hX rfl rfl rfl ?_
        refine rThen ?_
        refine rSeq ?_
        let c6 := (outbits_Row N a2 6)
        replace hT := sIf hT; obtain ⟨o1, hT⟩ := hT
        refine zReg md0 hX rfl rfl rfl ?_
        refine rThen ?_
        refine rSeq ?_
        let c7 := (outbits_Row N ((a3 + 256) % 256) 8)
        replace hT := sIf hT; obtain ⟨⟨o1, o2, o3⟩, hT⟩ := hT
        refine zReg md0 hX rfl rfl rfl ?_
        refine rThen ?_
        refine rSeq ?_
        let c8 := (tcoef_digit N a1)
        let x1 := ((((c5.getD default).1 ++ (c8.getD default)) ++ (c6.getD default).1) ++ (c7.getD default).1)
        replace hT := sIf hT; obtain ⟨⟨o1, o2, o3, o4⟩, hT⟩ := hT
        refine zReg md0 hX rfl rfl rfl ?_
        refine rThen ?_
        refine rRet ?_
        have hy := Option.some.inj hT; subst hy
        exact zEnd0 hX rfl
  · cases h
def outbits_plain_b1 (N : Nat) (a1 : ByteArray) (s1 : Nat) : Option (Nat ⊕ (Unit ⊕ Unit)) :=
  if (ByteArray.size a1 : Int) ≤ 9223372036854775807 then
    bif (decide (s1 < ByteArray.size a1)) then
      let x1 := (bif (decide (((Utf8.decode a1 s1).1 : Int) ≠ 48)) then (decide (((Utf8.decode a1 s1).1 : Int) ≠ 49)) else false)
      bif x1 then
        some (.inr (Sum.inl ()))
      else
        some (.inl (s1 + (Utf8.decode a1 s1).2))
    else
      some (.inr (Sum.inr ()))
  else none
def outbits_plain (N : Nat) (a1 : ByteArray) : Option Bool :=
  (iter (outbits_plain_b1 N a1) N 0).bind fun w1 =>
    (Sum.elim (fun v1 =>
      some false
    )
      (fun v2 =>
        some true
      )
    ) w1
def sp_outbits_plain (N : Nat) : X.Spec := fun args lk => match args with
  | [.v (.c (.str a1))] => some ⟨(outbits_plain N a1).isSome = true, .v (.c (.bool ((outbits_plain N a1).getD default))), [], []⟩
  | _ => none
set_option maxRecDepth 100000 in
set_option maxHeartbeats 1000000 in
theorem ok_outbits_plain (N : Nat) : FnOK Tryd.prog gt0 59 (sp_outbits_plain N) := by
  refine fnOK_handed Tryd.func59 rfl (by kernel_rfl) tt_ok (ktNil) ?_
  intro args lk r h hp
  unfold sp_outbits_plain at h
  split at h
  · rename_i a1
    cases h
    obtain ⟨x, hx⟩ := Option.isSome_iff_exists.1 hp
    simp only [hx, Option.getD_some]
    refine hand0 rfl rfl (fun w0 M ε0 hX => ?_)
    refine rCount (fun hε => ?_)
    have hT : outbits_plain N a1 = some x := hx; clear hx hp; unfold outbits_plain at hT
    refine rSeq ?_
    refine zReg md0 hX rfl rfl rfl ?_
    refine rThen ?_
    refine rSeq ?_
    refine rSeq ?_
    refine zReg md0 hX rfl rfl rfl ?_
    refine rThen ?_
    refine rBlock ?_
    replace hT := sBind hT; obtain ⟨w1, hl, hT⟩ := hT
    refine rJoinA (fun v1 => (Sum.inl v1) = w1) (fun v1 => ⟨[(2, .v (.c (.bool false)))], [], 1⟩) .ret (fun v1 hv => ?_) (fun hxs10 => ?_)
    · subst hv; clear hl; replace hT := (sElimL hT)
      refine rInRet ?_
      refine rThenRet ?_
      have hy := Option.some.inj hT; subst hy
      exact zEnd0 hX rfl
    refine rJoinA (fun v2 => (Sum.inr v2) = w1) (fun v2 => ⟨[(2, .v (.c (.bool false)))], [], 1⟩) (.exit 0) (fun v2 hv => ?_) (fun hxs11 => ?_)
    · subst hv; clear hl; replace hT := (sElimR hT)
      refine rInHit ?_
      refine rThen ?_
      refine rSeq ?_
      refine zReg md0 hX rfl rfl rfl ?_
      refine rThen ?_
      refine rRet ?_
      have hy := Option.some.inj hT; subst hy
      exact zEnd0 hX rfl
    refine rLoopM (outbits_plain_b1 N a1) (fun s1 => ⟨[(2, .v (.c (.bool false))), (6, .v (.c (.ptr 0 0 0 0 0 0)))], [(0, .iter a1 s1)], 1⟩) hl (To.mk' [] 0 hε rfl (by repeat' first | exact True.intro | exact rfl | apply And.intro) (by repeat' first | exact True.intro | exact rfl | apply And.intro)) (fun s1 zs1 NNs1 hz hnexts1 houts1 => ?_)
    clear hl hT
    have hT := hz; clear hz
    refine rSeq ?_
    refine rRegSL ?_
    replace hT := sIf hT; obtain ⟨o1, hT⟩ := hT
    refine rSLNext rfl rfl rfl rfl rfl rfl (by repeat' first | exact True.intro | exact rfl | apply And.intro | omega | exact Nat.le_of_ble_eq_true rfl) rfl o1 rfl rfl (fun hb => ?_) (fun hb => ?_)
    · replace hT := sT (decide_eq_true hb) hT
      refine rSLDone md0 hX rfl rfl rfl (by (repeat' first | exact True.intro | with_reducible assumption | (with_reducible apply And.intro) | intro _) <;> first | assumption | exact rfl | omega | exact Nat.le_of_ble_eq_true rfl | exact selF (by assumption) | exact selT (by assumption) | exact And.intro rfl rfl | exact And.intro (by assumption) rfl | exact And.intro (by omega) rfl | (simp only [inK] at *; omega) | (simp_all [sel] <;> fail) | fail) ?_
      refine rThen ?_
      refine rSeq ?_
      refine rCondT rfl rfl (by (repeat' first | exact True.intro | with_reducible assumption | (with_reducible apply And.intro) | intro _) <;> first | assumption | exact rfl | omega | exact Nat.le_of_ble_eq_true rfl | exact selF (by assumption) | exact selT (by assumption) | exact And.intro rfl rfl | exact And.intro (by assumption) rfl | exact And.intro (by omega) rfl | (simp only [inK] at *; omega) | (simp_all [sel] <;> fail) | fail) rfl ?_
      refine rSkip ?_
      refine rThen ?_
      refine rBlock ?_
      refine rSeq ?_
      refine zReg md0 hX rfl rfl rfl ?_
      refine rThen ?_
      refine rSeq ?_
      let x1 := (bif (decide (((Utf8.decode a1 s1).1 : Int) ≠ 48)) then (decide (((Utf8.decode a1 s1).1 : Int) ≠ 49)) else false)
      refine zReg md0 hX rfl rfl rfl ?_
      refine rThen ?_
      refine zCond rfl rfl (fun hc => ?_) (fun hc => ?_)
      · replace hT := sT hc hT
        refine rSeq ?_
        refine zReg md0 hX rfl rfl rfl ?_
        refine rThen ?_
        refine rRet ?_
        refine rInRet ?_
        refine rThenRet ?_
        exact zTo [] 0 hε (hxs10 _ (houts1 _ (Option.some.inj hT).symm))
      · replace hT := sF hc hT
        refine rSkip ?_
        refine rInNormal ?_
        exact hnexts1 _ (Option.some.inj hT).symm _ (To.mk' [] 0 hε rfl (by repeat' first | exact True.intro | exact rfl | apply And.intro) (by repeat' first | exact True.intro | exact rfl | apply And.intro))
    · replace hT := sF (decide_eq_false hb) hT
      refine rSLDone md0 hX rfl rfl rfl (by (repeat' first | exact True.intro | with_reducible assumption | (with_reducible apply And.intro) | intro _) <;> first | assumption | exact rfl | omega | exact Nat.le_of_ble_eq_true rfl | exact selF (by assumption) | exact selT (by assumption) | exact And.intro rfl rfl | exact And.intro (by assumption) rfl | exact And.intro (by omega) rfl | (simp only [inK] at *; omega) | (simp_all [sel] <;> fail) | fail) ?_
      refine rThen ?_
      refine rSeq ?_
      refine rCondF rfl rfl (by (repeat' first | exact True.intro | with_reducible assumption | (with_reducible apply And.intro) | intro _) <;> first | assumption | exact rfl | omega | exact Nat.le_of_ble_eq_true rfl | exact selF (by assumption) | exact selT (by assumption) | exact And.intro rfl rfl | exact And.intro (by assumption) rfl | exact And.intro (by omega) rfl | (simp only [inK] at *; omega) | (simp_all [sel] <;> fail) | fail) rfl ?_
      refine rExit ?_
      refine rThenExit ?_
      refine rThenExit ?_
      exact zTo [] 0 hε (hxs11 _ (houts1 _ (Option.some.inj hT).symm))
  · cases h
def overspill_outbits_Writer_Add_b1 (N : Nat) (a1 : ByteArray) (s1 : ((List Bool) × Nat)) : Option (((List Bool) × Nat) ⊕ (List Bool)) :=
  if (ByteArray.size a1 : Int) ≤ 9223372036854775807 then
    bif (decide (s1.2 < ByteArray.size a1)) then
      let c2 := (overspill_outbits_Writer_bit N (decide (((Utf8.decode a1 s1.2).1 : Int) = 49)) s1.1)
      if c2.isSome = true then
        some (.inl ((c2.getD default), (s1.2 + (Utf8.decode a1 s1.2).2)))
      else none
    else
      some (.inr s1.1)
  else none
def overspill_outbits_Writer_Add (N : Nat) (a1 : ByteArray) (a2 : (List Bool)) : Option (Int × (List Bool)) :=
  let c1 := (outbits_plain N a1)
  if ((!false) = true → c1.isSome = true) then
    bif (bif false then true else (!(c1.getD default))) then
      some (1, a2)
    else
      (iter (overspill_outbits_Writer_Add_b1 N a1) N (a2, 0)).bind fun v1 =>
        some (0, v1)
  else none
def sp_overspill_outbits_Writer_Add (N : Nat) : X.Spec := fun args lk => match args with
  | [.v (.c (.ptr i0 0 0 0 0 0)), .v (.c (.str a1))] => (match lk i0 with
    | some (.obj 5 a2) => some ⟨(overspill_outbits_Writer_Add N a1 a2).isSome = true, .v (.c (.int .i64 ((overspill_outbits_Writer_Add N a1 a2).getD default).1)), [], [(i0, .obj 5 ((overspill_outbits_Writer_Add N a1 a2).getD default).2)]⟩
    | _ => none)
  | _ => none
set_option maxRecDepth 100000 in
set_option maxHeartbeats 1000000 in
theorem ok_overspill_outbits_Writer_Add (N : Nat) : FnOK Tryd.prog gt0 46 (sp_overspill_outbits_Writer_Add N) := by
  refine fnOK_handed Tryd.func46 rfl (by kernel_rfl) tt_ok (ktCons (ok_overspill_outbits_Writer_bit N) (ktCons (ok_outbits_plain N) (ktNil))) ?_
  intro args lk r h hp
  unfold sp_overspill_outbits_Writer_Add at h
  split at h
  · rename_i i0 a1
    split at h
    · rename_i a2 hl0
      cases h
      obtain ⟨x, hx⟩ := Option.isSome_iff_exists.1 hp
      simp only [hx, Option.getD_some]
      refine handL [i0] 1 [(0, .obj 5 a2)] [.v (.c (.ptr 0 0 0 0 0 0)), .v (.c (.str a1))] rfl rfl rfl ⟨isSome_of hl0, trivial⟩ ⟨⟨rfl, (by repeat' first | exact True.intro | exact rfl | exact ⟨_, rfl, rfl⟩ | apply And.intro | exact Or.inl rfl), _, hl0, .inl rfl⟩, trivial⟩ rfl (fun w0 M ε0 hX => ?_)
      refine rCount (fun hε => ?_)
      have hT : overspill_outbits_Writer_Add N a1 a2 = some x := hx; clear hx hp; unfold overspill_outbits_Writer_Add at hT
      refine rSeq ?_
      refine zReg md0 hX rfl rfl rfl ?_
      refine rThen ?_
      refine rSeq ?_
      refine rSeq ?_
      let c1 := (outbits_plain N a1)
      replace hT := sIf hT; obtain ⟨o1, hT⟩ := hT
      refine rRegC md0 hX rfl rfl rfl (by (repeat' first | exact True.intro | with_reducible assumption | (with_reducible apply And.intro) | intro _) <;> first | assumption | exact o1 (by assumption) | exact rfl | omega | exact Nat.le_of_ble_eq_true rfl | exact selF (by assumption) | exact selT (by assumption) | exact And.intro rfl rfl | exact And.intro (by assumption) rfl | exact And.intro (by omega) rfl | (simp only [inK] at *; omega) | (simp_all [sel] <;> fail) | fail) ?_
      refine rThen ?_
      refine zCond rfl rfl (fun hc => ?_) (fun hc => ?_)
      · replace hT := sT hc hT
        refine rSeq ?_
        refine zReg md0 hX rfl rfl rfl ?_
        refine rThen ?_
        refine rRet ?_
        refine rThenRet ?_
        have hy := Option.some.inj hT; subst hy
        exact rEndA [] [] [(0, .obj 5 a2)] (.v (.c (.int .i64 1))) hX rfl (by repeat' first | exact True.intro | exact rfl | apply And.intro | omega | exact Nat.le_of_ble_eq_true rfl) (by repeat' first | exact True.intro | exact rfl | apply And.intro) rfl rfl rfl (by repeat' first | exact True.intro | exact rfl | exact ⟨_, rfl, rfl⟩ | apply And.intro | exact Or.inl rfl) rfl rfl (by repeat' first | exact True.intro | exact rfl | exact ⟨_, rfl, rfl⟩ | apply And.intro | exact Or.inl rfl) rfl rfl
      · replace hT := sF hc hT
        refine rSkip ?_
        refine rThen ?_
        refine rSeq ?_
        refine rSeq ?_
        refine zReg md0 hX rfl rfl rfl ?_
        refine rThen ?_
        refine rBlock ?_
        replace hT := sBind hT; obtain ⟨w1, hl, hT⟩ := hT
        refine rJoinA (fun v1 => v1 = w1) (fun v1 => ⟨[(4, .v (.c (.int .i64 0)))], [(0, .obj 5 v1)], 2⟩) (.exit 0) (fun v1 hv => ?_) (fun hxs10 => ?_)
        · subst hv; clear hl
          refine rInHit ?_
          refine rThen ?_
          refine rSeq ?_
          refine zReg md0 hX rfl rfl rfl ?_
          refine rThen ?_
          refine rRet ?_
          have hy := Option.some.inj hT; subst hy
          exact rEndA [] [] [(0, .obj 5 v1)] (.v (.c (.int .i64 0))) hX rfl (by repeat' first | exact True.intro | exact rfl | apply And.intro | omega | exact Nat.le_of_ble_eq_true rfl) (by repeat' first | exact True.intro | exact rfl | apply And.intro) rfl rfl rfl (by repeat' first | exact True.intro | exact rfl | exact ⟨_, rfl, rfl⟩ | apply And.intro | exact Or.inl rfl) rfl rfl (by repeat' first | exact True.intro | exact rfl | exact ⟨_, rfl, rfl⟩ | apply And.intro | exact Or.inl rfl) rfl rfl
        refine rLoopM (overspill_outbits_Writer_Add_b1 N a1) (fun s1 => ⟨[(0, .v (.c (.ptr 0 0 0 0 0 0))), (4, .v (.c (.int .i64 0))), (15, .v (.c (.ptr 1 0 0 0 0 0)))], [(0, .obj 5 s1.1), (1, .iter a1 s1.2)], 2⟩) hl (To.mk' [] 1 hε rfl (by repeat' first | exact True.intro | exact rfl | apply And.intro) (by repeat' first | exact True.intro | exact rfl | apply And.intro)) (fun s1 zs1 NNs1 hz hnexts1 houts1 => ?_)
        clear hl hT
        have hT := hz; clear hz
        refine rSeq ?_
        refine rRegSL ?_
        replace hT := sIf hT; obtain ⟨o1, hT⟩ := hT
        refine rSLNext rfl rfl rfl rfl rfl rfl (by repeat' first | exact True.intro | exact rfl | apply And.intro | omega | exact Nat.le_of_ble_eq_true rfl) rfl o1 rfl rfl (fun hb => ?_) (fun hb => ?_)
        · replace hT := sT (decide_eq_true hb) hT
          refine rSLDone md0 hX rfl rfl rfl (by (repeat' first | exact True.intro | with_reducible assumption | (with_reducible apply And.intro) | intro _) <;> first | assumption | exact rfl | omega | exact Nat.le_of_ble_eq_true rfl | exact selF (by assumption) | exact selT (by assumption) | exact And.intro rfl rfl | exact And.intro (by assumption) rfl | exact And.intro (by omega) rfl | (simp only [inK] at *; omega) | (simp_all [sel] <;> fail) | fail) ?_
          refine rThen ?_
          refine rSeq ?_
          refine rCondT rfl rfl (by (repeat' first | exact True.intro | with_reducible assumption | (with_reducible apply And.intro) | intro _) <;> first | assumption | exact rfl | omega | exact Nat.le_of_ble_eq_true rfl | exact selF (by assumption) | exact selT (by assumption) | exact And.intro rfl rfl | exact And.intro (by assumption) rfl | exact And.intro (by omega) rfl | (simp only [inK] at *; omega) | (simp_all [sel] <;> fail) | fail) rfl ?_
          refine rSkip ?_
          refine rThen ?_
          refine rBlock ?_
          refine rSeq ?_
          refine zReg md0 hX rfl rfl rfl ?_
          refine rThen ?_
          let c2 := (overspill_outbits_Writer_bit N (decide (((Utf8.decode a1 s1.2).1 : Int) = 49)) s1.1)
          replace hT := sIf hT; obtain ⟨o1, hT⟩ := hT
          refine zReg md0 hX rfl rfl rfl ?_
          refine rInNormal ?_
          exact hnexts1 _ (Option.some.inj hT).symm _ (To.mk' [] 1 hε rfl (by repeat' first | exact True.intro | exact rfl | apply And.intro) (by repeat' first | exact True.intro | exact rfl | apply And.intro))
        · replace hT := sF (decide_eq_false hb) hT
          refine rSLDone md0 hX rfl rfl rfl (by (repeat' first | exact True.intro | with_reducible assumption | (with_reducible apply And.intro) | intro _) <;> first | assumption | exact rfl | omega | exact Nat.le_of_ble_eq_true rfl | exact selF (by assumption) | exact selT (by assumption) | exact And.intro rfl rfl | exact And.intro (by assumption) rfl | exact And.intro (by omega) rfl | (simp only [inK] at *; omega) | (simp_all [sel] <;> fail) | fail) ?_
          refine rThen ?_
          refine rSeq ?_
          refine rCondF rfl rfl (by (repeat' first | exact True.intro | with_reducible assumption | (with_reducible apply And.intro) | intro _) <;> first | assumption | exact rfl | omega | exact Nat.le_of_ble_eq_true rfl | exact selF (by assumption) | exact selT (by assumption) | exact And.intro rfl rfl | exact And.intro (by assumption) rfl | exact And.intro (by omega) rfl | (simp only [inK] at *; omega) | (simp_all [sel] <;> fail) | fail) rfl ?_
          refine rExit ?_
          refine rThenExit ?_
          refine rThenExit ?_
          exact zTo [] 1 hε (hxs10 _ (houts1 _ (Option.some.inj hT).symm))
    · cases h
  · cases h
def blocks_Put_b1 (N : Nat) (a3 : (List (Bool × (Int × Int)))) (s1 : (Int × (List Bool))) : Option ((Int × (List Bool)) ⊕ (List Bool)) :=
  bif (decide (s1.1 < (a3.length : Int))) then
    if (0 : Int) ≤ s1.1 ∧ s1.1 < (a3.length : Int) then
      let c3 := (tcoef_Row N (a3.getD (s1.1).toNat (false, ((0 : Int), (0 : Int)))).1 (a3.getD (s1.1).toNat (false, ((0 : Int), (0 : Int)))).2.1 (a3.getD (s1.1).toNat (false, ((0 : Int), (0 : Int)))).2.2)
      if c3.isSome = true then
        let c4 := (overspill_outbits_Writer_Add N (c3.getD default).1 s1.2)
        if c4.isSome = true then
          if inK .i64 (s1.1 + 1) then
            some (.inl ((s1.1 + 1), (c4.getD default).2))
          else none
        else none
      else none
    else none
  else
    some (.inr s1.2)
def blocks_Put (N : Nat) (a1 : Bool) (a2 : Int) (a3 : (List (Bool × (Int × Int)))) (a4 : (List Bool)) : Option (Int × (List Bool)) :=
  let c1 := (blocks_may N a1 a2 a3)
  if c1.isSome = true then
    bif (!(c1.getD default)) then
      some (7, a4)
    else
      let c2 := (overspill_outbits_Writer_Put N (bif (decide (a2 = 128)) then 255 else a2) 8 a4)
      if (a1 = true → c2.isSome = true) then
        (iter (blocks_Put_b1 N a3) N (0, (bif a1 then (c2.getD default).2 else a4))).bind fun v1 =>
          some (0, v1)
      else none
  else none
def sp_blocks_Put (N : Nat) : X.Spec := fun args lk => match args with
  | [.v (.c (.ptr i0 0 0 0 0 0)), .v (.c (.bool a1)), .v (.c (.int .i64 a2)), .v (.c (.fz (.pair .bool (.pair (.int .i64) (.int .i64))) a3))] => (match lk i0 with
    | some (.obj 5 a4) => some ⟨(blocks_Put N a1 a2 a3 a4).isSome = true, .v (.c (.int .i64 ((blocks_Put N a1 a2 a3 a4).getD default).1)), [], [(i0, .obj 5 ((blocks_Put N a1 a2 a3 a4).getD default).2)]⟩
    | _ => none)
  | _ => none
set_option maxRecDepth 100000 in
set_option maxHeartbeats 1000000 in
theorem ok_blocks_Put (N : Nat) : FnOK Tryd.prog gt0 33 (sp_blocks_Put N) := by
  refine fnOK_handed Tryd.func33 rfl (by kernel_rfl) tt_ok (ktCons (ok_overspill_outbits_Writer_Add N) (ktCons (ok_tcoef_Row N) (ktCons (ok_overspill_outbits_Writer_Put N) (ktCons (ok_blocks_may N) (ktNil))))) ?_
  intro args lk r h hp
  unfold sp_blocks_Put at h
  split at h
  · rename_i i0 a1 a2 a3
    split at h
    · rename_i a4 hl0
      change (List (Bool × (Int × Int))) at a3
      cases h
      obtain ⟨x, hx⟩ := Option.isSome_iff_exists.1 hp
      simp only [hx, Option.getD_some]
      refine handL [i0] 1 [(0, .obj 5 a4)] [.v (.c (.ptr 0 0 0 0 0 0)), .v (.c (.bool a1)), .v (.c (.int .i64 a2)), .v (.c (.fz (.pair .bool (.pair (.int .i64) (.int .i64))) a3))] rfl rfl rfl ⟨isSome_of hl0, trivial⟩ ⟨⟨rfl, (by repeat' first | exact True.intro | exact rfl | exact ⟨_, rfl, rfl⟩ | apply And.intro | exact Or.inl rfl), _, hl0, .inl rfl⟩, trivial⟩ rfl (fun w0 M ε0 hX => ?_)
      refine rCount (fun hε => ?_)
      have hT : blocks_Put N a1 a2 a3 a4 = some x := hx; clear hx hp; unfold blocks_Put at hT
      refine rSeq ?_
      refine zReg md0 hX rfl rfl rfl ?_
      refine rThen ?_
      refine rSeq ?_
      refine rBlock ?_
      refine rSeq ?_
      refine zReg md0 hX rfl rfl rfl ?_
      refine rThen ?_
      refine rCondF rfl rfl (by (repeat' first | exact True.intro | with_reducible assumption | (with_reducible apply And.intro) | intro _) <;> first | assumption | exact rfl | omega | exact Nat.le_of_ble_eq_true rfl | exact selF (by assumption) | exact selT (by assumption) | exact And.intro rfl rfl | exact And.intro (by assumption) rfl | exact And.intro (by omega) rfl | (simp only [inK] at *; omega) | (simp_all [sel] <;> fail) | fail) rfl ?_
      refine rSeq ?_
      let c1 := (blocks_may N a1 a2 a3)
      replace hT := sIf hT; obtain ⟨o1, hT⟩ := hT
      refine zReg md0 hX rfl rfl rfl ?_
      refine rThen ?_
      refine zCond rfl rfl (fun hc => ?_) (fun hc => ?_)
      · replace hT := sT hc hT
        refine rSeq ?_
        refine zReg md0 hX rfl rfl rfl ?_
        refine rThen ?_
        refine rRet ?_
        refine rInRet ?_
        refine rThenRet ?_
        have hy := Option.some.inj hT; subst hy
        exact rEndA [] [] [(0, .obj 5 a4)] (.v (.c (.int .i64 7))) hX rfl (by repeat' first | exact True.intro | exact rfl | apply And.intro | omega | exact Nat.le_of_ble_eq_true rfl) (by repeat' first | exact True.intro | exact rfl | apply And.intro) rfl rfl rfl (by repeat' first | exact True.intro | exact rfl | exact ⟨_, rfl, rfl⟩ | apply And.intro | exact Or.inl rfl) rfl rfl (by repeat' first | exact True.intro | exact rfl | exact ⟨_, rfl, rfl⟩ | apply And.intro | exact Or.inl rfl) rfl rfl
      · replace hT := sF hc hT
        refine rSkip ?_
        refine rInNormal ?_
        refine rThen ?_
        refine rSeq ?_
        refine rSeq ?_
        refine zReg md0 hX rfl rfl rfl ?_
        refine rThen ?_
        refine rJoin ⟨[(0, .v (.c (.ptr 0 0 0 0 0 0))), (1, .v (.c (.bool a1))), (2, .v (.c (.int .i64 (bif (decide (a2 = 128)) then 255 else a2)))), (3, .v (.c (.fz (.pair .bool (.pair (.int .i64) (.int .i64))) a3))), (8, .v (.c (.int .i64 0)))], [(0, .obj 5 a4)], 1⟩ ?_ (fun hj => ?_)
        · skip
          refine rThen ?_
          refine rSeq ?_
          refine rSeq ?_
          refine zReg md0 hX rfl rfl rfl ?_
          refine rThen ?_
          let c2 := (overspill_outbits_Writer_Put N (bif (decide (a2 = 128)) then 255 else a2) 8 a4)
          replace hT := sIf hT; obtain ⟨q1, hT⟩ := hT
          refine rJoin ⟨[(0, .v (.c (.ptr 0 0 0 0 0 0))), (3, .v (.c (.fz (.pair .bool (.pair (.int .i64) (.int .i64))) a3))), (8, .v (.c (.int .i64 0)))], [(0, .obj 5 (bif a1 then (c2.getD default).2 else a4))], 1⟩ ?_ (fun hj => ?_)
          · skip
            refine rThen ?_
            refine rSeq ?_
            refine rSeq ?_
            refine zReg md0 hX rfl rfl rfl ?_
            refine rThen ?_
            refine rBlock ?_
            replace hT := sBind hT; obtain ⟨w1, hl, hT⟩ := hT
            refine rJoinA (fun v1 => v1 = w1) (fun v1 => ⟨[(8, .v (.c (.int .i64 0)))], [(0, .obj 5 v1)], 1⟩) (.exit 1) (fun v1 hv => ?_) (fun hxs10 => ?_)
            · subst hv; clear hl
              refine rInHit ?_
              refine rThen ?_
              refine rSeq ?_
              refine zReg md0 hX rfl rfl rfl ?_
              refine rThen ?_
              refine rRet ?_
              have hy := Option.some.inj hT; subst hy
              exact rEndA [] [] [(0, .obj 5 v1)] (.v (.c (.int .i64 0))) hX rfl (by repeat' first | exact True.intro | exact rfl | apply And.intro | omega | exact Nat.le_of_ble_eq_true rfl) (by repeat' first | exact True.intro | exact rfl | apply And.intro) rfl rfl rfl (by repeat' first | exact True.intro | exact rfl | exact ⟨_, rfl, rfl⟩ | apply And.intro | exact Or.inl rfl) rfl rfl (by repeat' first | exact True.intro | exact rfl | exact ⟨_, rfl, rfl⟩ | apply And.intro | exact Or.inl rfl) rfl rfl
            refine rLoopM (blocks_Put_b1 N a3) (fun s1 => ⟨[(0, .v (.c (.ptr 0 0 0 0 0 0))), (8, .v (.c (.int .i64 0))), (28, .v (.c (.fz (.pair .bool (.pair (.int .i64) (.int .i64))) a3))), (29, .v (.c (.int .i64 (a3.length : Int)))), (30, .v (.c (.int .i64 s1.1)))], [(0, .obj 5 s1.2)], 1⟩) hl (To.mk' [] 1 hε rfl (by repeat' first | exact True.intro | exact rfl | apply And.intro) (by repeat' first | exact True.intro | exact rfl | apply And.intro)) (fun s1 zs1 NNs1 hz hnexts1 houts1 => ?_)
            clear hl hT
            have hT := hz; clear hz
            refine rSeq ?_
            refine zReg md0 hX rfl rfl rfl ?_
            refine rThen ?_
            refine rSeq ?_
            refine zCond rfl rfl (fun hc => ?_) (fun hc => ?_)
            · replace hT := sT hc hT
              refine rSkip ?_
              refine rThen ?_
              refine rSeq ?_
              refine rBlock ?_
              refine rSeq ?_
              replace hT := sIf hT; obtain ⟨⟨o1, o2⟩, hT⟩ := hT
              refine zReg md0 hX rfl rfl rfl ?_
              refine rThen ?_
              refine rSeq ?_
              let c3 := (tcoef_Row N (a3.getD (s1.1).toNat (false, ((0 : Int), (0 : Int)))).1 (a3.getD (s1.1).toNat (false, ((0 : Int), (0 : Int)))).2.1 (a3.getD (s1.1).toNat (false, ((0 : Int), (0 : Int)))).2.2)
              replace hT := sIf hT; obtain ⟨o1, hT⟩ := hT
              refine zReg md0 hX rfl rfl rfl ?_
              refine rThen ?_
              let c4 := (overspill_outbits_Writer_Add N (c3.getD default).1 s1.2)
              replace hT := sIf hT; obtain ⟨o1, hT⟩ := hT
              refine zReg md0 hX rfl rfl rfl ?_
              refine rInNormal ?_
              refine rThen ?_
              replace hT := sIf hT; obtain ⟨o1, hT⟩ := hT
              refine zReg md0 hX rfl rfl rfl ?_
              exact hnexts1 _ (Option.some.inj hT).symm _ (To.mk' [] 1 hε rfl (by repeat' first | exact True.intro | exact rfl | apply And.intro) (by repeat' first | exact True.intro | exact rfl | apply And.intro))
            · replace hT := sF hc hT
              refine rExit ?_
              refine rThenExit ?_
              refine rThenExit ?_
              exact zTo [] 1 hε (hxs10 _ (houts1 _ (Option.some.inj hT).symm))
          · clear hT
            refine zCond rfl rfl (fun hc => ?_) (fun hc => ?_)
            · skip
              have q1 := q1 hc
              refine zReg md0 hX rfl rfl rfl ?_
              exact rTo (To.mk' [] 1 hε rfl (by (repeat' first | exact True.intro | exact rfl | apply And.intro) <;> (repeat' first | exact rfl | refine Eq.trans ?_ (cTr (by assumption)) | refine Eq.trans ?_ (cFr (by assumption)) | refine Eq.trans (cTl (by assumption)) ?_ | refine Eq.trans (cFl (by assumption)) ?_)) (by (repeat' first | exact True.intro | exact rfl | apply And.intro) <;> (repeat' first | exact rfl | refine Eq.trans ?_ (cTr (by assumption)) | refine Eq.trans ?_ (cFr (by assumption)) | refine Eq.trans (cTl (by assumption)) ?_ | refine Eq.trans (cFl (by assumption)) ?_))) hj
            · skip
              refine rSkip ?_
              exact rTo (To.mk' [] 1 hε rfl (by (repeat' first | exact True.intro | exact rfl | apply And.intro) <;> (repeat' first | exact rfl | refine Eq.trans ?_ (cTr (by assumption)) | refine Eq.trans ?_ (cFr (by assumption)) | refine Eq.trans (cTl (by assumption)) ?_ | refine Eq.trans (cFl (by assumption)) ?_)) (by (repeat' first | exact True.intro | exact rfl | apply And.intro) <;> (repeat' first | exact rfl | refine Eq.trans ?_ (cTr (by assumption)) | refine Eq.trans ?_ (cFr (by assumption)) | refine Eq.trans (cTl (by assumption)) ?_ | refine Eq.trans (cFl (by assumption)) ?_))) hj
        · clear hT
          refine zCond rfl rfl (fun hc => ?_) (fun hc => ?_)
          · skip
            refine zReg md0 hX rfl rfl rfl ?_
            exact rTo (To.mk' [] 1 hε rfl (by (repeat' first | exact True.intro | exact rfl | apply And.intro) <;> (repeat' first | exact rfl | refine Eq.trans ?_ (cTr (by assumption)) | refine Eq.trans ?_ (cFr (by assumption)) | refine Eq.trans (cTl (by assumption)) ?_ | refine Eq.trans (cFl (by assumption)) ?_)) (by (repeat' first | exact True.intro | exact rfl | apply And.intro) <;> (repeat' first | exact rfl | refine Eq.trans ?_ (cTr (by assumption)) | refine Eq.trans ?_ (cFr (by assumption)) | refine Eq.trans (cTl (by assumption)) ?_ | refine Eq.trans (cFl (by assumption)) ?_))) hj
          · skip
            refine rSkip ?_
            exact rTo (To.mk' [] 1 hε rfl (by (repeat' first | exact True.intro | exact rfl | apply And.intro) <;> (repeat' first | exact rfl | refine Eq.trans ?_ (cTr (by assumption)) | refine Eq.trans ?_ (cFr (by assumption)) | refine Eq.trans (cTl (by assumption)) ?_ | refine Eq.trans (cFl (by assumption)) ?_)) (by (repeat' first | exact True.intro | exact rfl | apply And.intro) <;> (repeat' first | exact rfl | refine Eq.trans ?_ (cTr (by assumption)) | refine Eq.trans ?_ (cFr (by assumption)) | refine Eq.trans (cTl (by assumption)) ?_ | refine Eq.trans (cFl (by assumption)) ?_))) hj
    · cases h
  · cases h
def cellout_Right_b1 (N : Nat) (a4 : Int) (a7 : (List Int)) (a8 : (List (List (Bool × (Int × Int))))) (s1 : Int) : Option (Int ⊕ (Unit ⊕ Unit)) :=
  bif (decide (s1 < 6)) then
    let c6 := (outbits_New N)
    let c7 := (cellout_intra N a4)
    let c8 := (blocks_Put N (c7.getD default) (a7.getD (s1).toNat 0) (a8.getD (s1).toNat []) (c6.getD default))
    if c6.isSome = true ∧ c7.isSome = true ∧ (0 : Int) ≤ s1 ∧ s1 < 6 ∧ (s1).toNat < 6 ∧ c8.isSome = true then
      bif (decide ((c8.getD default).1 ≠ 0)) then
        some (.inr (Sum.inl ()))
      else
        if inK .i64 (s1 + 1) then
          some (.inl (s1 + 1))
        else none
    else none
  else
    some (.inr (Sum.inr ()))
def cellout_Right (N : Nat) (a1 : Bool) (a2 : Int) (a3 : Bool) (a4 : Int) (a5 : Int) (a6 : (List Int)) (a7 : (List Int)) (a8 : (List (List (Bool × (Int × Int))))) : Option Bool :=
  bif (bif (decide (a2 < 0)) then true else (decide ((64 : Int) < a2))) then
    some false
  else
    bif a3 then
      let c1 := (cellout_bare N a2 a3 a4 a5 a6 a7 a8)
      if (a1 = true → c1.isSome = true) then
        some (bif a1 then (c1.getD default) else false)
      else none
    else
      let c2 := (cellout_intra N a4)
      let x1 := (bif (!(c2.getD default)) then (bif (!a1) then true else (bif (decide (a4 ≠ 0)) then (decide (a4 ≠ 1)) else false)) else false)
      if c2.isSome = true ∧ (((!(c2.getD default)) && (!(!a1))) = true → ((decide (a4 ≠ 0)) = true → (((!(c2.getD default)) && (!(!a1))) && (decide (a4 ≠ 0))) = true)) ∧ ((!(c2.getD default)) = true → ((!a1) = false → ((!(c2.getD default)) && (!(!a1))) = true)) then
        bif x1 then
          some false
        else
          let c3 := (steps_Row N a5)
          if c3.isSome = true then
            let c4 := (cellout_stepped N a4)
            let c5 := (cellout_vector N a2 a3 a4 a5 a6 a7 a8)
            let x4 := (bif (bif (!((c3.getD default).2 == (c4.getD default))) then true else (bif (!(c3.getD default).2) then (decide (a5 ≠ 0)) else false)) then true else (!(c5.getD default)))
            if c4.isSome = true ∧ ((!(!((c3.getD default).2 == (c4.getD default)))) = true → ((!(c3.getD default).2) = true → ((!(!((c3.getD default).2 == (c4.getD default)))) && (!(c3.getD default).2)) = true)) ∧ ((!(bif (!((c3.getD default).2 == (c4.getD default))) then true else (bif (!(c3.getD default).2) then (decide (a5 ≠ 0)) else false))) = true → c5.isSome = true) then
              bif x4 then
                some false
              else
                (iter (cellout_Right_b1 N a4 a7 a8) N 0).bind fun w1 =>
                  (Sum.elim (fun v1 =>
                    some false
                  )
                    (fun v2 =>
                      some true
                    )
                  ) w1
            else none
          else none
      else none
def sp_cellout_Right (N : Nat) : X.Spec := fun args lk => match args with
  | [.v (.c (.bool a1)), .v (.agg [.cs [.int .i64 a2, .bool a3, .int .i64 a4, .int .i64 a5], .ints 2 .i64 a6, .ints 6 .i64 a7, .fzs 6 (.pair .bool (.pair (.int .i64) (.int .i64))) a8])] => some ⟨(cellout_Right N a1 a2 a3 a4 a5 a6 a7 a8).isSome = true, .v (.c (.bool ((cellout_Right N a1 a2 a3 a4 a5 a6 a7 a8).getD default))), [], []⟩
  | _ => none
set_option maxRecDepth 100000 in
set_option maxHeartbeats 1000000 in
theorem ok_cellout_Right (N : Nat) : FnOK Tryd.prog gt0 21 (sp_cellout_Right N) := by
  refine fnOK_handed Tryd.func21 rfl (by kernel_rfl) tt_ok (ktCons (ok_blocks_Put N) (ktCons (ok_outbits_New N) (ktCons (ok_cellout_vector N) (ktCons (ok_cellout_stepped N) (ktCons (ok_steps_Row N) (ktCons (ok_cellout_intra N) (ktCons (ok_cellout_bare N) (ktNil)))))))) ?_
  intro args lk r h hp
  unfold sp_cellout_Right at h
  split at h
  · rename_i a1 a2 a3 a4 a5 a6 a7 a8
    change (List Int) at a6
    change (List Int) at a7
    change (List (List (Bool × (Int × Int)))) at a8
    cases h
    obtain ⟨x, hx⟩ := Option.isSome_iff_exists.1 hp
    simp only [hx, Option.getD_some]
    refine hand0 rfl rfl (fun w0 M ε0 hX => ?_)
    refine rCount (fun hε => ?_)
    have hT : cellout_Right N a1 a2 a3 a4 a5 a6 a7 a8 = some x := hx; clear hx hp; unfold cellout_Right at hT
    refine rSeq ?_
    refine zReg md0 hX rfl rfl rfl ?_
    refine rThen ?_
    refine rSeq ?_
    refine rSeq ?_
    refine zReg md0 hX rfl rfl rfl ?_
    refine rThen ?_
    refine zCond rfl rfl (fun hc => ?_) (fun hc => ?_)
    · replace hT := sT hc hT
      refine rSeq ?_
      refine zReg md0 hX rfl rfl rfl ?_
      refine rThen ?_
      refine rRet ?_
      refine rThenRet ?_
      have hy := Option.some.inj hT; subst hy
      exact zEnd0 hX rfl
    · replace hT := sF hc hT
      refine rSkip ?_
      refine rThen ?_
      refine rSeq ?_
      refine rSeq ?_
      refine zReg md0 hX rfl rfl rfl ?_
      refine rThen ?_
      refine zCond rfl rfl (fun hc => ?_) (fun hc => ?_)
      · replace hT := sT hc hT
        refine rSeq ?_
        let c1 := (cellout_bare N a2 a3 a4 a5 a6 a7 a8)
        replace hT := sIf hT; obtain ⟨o1, hT⟩ := hT
        refine rRegC md0 hX rfl rfl rfl (by (repeat' first | exact True.intro | with_reducible assumption | (with_reducible apply And.intro) | intro _) <;> first | assumption | exact o1 (by assumption) | exact rfl | omega | exact Nat.le_of_ble_eq_true rfl | exact selF (by assumption) | exact selT (by assumption) | exact And.intro rfl rfl | exact And.intro (by assumption) rfl | exact And.intro (by omega) rfl | (simp only [inK] at *; omega) | (simp_all [sel] <;> fail) | fail) ?_
        refine rThen ?_
        refine rRet ?_
        refine rThenRet ?_
        have hy := Option.some.inj hT; subst hy
        exact zEnd0 hX rfl
      · replace hT := sF hc hT
        refine rSkip ?_
        refine rThen ?_
        refine rSeq ?_
        refine rSeq ?_
        let c2 := (cellout_intra N a4)
        let x1 := (bif (!(c2.getD default)) then (bif (!a1) then true else (bif (decide (a4 ≠ 0)) then (decide (a4 ≠ 1)) else false)) else false)
        replace hT := sIf hT; obtain ⟨⟨o1, o2, o3⟩, hT⟩ := hT
        refine rRegC md0 hX rfl rfl rfl (by (repeat' first | exact True.intro | with_reducible assumption | (with_reducible apply And.intro) | intro _) <;> first | assumption | exact o2 (by assumption) | exact o3 (by assumption) | exact rfl | omega | exact Nat.le_of_ble_eq_true rfl | exact selF (by assumption) | exact selT (by assumption) | exact And.intro rfl rfl | exact And.intro (by assumption) rfl | exact And.intro (by omega) rfl | (simp only [inK] at *; omega) | (simp_all [sel] <;> fail) | fail) ?_
        refine rThen ?_
        refine zCond rfl rfl (fun hc => ?_) (fun hc => ?_)
        · replace hT := sT hc hT
          refine rSeq ?_
          refine zReg md0 hX rfl rfl rfl ?_
          refine rThen ?_
          refine rRet ?_
          refine rThenRet ?_
          have hy := Option.some.inj hT; subst hy
          exact zEnd0 hX rfl
        · replace hT := sF hc hT
          refine rSkip ?_
          refine rThen ?_
          refine rSeq ?_
          refine rSeq ?_
          let c3 := (steps_Row N a5)
          replace hT := sIf hT; obtain ⟨o1, hT⟩ := hT
          refine zReg md0 hX rfl rfl rfl ?_
          refine rThen ?_
          refine rSeq ?_
          let c4 := (cellout_stepped N a4)
          let c5 := (cellout_vector N a2 a3 a4 a5 a6 a7 a8)
          let x4 := (bif (bif (!((c3.getD default).2 == (c4.getD default))) then true else (bif (!(c3.getD default).2) then (decide (a5 ≠ 0)) else false)) then true else (!(c5.getD default)))
          replace hT := sIf hT; obtain ⟨⟨o1, o2, o3⟩, hT⟩ := hT
          refine rRegC md0 hX rfl rfl rfl (by (repeat' first | exact True.intro | with_reducible assumption | (with_reducible apply And.intro) | intro _) <;> first | assumption | exact o2 (by assumption) | exact o3 (by assumption) | exact rfl | omega | exact Nat.le_of_ble_eq_true rfl | exact selF (by assumption) | exact selT (by assumption) | exact And.intro rfl rfl | exact And.intro (by assumption) rfl | exact And.intro (by omega) rfl | (simp only [inK] at *; omega) | (simp_all [sel] <;> fail) | fail) ?_
          refine rThen ?_
          refine zCond rfl rfl (fun hc => ?_) (fun hc => ?_)
          · replace hT := sT hc hT
            refine rSeq ?_
            refine zReg md0 hX rfl rfl rfl ?_
            refine rThen ?_
            refine rRet ?_
            refine rThenRet ?_
            have hy := Option.some.inj hT; subst hy
            exact zEnd0 hX rfl
          · replace hT := sF hc hT
            refine rSkip ?_
            refine rThen ?_
            refine rSeq ?_
            refine rSeq ?_
            refine zReg md0 hX rfl rfl rfl ?_
            refine rThen ?_
            refine rBlock ?_
            replace hT := sBind hT; obtain ⟨w1, hl, hT⟩ := hT
            refine rJoinA (fun v1 => (Sum.inl v1) = w1) (fun v1 => ⟨[(4, .v (.c (.bool false)))], [], 1⟩) .ret (fun v1 hv => ?_) (fun hxs10 => ?_)
            · subst hv; clear hl; replace hT := (sElimL hT)
              refine rInRet ?_
              refine rThenRet ?_
              have hy := Option.some.inj hT; subst hy
              exact zEnd0 hX rfl
            refine rJoinA (fun v2 => (Sum.inr v2) = w1) (fun v2 => ⟨[(4, .v (.c (.bool false)))], [], 1⟩) (.exit 0) (fun v2 hv => ?_) (fun hxs11 => ?_)
            · subst hv; clear hl; replace hT := (sElimR hT)
              refine rInHit ?_
              refine rThen ?_
              refine rSeq ?_
              refine zReg md0 hX rfl rfl rfl ?_
              refine rThen ?_
              refine rRet ?_
              have hy := Option.some.inj hT; subst hy
              exact zEnd0 hX rfl
            refine rLoopM (cellout_Right_b1 N a4 a7 a8) (fun s1 => ⟨[(3, .v (.c (.ptr 0 0 0 0 0 0))), (4, .v (.c (.bool false))), (66, .v (.c (.int .i64 s1)))], [(0, .mem true 41 none (.flat [.cs [.int .i64 a2, .bool a3, .int .i64 a4, .int .i64 a5], .ints 2 .i64 a6, .ints 6 .i64 a7, .fzs 6 (.pair .bool (.pair (.int .i64) (.int .i64))) a8]))], 1⟩) hl (To.mk' [] 0 hε rfl (by repeat' first | exact True.intro | exact rfl | apply And.intro) (by repeat' first | exact True.intro | exact rfl | apply And.intro)) (fun s1 zs1 NNs1 hz hnexts1 houts1 => ?_)
            clear hl hT
            have hT := hz; clear hz
            refine rSeq ?_
            refine zReg md0 hX rfl rfl rfl ?_
            refine rThen ?_
            refine rSeq ?_
            refine zCond rfl rfl (fun hc => ?_) (fun hc => ?_)
            · replace hT := sT hc hT
              refine rSkip ?_
              refine rThen ?_
              refine rSeq ?_
              refine rBlock ?_
              refine rSeq ?_
              refine zReg md0 hX rfl rfl rfl ?_
              refine rThen ?_
              refine rSeq ?_
              let c6 := (outbits_New N)
              let c7 := (cellout_intra N a4)
              let c8 := (blocks_Put N (c7.getD default) (a7.getD (s1).toNat 0) (a8.getD (s1).toNat []) (c6.getD default))
              replace hT := sIf hT; obtain ⟨⟨o1, o2, o3, o4, o5, o6⟩, hT⟩ := hT
              refine rDrawA md0 0 0 12 [] hX mixed rfl rfl rfl rfl rfl rfl rfl rfl rfl rfl rfl rfl rfl rfl rfl (by repeat' first | exact True.intro | exact rfl | apply And.intro) rfl rfl (by (repeat' first | exact True.intro | with_reducible assumption | (with_reducible apply And.intro) | intro _) <;> first | assumption | exact rfl | omega | exact Nat.le_of_ble_eq_true rfl | exact selF (by assumption) | exact selT (by assumption) | exact And.intro rfl rfl | exact And.intro (by assumption) rfl | exact And.intro (by omega) rfl | (simp only [inK] at *; omega) | (simp_all [sel] <;> fail) | fail) ?_
              refine rThen ?_
              refine zCond rfl rfl (fun hc => ?_) (fun hc => ?_)
              · replace hT := sT hc hT
                refine rSeq ?_
                refine zReg md0 hX rfl rfl rfl ?_
                refine rThen ?_
                refine rRet ?_
                refine rInRet ?_
                refine rThenRet ?_
                refine rThenRet ?_
                exact zTo [] 0 hε (hxs10 _ (houts1 _ (Option.some.inj hT).symm))
              · replace hT := sF hc hT
                refine rSkip ?_
                refine rInNormal ?_
                refine rThen ?_
                replace hT := sIf hT; obtain ⟨o1, hT⟩ := hT
                refine zReg md0 hX rfl rfl rfl ?_
                exact hnexts1 _ (Option.some.inj hT).symm _ (To.mk' [] 0 hε rfl (by repeat' first | exact True.intro | exact rfl | apply And.intro) (by repeat' first | exact True.intro | exact rfl | apply And.intro))
            · replace hT := sF hc hT
              refine rExit ?_
              refine rThenExit ?_
              refine rThenExit ?_
              exact zTo [] 0 hε (hxs11 _ (houts1 _ (Option.some.inj hT).symm))
  · cases h
def overspill_residue_cell_intra (N : Nat) (a1 : Int) (a2 : Bool) (a3 : Int) (a4 : Int) (a5 : (List Int)) (a6 : (List Int)) (a7 : (List (List (Bool × (Int × Int))))) (a8 : Int) : Option Bool :=
  some (bif (decide (a3 = 3)) then true else (decide (a3 = 4)))
def sp_overspill_residue_cell_intra (N : Nat) : X.Spec := fun args lk => match args with
  | [.v (.agg [.cs [.int .i64 a1, .bool a2, .int .i64 a3, .int .i64 a4], .ints 2 .i64 a5, .ints 6 .i64 a6, .fzs 6 (.pair .bool (.pair (.int .i64) (.int .i64))) a7, .cs [.int .i64 a8]])] => some ⟨(overspill_residue_cell_intra N a1 a2 a3 a4 a5 a6 a7 a8).isSome = true, .v (.c (.bool ((overspill_residue_cell_intra N a1 a2 a3 a4 a5 a6 a7 a8).getD default))), [], []⟩
  | _ => none
set_option maxRecDepth 100000 in
set_option maxHeartbeats 1000000 in
theorem ok_overspill_residue_cell_intra (N : Nat) : FnOK Tryd.prog gt0 41 (sp_overspill_residue_cell_intra N) := by
  refine fnOK_handed Tryd.func41 rfl (by kernel_rfl) tt_ok (ktNil) ?_
  intro args lk r h hp
  unfold sp_overspill_residue_cell_intra at h
  split at h
  · rename_i a1 a2 a3 a4 a5 a6 a7 a8
    change (List Int) at a5
    change (List Int) at a6
    change (List (List (Bool × (Int × Int)))) at a7
    cases h
    obtain ⟨x, hx⟩ := Option.isSome_iff_exists.1 hp
    simp only [hx, Option.getD_some]
    refine hand0 rfl rfl (fun w0 M ε0 hX => ?_)
    refine rCount (fun hε => ?_)
    have hT : overspill_residue_cell_intra N a1 a2 a3 a4 a5 a6 a7 a8 = some x := hx; clear hx hp; unfold overspill_residue_cell_intra at hT
    refine rSeq ?_
    refine zReg md0 hX rfl rfl rfl ?_
    refine rThen ?_
    refine rSeq ?_
    refine zReg md0 hX rfl rfl rfl ?_
    refine rThen ?_
    refine rRet ?_
    have hy := Option.some.inj hT; subst hy
    exact zEnd0 hX rfl
  · cases h
def scan_Raster_b1 (N : Nat) (a1 : (List Int)) (s1 : (Int × (List Int))) : Option ((Int × (List Int)) ⊕ (List Int)) :=
  bif (decide (s1.1 < 64)) then
    if (0 : Int) ≤ s1.1 ∧ s1.1 < 64 ∧ (s1.1).toNat < 64 ∧ (0 : Int) ≤ (placesL.getD (s1.1).toNat 0) ∧ (placesL.getD (s1.1).toNat 0) < 64 ∧ (placesL.getD (s1.1).toNat 0).toNat < 64 then
      if inK .i64 (s1.1 + 1) then
        some (.inl ((s1.1 + 1), (s1.2.set (placesL.getD (s1.1).toNat 0).toNat (a1.getD (s1.1).toNat 0))))
      else none
    else none
  else
    some (.inr s1.2)
def scan_Raster (N : Nat) (a1 : (List Int)) : Option (List Int) :=
  (iter (scan_Raster_b1 N a1) N (0, (List.replicate 64 0))).bind fun v1 =>
    some v1
def sp_scan_Raster (N : Nat) : X.Spec := fun args lk => match args with
  | [.v (.agg [.ints 64 .i64 a1])] => some ⟨(scan_Raster N a1).isSome = true, .v (.agg [.ints 64 .i64 ((scan_Raster N a1).getD default)]), [], []⟩
  | _ => none
set_option maxRecDepth 100000 in
set_option maxHeartbeats 1000000 in
theorem ok_scan_Raster (N : Nat) : FnOK Tryd.prog gt0 51 (sp_scan_Raster N) := by
  refine fnOK_handed Tryd.func51 rfl (by kernel_rfl) tt_ok (ktNil) ?_
  intro args lk r h hp
  unfold sp_scan_Raster at h
  split at h
  · rename_i a1
    change (List Int) at a1
    cases h
    obtain ⟨x, hx⟩ := Option.isSome_iff_exists.1 hp
    simp only [hx, Option.getD_some]
    refine hand0 rfl rfl (fun w0 M ε0 hX => ?_)
    refine rCount (fun hε => ?_)
    have hT : scan_Raster N a1 = some x := hx; clear hx hp; unfold scan_Raster at hT
    refine rSeq ?_
    refine zReg md0 hX rfl rfl rfl ?_
    refine rThen ?_
    refine rSeq ?_
    refine zReg md0 hX rfl rfl rfl ?_
    refine rThen ?_
    refine rSeq ?_
    refine rSeq ?_
    refine zReg md0 hX rfl rfl rfl ?_
    refine rThen ?_
    refine rBlock ?_
    replace hT := sBind hT; obtain ⟨w1, hl, hT⟩ := hT
    refine rJoinA (fun v1 => v1 = w1) (fun v1 => ⟨[(2, .v (.c (.ptr 1 0 0 0 0 0))), (3, .v (.c (.ptr 2 0 0 0 0 0)))], [(1, .mem true 22 none (.flat [.ints 64 .i64 (List.replicate 64 0)])), (2, .mem true 22 none (.flat [.ints 64 .i64 v1]))], 3⟩) (.exit 0) (fun v1 hv => ?_) (fun hxs10 => ?_)
    · subst hv; clear hl
      refine rInHit ?_
      refine rThen ?_
      refine rSeq ?_
      refine zReg md0 hX rfl rfl rfl ?_
      refine rThen ?_
      refine rRet ?_
      have hy := Option.some.inj hT; subst hy
      exact zEnd0 hX rfl
    refine rLoopM (scan_Raster_b1 N a1) (fun s1 => ⟨[(1, .v (.c (.ptr 0 0 0 0 0 0))), (2, .v (.c (.ptr 1 0 0 0 0 0))), (3, .v (.c (.ptr 2 0 0 0 0 0))), (5, .v (.c (.int .i64 s1.1)))], [(0, .mem true 22 none (.flat [.ints 64 .i64 a1])), (1, .mem true 22 none (.flat [.ints 64 .i64 (List.replicate 64 0)])), (2, .mem true 22 none (.flat [.ints 64 .i64 s1.2]))], 3⟩) hl (To.mk' [] 0 hε rfl (by repeat' first | exact True.intro | exact rfl | apply And.intro) (by repeat' first | exact True.intro | exact rfl | apply And.intro)) (fun s1 zs1 NNs1 hz hnexts1 houts1 => ?_)
    clear hl hT
    have hT := hz; clear hz
    refine rSeq ?_
    refine zReg md0 hX rfl rfl rfl ?_
    refine rThen ?_
    refine rSeq ?_
    refine zCond rfl rfl (fun hc => ?_) (fun hc => ?_)
    · replace hT := sT hc hT
      refine rSkip ?_
      refine rThen ?_
      refine rSeq ?_
      refine rBlock ?_
      refine rSeq ?_
      refine zReg md0 hX rfl rfl rfl ?_
      refine rThen ?_
      replace hT := sIf hT; obtain ⟨⟨o1, o2, o3, o4, o5, o6⟩, hT⟩ := hT
      refine zDraw md0 1 [7] hX mixed rfl rfl rfl rfl rfl ?_
      refine rInNormal ?_
      refine rThen ?_
      replace hT := sIf hT; obtain ⟨o1, hT⟩ := hT
      refine zReg md0 hX rfl rfl rfl ?_
      exact hnexts1 _ (Option.some.inj hT).symm _ (To.mk' [] 0 hε rfl (by repeat' first | exact True.intro | exact rfl | apply And.intro) (by repeat' first | exact True.intro | exact rfl | apply And.intro))
    · replace hT := sF hc hT
      refine rExit ?_
      refine rThenExit ?_
      refine rThenExit ?_
      exact zTo [] 0 hε (hxs10 _ (houts1 _ (Option.some.inj hT).symm))
  · cases h
def overspill_residue_cell_levels (N : Nat) (a1 : Int) (a2 : Bool) (a3 : Int) (a4 : Int) (a5 : (List Int)) (a6 : (List Int)) (a7 : (List (List (Bool × (Int × Int))))) (a8 : Int) (a9 : Int) : Option (List Int) :=
  let c1 := (overspill_residue_cell_intra N a1 a2 a3 a4 a5 a6 a7 a8)
  if c1.isSome = true then
    let c2 := (runs_Levels N (a7.getD (a9).toNat []) (bif (c1.getD default) then (1 : Int) else 0))
    if (0 : Int) ≤ a9 ∧ a9 < 6 ∧ (a9).toNat < 6 ∧ c2.isSome = true then
      let c3 := (scan_Raster N (c2.getD default).1)
      if c3.isSome = true then
        some (c3.getD default)
      else none
    else none
  else none
def sp_overspill_residue_cell_levels (N : Nat) : X.Spec := fun args lk => match args with
  | [.v (.agg [.cs [.int .i64 a1, .bool a2, .int .i64 a3, .int .i64 a4], .ints 2 .i64 a5, .ints 6 .i64 a6, .fzs 6 (.pair .bool (.pair (.int .i64) (.int .i64))) a7, .cs [.int .i64 a8]]), .v (.c (.int .i64 a9))] => some ⟨(overspill_residue_cell_levels N a1 a2 a3 a4 a5 a6 a7 a8 a9).isSome = true, .v (.agg [.ints 64 .i64 ((overspill_residue_cell_levels N a1 a2 a3 a4 a5 a6 a7 a8 a9).getD default)]), [], []⟩
  | _ => none
set_option maxRecDepth 100000 in
set_option maxHeartbeats 1000000 in
theorem ok_overspill_residue_cell_levels (N : Nat) : FnOK Tryd.prog gt0 40 (sp_overspill_residue_cell_levels N) := by
  refine fnOK_handed Tryd.func40 rfl (by kernel_rfl) tt_ok (ktCons (ok_scan_Raster N) (ktCons (ok_runs_Levels N) (ktCons (ok_overspill_residue_cell_intra N) (ktNil)))) ?_
  intro args lk r h hp
  unfold sp_overspill_residue_cell_levels at h
  split at h
  · rename_i a1 a2 a3 a4 a5 a6 a7 a8 a9
    change (List Int) at a5
    change (List Int) at a6
    change (List (List (Bool × (Int × Int)))) at a7
    cases h
    obtain ⟨x, hx⟩ := Option.isSome_iff_exists.1 hp
    simp only [hx, Option.getD_some]
    refine hand0 rfl rfl (fun w0 M ε0 hX => ?_)
    refine rCount (fun hε => ?_)
    have hT : overspill_residue_cell_levels N a1 a2 a3 a4 a5 a6 a7 a8 a9 = some x := hx; clear hx hp; unfold overspill_residue_cell_levels at hT
    refine rSeq ?_
    refine zReg md0 hX rfl rfl rfl ?_
    refine rThen ?_
    refine rSeq ?_
    refine zReg md0 hX rfl rfl rfl ?_
    refine rThen ?_
    refine rSeq ?_
    refine rSeq ?_
    let c1 := (overspill_residue_cell_intra N a1 a2 a3 a4 a5 a6 a7 a8)
    replace hT := sIf hT; obtain ⟨o1, hT⟩ := hT
    refine zReg md0 hX rfl rfl rfl ?_
    refine rThen ?_
    refine rJoin ⟨[(1, .v (.c (.int .i64 a9))), (2, .v (.c (.ptr 0 0 0 0 0 0))), (4, .v (.c (.ptr 1 0 0 0 0 0))), (5, .v (.c (.int .i64 (bif (c1.getD default) then (1 : Int) else 0))))], [(0, .mem true 47 none (.flat [.cs [.int .i64 a1, .bool a2, .int .i64 a3, .int .i64 a4], .ints 2 .i64 a5, .ints 6 .i64 a6, .fzs 6 (.pair .bool (.pair (.int .i64) (.int .i64))) a7, .cs [.int .i64 a8]])), (1, .mem true 22 none (.flat [.ints 64 .i64 (List.replicate 64 0)]))], 2⟩ ?_ (fun hj => ?_)
    · skip
      refine rThen ?_
      refine rSeq ?_
      let c2 := (runs_Levels N (a7.getD (a9).toNat []) (bif (c1.getD default) then (1 : Int) else 0))
      replace hT := sIf hT; obtain ⟨⟨o1, o2, o3, o4⟩, hT⟩ := hT
      refine zReg md0 hX rfl rfl rfl ?_
      refine rThen ?_
      refine rSeq ?_
      let c3 := (scan_Raster N (c2.getD default).1)
      replace hT := sIf hT; obtain ⟨o1, hT⟩ := hT
      refine zReg md0 hX rfl rfl rfl ?_
      refine rThen ?_
      refine rRet ?_
      have hy := Option.some.inj hT; subst hy
      exact zEnd0 hX rfl
    · clear hT
      refine zCond rfl rfl (fun hc => ?_) (fun hc => ?_)
      · skip
        refine zReg md0 hX rfl rfl rfl ?_
        exact rTo (To.mk' [] 0 hε rfl (by (repeat' first | exact True.intro | exact rfl | apply And.intro) <;> (repeat' first | exact rfl | refine Eq.trans ?_ (cTr (by assumption)) | refine Eq.trans ?_ (cFr (by assumption)) | refine Eq.trans (cTl (by assumption)) ?_ | refine Eq.trans (cFl (by assumption)) ?_)) (by (repeat' first | exact True.intro | exact rfl | apply And.intro) <;> (repeat' first | exact rfl | refine Eq.trans ?_ (cTr (by assumption)) | refine Eq.trans ?_ (cFr (by assumption)) | refine Eq.trans (cTl (by assumption)) ?_ | refine Eq.trans (cFl (by assumption)) ?_))) hj
      · skip
        refine rSkip ?_
        exact rTo (To.mk' [] 0 hε rfl (by (repeat' first | exact True.intro | exact rfl | apply And.intro) <;> (repeat' first | exact rfl | refine Eq.trans ?_ (cTr (by assumption)) | refine Eq.trans ?_ (cFr (by assumption)) | refine Eq.trans (cTl (by assumption)) ?_ | refine Eq.trans (cFl (by assumption)) ?_)) (by (repeat' first | exact True.intro | exact rfl | apply And.intro) <;> (repeat' first | exact rfl | refine Eq.trans ?_ (cTr (by assumption)) | refine Eq.trans ?_ (cFr (by assumption)) | refine Eq.trans (cTl (by assumption)) ?_ | refine Eq.trans (cFl (by assumption)) ?_))) hj
  · cases h
def scale_Value (N : Nat) (a1 : Int) (a2 : Int) : Option Int :=
  let c1 := (whole_Clip N a1 (-127) 127)
  if c1.isSome = true then
    let c2 := (whole_Clip N a2 1 31)
    if c2.isSome = true then
      bif (decide ((c1.getD default) = 0)) then
        some 0
      else
        if inK .i64 (-(c1.getD default)) ∧ inK .i64 ((2 : Int) * (max (c1.getD default) (-(c1.getD default)))) ∧ inK .i64 (((2 : Int) * (max (c1.getD default) (-(c1.getD default)))) + 1) ∧ inK .i64 ((c2.getD default) * (((2 : Int) * (max (c1.getD default) (-(c1.getD default)))) + 1)) then
          if (0 : Int) ≤ (c2.getD default) then
            if ((decide (((c2.getD default) % 2) = 0)) = true → inK .i64 (((c2.getD default) * (((2 : Int) * (max (c1.getD default) (-(c1.getD default)))) + 1)) - 1)) then
              let x1 := (bif (decide (((c2.getD default) % 2) = 0)) then (((c2.getD default) * (((2 : Int) * (max (c1.getD default) (-(c1.getD default)))) + 1)) - 1) else ((c2.getD default) * (((2 : Int) * (max (c1.getD default) (-(c1.getD default)))) + 1)))
              if ((decide ((c1.getD default) < 0)) = true → inK .i64 (-x1)) then
                let c3 := (whole_Clip N (bif (decide ((c1.getD default) < 0)) then (-x1) else x1) (-2048) 2047)
                if c3.isSome = true then
                  some (c3.getD default)
                else none
              else none
            else none
          else none
        else none
    else none
  else none
def sp_scale_Value (N : Nat) : X.Spec := fun args lk => match args with
  | [.v (.c (.int .i64 a1)), .v (.c (.int .i64 a2))] => some ⟨(scale_Value N a1 a2).isSome = true, .v (.c (.int .i64 ((scale_Value N a1 a2).getD default))), [], []⟩
  | _ => none
set_option maxRecDepth 100000 in
set_option maxHeartbeats 1000000 in
theorem ok_scale_Value (N : Nat) : FnOK Tryd.prog gt0 48 (sp_scale_Value N) := by
  refine fnOK_handed Tryd.func48 rfl (by kernel_rfl) tt_ok (ktCons (ok_whole_Clip N) (ktNil)) ?_
  intro args lk r h hp
  unfold sp_scale_Value at h
  split at h
  · rename_i a1 a2
    cases h
    obtain ⟨x, hx⟩ := Option.isSome_iff_exists.1 hp
    simp only [hx, Option.getD_some]
    refine hand0 rfl rfl (fun w0 M ε0 hX => ?_)
    refine rCount (fun hε => ?_)
    have hT : scale_Value N a1 a2 = some x := hx; clear hx hp; unfold scale_Value at hT
    refine rSeq ?_
    refine zReg md0 hX rfl rfl rfl ?_
    refine rThen ?_
    refine rSeq ?_
    let c1 := (whole_Clip N a1 (-127) 127)
    replace hT := sIf hT; obtain ⟨o1, hT⟩ := hT
    refine zReg md0 hX rfl rfl rfl ?_
    refine rThen ?_
    refine rSeq ?_
    let c2 := (whole_Clip N a2 1 31)
    replace hT := sIf hT; obtain ⟨o1, hT⟩ := hT
    refine zReg md0 hX rfl rfl rfl ?_
    refine rThen ?_
    refine rSeq ?_
    refine rSeq ?_
    refine zReg md0 hX rfl rfl rfl ?_
    refine rThen ?_
    refine zCond rfl rfl (fun hc => ?_) (fun hc => ?_)
    · replace hT := sT hc hT
      refine rSeq ?_
      refine zReg md0 hX rfl rfl rfl ?_
      refine rThen ?_
      refine rRet ?_
      refine rThenRet ?_
      have hy := Option.some.inj hT; subst hy
      exact zEnd0 hX rfl
    · replace hT := sF hc hT
      refine rSkip ?_
      refine rThen ?_
      refine rSeq ?_
      replace hT := sIf hT; obtain ⟨⟨o1, o2, o3, o4⟩, hT⟩ := hT
      refine zReg md0 hX rfl rfl rfl ?_
      refine rThen ?_
      refine rSeq ?_
      refine rSeq ?_
      replace hT := sIf hT; obtain ⟨o1, hT⟩ := hT
      refine zReg md0 hX rfl rfl rfl ?_
      refine rThen ?_
      replace hT := sIf hT; obtain ⟨q2, hT⟩ := hT
      refine rJoin ⟨[(0, .v (.c (.int .i64 (c1.getD default)))), (4, .v (.c (.int .i64 0))), (5, .v (.c (.int .i64 (bif (decide (((c2.getD default) % 2) = 0)) then (((c2.getD default) * (((2 : Int) * (max (c1.getD default) (-(c1.getD default)))) + 1)) - 1) else ((c2.getD default) * (((2 : Int) * (max (c1.getD default) (-(c1.getD default)))) + 1))))))], [], 0⟩ ?_ (fun hj => ?_)
      · skip
        let x1 := (bif (decide (((c2.getD default) % 2) = 0)) then (((c2.getD default) * (((2 : Int) * (max (c1.getD default) (-(c1.getD default)))) + 1)) - 1) else ((c2.getD default) * (((2 : Int) * (max (c1.getD default) (-(c1.getD default)))) + 1)))
        refine rThen ?_
        refine rSeq ?_
        refine rSeq ?_
        refine zReg md0 hX rfl rfl rfl ?_
        refine rThen ?_
        replace hT := sIf hT; obtain ⟨q1, hT⟩ := hT
        refine rJoin ⟨[(4, .v (.c (.int .i64 0))), (5, .v (.c (.int .i64 (bif (decide ((c1.getD default) < 0)) then (-x1) else x1))))], [], 0⟩ ?_ (fun hj => ?_)
        · skip
          refine rThen ?_
          refine rSeq ?_
          let c3 := (whole_Clip N (bif (decide ((c1.getD default) < 0)) then (-x1) else x1) (-2048) 2047)
          replace hT := sIf hT; obtain ⟨o1, hT⟩ := hT
          refine zReg md0 hX rfl rfl rfl ?_
          refine rThen ?_
          refine rRet ?_
          have hy := Option.some.inj hT; subst hy
          exact zEnd0 hX rfl
        · clear hT
          refine zCond rfl rfl (fun hc => ?_) (fun hc => ?_)
          · skip
            have q1 := q1 hc
            refine zReg md0 hX rfl rfl rfl ?_
            exact rTo (To.mk' [] 0 hε rfl (by (repeat' first | exact True.intro | exact rfl | apply And.intro) <;> (repeat' first | exact rfl | refine Eq.trans ?_ (cTr (by assumption)) | refine Eq.trans ?_ (cFr (by assumption)) | refine Eq.trans (cTl (by assumption)) ?_ | refine Eq.trans (cFl (by assumption)) ?_)) (by (repeat' first | exact True.intro | exact rfl | apply And.intro) <;> (repeat' first | exact rfl | refine Eq.trans ?_ (cTr (by assumption)) | refine Eq.trans ?_ (cFr (by assumption)) | refine Eq.trans (cTl (by assumption)) ?_ | refine Eq.trans (cFl (by assumption)) ?_))) hj
          · skip
            refine rSkip ?_
            exact rTo (To.mk' [] 0 hε rfl (by (repeat' first | exact True.intro | exact rfl | apply And.intro) <;> (repeat' first | exact rfl | refine Eq.trans ?_ (cTr (by assumption)) | refine Eq.trans ?_ (cFr (by assumption)) | refine Eq.trans (cTl (by assumption)) ?_ | refine Eq.trans (cFl (by assumption)) ?_)) (by (repeat' first | exact True.intro | exact rfl | apply And.intro) <;> (repeat' first | exact rfl | refine Eq.trans ?_ (cTr (by assumption)) | refine Eq.trans ?_ (cFr (by assumption)) | refine Eq.trans (cTl (by assumption)) ?_ | refine Eq.trans (cFl (by assumption)) ?_))) hj
      · clear hT
        refine zCond rfl rfl (fun hc => ?_) (fun hc => ?_)
        · skip
          have q2 := q2 hc
          refine zReg md0 hX rfl rfl rfl ?_
          exact rTo (To.mk' [] 0 hε rfl (by (repeat' first | exact True.intro | exact rfl | apply And.intro) <;> (repeat' first | exact rfl | refine Eq.trans ?_ (cTr (by assumption)) | refine Eq.trans ?_ (cFr (by assumption)) | refine Eq.trans (cTl (by assumption)) ?_ | refine Eq.trans (cFl (by assumption)) ?_)) (by (repeat' first | exact True.intro | exact rfl | apply And.intro) <;> (repeat' first | exact rfl | refine Eq.trans ?_ (cTr (by assumption)) | refine Eq.trans ?_ (cFr (by assumption)) | refine Eq.trans (cTl (by assumption)) ?_ | refine Eq.trans (cFl (by assumption)) ?_))) hj
        · skip
          refine rSkip ?_
          exact rTo (To.mk' [] 0 hε rfl (by (repeat' first | exact True.intro | exact rfl | apply And.intro) <;> (repeat' first | exact rfl | refine Eq.trans ?_ (cTr (by assumption)) | refine Eq.trans ?_ (cFr (by assumption)) | refine Eq.trans (cTl (by assumption)) ?_ | refine Eq.trans (cFl (by assumption)) ?_)) (by (repeat' first | exact True.intro | exact rfl | apply And.intro) <;> (repeat' first | exact rfl | refine Eq.trans ?_ (cTr (by assumption)) | refine Eq.trans ?_ (cFr (by assumption)) | refine Eq.trans (cTl (by assumption)) ?_ | refine Eq.trans (cFl (by assumption)) ?_))) hj
  · cases h
def scale_Dc (N : Nat) (a1 : Int) : Option Int :=
  let c1 := (whole_Clip N a1 1 254)
  if c1.isSome = true ∧ inK .i64 ((8 : Int) * (c1.getD default)) then
    some ((8 : Int) * (c1.getD default))
  else none
def sp_scale_Dc (N : Nat) : X.Spec := fun args lk => match args with
  | [.v (.c (.int .i64 a1))] => some ⟨(scale_Dc N a1).isSome = true, .v (.c (.int .i64 ((scale_Dc N a1).getD default))), [], []⟩
  | _ => none
set_option maxRecDepth 100000 in
set_option maxHeartbeats 1000000 in
theorem ok_scale_Dc (N : Nat) : FnOK Tryd.prog gt0 49 (sp_scale_Dc N) := by
  refine fnOK_handed Tryd.func49 rfl (by kernel_rfl) tt_ok (ktCons (ok_whole_Clip N) (ktNil)) ?_
  intro args lk r h hp
  unfold sp_scale_Dc at h
  split at h
  · rename_i a1
    cases h
    obtain ⟨x, hx⟩ := Option.isSome_iff_exists.1 hp
    simp only [hx, Option.getD_some]
    refine hand0 rfl rfl (fun w0 M ε0 hX => ?_)
    refine rCount (fun hε => ?_)
    have hT : scale_Dc N a1 = some x := hx; clear hx hp; unfold scale_Dc at hT
    refine rSeq ?_
    refine zReg md0 hX rfl rfl rfl ?_
    refine rThen ?_
    refine rSeq ?_
    let c1 := (whole_Clip N a1 1 254)
    replace hT := sIf hT; obtain ⟨⟨o1, o2⟩, hT⟩ := hT
    refine zReg md0 hX rfl rfl rfl ?_
    refine rThen ?_
    refine rRet ?_
    have hy := Option.some.inj hT; subst hy
    exact zEnd0 hX rfl
  · cases h
def scale_Block_b1 (N : Nat) (a1 : (List Int)) (a2 : Int) (s1 : (Int × (List Int))) : Option ((Int × (List Int)) ⊕ (List Int)) :=
  bif (decide (s1.1 < 64)) then
    if (0 : Int) ≤ s1.1 ∧ s1.1 < 64 ∧ (s1.1).toNat < 64 then
      let c2 := (scale_Value N (a1.getD (s1.1).toNat 0) a2)
      if c2.isSome = true ∧ (0 : Int) ≤ s1.1 ∧ s1.1 < 64 ∧ (s1.1).toNat < 64 then
        if inK .i64 (s1.1 + 1) then
          some (.inl ((s1.1 + 1), (s1.2.set (s1.1).toNat (c2.getD default))))
        else none
      else none
    else none
  else
    some (.inr s1.2)
def scale_Block (N : Nat) (a1 : (List Int)) (a2 : Int) (a3 : Bool) (a4 : Int) : Option (List Int) :=
  (iter (scale_Block_b1 N a1 a2) N (0, (List.replicate 64 0))).bind fun v1 =>
    let c1 := (scale_Dc N a4)
    if (a3 = true → c1.isSome = true) then
      some (bif a3 then (v1.set 0 (c1.getD default)) else v1)
    else none
def sp_scale_Block (N : Nat) : X.Spec := fun args lk => match args with
  | [.v (.agg [.ints 64 .i64 a1]), .v (.c (.int .i64 a2)), .v (.c (.bool a3)), .v (.c (.int .i64 a4))] => some ⟨(scale_Block N a1 a2 a3 a4).isSome = true, .v (.agg [.ints 64 .i64 ((scale_Block N a1 a2 a3 a4).getD default)]), [], []⟩
  | _ => none
set_option maxRecDepth 100000 in
set_option maxHeartbeats 1000000 in
theorem ok_scale_Block (N : Nat) : FnOK Tryd.prog gt0 39 (sp_scale_Block N) := by
  refine fnOK_handed Tryd.func39 rfl (by kernel_rfl) tt_ok (ktCons (ok_scale_Value N) (ktCons (ok_scale_Dc N) (ktNil))) ?_
  intro args lk r h hp
  unfold sp_scale_Block at h
  split at h
  · rename_i a1 a2 a3 a4
    change (List Int) at a1
    cases h
    obtain ⟨x, hx⟩ := Option.isSome_iff_exists.1 hp
    simp only [hx, Option.getD_some]
    refine hand0 rfl rfl (fun w0 M ε0 hX => ?_)
    refine rCount (fun hε => ?_)
    have hT : scale_Block N a1 a2 a3 a4 = some x := hx; clear hx hp; unfold scale_Block at hT
    refine rSeq ?_
    refine zReg md0 hX rfl rfl rfl ?_
    refine rThen ?_
    refine rSeq ?_
    refine zReg md0 hX rfl rfl rfl ?_
    refine rThen ?_
    refine rSeq ?_
    refine rSeq ?_
    refine zReg md0 hX rfl rfl rfl ?_
    refine rThen ?_
    refine rBlock ?_
    replace hT := sBind hT; obtain ⟨w1, hl, hT⟩ := hT
    refine rJoinA (fun v1 => v1 = w1) (fun v1 => ⟨[(2, .v (.c (.bool a3))), (3, .v (.c (.int .i64 a4))), (8, .v (.c (.ptr 1 0 0 0 0 0))), (9, .v (.c (.ptr 2 0 0 0 0 0)))], [(1, .mem true 22 none (.flat [.ints 64 .i64 (List.replicate 64 0)])), (2, .mem true 22 none (.flat [.ints 64 .i64 v1]))], 3⟩) (.exit 0) (fun v1 hv => ?_) (fun hxs10 => ?_)
    · subst hv; clear hl
      refine rInHit ?_
      refine rThen ?_
      refine rSeq ?_
      refine rSeq ?_
      refine zReg md0 hX rfl rfl rfl ?_
      refine rThen ?_
      let c1 := (scale_Dc N a4)
      replace hT := sIf hT; obtain ⟨q1, hT⟩ := hT
      refine rJoin ⟨[(8, .v (.c (.ptr 1 0 0 0 0 0))), (9, .v (.c (.ptr 2 0 0 0 0 0)))], [(1, .mem true 22 none (.flat [.ints 64 .i64 (List.replicate 64 0)])), (2, .mem true 22 none (.flat [.ints 64 .i64 (bif a3 then (v1.set 0 (c1.getD default)) else v1)]))], 3⟩ ?_ (fun hj => ?_)
      · skip
        refine rThen ?_
        refine rSeq ?_
        refine zReg md0 hX rfl rfl rfl ?_
        refine rThen ?_
        refine rRet ?_
        have hy := Option.some.inj hT; subst hy
        exact zEnd0 hX rfl
      · clear hT
        refine zCond rfl rfl (fun hc => ?_) (fun hc => ?_)
        · skip
          have q1 := q1 hc
          refine zReg md0 hX rfl rfl rfl ?_
          exact rTo (To.mk' [] 0 hε rfl (by (repeat' first | exact True.intro | exact rfl | apply And.intro) <;> (repeat' first | exact rfl | refine Eq.trans ?_ (cTr (by assumption)) | refine Eq.trans ?_ (cFr (by assumption)) | refine Eq.trans (cTl (by assumption)) ?_ | refine Eq.trans (cFl (by assumption)) ?_)) (by (repeat' first | exact True.intro | exact rfl | apply And.intro) <;> (repeat' first | exact rfl | refine Eq.trans ?_ (cTr (by assumption)) | refine Eq.trans ?_ (cFr (by assumption)) | refine Eq.trans (cTl (by assumption)) ?_ | refine Eq.trans (cFl (by assumption)) ?_))) hj
        · skip
          refine rSkip ?_
          exact rTo (To.mk' [] 0 hε rfl (by (repeat' first | exact True.intro | exact rfl | apply And.intro) <;> (repeat' first | exact rfl | refine Eq.trans ?_ (cTr (by assumption)) | refine Eq.trans ?_ (cFr (by assumption)) | refine Eq.trans (cTl (by assumption)) ?_ | refine Eq.trans (cFl (by assumption)) ?_)) (by (repeat' first | exact True.intro | exact rfl | apply And.intro) <;> (repeat' first | exact rfl | refine Eq.trans ?_ (cTr (by assumption)) | refine Eq.trans ?_ (cFr (by assumption)) | refine Eq.trans (cTl (by assumption)) ?_ | refine Eq.trans (cFl (by assumption)) ?_))) hj
    refine rLoopM (scale_Block_b1 N a1 a2) (fun s1 => ⟨[(1, .v (.c (.int .i64 a2))), (2, .v (.c (.bool a3))), (3, .v (.c (.int .i64 a4))), (8, .v (.c (.ptr 1 0 0 0 0 0))), (9, .v (.c (.ptr 2 0 0 0 0 0))), (12, .v (.agg [.ints 64 .i64 a1])), (13, .v (.c (.int .i64 s1.1)))], [(1, .mem true 22 none (.flat [.ints 64 .i64 (List.replicate 64 0)])), (2, .mem true 22 none (.flat [.ints 64 .i64 s1.2]))], 3⟩) hl (To.mk' [] 0 hε rfl (by repeat' first | exact True.intro | exact rfl | apply And.intro) (by repeat' first | exact True.intro | exact rfl | apply And.intro)) (fun s1 zs1 NNs1 hz hnexts1 houts1 => ?_)
    clear hl hT
    have hT := hz; clear hz
    refine rSeq ?_
    refine zReg md0 hX rfl rfl rfl ?_
    refine rThen ?_
    refine rSeq ?_
    refine zCond rfl rfl (fun hc => ?_) (fun hc => ?_)
    · replace hT := sT hc hT
      refine rSkip ?_
      refine rThen ?_
      refine rSeq ?_
      refine rBlock ?_
      refine rSeq ?_
      replace hT := sIf hT; obtain ⟨⟨o1, o2, o3⟩, hT⟩ := hT
      refine zReg md0 hX rfl rfl rfl ?_
      refine rThen ?_
      let c2 := (scale_Value N (a1.getD (s1.1).toNat 0) a2)
      replace hT := sIf hT; obtain ⟨⟨o1, o2, o3, o4⟩, hT⟩ := hT
      refine zReg md0 hX rfl rfl rfl ?_
      refine rInNormal ?_
      refine rThen ?_
      replace hT := sIf hT; obtain ⟨o1, hT⟩ := hT
      refine zReg md0 hX rfl rfl rfl ?_
      exact hnexts1 _ (Option.some.inj hT).symm _ (To.mk' [] 0 hε rfl (by repeat' first | exact True.intro | exact rfl | apply And.intro) (by repeat' first | exact True.intro | exact rfl | apply And.intro))
    · replace hT := sF hc hT
      refine rExit ?_
      refine rThenExit ?_
      refine rThenExit ?_
      exact zTo [] 0 hε (hxs10 _ (houts1 _ (Option.some.inj hT).symm))
  · cases h
def overspill_residue_cell_values (N : Nat) (a1 : Int) (a2 : Bool) (a3 : Int) (a4 : Int) (a5 : (List Int)) (a6 : (List Int)) (a7 : (List (List (Bool × (Int × Int))))) (a8 : Int) (a9 : Int) : Option (List Int) :=
  let c1 := (overspill_residue_cell_levels N a1 a2 a3 a4 a5 a6 a7 a8 a9)
  let c2 := (overspill_residue_cell_intra N a1 a2 a3 a4 a5 a6 a7 a8)
  let c3 := (scale_Block N (c1.getD default) a8 (c2.getD default) (a6.getD (a9).toNat 0))
  if c1.isSome = true ∧ c2.isSome = true ∧ (0 : Int) ≤ a9 ∧ a9 < 6 ∧ (a9).toNat < 6 ∧ c3.isSome = true then
    some (c3.getD default)
  else none
def sp_overspill_residue_cell_values (N : Nat) : X.Spec := fun args lk => match args with
  | [.v (.agg [.cs [.int .i64 a1, .bool a2, .int .i64 a3, .int .i64 a4], .ints 2 .i64 a5, .ints 6 .i64 a6, .fzs 6 (.pair .bool (.pair (.int .i64) (.int .i64))) a7, .cs [.int .i64 a8]]), .v (.c (.int .i64 a9))] => some ⟨(overspill_residue_cell_values N a1 a2 a3 a4 a5 a6 a7 a8 a9).isSome = true, .v (.agg [.ints 64 .i64 ((overspill_residue_cell_values N a1 a2 a3 a4 a5 a6 a7 a8 a9).getD default)]), [], []⟩
  | _ => none
set_option maxRecDepth 100000 in
set_option maxHeartbeats 1000000 in
theorem ok_overspill_residue_cell_values (N : Nat) : FnOK Tryd.prog gt0 23 (sp_overspill_residue_cell_values N) := by
  refine fnOK_handed Tryd.func23 rfl (by kernel_rfl) tt_ok (ktCons (ok_scale_Block N) (ktCons (ok_overspill_residue_cell_intra N) (ktCons (ok_overspill_residue_cell_levels N) (ktNil)))) ?_
  intro args lk r h hp
  unfold sp_overspill_residue_cell_values at h
  split at h
  · rename_i a1 a2 a3 a4 a5 a6 a7 a8 a9
    change (List Int) at a5
    change (List Int) at a6
    change (List (List (Bool × (Int × Int)))) at a7
    cases h
    obtain ⟨x, hx⟩ := Option.isSome_iff_exists.1 hp
    simp only [hx, Option.getD_some]
    refine hand0 rfl rfl (fun w0 M ε0 hX => ?_)
    refine rCount (fun hε => ?_)
    have hT : overspill_residue_cell_values N a1 a2 a3 a4 a5 a6 a7 a8 a9 = some x := hx; clear hx hp; unfold overspill_residue_cell_values at hT
    refine rSeq ?_
    refine zReg md0 hX rfl rfl rfl ?_
    refine rThen ?_
    refine rSeq ?_
    let c1 := (overspill_residue_cell_levels N a1 a2 a3 a4 a5 a6 a7 a8 a9)
    let c2 := (overspill_residue_cell_intra N a1 a2 a3 a4 a5 a6 a7 a8)
    let c3 := (scale_Block N (c1.getD default) a8 (c2.getD default) (a6.getD (a9).toNat 0))
    replace hT := sIf hT; obtain ⟨⟨o1, o2, o3, o4, o5, o6⟩, hT⟩ := hT
    refine zDraw md0 1 [13] hX mixed rfl rfl rfl rfl rfl ?_
    refine rThen ?_
    refine rRet ?_
    have hy := Option.some.inj hT; subst hy
    exact zEnd0 hX rfl
  · cases h
def dct_within_b1 (N : Nat) (a1 : (List Int)) (s1 : (Int × (List Int))) : Option ((Int × (List Int)) ⊕ (List Int)) :=
  bif (decide (s1.1 < 64)) then
    if (0 : Int) ≤ s1.1 ∧ s1.1 < 64 ∧ (s1.1).toNat < 64 then
      let c1 := (whole_Clip N (a1.getD (s1.1).toNat 0) (-2048) 2047)
      if c1.isSome = true ∧ (0 : Int) ≤ s1.1 ∧ s1.1 < 64 ∧ (s1.1).toNat < 64 then
        if inK .i64 (s1.1 + 1) then
          some (.inl ((s1.1 + 1), (s1.2.set (s1.1).toNat (c1.getD default))))
        else none
      else none
    else none
  else
    some (.inr s1.2)
def dct_within (N : Nat) (a1 : (List Int)) : Option (List Int) :=
  (iter (dct_within_b1 N a1) N (0, (List.replicate 64 0))).bind fun v1 =>
    some v1
def sp_dct_within (N : Nat) : X.Spec := fun args lk => match args with
  | [.v (.agg [.ints 64 .i64 a1])] => some ⟨(dct_within N a1).isSome = true, .v (.agg [.ints 64 .i64 ((dct_within N a1).getD default)]), [], []⟩
  | _ => none
set_option maxRecDepth 100000 in
set_option maxHeartbeats 1000000 in
theorem ok_dct_within (N : Nat) : FnOK Tryd.prog gt0 35 (sp_dct_within N) := by
  refine fnOK_handed Tryd.func35 rfl (by kernel_rfl) tt_ok (ktCons (ok_whole_Clip N) (ktNil)) ?_
  intro args lk r h hp
  unfold sp_dct_within at h
  split at h
  · rename_i a1
    change (List Int) at a1
    cases h
    obtain ⟨x, hx⟩ := Option.isSome_iff_exists.1 hp
    simp only [hx, Option.getD_some]
    refine hand0 rfl rfl (fun w0 M ε0 hX => ?_)
    refine rCount (fun hε => ?_)
    have hT : dct_within N a1 = some x := hx; clear hx hp; unfold dct_within at hT
    refine rSeq ?_
    refine zReg md0 hX rfl rfl rfl ?_
    refine rThen ?_
    refine rSeq ?_
    refine zReg md0 hX rfl rfl rfl ?_
    refine rThen ?_
    refine rSeq ?_
    refine rSeq ?_
    refine zReg md0 hX rfl rfl rfl ?_
    refine rThen ?_
    refine rBlock ?_
    replace hT := sBind hT; obtain ⟨w1, hl, hT⟩ := hT
    refine rJoinA (fun v1 => v1 = w1) (fun v1 => ⟨[(2, .v (.c (.ptr 1 0 0 0 0 0))), (3, .v (.c (.ptr 2 0 0 0 0 0)))], [(1, .mem true 69 none (.flat [.ints 64 .i64 (List.replicate 64 0)])), (2, .mem true 69 none (.flat [.ints 64 .i64 v1]))], 3⟩) (.exit 0) (fun v1 hv => ?_) (fun hxs10 => ?_)
    · subst hv; clear hl
      refine rInHit ?_
      refine rThen ?_
      refine rSeq ?_
      refine zReg md0 hX rfl rfl rfl ?_
      refine rThen ?_
      refine rRet ?_
      have hy := Option.some.inj hT; subst hy
      exact zEnd0 hX rfl
    refine rLoopM (dct_within_b1 N a1) (fun s1 => ⟨[(2, .v (.c (.ptr 1 0 0 0 0 0))), (3, .v (.c (.ptr 2 0 0 0 0 0))), (6, .v (.agg [.ints 64 .i64 a1])), (7, .v (.c (.int .i64 s1.1)))], [(1, .mem true 69 none (.flat [.ints 64 .i64 (List.replicate 64 0)])), (2, .mem true 69 none (.flat [.ints 64 .i64 s1.2]))], 3⟩) hl (To.mk' [] 0 hε rfl (by repeat' first | exact True.intro | exact rfl | apply And.intro) (by repeat' first | exact True.intro | exact rfl | apply And.intro)) (fun s1 zs1 NNs1 hz hnexts1 houts1 => ?_)
    clear hl hT
    have hT := hz; clear hz
    refine rSeq ?_
    refine zReg md0 hX rfl rfl rfl ?_
    refine rThen ?_
    refine rSeq ?_
    refine zCond rfl rfl (fun hc => ?_) (fun hc => ?_)
    · replace hT := sT hc hT
      refine rSkip ?_
      refine rThen ?_
      refine rSeq ?_
      refine rBlock ?_
      refine rSeq ?_
      replace hT := sIf hT; obtain ⟨⟨o1, o2, o3⟩, hT⟩ := hT
      refine zReg md0 hX rfl rfl rfl ?_
      refine rThen ?_
      let c1 := (whole_Clip N (a1.getD (s1.1).toNat 0) (-2048) 2047)
      replace hT := sIf hT; obtain ⟨⟨o1, o2, o3, o4⟩, hT⟩ := hT
      refine zReg md0 hX rfl rfl rfl ?_
      refine rInNormal ?_
      refine rThen ?_
      replace hT := sIf hT; obtain ⟨o1, hT⟩ := hT
      refine zReg md0 hX rfl rfl rfl ?_
      exact hnexts1 _ (Option.some.inj hT).symm _ (To.mk' [] 0 hε rfl (by repeat' first | exact True.intro | exact rfl | apply And.intro) (by repeat' first | exact True.intro | exact rfl | apply And.intro))
    · replace hT := sF hc hT
      refine rExit ?_
      refine rThenExit ?_
      refine rThenExit ?_
      exact zTo [] 0 hε (hxs10 _ (houts1 _ (Option.some.inj hT).symm))
  · cases h
def overspill_dct_square_back_b1 (N : Nat) (a1 : Int) (a2 : Int) (a3 : (List Int)) (s1 : (Int × Int)) : Option ((Int × Int) ⊕ Int) :=
  bif (decide (s1.2 < 8)) then
    let x1 := (s1.1 + ((weightsL.getD ((s1.2).toNat * 8 + (a2).toNat) 0) * (a3.getD (((8 : Int) * a1) + s1.2).toNat 0)))
    if (0 : Int) ≤ s1.2 ∧ s1.2 < 8 ∧ (0 : Int) ≤ a2 ∧ a2 < 8 ∧ ((s1.2).toNat * 8 + (a2).toNat) < 64 ∧ inK .i64 ((8 : Int) * a1) ∧ inK .i64 (((8 : Int) * a1) + s1.2) ∧ (0 : Int) ≤ (((8 : Int) * a1) + s1.2) ∧ (((8 : Int) * a1) + s1.2) < 64 ∧ (((8 : Int) * a1) + s1.2).toNat < 64 ∧ inK .i64 ((weightsL.getD ((s1.2).toNat * 8 + (a2).toNat) 0) * (a3.getD (((8 : Int) * a1) + s1.2).toNat 0)) ∧ inK .i64 (s1.1 + ((weightsL.getD ((s1.2).toNat * 8 + (a2).toNat) 0) * (a3.getD (((8 : Int) * a1) + s1.2).toNat 0))) then
      if inK .i64 (s1.2 + 1) then
        some (.inl (x1, (s1.2 + 1)))
      else none
    else none
  else
    some (.inr s1.1)
def overspill_dct_square_back (N : Nat) (a1 : Int) (a2 : Int) (a3 : (List Int)) : Option Int :=
  (iter (overspill_dct_square_back_b1 N a1 a2 a3) N (0, 0)).bind fun v1 =>
    some v1
def sp_overspill_dct_square_back (N : Nat) : X.Spec := fun args lk => match args with
  | [.v (.c (.ptr i0 0 0 0 0 0)), .v (.c (.int .i64 a1)), .v (.c (.int .i64 a2))] => (match lk i0 with
    | some (.mem _ _ _ (.flat [.ints 64 .i64 a3])) => some ⟨(overspill_dct_square_back N a1 a2 a3).isSome = true, .v (.c (.int .i64 ((overspill_dct_square_back N a1 a2 a3).getD default))), [], []⟩
    | _ => none)
  | _ => none
set_option maxRecDepth 100000 in
set_option maxHeartbeats 1000000 in
theorem ok_overspill_dct_square_back (N : Nat) : FnOK Tryd.prog gt0 37 (sp_overspill_dct_square_back N) := by
  refine fnOK_handed Tryd.func37 rfl (by kernel_rfl) tt_ok (ktNil) ?_
  intro args lk r h hp
  unfold sp_overspill_dct_square_back at h
  split at h
  · rename_i i0 a1 a2
    split at h
    · rename_i _ _ _ a3 hl0
      change (List Int) at a3
      cases h
      obtain ⟨x, hx⟩ := Option.isSome_iff_exists.1 hp
      simp only [hx, Option.getD_some]
      refine handL [i0] 1 [(0, .mem false 69 none (.flat [.ints 64 .i64 a3]))] [.v (.c (.ptr 0 0 0 0 0 0)), .v (.c (.int .i64 a1)), .v (.c (.int .i64 a2))] rfl rfl rfl ⟨isSome_of hl0, trivial⟩ ⟨⟨rfl, (by repeat' first | exact True.intro | exact rfl | exact ⟨_, rfl, rfl⟩ | apply And.intro | exact Or.inl rfl), _, hl0, sub_ro⟩, trivial⟩ rfl (fun w0 M ε0 hX => ?_)
      refine rCount (fun hε => ?_)
      have hT : overspill_dct_square_back N a1 a2 a3 = some x := hx; clear hx hp; unfold overspill_dct_square_back at hT
      refine rSeq ?_
      refine zReg md0 hX rfl rfl rfl ?_
      refine rThen ?_
      refine rSeq ?_
      refine zReg md0 hX rfl rfl rfl ?_
      refine rThen ?_
      refine rSeq ?_
      refine rSeq ?_
      refine zReg md0 hX rfl rfl rfl ?_
      refine rThen ?_
      refine rBlock ?_
      replace hT := sBind hT; obtain ⟨w1, hl, hT⟩ := hT
      refine rJoinA (fun v1 => v1 = w1) (fun v1 => ⟨[(6, .v (.c (.int .i64 0))), (7, .v (.c (.int .i64 v1)))], [(0, .mem false 69 none (.flat [.ints 64 .i64 a3]))], 1⟩) (.exit 0) (fun v1 hv => ?_) (fun hxs10 => ?_)
      · subst hv; clear hl
        refine rInHit ?_
        refine rThen ?_
        refine rSeq ?_
        refine zReg md0 hX rfl rfl rfl ?_
        refine rThen ?_
        refine rRet ?_
        have hy := Option.some.inj hT; subst hy
        exact zEnd0 hX rfl
      refine rLoopM (overspill_dct_square_back_b1 N a1 a2 a3) (fun s1 => ⟨[(0, .v (.c (.ptr 0 0 0 0 0 0))), (1, .v (.c (.int .i64 a1))), (2, .v (.c (.int .i64 a2))), (6, .v (.c (.int .i64 0))), (7, .v (.c (.int .i64 s1.1))), (9, .v (.c (.int .i64 s1.2)))], [(0, .mem false 69 none (.flat [.ints 64 .i64 a3]))], 1⟩) hl (To.mk' [] 1 hε rfl (by repeat' first | exact True.intro | exact rfl | apply And.intro) (by repeat' first | exact True.intro | exact rfl | apply And.intro)) (fun s1 zs1 NNs1 hz hnexts1 houts1 => ?_)
      clear hl hT
      have hT := hz; clear hz
      refine rSeq ?_
      refine zReg md0 hX rfl rfl rfl ?_
      refine rThen ?_
      refine rSeq ?_
      refine zCond rfl rfl (fun hc => ?_) (fun hc => ?_)
      · replace hT := sT hc hT
        refine rSkip ?_
        refine rThen ?_
        refine rSeq ?_
        refine rBlock ?_
        refine rSeq ?_
        refine zReg md0 hX rfl rfl rfl ?_
        refine rThen ?_
        let x1 := (s1.1 + ((weightsL.getD ((s1.2).toNat * 8 + (a2).toNat) 0) * (a3.getD (((8 : Int) * a1) + s1.2).toNat 0)))
        replace hT := sIf hT; obtain ⟨⟨o1, o2, o3, o4, o5, o6, o7, o8, o9, o10, o11, o12⟩, hT⟩ := hT
        refine zDraw md0 1 [16] hX mixed rfl rfl rfl rfl rfl ?_
        refine rInNormal ?_
        refine rThen ?_
        replace hT := sIf hT; obtain ⟨o1, hT⟩ := hT
        refine zReg md0 hX rfl rfl rfl ?_
        exact hnexts1 _ (Option.some.inj hT).symm _ (To.mk' [] 1 hε rfl (by repeat' first | exact True.intro | exact rfl | apply And.intro) (by repeat' first | exact True.intro | exact rfl | apply And.intro))
      · replace hT := sF hc hT
        refine rExit ?_
        refine rThenExit ?_
        refine rThenExit ?_
        exact zTo [] 1 hε (hxs10 _ (houts1 _ (Option.some.inj hT).symm))
    · cases h
  · cases h
def dct_pass_back_b2 (N : Nat) (a1 : (List Int)) (s1 : (Int × (List Int))) (s2 : (Int × (List Int))) : Option ((Int × (List Int)) ⊕ (Int × Bool × (List Int))) :=
  bif (decide (s2.1 < 8)) then
    let c1 := (overspill_dct_square_back N s1.1 s2.1 a1)
    if inK .i64 ((8 : Int) * s2.1) ∧ inK .i64 (((8 : Int) * s2.1) + s1.1) ∧ c1.isSome = true ∧ (0 : Int) ≤ (((8 : Int) * s2.1) + s1.1) ∧ (((8 : Int) * s2.1) + s1.1) < 64 ∧ (((8 : Int) * s2.1) + s1.1).toNat < 64 then
      if inK .i64 (s2.1 + 1) then
        some (.inl ((s2.1 + 1), (s2.2.set (((8 : Int) * s2.1) + s1.1).toNat (c1.getD default))))
      else none
    else none
  else
    some (.inr (s2.1, (decide (s2.1 < 8)), s2.2))
def dct_pass_back_b1 (N : Nat) (a1 : (List Int)) (s1 : (Int × (List Int))) : Option ((Int × (List Int)) ⊕ (List Int)) :=
  bif (decide (s1.1 < 8)) then
    (iter (dct_pass_back_b2 N a1 s1) N (0, s1.2)).bind fun v2 =>
      if inK .i64 (s1.1 + 1) then
        some (.inl ((s1.1 + 1), v2.2.2))
      else none
  else
    some (.inr s1.2)
def dct_pass_back (N : Nat) (a1 : (List Int)) : Option (List Int) :=
  (iter (dct_pass_back_b1 N a1) N (0, (List.replicate 64 0))).bind fun v1 =>
    some v1
def sp_dct_pass_back (N : Nat) : X.Spec := fun args lk => match args with
  | [.fnv 37 [.c (.ptr i0 0 0 0 0 0)] []] => (match lk i0 with
    | some (.mem _ _ _ (.flat [.ints 64 .i64 a1])) => some ⟨(dct_pass_back N a1).isSome = true, .v (.agg [.ints 64 .i64 ((dct_pass_back N a1).getD default)]), [], []⟩
    | _ => none)
  | _ => none
set_option maxRecDepth 100000 in
set_option maxHeartbeats 1000000 in
theorem ok_dct_pass_back (N : Nat) : FnOK Tryd.prog gt0 36 (sp_dct_pass_back N) := by
  refine fnOK_handed Tryd.func36 rfl (by kernel_rfl) tt_ok (ktCons (ok_overspill_dct_square_back N) (ktNil)) ?_
  intro args lk r h hp
  unfold sp_dct_pass_back at h
  split at h
  · rename_i i0
    split at h
    · rename_i _ _ _ a1 hl0
      change (List Int) at a1
      cases h
      obtain ⟨x, hx⟩ := Option.isSome_iff_exists.1 hp
      simp only [hx, Option.getD_some]
      refine handL [i0] 1 [(0, .mem false 69 none (.flat [.ints 64 .i64 a1]))] [.fnv 37 [.c (.ptr 0 0 0 0 0 0)] []] rfl rfl rfl ⟨isSome_of hl0, trivial⟩ ⟨⟨rfl, (by repeat' first | exact True.intro | exact rfl | exact ⟨_, rfl, rfl⟩ | apply And.intro | exact Or.inl rfl), _, hl0, sub_ro⟩, trivial⟩ rfl (fun w0 M ε0 hX => ?_)
      refine rCount (fun hε => ?_)
      have hT : dct_pass_back N a1 = some x := hx; clear hx hp; unfold dct_pass_back at hT
      refine rSeq ?_
      refine zReg md0 hX rfl rfl rfl ?_
      refine rThen ?_
      refine rSeq ?_
      refine zReg md0 hX rfl rfl rfl ?_
      refine rThen ?_
      refine rSeq ?_
      refine rSeq ?_
      refine zReg md0 hX rfl rfl rfl ?_
      refine rThen ?_
      refine rBlock ?_
      replace hT := sBind hT; obtain ⟨w1, hl, hT⟩ := hT
      refine rJoinA (fun v1 => v1 = w1) (fun v1 => ⟨[(2, .v (.c (.ptr 1 0 0 0 0 0))), (3, .v (.c (.ptr 2 0 0 0 0 0)))], [(0, .mem false 69 none (.flat [.ints 64 .i64 a1])), (1, .mem true 69 none (.flat [.ints 64 .i64 (List.replicate 64 0)])), (2, .mem true 69 none (.flat [.ints 64 .i64 v1]))], 3⟩) (.exit 0) (fun v1 hv => ?_) (fun hxs10 => ?_)
      · subst hv; clear hl
        refine rInHit ?_
        refine rThen ?_
        refine rSeq ?_
        refine zReg md0 hX rfl rfl rfl ?_
        refine rThen ?_
        refine rRet ?_
        have hy := Option.some.inj hT; subst hy
        exact zEnd0 hX rfl
      refine rLoopM (dct_pass_back_b1 N a1) (fun s1 => ⟨[(0, .fnv 37 [.c (.ptr 0 0 0 0 0 0)] []), (2, .v (.c (.ptr 1 0 0 0 0 0))), (3, .v (.c (.ptr 2 0 0 0 0 0))), (6, .v (.c (.int .i64 s1.1)))], [(0, .mem false 69 none (.flat [.ints 64 .i64 a1])), (1, .mem true 69 none (.flat [.ints 64 .i64 (List.replicate 64 0)])), (2, .mem true 69 none (.flat [.ints 64 .i64 s1.2]))], 3⟩) hl (To.mk' [] 1 hε rfl (by repeat' first | exact True.intro | exact rfl | apply And.intro) (by repeat' first | exact True.intro | exact rfl | apply And.intro)) (fun s1 zs1 NNs1 hz hnexts1 houts1 => ?_)
      clear hl hT
      have hT := hz; clear hz
      refine rSeq ?_
      refine zReg md0 hX rfl rfl rfl ?_
      refine rThen ?_
      refine rSeq ?_
      refine zCond rfl rfl (fun hc => ?_) (fun hc => ?_)
      · replace hT := sT hc hT
        refine rSkip ?_
        refine rThen ?_
        refine rSeq ?_
        refine rBlock ?_
        refine rSeq ?_
        refine zReg md0 hX rfl rfl rfl ?_
        refine rThen ?_
        refine rSeq ?_
        refine zReg md0 hX rfl rfl rfl ?_
        refine rThen ?_
        refine rBlock ?_
        replace hT := sBind hT; obtain ⟨w2, hl, hT⟩ := hT
        refine rJoinA (fun v2 => v2 = w2) (fun v2 => ⟨[(0, .fnv 37 [.c (.ptr 0 0 0 0 0 0)] []), (2, .v (.c (.ptr 1 0 0 0 0 0))), (3, .v (.c (.ptr 2 0 0 0 0 0))), (4, .v (.c (.int .i64 s1.1))), (6, .v (.c (.int .i64 s1.1))), (7, .v (.c (.bool (decide (s1.1 < 8))))), (8, .v (.c (.int .i64 s1.1))), (9, .v (.c (.int .i64 v2.1))), (10, .v (.c (.bool v2.2.1)))], [(0, .mem false 69 none (.flat [.ints 64 .i64 a1])), (1, .mem true 69 none (.flat [.ints 64 .i64 (List.replicate 64 0)])), (2, .mem true 69 none (.flat [.ints 64 .i64 v2.2.2]))], 3⟩) (.exit 2) (fun v2 hv => ?_) (fun hxs20 => ?_)
        · subst hv; clear hl
          refine rInHit ?_
          refine rInNormal ?_
          refine rThen ?_
          replace hT := sIf hT; obtain ⟨o1, hT⟩ := hT
          refine zReg md0 hX rfl rfl rfl ?_
          exact hnexts1 _ (Option.some.inj hT).symm _ (To.mk' [] 1 hε rfl (by repeat' first | exact True.intro | exact rfl | apply And.intro) (by repeat' first | exact True.intro | exact rfl | apply And.intro))
        refine rLoopM (dct_pass_back_b2 N a1 s1) (fun s2 => ⟨[(0, .fnv 37 [.c (.ptr 0 0 0 0 0 0)] []), (2, .v (.c (.ptr 1 0 0 0 0 0))), (3, .v (.c (.ptr 2 0 0 0 0 0))), (4, .v (.c (.int .i64 s1.1))), (6, .v (.c (.int .i64 s1.1))), (7, .v (.c (.bool (decide (s1.1 < 8))))), (8, .v (.c (.int .i64 s1.1))), (9, .v (.c (.int .i64 s2.1)))], [(0, .mem false 69 none (.flat [.ints 64 .i64 a1])), (1, .mem true 69 none (.flat [.ints 64 .i64 (List.replicate 64 0)])), (2, .mem true 69 none (.flat [.ints 64 .i64 s2.2]))], 3⟩) hl (To.mk' [] 1 hε rfl (by repeat' first | exact True.intro | exact rfl | apply And.intro) (by repeat' first | exact True.intro | exact rfl | apply And.intro)) (fun s2 zs2 NNs2 hz hnexts2 houts2 => ?_)
        clear hl hT
        have hT := hz; clear hz
        refine rSeq ?_
        refine zReg md0 hX rfl rfl rfl ?_
        refine rThen ?_
        refine rSeq ?_
        refine zCond rfl rfl (fun hc => ?_) (fun hc => ?_)
        · replace hT := sT hc hT
          refine rSkip ?_
          refine rThen ?_
          refine rSeq ?_
          refine rBlock ?_
          refine rSeq ?_
          refine zReg md0 hX rfl rfl rfl ?_
          refine rThen ?_
          let c1 := (overspill_dct_square_back N s1.1 s2.1 a1)
          replace hT := sIf hT; obtain ⟨⟨o1, o2, o3, o4, o5, o6⟩, hT⟩ := hT
          refine zReg md0 hX rfl rfl rfl ?_
          refine rInNormal ?_
          refine rThen ?_
          replace hT := sIf hT; obtain ⟨o1, hT⟩ := hT
          refine zReg md0 hX rfl rfl rfl ?_
          exact hnexts2 _ (Option.some.inj hT).symm _ (To.mk' [] 1 hε rfl (by repeat' first | exact True.intro | exact rfl | apply And.intro) (by repeat' first | exact True.intro | exact rfl | apply And.intro))
        · replace hT := sF hc hT
          refine rExit ?_
          refine rThenExit ?_
          refine rThenExit ?_
          exact zTo [] 1 hε (hxs20 _ (houts2 _ (Option.some.inj hT).symm))
      · replace hT := sF hc hT
        refine rExit ?_
        refine rThenExit ?_
        refine rThenExit ?_
        exact zTo [] 1 hε (hxs10 _ (houts1 _ (Option.some.inj hT).symm))
    · cases h
  · cases h
def whole_Round (N : Nat) (a1 : Int) (a2 : Int) : Option Int :=
  let c1 := (whole_Clip N a1 (-1099511627776) 1099511627776)
  let c2 := (whole_Clip N a2 0 32)
  if c1.isSome = true ∧ c2.isSome = true then
    bif (decide ((c2.getD default) = 0)) then
      some (c1.getD default)
    else
      let x1 := (((c1.getD default) + ((1 : Int) * 2 ^ (Int.toNat ((c2.getD default) - 1)))) / 2 ^ (Int.toNat (c2.getD default)))
      if inK .i64 ((c2.getD default) - 1) ∧ inK .u64 ((c2.getD default) - 1) ∧ (0 : Int) ≤ ((c2.getD default) - 1) ∧ (((c2.getD default) - 1)).toNat ≤ 64 ∧ inK .i64 ((1 : Int) * 2 ^ (Int.toNat ((c2.getD default) - 1))) ∧ inK .i64 ((c1.getD default) + ((1 : Int) * 2 ^ (Int.toNat ((c2.getD default) - 1)))) ∧ inK .u64 (c2.getD default) ∧ (0 : Int) ≤ (c2.getD default) ∧ ((c2.getD default)).toNat ≤ 64 then
        some x1
      else none
  else none
def sp_whole_Round (N : Nat) : X.Spec := fun args lk => match args with
  | [.v (.c (.int .i64 a1)), .v (.c (.int .i64 a2))] => some ⟨(whole_Round N a1 a2).isSome = true, .v (.c (.int .i64 ((whole_Round N a1 a2).getD default))), [], []⟩
  | _ => none
set_option maxRecDepth 100000 in
set_option maxHeartbeats 1000000 in
theorem ok_whole_Round (N : Nat) : FnOK Tryd.prog gt0 47 (sp_whole_Round N) := by
  refine fnOK_handed Tryd.func47 rfl (by kernel_rfl) tt_ok (ktCons (ok_whole_Clip N) (ktNil)) ?_
  intro args lk r h hp
  unfold sp_whole_Round at h
  split at h
  · rename_i a1 a2
    cases h
    obtain ⟨x, hx⟩ := Option.isSome_iff_exists.1 hp
    simp only [hx, Option.getD_some]
    refine hand0 rfl rfl (fun w0 M ε0 hX => ?_)
    refine rCount (fun hε => ?_)
    have hT : whole_Round N a1 a2 = some x := hx; clear hx hp; unfold whole_Round at hT
    refine rSeq ?_
    refine zReg md0 hX rfl rfl rfl ?_
    refine rThen ?_
    refine rSeq ?_
    let c1 := (whole_Clip N a1 (-1099511627776) 1099511627776)
    let c2 := (whole_Clip N a2 0 32)
    replace hT := sIf hT; obtain ⟨⟨o1, o2⟩, hT⟩ := hT
    refine zReg md0 hX rfl rfl rfl ?_
    refine rThen ?_
    refine rSeq ?_
    refine rSeq ?_
    refine zReg md0 hX rfl rfl rfl ?_
    refine rThen ?_
    refine zCond rfl rfl (fun hc => ?_) (fun hc => ?_)
    · replace hT := sT hc hT
      refine rSeq ?_
      refine zReg md0 hX rfl rfl rfl ?_
      refine rThen ?_
      refine rRet ?_
      refine rThenRet ?_
      have hy := Option.some.inj hT; subst hy
      exact zEnd0 hX rfl
    · replace hT := sF hc hT
      refine rSkip ?_
      refine rThen ?_
      refine rSeq ?_
      let x1 := (((c1.getD default) + ((1 : Int) * 2 ^ (Int.toNat ((c2.getD default) - 1)))) / 2 ^ (Int.toNat (c2.getD default)))
      replace hT := sIf hT; obtain ⟨⟨o1, o2, o3, o4, o5, o6, o7, o8, o9⟩, hT⟩ := hT
      refine zReg md0 hX rfl rfl rfl ?_
      refine rThen ?_
      refine rRet ?_
      have hy := Option.some.inj hT; subst hy
      exact zEnd0 hX rfl
  · cases h
def dct_rounded_b1 (N : Nat) (a1 : (List Int)) (a2 : Int) (a3 : Int) (s1 : (Int × (List Int))) : Option ((Int × (List Int)) ⊕ (List Int)) :=
  bif (decide (s1.1 < 64)) then
    if (0 : Int) ≤ s1.1 ∧ s1.1 < 64 ∧ (s1.1).toNat < 64 then
      let c1 := (whole_Round N (a1.getD (s1.1).toNat 0) 15)
      let c2 := (whole_Clip N (c1.getD default) a2 a3)
      if c1.isSome = true ∧ c2.isSome = true ∧ (0 : Int) ≤ s1.1 ∧ s1.1 < 64 ∧ (s1.1).toNat < 64 then
        if inK .i64 (s1.1 + 1) then
          some (.inl ((s1.1 + 1), (s1.2.set (s1.1).toNat (c2.getD default))))
        else none
      else none
    else none
  else
    some (.inr s1.2)
def dct_rounded (N : Nat) (a1 : (List Int)) (a2 : Int) (a3 : Int) : Option (List Int) :=
  (iter (dct_rounded_b1 N a1 a2 a3) N (0, (List.replicate 64 0))).bind fun v1 =>
    some v1
def sp_dct_rounded (N : Nat) : X.Spec := fun args lk => match args with
  | [.v (.agg [.ints 64 .i64 a1]), .v (.c (.int .i64 a2)), .v (.c (.int .i64 a3))] => some ⟨(dct_rounded N a1 a2 a3).isSome = true, .v (.agg [.ints 64 .i64 ((dct_rounded N a1 a2 a3).getD default)]), [], []⟩
  | _ => none
set_option maxRecDepth 100000 in
set_option maxHeartbeats 1000000 in
theorem ok_dct_rounded (N : Nat) : FnOK Tryd.prog gt0 38 (sp_dct_rounded N) := by
  refine fnOK_handed Tryd.func38 rfl (by kernel_rfl) tt_ok (ktCons (ok_whole_Clip N) (ktCons (ok_whole_Round N) (ktNil))) ?_
  intro args lk r h hp
  unfold sp_dct_rounded at h
  split at h
  · rename_i a1 a2 a3
    change (List Int) at a1
    cases h
    obtain ⟨x, hx⟩ := Option.isSome_iff_exists.1 hp
    simp only [hx, Option.getD_some]
    refine hand0 rfl rfl (fun w0 M ε0 hX => ?_)
    refine rCount (fun hε => ?_)
    have hT : dct_rounded N a1 a2 a3 = some x := hx; clear hx hp; unfold dct_rounded at hT
    refine rSeq ?_
    refine zReg md0 hX rfl rfl rfl ?_
    refine rThen ?_
    refine rSeq ?_
    refine zReg md0 hX rfl rfl rfl ?_
    refine rThen ?_
    refine rSeq ?_
    refine rSeq ?_
    refine zReg md0 hX rfl rfl rfl ?_
    refine rThen ?_
    refine rBlock ?_
    replace hT := sBind hT; obtain ⟨w1, hl, hT⟩ := hT
    refine rJoinA (fun v1 => v1 = w1) (fun v1 => ⟨[(6, .v (.c (.ptr 1 0 0 0 0 0))), (7, .v (.c (.ptr 2 0 0 0 0 0)))], [(1, .mem true 22 none (.flat [.ints 64 .i64 (List.replicate 64 0)])), (2, .mem true 22 none (.flat [.ints 64 .i64 v1]))], 3⟩) (.exit 0) (fun v1 hv => ?_) (fun hxs10 => ?_)
    · subst hv; clear hl
      refine rInHit ?_
      refine rThen ?_
      refine rSeq ?_
      refine zReg md0 hX rfl rfl rfl ?_
      refine rThen ?_
      refine rRet ?_
      have hy := Option.some.inj hT; subst hy
      exact zEnd0 hX rfl
    refine rLoopM (dct_rounded_b1 N a1 a2 a3) (fun s1 => ⟨[(1, .v (.c (.int .i64 a2))), (2, .v (.c (.int .i64 a3))), (6, .v (.c (.ptr 1 0 0 0 0 0))), (7, .v (.c (.ptr 2 0 0 0 0 0))), (10, .v (.agg [.ints 64 .i64 a1])), (11, .v (.c (.int .i64 s1.1)))], [(1, .mem true 22 none (.flat [.ints 64 .i64 (List.replicate 64 0)])), (2, .mem true 22 none (.flat [.ints 64 .i64 s1.2]))], 3⟩) hl (To.mk' [] 0 hε rfl (by repeat' first | exact True.intro | exact rfl | apply And.intro) (by repeat' first | exact True.intro | exact rfl | apply And.intro)) (fun s1 zs1 NNs1 hz hnexts1 houts1 => ?_)
    clear hl hT
    have hT := hz; clear hz
    refine rSeq ?_
    refine zReg md0 hX rfl rfl rfl ?_
    refine rThen ?_
    refine rSeq ?_
    refine zCond rfl rfl (fun hc => ?_) (fun hc => ?_)
    · replace hT := sT hc hT
      refine rSkip ?_
      refine rThen ?_
      refine rSeq ?_
      refine rBlock ?_
      refine rSeq ?_
      replace hT := sIf hT; obtain ⟨⟨o1, o2, o3⟩, hT⟩ := hT
      refine zReg md0 hX rfl rfl rfl ?_
      refine rThen ?_
      let c1 := (whole_Round N (a1.getD (s1.1).toNat 0) 15)
      let c2 := (whole_Clip N (c1.getD default) a2 a3)
      replace hT := sIf hT; obtain ⟨⟨o1, o2, o3, o4, o5⟩, hT⟩ := hT
      refine zReg md0 hX rfl rfl rfl ?_
      refine rInNormal ?_
      refine rThen ?_
      replace hT := sIf hT; obtain ⟨o1, hT⟩ := hT
      refine zReg md0 hX rfl rfl rfl ?_
      exact hnexts1 _ (Option.some.inj hT).symm _ (To.mk' [] 0 hε rfl (by repeat' first | exact True.intro | exact rfl | apply And.intro) (by repeat' first | exact True.intro | exact rfl | apply And.intro))
    · replace hT := sF hc hT
      refine rExit ?_
      refine rThenExit ?_
      refine rThenExit ?_
      exact zTo [] 0 hε (hxs10 _ (houts1 _ (Option.some.inj hT).symm))
  · cases h
def dct_Inverse (N : Nat) (a1 : (List Int)) : Option (List Int) :=
  let c1 := (dct_within N a1)
  if c1.isSome = true then
    let c2 := (dct_pass_back N (c1.getD default))
    if c2.isSome = true then
      let c3 := (dct_pass_back N (c2.getD default))
      let c4 := (dct_rounded N (c3.getD default) (-256) 255)
      if c3.isSome = true ∧ c4.isSome = true then
        some (c4.getD default)
      else none
    else none
  else none
def sp_dct_Inverse (N : Nat) : X.Spec := fun args lk => match args with
  | [.v (.agg [.ints 64 .i64 a1])] => some ⟨(dct_Inverse N a1).isSome = true, .v (.agg [.ints 64 .i64 ((dct_Inverse N a1).getD default)]), [], []⟩
  | _ => none
set_option maxRecDepth 100000 in
set_option maxHeartbeats 1000000 in
theorem ok_dct_Inverse (N : Nat) : FnOK Tryd.prog gt0 22 (sp_dct_Inverse N) := by
  refine fnOK_handed Tryd.func22 rfl (by kernel_rfl) tt_ok (ktCons (ok_dct_rounded N) (ktCons (ok_dct_pass_back N) (ktCons (ok_dct_within N) (ktNil)))) ?_
  intro args lk r h hp
  unfold sp_dct_Inverse at h
  split at h
  · rename_i a1
    change (List Int) at a1
    cases h
    obtain ⟨x, hx⟩ := Option.isSome_iff_exists.1 hp
    simp only [hx, Option.getD_some]
    refine hand0 rfl rfl (fun w0 M ε0 hX => ?_)
    refine rCount (fun hε => ?_)
    have hT : dct_Inverse N a1 = some x := hx; clear hx hp; unfold dct_Inverse at hT
    refine rSeq ?_
    refine zReg md0 hX rfl rfl rfl ?_
    refine rThen ?_
    refine rSeq ?_
    let c1 := (dct_within N a1)
    replace hT := sIf hT; obtain ⟨o1, hT⟩ := hT
    refine zReg md0 hX rfl rfl rfl ?_
    refine rThen ?_
    refine rSeq ?_
    let c2 := (dct_pass_back N (c1.getD default))
    replace hT := sIf hT; obtain ⟨o1, hT⟩ := hT
    refine zReg md0 hX rfl rfl rfl ?_
    refine rThen ?_
    refine rSeq ?_
    let c3 := (dct_pass_back N (c2.getD default))
    let c4 := (dct_rounded N (c3.getD default) (-256) 255)
    replace hT := sIf hT; obtain ⟨⟨o1, o2⟩, hT⟩ := hT
    refine zReg md0 hX rfl rfl rfl ?_
    refine rThen ?_
    refine rRet ?_
    have hy := Option.some.inj hT; subst hy
    exact zEnd0 hX rfl
  · cases h

end Go.Proofs.YtjknjjdijoboiaaDoor
