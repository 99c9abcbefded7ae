/- Models of functions, and that the program does what they tell. -/
import Derived.Test.YtkfaebbbjahcpaaDoorH1
set_option linter.unusedVariables false
set_option linter.unusedSimpArgs false
namespace Go.Proofs.YtkfaebbbjahcpaaDoor
open Go.X

def residue_every_residue_b1 (N : Nat) (a8 : Int) (a9 : Bool) (a10 : Int) (a11 : Int) (a12 : (List Int)) (a13 : (List Int)) (a14 : (List (List (Bool × (Int × Int))))) (a15 : Int) (s1 : (Int × (List Int))) : Option ((Int × (List Int)) ⊕ (List Int)) :=
  bif (decide (s1.1 < 6)) then
    let c2 := (overspill_residue_cell_residue N a8 a9 a10 a11 a12 a13 a14 a15 s1.1)
    if c2.isSome = true ∧ (0 : Int) ≤ s1.1 ∧ s1.1 < 6 ∧ (64 * (s1.1).toNat) + 64 ≤ 384 then
      if inK .i64 (s1.1 + 1) then
        some (.inl ((s1.1 + 1), (layL s1.2 (64 * (s1.1).toNat) (c2.getD default) 64)))
      else none
    else none
  else
    some (.inr s1.2)
def residue_every_residue (N : Nat) (a1 : Int) (a2 : Bool) (a3 : Int) (a4 : Int) (a5 : (List Int)) (a6 : (List Int)) (a7 : (List (List (Bool × (Int × Int))))) (a8 : Int) (a9 : Bool) (a10 : Int) (a11 : Int) (a12 : (List Int)) (a13 : (List Int)) (a14 : (List (List (Bool × (Int × Int))))) (a15 : Int) : Option ((List Int) × Int) :=
  let c1 := (cellout_Right N true a1 a2 a3 a4 a5 a6 a7)
  if c1.isSome = true then
    bif (!(c1.getD default)) then
      some ((List.replicate 384 0), 12)
    else
      (iter (residue_every_residue_b1 N a8 a9 a10 a11 a12 a13 a14 a15) N (0, (List.replicate 384 0))).bind fun v1 =>
        some (v1, 0)
  else none
def sp_residue_every_residue (N : Nat) : X.Spec := fun args lk => match args with
  | [.v (.agg [.cs [.int .i64 a1, .bool a2, .int .i64 a3, .int .i64 a4], .ints 2 .i64 a5, .ints 6 .i64 a6, .fzs 6 (.pair .bool (.pair (.int .i64) (.int .i64))) a7]), .fnv 76 [.agg [.cs [.int .i64 a8, .bool a9, .int .i64 a10, .int .i64 a11], .ints 2 .i64 a12, .ints 6 .i64 a13, .fzs 6 (.pair .bool (.pair (.int .i64) (.int .i64))) a14, .cs [.int .i64 a15]]] []] => some ⟨(residue_every_residue N a1 a2 a3 a4 a5 a6 a7 a8 a9 a10 a11 a12 a13 a14 a15).isSome = true, .tup [.agg [.ints 384 .i64 ((residue_every_residue N a1 a2 a3 a4 a5 a6 a7 a8 a9 a10 a11 a12 a13 a14 a15).getD default).1], .c (.int .i64 ((residue_every_residue N a1 a2 a3 a4 a5 a6 a7 a8 a9 a10 a11 a12 a13 a14 a15).getD default).2)], [], []⟩
  | _ => none
set_option maxRecDepth 100000 in
set_option maxHeartbeats 1000000 in
theorem ok_residue_every_residue (N : Nat) : FnOK Tryd.prog gt0 68 (sp_residue_every_residue N) := by
  refine fnOK_handed Tryd.func68 rfl (by kernel_rfl) tt_ok (ktCons (ok_overspill_residue_cell_residue N) (ktCons (ok_cellout_Right N) (ktNil))) ?_
  intro args lk r h hp
  unfold sp_residue_every_residue at h
  split at h
  · rename_i a1 a2 a3 a4 a5 a6 a7 a8 a9 a10 a11 a12 a13 a14 a15
    change (List Int) at a5
    change (List Int) at a6
    change (List (List (Bool × (Int × Int)))) at a7
    change (List Int) at a12
    change (List Int) at a13
    change (List (List (Bool × (Int × Int)))) at a14
    cases h
    obtain ⟨x, hx⟩ := Option.isSome_iff_exists.1 hp
    simp only [hx, Option.getD_some]
    refine hand0 rfl rfl (fun w0 M ε0 hX => ?_)
    refine rCount (fun hε => ?_)
    have hT : residue_every_residue N a1 a2 a3 a4 a5 a6 a7 a8 a9 a10 a11 a12 a13 a14 a15 = some x := hx; clear hx hp; unfold residue_every_residue at hT
    refine rSeq ?_
    refine zReg md0 hX rfl rfl rfl ?_
    refine rThen ?_
    refine rSeq ?_
    refine rSeq ?_
    let c1 := (cellout_Right N true a1 a2 a3 a4 a5 a6 a7)
    replace hT := sIf hT; obtain ⟨o1, hT⟩ := hT
    refine zReg md0 hX rfl rfl rfl ?_
    refine rThen ?_
    refine zCond rfl rfl (fun hc => ?_) (fun hc => ?_)
    · replace hT := sT hc hT
      refine rSeq ?_
      refine zReg md0 hX rfl rfl rfl ?_
      refine rThen ?_
      refine rRet ?_
      refine rThenRet ?_
      have hy := Option.some.inj hT; subst hy
      exact zEnd0 hX rfl
    · replace hT := sF hc hT
      refine rSkip ?_
      refine rThen ?_
      refine rSeq ?_
      refine zReg md0 hX rfl rfl rfl ?_
      refine rThen ?_
      refine rSeq ?_
      refine rSeq ?_
      refine zReg md0 hX rfl rfl rfl ?_
      refine rThen ?_
      refine rBlock ?_
      replace hT := sBind hT; obtain ⟨w1, hl, hT⟩ := hT
      refine rJoinA (fun v1 => v1 = w1) (fun v1 => ⟨[(4, .v (.c (.ptr 1 0 0 0 0 0))), (5, .v (.c (.int .i64 0))), (6, .v (.c (.ptr 2 0 0 0 0 0)))], [(1, .mem true 39 none (.flat [.ints 384 .i64 (List.replicate 384 0)])), (2, .mem true 39 none (.flat [.ints 384 .i64 v1]))], 3⟩) (.exit 0) (fun v1 hv => ?_) (fun hxs10 => ?_)
      · subst hv; clear hl
        refine rInHit ?_
        refine rThen ?_
        refine rSeq ?_
        refine zReg md0 hX rfl rfl rfl ?_
        refine rThen ?_
        refine rRet ?_
        have hy := Option.some.inj hT; subst hy
        exact zEnd0 hX rfl
      refine rLoopM (residue_every_residue_b1 N a8 a9 a10 a11 a12 a13 a14 a15) (fun s1 => ⟨[(1, .fnv 76 [.agg [.cs [.int .i64 a8, .bool a9, .int .i64 a10, .int .i64 a11], .ints 2 .i64 a12, .ints 6 .i64 a13, .fzs 6 (.pair .bool (.pair (.int .i64) (.int .i64))) a14, .cs [.int .i64 a15]]] []), (4, .v (.c (.ptr 1 0 0 0 0 0))), (5, .v (.c (.int .i64 0))), (6, .v (.c (.ptr 2 0 0 0 0 0))), (12, .v (.c (.int .i64 s1.1)))], [(1, .mem true 39 none (.flat [.ints 384 .i64 (List.replicate 384 0)])), (2, .mem true 39 none (.flat [.ints 384 .i64 s1.2]))], 3⟩) hl (To.mk' [] 0 hε rfl (by repeat' first | exact True.intro | exact rfl | apply And.intro) (by repeat' first | exact True.intro | exact rfl | apply And.intro)) (fun s1 zs1 NNs1 hz hnexts1 houts1 => ?_)
      clear hl hT
      have hT := hz; clear hz
      refine rSeq ?_
      refine zReg md0 hX rfl rfl rfl ?_
      refine rThen ?_
      refine rSeq ?_
      refine zCond rfl rfl (fun hc => ?_) (fun hc => ?_)
      · replace hT := sT hc hT
        refine rSkip ?_
        refine rThen ?_
        refine rSeq ?_
        refine rBlock ?_
        refine rSeq ?_
        refine zReg md0 hX rfl rfl rfl ?_
        refine rThen ?_
        let c2 := (overspill_residue_cell_residue N a8 a9 a10 a11 a12 a13 a14 a15 s1.1)
        replace hT := sIf hT; obtain ⟨⟨o1, o2, o3, o4⟩, hT⟩ := hT
        refine zReg md0 hX rfl rfl rfl ?_
        refine rInNormal ?_
        refine rThen ?_
        replace hT := sIf hT; obtain ⟨o1, hT⟩ := hT
        refine zReg md0 hX rfl rfl rfl ?_
        exact hnexts1 _ (Option.some.inj hT).symm _ (To.mk' [] 0 hε rfl (by repeat' first | exact True.intro | exact rfl | apply And.intro) (by repeat' first | exact True.intro | exact rfl | apply And.intro))
      · replace hT := sF hc hT
        refine rExit ?_
        refine rThenExit ?_
        refine rThenExit ?_
        exact zTo [] 0 hε (hxs10 _ (houts1 _ (Option.some.inj hT).symm))
  · cases h
def residue_Of (N : Nat) (a1 : Int) (a2 : Bool) (a3 : Int) (a4 : Int) (a5 : (List Int)) (a6 : (List Int)) (a7 : (List (List (Bool × (Int × Int))))) (a8 : Int) : Option ((List Int) × Int) :=
  let c1 := (residue_every_residue N a1 a2 a3 a4 a5 a6 a7 a1 a2 a3 a4 a5 a6 a7 a8)
  if c1.isSome = true then
    some ((c1.getD default).1, (c1.getD default).2)
  else none
def sp_residue_Of (N : Nat) : X.Spec := fun args lk => match args with
  | [.v (.agg [.cs [.int .i64 a1, .bool a2, .int .i64 a3, .int .i64 a4], .ints 2 .i64 a5, .ints 6 .i64 a6, .fzs 6 (.pair .bool (.pair (.int .i64) (.int .i64))) a7]), .v (.c (.int .i64 a8))] => some ⟨(residue_Of N a1 a2 a3 a4 a5 a6 a7 a8).isSome = true, .tup [.agg [.ints 384 .i64 ((residue_Of N a1 a2 a3 a4 a5 a6 a7 a8).getD default).1], .c (.int .i64 ((residue_Of N a1 a2 a3 a4 a5 a6 a7 a8).getD default).2)], [], []⟩
  | _ => none
set_option maxRecDepth 100000 in
set_option maxHeartbeats 1000000 in
theorem ok_residue_Of (N : Nat) : FnOK Tryd.prog gt0 28 (sp_residue_Of N) := by
  refine fnOK_handed Tryd.func28 rfl (by kernel_rfl) tt_ok (ktCons (ok_residue_every_residue N) (ktNil)) ?_
  intro args lk r h hp
  unfold sp_residue_Of at h
  split at h
  · rename_i a1 a2 a3 a4 a5 a6 a7 a8
    change (List Int) at a5
    change (List Int) at a6
    change (List (List (Bool × (Int × Int)))) at a7
    cases h
    obtain ⟨x, hx⟩ := Option.isSome_iff_exists.1 hp
    simp only [hx, Option.getD_some]
    refine hand0 rfl rfl (fun w0 M ε0 hX => ?_)
    refine rCount (fun hε => ?_)
    have hT : residue_Of N a1 a2 a3 a4 a5 a6 a7 a8 = some x := hx; clear hx hp; unfold residue_Of at hT
    refine rSeq ?_
    refine zReg md0 hX rfl rfl rfl ?_
    refine rThen ?_
    refine rSeq ?_
    let c1 := (residue_every_residue N a1 a2 a3 a4 a5 a6 a7 a1 a2 a3 a4 a5 a6 a7 a8)
    replace hT := sIf hT; obtain ⟨o1, hT⟩ := hT
    refine zReg md0 hX rfl rfl rfl ?_
    refine rThen ?_
    refine rRet ?_
    have hy := Option.some.inj hT; subst hy
    exact zEnd0 hX rfl
  · cases h
def law29_lives (N : Nat) : Option Bool :=
  let c1 := (residue_Levels N 0 false 0 0 (List.replicate 2 0) (List.replicate 6 0) ((List.replicate 6 []).set 2 [(true, ((0 : Int), (3 : Int)))]))
  if c1.isSome = true then
    let c2 := (residue_Of N 0 false 0 0 (List.replicate 2 0) (List.replicate 6 0) ((List.replicate 6 []).set 2 [(true, ((0 : Int), (3 : Int)))]) 5)
    if c2.isSome = true then
      let x1 := (bif (bif (bif (bif (bif (decide (((c1.getD default).1.getD 128 0) = 3)) then (decide ((c1.getD default).2 = 0)) else false) then (decide (((c2.getD default).1.getD 128 0) = 4)) else false) then (decide (((c2.getD default).1.getD 191 0) = 4)) else false) then (decide (((c2.getD default).1.getD 64 0) = 0)) else false) then (decide ((c2.getD default).2 = 0)) else false)
      some x1
    else none
  else none
def sp_law29_lives (N : Nat) : X.Spec := fun args lk => match args with
  | [] => some ⟨(law29_lives N).isSome = true, .v (.c (.bool ((law29_lives N).getD default))), [], []⟩
  | _ => none
set_option maxRecDepth 100000 in
set_option maxHeartbeats 1000000 in
theorem ok_law29_lives (N : Nat) : FnOK Tryd.prog gt0 27 (sp_law29_lives N) := by
  refine fnOK_handed Tryd.func27 rfl (by kernel_rfl) tt_ok (ktCons (ok_residue_Of N) (ktCons (ok_residue_Levels N) (ktNil))) ?_
  intro args lk r h hp
  unfold sp_law29_lives at h
  split at h
  · skip
    cases h
    obtain ⟨x, hx⟩ := Option.isSome_iff_exists.1 hp
    simp only [hx, Option.getD_some]
    refine hand0 rfl rfl (fun w0 M ε0 hX => ?_)
    refine rCount (fun hε => ?_)
    have hT : law29_lives N = some x := hx; clear hx hp; unfold law29_lives at hT
    refine rSeq ?_
    refine zReg md0 hX rfl rfl rfl ?_
    refine rThen ?_
    refine rSeq ?_
    refine zReg md0 hX rfl rfl rfl ?_
    refine rThen ?_
    refine rSeq ?_
    refine rRegSL ?_
    refine rSLCut md0 4 hX rfl rfl rfl (by (repeat' first | exact True.intro | with_reducible assumption | (with_reducible apply And.intro) | intro _) <;> first | assumption | exact rfl | omega | exact Nat.le_of_ble_eq_true rfl | exact selF (by assumption) | exact selT (by assumption) | exact And.intro rfl rfl | exact And.intro (by assumption) rfl | exact And.intro (by omega) rfl | (simp only [inK] at *; omega) | (simp_all [sel] <;> fail) | fail) ?_
    refine rFreezeL 1 (.pair .bool (.pair (.int .i64) (.int .i64))) [(true, ((0 : Int), (3 : Int)))] [(0, .v (.c (.bool false))), (1, .v (.c (.ptr 0 0 0 0 0 0))), (7, .v (.c (.fz (.pair .bool (.pair (.int .i64) (.int .i64))) [(true, ((0 : Int), (3 : Int)))]))), (9, .v (.c (.ptr 0 0 0 14 0 0)))] [(0, .mem true 37 none (.flat [.cs [.int .i64 0, .bool false, .int .i64 0, .int .i64 0], .ints 2 .i64 (List.replicate 2 0), .ints 6 .i64 (List.replicate 6 0), .fzs 6 (.pair .bool (.pair (.int .i64) (.int .i64))) (List.replicate 6 [])]))] rfl rfl (by (repeat' first | exact True.intro | exact rfl | apply And.intro) <;> first | assumption | rfl) (by (repeat' first | exact True.intro | exact rfl | apply And.intro) <;> first | assumption | rfl) ?_
    refine rSLDone md0 hX rfl rfl rfl (by (repeat' first | exact True.intro | with_reducible assumption | (with_reducible apply And.intro) | intro _) <;> first | assumption | exact rfl | omega | exact Nat.le_of_ble_eq_true rfl | exact selF (by assumption) | exact selT (by assumption) | exact And.intro rfl rfl | exact And.intro (by assumption) rfl | exact And.intro (by omega) rfl | (simp only [inK] at *; omega) | (simp_all [sel] <;> fail) | fail) ?_
    refine rThen ?_
    refine rSeq ?_
    let c1 := (residue_Levels N 0 false 0 0 (List.replicate 2 0) (List.replicate 6 0) ((List.replicate 6 []).set 2 [(true, ((0 : Int), (3 : Int)))]))
    replace hT := sIf hT; obtain ⟨o1, hT⟩ := hT
    refine zReg md0 hX rfl rfl rfl ?_
    refine rThen ?_
    refine rSeq ?_
    let c2 := (residue_Of N 0 false 0 0 (List.replicate 2 0) (List.replicate 6 0) ((List.replicate 6 []).set 2 [(true, ((0 : Int), (3 : Int)))]) 5)
    replace hT := sIf hT; obtain ⟨o1, hT⟩ := hT
    refine zReg md0 hX rfl rfl rfl ?_
    refine rThen ?_
    refine rSeq ?_
    let x1 := (bif (bif (bif (bif (bif (decide (((c1.getD default).1.getD 128 0) = 3)) then (decide ((c1.getD default).2 = 0)) else false) then (decide (((c2.getD default).1.getD 128 0) = 4)) else false) then (decide (((c2.getD default).1.getD 191 0) = 4)) else false) then (decide (((c2.getD default).1.getD 64 0) = 0)) else false) then (decide ((c2.getD default).2 = 0)) else false)
    refine zReg md0 hX rfl rfl rfl ?_
    refine rThen ?_
    refine rRet ?_
    have hy := Option.some.inj hT; subst hy
    exact zEnd0 hX rfl
  · cases h
def ref22_zero_b1 (N : Nat) (a6 : (List Int)) (a7 : (List (List (Bool × (Int × Int))))) (s1 : Int) : Option (Int ⊕ (Unit ⊕ Unit)) :=
  bif (decide (s1 < 6)) then
    let x3 := (bif (decide ((0 : Int) < ((a7.getD (s1).toNat []).length : Int))) then true else (decide ((a6.getD (s1).toNat 0) ≠ 0)))
    if (0 : Int) ≤ s1 ∧ s1 < 6 ∧ (s1).toNat < 6 ∧ ((!(decide ((0 : Int) < ((a7.getD (s1).toNat []).length : Int)))) = true → (0 : Int) ≤ s1) ∧ ((!(decide ((0 : Int) < ((a7.getD (s1).toNat []).length : Int)))) = true → s1 < 6) ∧ ((!(decide ((0 : Int) < ((a7.getD (s1).toNat []).length : Int)))) = true → (s1).toNat < 6) then
      bif x3 then
        some (.inr (Sum.inl ()))
      else
        if inK .i64 (s1 + 1) then
          some (.inl (s1 + 1))
        else none
    else none
  else
    some (.inr (Sum.inr ()))
def ref22_zero (N : Nat) (a1 : Int) (a2 : Bool) (a3 : Int) (a4 : Int) (a5 : (List Int)) (a6 : (List Int)) (a7 : (List (List (Bool × (Int × Int))))) : Option Bool :=
  (iter (ref22_zero_b1 N a6 a7) N 0).bind fun w1 =>
    (Sum.elim (fun v1 =>
      some false
    )
      (fun v2 =>
        let x1 := (bif (bif (bif (decide (a3 = 0)) then (decide (a4 = 0)) else false) then (decide ((a5.getD 0 0) = 0)) else false) then (decide ((a5.getD 1 0) = 0)) else false)
        some x1
      )
    ) w1
def sp_ref22_zero (N : Nat) : X.Spec := fun args lk => match args with
  | [.v (.agg [.cs [.int .i64 a1, .bool a2, .int .i64 a3, .int .i64 a4], .ints 2 .i64 a5, .ints 6 .i64 a6, .fzs 6 (.pair .bool (.pair (.int .i64) (.int .i64))) a7])] => some ⟨(ref22_zero N a1 a2 a3 a4 a5 a6 a7).isSome = true, .v (.c (.bool ((ref22_zero N a1 a2 a3 a4 a5 a6 a7).getD default))), [], []⟩
  | _ => none
set_option maxRecDepth 100000 in
set_option maxHeartbeats 1000000 in
theorem ok_ref22_zero (N : Nat) : FnOK Tryd.prog gt0 62 (sp_ref22_zero N) := by
  refine fnOK_handed Tryd.func62 rfl (by kernel_rfl) tt_ok (ktNil) ?_
  intro args lk r h hp
  unfold sp_ref22_zero at h
  split at h
  · rename_i a1 a2 a3 a4 a5 a6 a7
    change (List Int) at a5
    change (List Int) at a6
    change (List (List (Bool × (Int × Int)))) at a7
    cases h
    obtain ⟨x, hx⟩ := Option.isSome_iff_exists.1 hp
    simp only [hx, Option.getD_some]
    refine hand0 rfl rfl (fun w0 M ε0 hX => ?_)
    refine rCount (fun hε => ?_)
    have hT : ref22_zero N a1 a2 a3 a4 a5 a6 a7 = some x := hx; clear hx hp; unfold ref22_zero at hT
    refine rSeq ?_
    refine zReg md0 hX rfl rfl rfl ?_
    refine rThen ?_
    refine rSeq ?_
    refine rSeq ?_
    refine zReg md0 hX rfl rfl rfl ?_
    refine rThen ?_
    refine rBlock ?_
    replace hT := sBind hT; obtain ⟨w1, hl, hT⟩ := hT
    refine rJoinA (fun v1 => (Sum.inl v1) = w1) (fun v1 => ⟨[(2, .v (.c (.bool false)))], [], 1⟩) .ret (fun v1 hv => ?_) (fun hxs10 => ?_)
    · subst hv; clear hl; replace hT := (sElimL hT)
      refine rInRet ?_
      refine rThenRet ?_
      have hy := Option.some.inj hT; subst hy
      exact zEnd0 hX rfl
    refine rJoinA (fun v2 => (Sum.inr v2) = w1) (fun v2 => ⟨[(1, .v (.c (.ptr 0 0 0 0 0 0))), (2, .v (.c (.bool false)))], [(0, .mem true 37 none (.flat [.cs [.int .i64 a1, .bool a2, .int .i64 a3, .int .i64 a4], .ints 2 .i64 a5, .ints 6 .i64 a6, .fzs 6 (.pair .bool (.pair (.int .i64) (.int .i64))) a7]))], 1⟩) (.exit 0) (fun v2 hv => ?_) (fun hxs11 => ?_)
    · subst hv; clear hl; replace hT := (sElimR hT)
      refine rInHit ?_
      refine rThen ?_
      refine rSeq ?_
      let x1 := (bif (bif (bif (decide (a3 = 0)) then (decide (a4 = 0)) else false) then (decide ((a5.getD 0 0) = 0)) else false) then (decide ((a5.getD 1 0) = 0)) else false)
      refine zReg md0 hX rfl rfl rfl ?_
      refine rThen ?_
      refine rRet ?_
      have hy := Option.some.inj hT; subst hy
      exact zEnd0 hX rfl
    refine rLoopM (ref22_zero_b1 N a6 a7) (fun s1 => ⟨[(1, .v (.c (.ptr 0 0 0 0 0 0))), (2, .v (.c (.bool false))), (3, .v (.c (.int .i64 s1)))], [(0, .mem true 37 none (.flat [.cs [.int .i64 a1, .bool a2, .int .i64 a3, .int .i64 a4], .ints 2 .i64 a5, .ints 6 .i64 a6, .fzs 6 (.pair .bool (.pair (.int .i64) (.int .i64))) a7]))], 1⟩) hl (To.mk' [] 0 hε rfl (by repeat' first | exact True.intro | exact rfl | apply And.intro) (by repeat' first | exact True.intro | exact rfl | apply And.intro)) (fun s1 zs1 NNs1 hz hnexts1 houts1 => ?_)
    clear hl hT
    have hT := hz; clear hz
    refine rSeq ?_
    refine rSeq ?_
    refine zReg md0 hX rfl rfl rfl ?_
    refine rThen ?_
    refine zCond rfl rfl (fun hc => ?_) (fun hc => ?_)
    · replace hT := sT hc hT
      refine rSkip ?_
      refine rThen ?_
      refine rSeq ?_
      refine rBlock ?_
      refine rSeq ?_
      let x3 := (bif (decide ((0 : Int) < ((a7.getD (s1).toNat []).length : Int))) then true else (decide ((a6.getD (s1).toNat 0) ≠ 0)))
      replace hT := sIf hT; obtain ⟨⟨o1, o2, o3, o4, o5, o6⟩, hT⟩ := hT
      refine rRegC md0 hX rfl rfl rfl (by (repeat' first | exact True.intro | with_reducible assumption | (with_reducible apply And.intro) | intro _) <;> first | assumption | exact o4 (by assumption) | exact o5 (by assumption) | exact o6 (by assumption) | exact rfl | omega | exact Nat.le_of_ble_eq_true rfl | exact selF (by assumption) | exact selT (by assumption) | exact And.intro rfl rfl | exact And.intro (by assumption) rfl | exact And.intro (by omega) rfl | (simp only [inK] at *; omega) | (simp_all [sel] <;> fail) | fail) ?_
      refine rThen ?_
      refine zCond rfl rfl (fun hc => ?_) (fun hc => ?_)
      · replace hT := sT hc hT
        refine rSeq ?_
        refine zReg md0 hX rfl rfl rfl ?_
        refine rThen ?_
        refine rRet ?_
        refine rInRet ?_
        refine rThenRet ?_
        refine rThenRet ?_
        exact zTo [] 0 hε (hxs10 _ (houts1 _ (Option.some.inj hT).symm))
      · replace hT := sF hc hT
        refine rSkip ?_
        refine rInNormal ?_
        refine rThen ?_
        replace hT := sIf hT; obtain ⟨o1, hT⟩ := hT
        refine zReg md0 hX rfl rfl rfl ?_
        exact hnexts1 _ (Option.some.inj hT).symm _ (To.mk' [] 0 hε rfl (by repeat' first | exact True.intro | exact rfl | apply And.intro) (by repeat' first | exact True.intro | exact rfl | apply And.intro))
    · replace hT := sF hc hT
      refine rExit ?_
      refine rThenExit ?_
      refine rThenExit ?_
      exact zTo [] 0 hε (hxs11 _ (houts1 _ (Option.some.inj hT).symm))
  · cases h
def ref20_Row (N : Nat) (a1 : Int) : Option ByteArray :=
  let x1 := (bif (bif (decide (a1 < (-2))) then true else (decide ((2 : Int) < a1))) then true else (decide (a1 = 0)))
  bif x1 then
    some ⟨#[]⟩
  else
    if inK .i64 (a1 + 2) ∧ (0 : Int) ≤ (a1 + 2) ∧ (a1 + 2) < 5 then
      if (a1 + 2).toNat < ([⟨#[48, 49]⟩, ⟨#[48, 48]⟩, ⟨#[]⟩, ⟨#[49, 48]⟩, ⟨#[49, 49]⟩] : List ByteArray).length then
        let x2 := (([⟨#[48, 49]⟩, ⟨#[48, 48]⟩, ⟨#[]⟩, ⟨#[49, 48]⟩, ⟨#[49, 49]⟩] : List ByteArray).getD (a1 + 2).toNat ⟨#[]⟩)
        some x2
      else none
    else none
def sp_ref20_Row (N : Nat) : X.Spec := fun args lk => match args with
  | [.v (.c (.int .i64 a1))] => some ⟨(ref20_Row N a1).isSome = true, .v (.c (.str ((ref20_Row N a1).getD default))), [], []⟩
  | _ => none
set_option maxRecDepth 100000 in
set_option maxHeartbeats 1000000 in
theorem ok_ref20_Row (N : Nat) : FnOK Tryd.prog gt0 63 (sp_ref20_Row N) := by
  refine fnOK_handed Tryd.func63 rfl (by kernel_rfl) tt_ok (ktNil) ?_
  intro args lk r h hp
  unfold sp_ref20_Row at h
  split at h
  · rename_i a1
    cases h
    obtain ⟨x, hx⟩ := Option.isSome_iff_exists.1 hp
    simp only [hx, Option.getD_some]
    refine hand0 rfl rfl (fun w0 M ε0 hX => ?_)
    refine rCount (fun hε => ?_)
    have hT : ref20_Row N a1 = some x := hx; clear hx hp; unfold ref20_Row at hT
    refine rSeq ?_
    refine zReg md0 hX rfl rfl rfl ?_
    refine rThen ?_
    refine rSeq ?_
    refine rSeq ?_
    let x1 := (bif (bif (decide (a1 < (-2))) then true else (decide ((2 : Int) < a1))) then true else (decide (a1 = 0)))
    refine zReg md0 hX rfl rfl rfl ?_
    refine rThen ?_
    refine zCond rfl rfl (fun hc => ?_) (fun hc => ?_)
    · replace hT := sT hc hT
      refine rSeq ?_
      refine zReg md0 hX rfl rfl rfl ?_
      refine rThen ?_
      refine rRet ?_
      refine rThenRet ?_
      have hy := Option.some.inj hT; subst hy
      exact zEnd0 hX rfl
    · replace hT := sF hc hT
      refine rSkip ?_
      refine rThen ?_
      refine rSeq ?_
      refine rRegSL ?_
      replace hT := sIf hT; obtain ⟨⟨o1, o2, o3⟩, hT⟩ := hT
      refine rSLCut md0 4 hX rfl rfl rfl (by (repeat' first | exact True.intro | with_reducible assumption | (with_reducible apply And.intro) | intro _) <;> first | assumption | exact rfl | omega | exact Nat.le_of_ble_eq_true rfl | exact selF (by assumption) | exact selT (by assumption) | exact And.intro rfl rfl | exact And.intro (by assumption) rfl | exact And.intro (by omega) rfl | (simp only [inK] at *; omega) | (simp_all [sel] <;> fail) | fail) ?_
      refine rLstL 0 .str [⟨#[48, 49]⟩, ⟨#[48, 48]⟩, ⟨#[]⟩, ⟨#[49, 48]⟩, ⟨#[49, 49]⟩] rfl rfl rfl ?_
      replace hT := sIf hT; obtain ⟨o1, hT⟩ := hT
      let x2 := (([⟨#[48, 49]⟩, ⟨#[48, 48]⟩, ⟨#[]⟩, ⟨#[49, 48]⟩, ⟨#[49, 49]⟩] : List ByteArray).getD (a1 + 2).toNat ⟨#[]⟩)
      refine rSLDone md0 hX rfl rfl rfl (by (repeat' first | exact True.intro | with_reducible assumption | (with_reducible apply And.intro) | intro _) <;> first | assumption | exact rfl | omega | exact Nat.le_of_ble_eq_true rfl | exact selF (by assumption) | exact selT (by assumption) | exact And.intro rfl rfl | exact And.intro (by assumption) rfl | exact And.intro (by omega) rfl | (simp only [inK] at *; omega) | (simp_all [sel] <;> fail) | fail) ?_
      refine rThen ?_
      refine rRet ?_
      have hy := Option.some.inj hT; subst hy
      exact zEnd0 hX rfl
  · cases h
def ref21_Intra (N : Nat) (a1 : Int) : Option Bool :=
  some (bif (decide (a1 = 3)) then true else (decide (a1 = 4)))
def sp_ref21_Intra (N : Nat) : X.Spec := fun args lk => match args with
  | [.v (.c (.int .i64 a1))] => some ⟨(ref21_Intra N a1).isSome = true, .v (.c (.bool ((ref21_Intra N a1).getD default))), [], []⟩
  | _ => none
set_option maxRecDepth 100000 in
set_option maxHeartbeats 1000000 in
theorem ok_ref21_Intra (N : Nat) : FnOK Tryd.prog gt0 38 (sp_ref21_Intra N) := by
  refine fnOK_handed Tryd.func38 rfl (by kernel_rfl) tt_ok (ktNil) ?_
  intro args lk r h hp
  unfold sp_ref21_Intra at h
  split at h
  · rename_i a1
    cases h
    obtain ⟨x, hx⟩ := Option.isSome_iff_exists.1 hp
    simp only [hx, Option.getD_some]
    refine hand0 rfl rfl (fun w0 M ε0 hX => ?_)
    refine rCount (fun hε => ?_)
    have hT : ref21_Intra N a1 = some x := hx; clear hx hp; unfold ref21_Intra at hT
    refine rSeq ?_
    refine zReg md0 hX rfl rfl rfl ?_
    refine rThen ?_
    refine rSeq ?_
    refine zReg md0 hX rfl rfl rfl ?_
    refine rThen ?_
    refine rRet ?_
    have hy := Option.some.inj hT; subst hy
    exact zEnd0 hX rfl
  · cases h
def ref15_from (N : Nat) (a1 : Bool) : Option Int :=
  bif a1 then
    some 1
  else
    some 0
def sp_ref15_from (N : Nat) : X.Spec := fun args lk => match args with
  | [.v (.c (.bool a1))] => some ⟨(ref15_from N a1).isSome = true, .v (.c (.int .i64 ((ref15_from N a1).getD default))), [], []⟩
  | _ => none
set_option maxRecDepth 100000 in
set_option maxHeartbeats 1000000 in
theorem ok_ref15_from (N : Nat) : FnOK Tryd.prog gt0 116 (sp_ref15_from N) := by
  refine fnOK_handed Tryd.func116 rfl (by kernel_rfl) tt_ok (ktNil) ?_
  intro args lk r h hp
  unfold sp_ref15_from at h
  split at h
  · rename_i a1
    cases h
    obtain ⟨x, hx⟩ := Option.isSome_iff_exists.1 hp
    simp only [hx, Option.getD_some]
    refine hand0 rfl rfl (fun w0 M ε0 hX => ?_)
    refine rCount (fun hε => ?_)
    have hT : ref15_from N a1 = some x := hx; clear hx hp; unfold ref15_from at hT
    refine rSeq ?_
    refine zReg md0 hX rfl rfl rfl ?_
    refine rThen ?_
    refine rSeq ?_
    refine rSeq ?_
    refine zReg md0 hX rfl rfl rfl ?_
    refine rThen ?_
    refine zCond rfl rfl (fun hc => ?_) (fun hc => ?_)
    · replace hT := sT hc hT
      refine rSeq ?_
      refine zReg md0 hX rfl rfl rfl ?_
      refine rThen ?_
      refine rRet ?_
      refine rThenRet ?_
      have hy := Option.some.inj hT; subst hy
      exact zEnd0 hX rfl
    · replace hT := sF hc hT
      refine rSkip ?_
      refine rThen ?_
      refine rSeq ?_
      refine zReg md0 hX rfl rfl rfl ?_
      refine rThen ?_
      refine rRet ?_
      have hy := Option.some.inj hT; subst hy
      exact zEnd0 hX rfl
  · cases h
def ref09_Right (N : Nat) (a1 : Bool) (a2 : Int) (a3 : Int) : Option Bool :=
  let x1 := (bif (bif (bif (bif (decide ((0 : Int) ≤ a2)) then (decide (a2 ≤ 63)) else false) then (decide (((-127) : Int) ≤ a3)) else false) then (decide (a3 ≤ 127)) else false) then (decide (a3 ≠ 0)) else false)
  some x1
def sp_ref09_Right (N : Nat) : X.Spec := fun args lk => match args with
  | [.v (.agg [.cs [.bool a1, .int .i64 a2, .int .i64 a3]])] => some ⟨(ref09_Right N a1 a2 a3).isSome = true, .v (.c (.bool ((ref09_Right N a1 a2 a3).getD default))), [], []⟩
  | _ => none
set_option maxRecDepth 100000 in
set_option maxHeartbeats 1000000 in
theorem ok_ref09_Right (N : Nat) : FnOK Tryd.prog gt0 127 (sp_ref09_Right N) := by
  refine fnOK_handed Tryd.func127 rfl (by kernel_rfl) tt_ok (ktNil) ?_
  intro args lk r h hp
  unfold sp_ref09_Right at h
  split at h
  · rename_i a1 a2 a3
    cases h
    obtain ⟨x, hx⟩ := Option.isSome_iff_exists.1 hp
    simp only [hx, Option.getD_some]
    refine hand0 rfl rfl (fun w0 M ε0 hX => ?_)
    refine rCount (fun hε => ?_)
    have hT : ref09_Right N a1 a2 a3 = some x := hx; clear hx hp; unfold ref09_Right at hT
    refine rSeq ?_
    refine zReg md0 hX rfl rfl rfl ?_
    refine rThen ?_
    refine rSeq ?_
    let x1 := (bif (bif (bif (bif (decide ((0 : Int) ≤ a2)) then (decide (a2 ≤ 63)) else false) then (decide (((-127) : Int) ≤ a3)) else false) then (decide (a3 ≤ 127)) else false) then (decide (a3 ≠ 0)) else false)
    refine zReg md0 hX rfl rfl rfl ?_
    refine rThen ?_
    refine rRet ?_
    have hy := Option.some.inj hT; subst hy
    exact zEnd0 hX rfl
  · cases h
def ref10_Levels_b1 (N : Nat) (a1 : (List (Bool × (Int × Int)))) (s1 : (Int × Int × (List Int))) : Option ((Int × Int × (List Int)) ⊕ (Unit ⊕ (List Int))) :=
  bif (decide (s1.2.1 < (a1.length : Int))) then
    let c1 := (ref09_Right N (a1.getD (s1.2.1).toNat (false, ((0 : Int), (0 : Int)))).1 (a1.getD (s1.2.1).toNat (false, ((0 : Int), (0 : Int)))).2.1 (a1.getD (s1.2.1).toNat (false, ((0 : Int), (0 : Int)))).2.2)
    let x2 := (bif (!(c1.getD default)) then true else (!((a1.getD (s1.2.1).toNat (false, ((0 : Int), (0 : Int)))).1 == (decide ((s1.2.1 + 1) = (a1.length : Int))))))
    if (0 : Int) ≤ s1.2.1 ∧ s1.2.1 < (a1.length : Int) ∧ c1.isSome = true ∧ ((!(!(c1.getD default))) = true → (0 : Int) ≤ s1.2.1) ∧ ((!(!(c1.getD default))) = true → s1.2.1 < (a1.length : Int)) ∧ ((!(!(c1.getD default))) = true → inK .i64 (s1.2.1 + 1)) then
      bif x2 then
        some (.inr (Sum.inl ()))
      else
        if (0 : Int) ≤ s1.2.1 ∧ s1.2.1 < (a1.length : Int) ∧ inK .i64 (s1.1 + (a1.getD (s1.2.1).toNat (false, ((0 : Int), (0 : Int)))).2.1) ∧ inK .i64 ((s1.1 + (a1.getD (s1.2.1).toNat (false, ((0 : Int), (0 : Int)))).2.1) + 1) then
          let x3 := (decide ((63 : Int) < ((s1.1 + (a1.getD (s1.2.1).toNat (false, ((0 : Int), (0 : Int)))).2.1) + 1)))
          bif x3 then
            some (.inr (Sum.inl ()))
          else
            let x4 := (s1.2.2.set ((s1.1 + (a1.getD (s1.2.1).toNat (false, ((0 : Int), (0 : Int)))).2.1) + 1).toNat (a1.getD (s1.2.1).toNat (false, ((0 : Int), (0 : Int)))).2.2)
            if (0 : Int) ≤ s1.2.1 ∧ s1.2.1 < (a1.length : Int) ∧ (0 : Int) ≤ ((s1.1 + (a1.getD (s1.2.1).toNat (false, ((0 : Int), (0 : Int)))).2.1) + 1) ∧ ((s1.1 + (a1.getD (s1.2.1).toNat (false, ((0 : Int), (0 : Int)))).2.1) + 1) < 64 ∧ ((s1.1 + (a1.getD (s1.2.1).toNat (false, ((0 : Int), (0 : Int)))).2.1) + 1).toNat < 64 then
              if inK .i64 (s1.2.1 + 1) then
                some (.inl (((s1.1 + (a1.getD (s1.2.1).toNat (false, ((0 : Int), (0 : Int)))).2.1) + 1), (s1.2.1 + 1), x4))
              else none
            else none
        else none
    else none
  else
    some (.inr (Sum.inr s1.2.2))
def ref10_Levels (N : Nat) (a1 : (List (Bool × (Int × Int)))) (a2 : Int) : Option ((List Int) × Int) :=
  bif (bif (decide (a2 < 0)) then true else (decide ((1 : Int) < a2))) then
    some ((List.replicate 64 0), 1)
  else
    if inK .i64 (a2 - 1) then
      (iter (ref10_Levels_b1 N a1) N ((a2 - 1), 0, (List.replicate 64 0))).bind fun w1 =>
        (Sum.elim (fun v1 =>
          some ((List.replicate 64 0), 7)
        )
          (fun v2 =>
            some (v2, 0)
          )
        ) w1
    else none
def sp_ref10_Levels (N : Nat) : X.Spec := fun args lk => match args with
  | [.v (.c (.fz (.pair .bool (.pair (.int .i64) (.int .i64))) a1)), .v (.c (.int .i64 a2))] => some ⟨(ref10_Levels N a1 a2).isSome = true, .tup [.agg [.ints 64 .i64 ((ref10_Levels N a1 a2).getD default).1], .c (.int .i64 ((ref10_Levels N a1 a2).getD default).2)], [], []⟩
  | _ => none
set_option maxRecDepth 100000 in
set_option maxHeartbeats 1000000 in
theorem ok_ref10_Levels (N : Nat) : FnOK Tryd.prog gt0 79 (sp_ref10_Levels N) := by
  refine fnOK_handed Tryd.func79 rfl (by kernel_rfl) tt_ok (ktCons (ok_ref09_Right N) (ktNil)) ?_
  intro args lk r h hp
  unfold sp_ref10_Levels at h
  split at h
  · rename_i a1 a2
    change (List (Bool × (Int × Int))) at a1
    cases h
    obtain ⟨x, hx⟩ := Option.isSome_iff_exists.1 hp
    simp only [hx, Option.getD_some]
    refine hand0 rfl rfl (fun w0 M ε0 hX => ?_)
    refine rCount (fun hε => ?_)
    have hT : ref10_Levels N a1 a2 = some x := hx; clear hx hp; unfold ref10_Levels at hT
    refine rSeq ?_
    refine zReg md0 hX rfl rfl rfl ?_
    refine rThen ?_
    refine rSeq ?_
    refine zReg md0 hX rfl rfl rfl ?_
    refine rThen ?_
    refine rSeq ?_
    refine rSeq ?_
    refine zReg md0 hX rfl rfl rfl ?_
    refine rThen ?_
    refine zCond rfl rfl (fun hc => ?_) (fun hc => ?_)
    · replace hT := sT hc hT
      refine rSeq ?_
      refine zReg md0 hX rfl rfl rfl ?_
      refine rThen ?_
      refine rRet ?_
      refine rThenRet ?_
      have hy := Option.some.inj hT; subst hy
      exact zEnd0 hX rfl
    · replace hT := sF hc hT
      refine rSkip ?_
      refine rThen ?_
      refine rSeq ?_
      replace hT := sIf hT; obtain ⟨o1, hT⟩ := hT
      refine zReg md0 hX rfl rfl rfl ?_
      refine rThen ?_
      refine rSeq ?_
      refine rSeq ?_
      refine zReg md0 hX rfl rfl rfl ?_
      refine rThen ?_
      refine rBlock ?_
      replace hT := sBind hT; obtain ⟨w1, hl, hT⟩ := hT
      refine rJoinA (fun v1 => (Sum.inl v1) = w1) (fun v1 => ⟨[(4, .v (.c (.ptr 0 0 0 0 0 0))), (5, .v (.c (.int .i64 7)))], [(0, .mem true 22 none (.flat [.ints 64 .i64 (List.replicate 64 0)]))], 2⟩) .ret (fun v1 hv => ?_) (fun hxs10 => ?_)
      · subst hv; clear hl; replace hT := (sElimL hT)
        refine rInRet ?_
        refine rThenRet ?_
        have hy := Option.some.inj hT; subst hy
        exact zEnd0 hX rfl
      refine rJoinA (fun v2 => (Sum.inr v2) = w1) (fun v2 => ⟨[(4, .v (.c (.ptr 0 0 0 0 0 0))), (5, .v (.c (.int .i64 0))), (6, .v (.c (.ptr 1 0 0 0 0 0)))], [(0, .mem true 22 none (.flat [.ints 64 .i64 (List.replicate 64 0)])), (1, .mem true 22 none (.flat [.ints 64 .i64 v2]))], 2⟩) (.exit 0) (fun v2 hv => ?_) (fun hxs11 => ?_)
      · subst hv; clear hl; replace hT := (sElimR hT)
        refine rInHit ?_
        refine rThen ?_
        refine rSeq ?_
        refine zReg md0 hX rfl rfl rfl ?_
        refine rThen ?_
        refine rRet ?_
        have hy := Option.some.inj hT; subst hy
        exact zEnd0 hX rfl
      refine rLoopM (ref10_Levels_b1 N a1) (fun s1 => ⟨[(0, .v (.c (.fz (.pair .bool (.pair (.int .i64) (.int .i64))) a1))), (4, .v (.c (.ptr 0 0 0 0 0 0))), (5, .v (.c (.int .i64 0))), (6, .v (.c (.ptr 1 0 0 0 0 0))), (7, .v (.c (.int .i64 s1.1))), (8, .v (.c (.int .i64 s1.2.1)))], [(0, .mem true 22 none (.flat [.ints 64 .i64 (List.replicate 64 0)])), (1, .mem true 22 none (.flat [.ints 64 .i64 s1.2.2]))], 2⟩) hl (To.mk' [] 0 hε rfl (by repeat' first | exact True.intro | exact rfl | apply And.intro) (by repeat' first | exact True.intro | exact rfl | apply And.intro)) (fun s1 zs1 NNs1 hz hnexts1 houts1 => ?_)
      clear hl hT
      have hT := hz; clear hz
      refine rSeq ?_
      refine rSeq ?_
      refine zReg md0 hX rfl rfl rfl ?_
      refine rThen ?_
      refine zCond rfl rfl (fun hc => ?_) (fun hc => ?_)
      · replace hT := sT hc hT
        refine rSkip ?_
        refine rThen ?_
        refine rSeq ?_
        refine rBlock ?_
        refine rSeq ?_
        refine rSeq ?_
        let c1 := (ref09_Right N (a1.getD (s1.2.1).toNat (false, ((0 : Int), (0 : Int)))).1 (a1.getD (s1.2.1).toNat (false, ((0 : Int), (0 : Int)))).2.1 (a1.getD (s1.2.1).toNat (false, ((0 : Int), (0 : Int)))).2.2)
        let x2 := (bif (!(c1.getD default)) then true else (!((a1.getD (s1.2.1).toNat (false, ((0 : Int), (0 : Int)))).1 == (decide ((s1.2.1 + 1) = (a1.length : Int))))))
        replace hT := sIf hT; obtain ⟨⟨o1, o2, o3, o4, o5, o6⟩, hT⟩ := hT
        refine rRegC md0 hX rfl rfl rfl (by (repeat' first | exact True.intro | with_reducible assumption | (with_reducible apply And.intro) | intro _) <;> first | assumption | exact o4 (by assumption) | exact o5 (by assumption) | exact o6 (by assumption) | exact rfl | omega | exact Nat.le_of_ble_eq_true rfl | exact selF (by assumption) | exact selT (by assumption) | exact And.intro rfl rfl | exact And.intro (by assumption) rfl | exact And.intro (by omega) rfl | (simp only [inK] at *; omega) | (simp_all [sel] <;> fail) | fail) ?_
        refine rThen ?_
        refine zCond rfl rfl (fun hc => ?_) (fun hc => ?_)
        · replace hT := sT hc hT
          refine rSeq ?_
          refine zReg md0 hX rfl rfl rfl ?_
          refine rThen ?_
          refine rRet ?_
          refine rThenRet ?_
          refine rInRet ?_
          refine rThenRet ?_
          refine rThenRet ?_
          exact zTo [] 0 hε (hxs10 _ (houts1 _ (Option.some.inj hT).symm))
        · replace hT := sF hc hT
          refine rSkip ?_
          refine rThen ?_
          refine rSeq ?_
          replace hT := sIf hT; obtain ⟨⟨o1, o2, o3, o4⟩, hT⟩ := hT
          refine zReg md0 hX rfl rfl rfl ?_
          refine rThen ?_
          refine rSeq ?_
          refine rSeq ?_
          let x3 := (decide ((63 : Int) < ((s1.1 + (a1.getD (s1.2.1).toNat (false, ((0 : Int), (0 : Int)))).2.1) + 1)))
          refine zReg md0 hX rfl rfl rfl ?_
          refine rThen ?_
          refine zCond rfl rfl (fun hc => ?_) (fun hc => ?_)
          · replace hT := sT hc hT
            refine rSeq ?_
            refine zReg md0 hX rfl rfl rfl ?_
            refine rThen ?_
            refine rRet ?_
            refine rThenRet ?_
            refine rInRet ?_
            refine rThenRet ?_
            refine rThenRet ?_
            exact zTo [] 0 hε (hxs10 _ (houts1 _ (Option.some.inj hT).symm))
          · replace hT := sF hc hT
            refine rSkip ?_
            refine rThen ?_
            let x4 := (s1.2.2.set ((s1.1 + (a1.getD (s1.2.1).toNat (false, ((0 : Int), (0 : Int)))).2.1) + 1).toNat (a1.getD (s1.2.1).toNat (false, ((0 : Int), (0 : Int)))).2.2)
            replace hT := sIf hT; obtain ⟨⟨o1, o2, o3, o4, o5⟩, hT⟩ := hT
            refine zReg md0 hX rfl rfl rfl ?_
            refine rInNormal ?_
            refine rThen ?_
            replace hT := sIf hT; obtain ⟨o1, hT⟩ := hT
            refine zReg md0 hX rfl rfl rfl ?_
            exact hnexts1 _ (Option.some.inj hT).symm _ (To.mk' [] 0 hε rfl (by repeat' first | exact True.intro | exact rfl | apply And.intro) (by repeat' first | exact True.intro | exact rfl | apply And.intro))
      · replace hT := sF hc hT
        refine rExit ?_
        refine rThenExit ?_
        refine rThenExit ?_
        exact zTo [] 0 hε (hxs11 _ (houts1 _ (Option.some.inj hT).symm))
  · cases h
def ref15_May (N : Nat) (a1 : Bool) (a2 : Int) (a3 : (List (Bool × (Int × Int)))) : Option Bool :=
  let c1 := (ref15_from N a1)
  let c2 := (ref10_Levels N a3 (c1.getD default))
  if c1.isSome = true ∧ c2.isSome = true then
    bif a1 then
      let x1 := (bif (bif (decide ((c2.getD default).2 = 0)) then (decide ((1 : Int) ≤ a2)) else false) then (decide (a2 ≤ 254)) else false)
      some x1
    else
      some (bif (decide ((c2.getD default).2 = 0)) then (decide (a2 = 0)) else false)
  else none
def sp_ref15_May (N : Nat) : X.Spec := fun args lk => match args with
  | [.v (.c (.bool a1)), .v (.c (.int .i64 a2)), .v (.c (.fz (.pair .bool (.pair (.int .i64) (.int .i64))) a3))] => some ⟨(ref15_May N a1 a2 a3).isSome = true, .v (.c (.bool ((ref15_May N a1 a2 a3).getD default))), [], []⟩
  | _ => none
set_option maxRecDepth 100000 in
set_option maxHeartbeats 1000000 in
theorem ok_ref15_May (N : Nat) : FnOK Tryd.prog gt0 64 (sp_ref15_May N) := by
  refine fnOK_handed Tryd.func64 rfl (by kernel_rfl) tt_ok (ktCons (ok_ref10_Levels N) (ktCons (ok_ref15_from N) (ktNil))) ?_
  intro args lk r h hp
  unfold sp_ref15_May at h
  split at h
  · rename_i a1 a2 a3
    change (List (Bool × (Int × Int))) at a3
    cases h
    obtain ⟨x, hx⟩ := Option.isSome_iff_exists.1 hp
    simp only [hx, Option.getD_some]
    refine hand0 rfl rfl (fun w0 M ε0 hX => ?_)
    refine rCount (fun hε => ?_)
    have hT : ref15_May N a1 a2 a3 = some x := hx; clear hx hp; unfold ref15_May at hT
    refine rSeq ?_
    refine zReg md0 hX rfl rfl rfl ?_
    refine rThen ?_
    refine rSeq ?_
    let c1 := (ref15_from N a1)
    let c2 := (ref10_Levels N a3 (c1.getD default))
    replace hT := sIf hT; obtain ⟨⟨o1, o2⟩, hT⟩ := hT
    refine zReg md0 hX rfl rfl rfl ?_
    refine rThen ?_
    refine rSeq ?_
    refine rSeq ?_
    refine zReg md0 hX rfl rfl rfl ?_
    refine rThen ?_
    refine zCond rfl rfl (fun hc => ?_) (fun hc => ?_)
    · replace hT := sT hc hT
      refine rSeq ?_
      let x1 := (bif (bif (decide ((c2.getD default).2 = 0)) then (decide ((1 : Int) ≤ a2)) else false) then (decide (a2 ≤ 254)) else false)
      refine zReg md0 hX rfl rfl rfl ?_
      refine rThen ?_
      refine rRet ?_
      refine rThenRet ?_
      have hy := Option.some.inj hT; subst hy
      exact zEnd0 hX rfl
    · replace hT := sF hc hT
      refine rSkip ?_
      refine rThen ?_
      refine rSeq ?_
      refine zReg md0 hX rfl rfl rfl ?_
      refine rThen ?_
      refine rRet ?_
      have hy := Option.some.inj hT; subst hy
      exact zEnd0 hX rfl
  · cases h
def ref22_Right_b1 (N : Nat) (a4 : Int) (a7 : (List Int)) (a8 : (List (List (Bool × (Int × Int))))) (s2 : Int) : Option (Int ⊕ (Unit ⊕ Unit)) :=
  bif (decide (s2 < 6)) then
    let c2 := (ref21_Intra N a4)
    let c3 := (ref15_May N (c2.getD default) (a7.getD (s2).toNat 0) (a8.getD (s2).toNat []))
    if c2.isSome = true ∧ (0 : Int) ≤ s2 ∧ s2 < 6 ∧ (s2).toNat < 6 ∧ c3.isSome = true then
      bif (!(c3.getD default)) then
        some (.inr (Sum.inl ()))
      else
        if inK .i64 (s2 + 1) then
          some (.inl (s2 + 1))
        else none
    else none
  else
    some (.inr (Sum.inr ()))
def ref22_Right_b2 (N : Nat) (a4 : Int) (a6 : (List Int)) (s1 : Int) : Option (Int ⊕ (Unit ⊕ Unit)) :=
  bif (decide (s1 < 2)) then
    let x8 := (bif (bif (decide ((a6.getD (s1).toNat 0) < (-32))) then true else (decide ((31 : Int) < (a6.getD (s1).toNat 0)))) then true else (bif (decide ((2 : Int) < a4)) then (decide ((a6.getD (s1).toNat 0) ≠ 0)) else false))
    if (0 : Int) ≤ s1 ∧ s1 < 2 ∧ (s1).toNat < 2 ∧ ((!(decide ((a6.getD (s1).toNat 0) < (-32)))) = true → (0 : Int) ≤ s1) ∧ ((!(decide ((a6.getD (s1).toNat 0) < (-32)))) = true → s1 < 2) ∧ ((!(decide ((a6.getD (s1).toNat 0) < (-32)))) = true → (s1).toNat < 2) ∧ (((!(bif (decide ((a6.getD (s1).toNat 0) < (-32))) then true else (decide ((31 : Int) < (a6.getD (s1).toNat 0))))) && (decide ((2 : Int) < a4))) = true → (0 : Int) ≤ s1) ∧ (((!(bif (decide ((a6.getD (s1).toNat 0) < (-32))) then true else (decide ((31 : Int) < (a6.getD (s1).toNat 0))))) && (decide ((2 : Int) < a4))) = true → s1 < 2) ∧ (((!(bif (decide ((a6.getD (s1).toNat 0) < (-32))) then true else (decide ((31 : Int) < (a6.getD (s1).toNat 0))))) && (decide ((2 : Int) < a4))) = true → (s1).toNat < 2) ∧ ((!(bif (decide ((a6.getD (s1).toNat 0) < (-32))) then true else (decide ((31 : Int) < (a6.getD (s1).toNat 0))))) = true → ((decide ((2 : Int) < a4)) = true → ((!(bif (decide ((a6.getD (s1).toNat 0) < (-32))) then true else (decide ((31 : Int) < (a6.getD (s1).toNat 0))))) && (decide ((2 : Int) < a4))) = true)) then
      bif x8 then
        some (.inr (Sum.inl ()))
      else
        if inK .i64 (s1 + 1) then
          some (.inl (s1 + 1))
        else none
    else none
  else
    some (.inr (Sum.inr ()))
def ref22_Right (N : Nat) (a1 : Bool) (a2 : Int) (a3 : Bool) (a4 : Int) (a5 : Int) (a6 : (List Int)) (a7 : (List Int)) (a8 : (List (List (Bool × (Int × Int))))) : Option Bool :=
  bif (bif (decide (a2 < 0)) then true else (decide ((64 : Int) < a2))) then
    some false
  else
    bif a3 then
      let c1 := (ref22_zero N a2 a3 a4 a5 a6 a7 a8)
      if (a1 = true → c1.isSome = true) then
        some (bif a1 then (c1.getD default) else false)
      else none
    else
      let x4 := (bif (bif (bif (decide (a4 < 0)) then true else (decide ((4 : Int) < a4))) then true else (decide (a4 = 2))) then true else (bif (decide (a4 < 2)) then (!a1) else false))
      if ((!(bif (bif (decide (a4 < 0)) then true else (decide ((4 : Int) < a4))) then true else (decide (a4 = 2)))) = true → ((decide (a4 < 2)) = true → ((!(bif (bif (decide (a4 < 0)) then true else (decide ((4 : Int) < a4))) then true else (decide (a4 = 2)))) && (decide (a4 < 2))) = true)) then
        bif x4 then
          some false
        else
          joinK (fun (v1 : Unit) =>
            (iter (ref22_Right_b2 N a4 a6) N 0).bind fun w1 =>
              (Sum.elim (fun v2 =>
                some false
              )
                (fun v3 =>
                  (iter (ref22_Right_b1 N a4 a7 a8) N 0).bind fun w2 =>
                    (Sum.elim (fun v4 =>
                      some false
                    )
                      (fun v5 =>
                        some true
                      )
                    ) w2
                )
              ) w1
          ) fun k1 =>
            bif (bif (decide (a4 = 1)) then true else (decide (a4 = 4))) then
              let c4 := (ref20_Row N a5)
              if c4.isSome = true then
                bif (decide (ByteArray.toList (c4.getD default) = ByteArray.toList ⟨#[]⟩)) then
                  some false
                else
                  k1 ()
              else none
            else
              bif (decide (a5 ≠ 0)) then
                some false
              else
                k1 ()
      else none
def sp_ref22_Right (N : Nat) : X.Spec := fun args lk => match args with
  | [.v (.c (.bool a1)), .v (.agg [.cs [.int .i64 a2, .bool a3, .int .i64 a4, .int .i64 a5], .ints 2 .i64 a6, .ints 6 .i64 a7, .fzs 6 (.pair .bool (.pair (.int .i64) (.int .i64))) a8])] => some ⟨(ref22_Right N a1 a2 a3 a4 a5 a6 a7 a8).isSome = true, .v (.c (.bool ((ref22_Right N a1 a2 a3 a4 a5 a6 a7 a8).getD default))), [], []⟩
  | _ => none
set_option maxRecDepth 100000 in
set_option maxHeartbeats 1000000 in
theorem ok_ref22_Right (N : Nat) : FnOK Tryd.prog gt0 21 (sp_ref22_Right N) := by
  refine fnOK_handed Tryd.func21 rfl (by kernel_rfl) tt_ok (ktCons (ok_ref20_Row N) (ktCons (ok_ref15_May N) (ktCons (ok_ref21_Intra N) (ktCons (ok_ref22_zero N) (ktNil))))) ?_
  intro args lk r h hp
  unfold sp_ref22_Right at h
  split at h
  · rename_i a1 a2 a3 a4 a5 a6 a7 a8
    change (List Int) at a6
    change (List Int) at a7
    change (List (List (Bool × (Int × Int)))) at a8
    cases h
    obtain ⟨x, hx⟩ := Option.isSome_iff_exists.1 hp
    simp only [hx, Option.getD_some]
    refine hand0 rfl rfl (fun w0 M ε0 hX => ?_)
    refine rCount (fun hε => ?_)
    have hT : ref22_Right N a1 a2 a3 a4 a5 a6 a7 a8 = some x := hx; clear hx hp; unfold ref22_Right at hT
    refine rSeq ?_
    refine zReg md0 hX rfl rfl rfl ?_
    refine rThen ?_
    refine rSeq ?_
    refine rSeq ?_
    refine zReg md0 hX rfl rfl rfl ?_
    refine rThen ?_
    refine zCond rfl rfl (fun hc => ?_) (fun hc => ?_)
    · replace hT := sT hc hT
      refine rSeq ?_
      refine zReg md0 hX rfl rfl rfl ?_
      refine rThen ?_
      refine rRet ?_
      refine rThenRet ?_
      have hy := Option.some.inj hT; subst hy
      exact zEnd0 hX rfl
    · replace hT := sF hc hT
      refine rSkip ?_
      refine rThen ?_
      refine rSeq ?_
      refine rSeq ?_
      refine zReg md0 hX rfl rfl rfl ?_
      refine rThen ?_
      refine zCond rfl rfl (fun hc => ?_) (fun hc => ?_)
      · replace hT := sT hc hT
        refine rSeq ?_
        let c1 := (ref22_zero N a2 a3 a4 a5 a6 a7 a8)
        replace hT := sIf hT; obtain ⟨o1, hT⟩ := hT
        refine rRegC md0 hX rfl rfl rfl (by (repeat' first | exact True.intro | with_reducible assumption | (with_reducible apply And.intro) | intro _) <;> first | assumption | exact o1 (by assumption) | exact rfl | omega | exact Nat.le_of_ble_eq_true rfl | exact selF (by assumption) | exact selT (by assumption) | exact And.intro rfl rfl | exact And.intro (by assumption) rfl | exact And.intro (by omega) rfl | (simp only [inK] at *; omega) | (simp_all [sel] <;> fail) | fail) ?_
        refine rThen ?_
        refine rRet ?_
        refine rThenRet ?_
        have hy := Option.some.inj hT; subst hy
        exact zEnd0 hX rfl
      · replace hT := sF hc hT
        refine rSkip ?_
        refine rThen ?_
        refine rSeq ?_
        refine rSeq ?_
        let x4 := (bif (bif (bif (decide (a4 < 0)) then true else (decide ((4 : Int) < a4))) then true else (decide (a4 = 2))) then true else (bif (decide (a4 < 2)) then (!a1) else false))
        replace hT := sIf hT; obtain ⟨o1, hT⟩ := hT
        refine rRegC md0 hX rfl rfl rfl (by (repeat' first | exact True.intro | with_reducible assumption | (with_reducible apply And.intro) | intro _) <;> first | assumption | exact o1 (by assumption) | exact rfl | omega | exact Nat.le_of_ble_eq_true rfl | exact selF (by assumption) | exact selT (by assumption) | exact And.intro rfl rfl | exact And.intro (by assumption) rfl | exact And.intro (by omega) rfl | (simp only [inK] at *; omega) | (simp_all [sel] <;> fail) | fail) ?_
        refine rThen ?_
        refine zCond rfl rfl (fun hc => ?_) (fun hc => ?_)
        · replace hT := sT hc hT
          refine rSeq ?_
          refine zReg md0 hX rfl rfl rfl ?_
          refine rThen ?_
          refine rRet ?_
          refine rThenRet ?_
          have hy := Option.some.inj hT; subst hy
          exact zEnd0 hX rfl
        · replace hT := sF hc hT
          refine rSkip ?_
          refine rThen ?_
          refine rSeq ?_
          refine rSeq ?_
          refine zReg md0 hX rfl rfl rfl ?_
          refine rThen ?_
          refine rJoinK hT (fun v1 => ⟨[(3, .v (.c (.ptr 0 0 0 0 0 0))), (4, .v (.c (.bool false)))], [(0, .mem true 37 none (.flat [.cs [.int .i64 a2, .bool a3, .int .i64 a4, .int .i64 a5], .ints 2 .i64 a6, .ints 6 .i64 a7, .fzs 6 (.pair .bool (.pair (.int .i64) (.int .i64))) a8]))], 1⟩) (fun v1 hT => ?_) (fun k1 hjk1 hT => ?_)
          · skip
            refine rThen ?_
            refine rSeq ?_
            refine rSeq ?_
            refine zReg md0 hX rfl rfl rfl ?_
            refine rThen ?_
            refine rBlock ?_
            replace hT := sBind hT; obtain ⟨w1, hl, hT⟩ := hT
            refine rJoinA (fun v2 => (Sum.inl v2) = w1) (fun v2 => ⟨[(4, .v (.c (.bool false)))], [], 1⟩) .ret (fun v2 hv => ?_) (fun hxs10 => ?_)
            · subst hv; clear hl; replace hT := (sElimL hT)
              refine rInRet ?_
              refine rThenRet ?_
              have hy := Option.some.inj hT; subst hy
              exact zEnd0 hX rfl
            refine rJoinA (fun v3 => (Sum.inr v3) = w1) (fun v3 => ⟨[(3, .v (.c (.ptr 0 0 0 0 0 0))), (4, .v (.c (.bool false)))], [(0, .mem true 37 none (.flat [.cs [.int .i64 a2, .bool a3, .int .i64 a4, .int .i64 a5], .ints 2 .i64 a6, .ints 6 .i64 a7, .fzs 6 (.pair .bool (.pair (.int .i64) (.int .i64))) a8]))], 1⟩) (.exit 0) (fun v3 hv => ?_) (fun hxs11 => ?_)
            · subst hv; clear hl; replace hT := (sElimR hT)
              refine rInHit ?_
              refine rThen ?_
              refine rSeq ?_
              refine rSeq ?_
              refine zReg md0 hX rfl rfl rfl ?_
              refine rThen ?_
              refine rBlock ?_
              replace hT := sBind hT; obtain ⟨w2, hl, hT⟩ := hT
              refine rJoinA (fun v4 => (Sum.inl v4) = w2) (fun v4 => ⟨[(4, .v (.c (.bool false)))], [], 1⟩) .ret (fun v4 hv => ?_) (fun hxs20 => ?_)
              · subst hv; clear hl; replace hT := (sElimL hT)
                refine rInRet ?_
                refine rThenRet ?_
                have hy := Option.some.inj hT; subst hy
                exact zEnd0 hX rfl
              refine rJoinA (fun v5 => (Sum.inr v5) = w2) (fun v5 => ⟨[(4, .v (.c (.bool false)))], [], 1⟩) (.exit 2) (fun v5 hv => ?_) (fun hxs21 => ?_)
              · subst hv; clear hl; replace hT := (sElimR hT)
                refine rInHit ?_
                refine rThen ?_
                refine rSeq ?_
                refine zReg md0 hX rfl rfl rfl ?_
                refine rThen ?_
                refine rRet ?_
                have hy := Option.some.inj hT; subst hy
                exact zEnd0 hX rfl
              refine rLoopM (ref22_Right_b1 N a4 a7 a8) (fun s2 => ⟨[(3, .v (.c (.ptr 0 0 0 0 0 0))), (4, .v (.c (.bool false))), (6, .v (.c (.int .i64 s2)))], [(0, .mem true 37 none (.flat [.cs [.int .i64 a2, .bool a3, .int .i64 a4, .int .i64 a5], .ints 2 .i64 a6, .ints 6 .i64 a7, .fzs 6 (.pair .bool (.pair (.int .i64) (.int .i64))) a8]))], 1⟩) hl (To.mk' [] 0 hε rfl (by repeat' first | exact True.intro | exact rfl | apply And.intro) (by repeat' first | exact True.intro | exact rfl | apply And.intro)) (fun s2 zs2 NNs2 hz hnexts2 houts2 => ?_)
              clear hl hT
              have hT := hz; clear hz
              refine rSeq ?_
              refine rSeq ?_
              refine zReg md0 hX rfl rfl rfl ?_
              refine rThen ?_
              refine zCond rfl rfl (fun hc => ?_) (fun hc => ?_)
              · replace hT := sT hc hT
                refine rSkip ?_
                refine rThen ?_
                refine rSeq ?_
                refine rBlock ?_
                refine rSeq ?_
                let c2 := (ref21_Intra N a4)
                let c3 := (ref15_May N (c2.getD default) (a7.getD (s2).toNat 0) (a8.getD (s2).toNat []))
                replace hT := sIf hT; obtain ⟨⟨o1, o2, o3, o4, o5⟩, hT⟩ := hT
                refine zDraw md0 0 [] hX mixed rfl rfl rfl rfl rfl ?_
                refine rThen ?_
                refine zCond rfl rfl (fun hc => ?_) (fun hc => ?_)
                · replace hT := sT hc hT
                  refine rSeq ?_
                  refine zReg md0 hX rfl rfl rfl ?_
                  refine rThen ?_
                  refine rRet ?_
                  refine rInRet ?_
                  refine rThenRet ?_
                  refine rThenRet ?_
                  exact zTo [] 0 hε (hxs20 _ (houts2 _ (Option.some.inj hT).symm))
                · replace hT := sF hc hT
                  refine rSkip ?_
                  refine rInNormal ?_
                  refine rThen ?_
                  replace hT := sIf hT; obtain ⟨o1, hT⟩ := hT
                  refine zReg md0 hX rfl rfl rfl ?_
                  exact hnexts2 _ (Option.some.inj hT).symm _ (To.mk' [] 0 hε rfl (by repeat' first | exact True.intro | exact rfl | apply And.intro) (by repeat' first | exact True.intro | exact rfl | apply And.intro))
              · replace hT := sF hc hT
                refine rExit ?_
                refine rThenExit ?_
                refine rThenExit ?_
                exact zTo [] 0 hε (hxs21 _ (houts2 _ (Option.some.inj hT).symm))
            refine rLoopM (ref22_Right_b2 N a4 a6) (fun s1 => ⟨[(3, .v (.c (.ptr 0 0 0 0 0 0))), (4, .v (.c (.bool false))), (5, .v (.c (.int .i64 s1)))], [(0, .mem true 37 none (.flat [.cs [.int .i64 a2, .bool a3, .int .i64 a4, .int .i64 a5], .ints 2 .i64 a6, .ints 6 .i64 a7, .fzs 6 (.pair .bool (.pair (.int .i64) (.int .i64))) a8]))], 1⟩) hl (To.mk' [] 0 hε rfl (by repeat' first | exact True.intro | exact rfl | apply And.intro) (by repeat' first | exact True.intro | exact rfl | apply And.intro)) (fun s1 zs1 NNs1 hz hnexts1 houts1 => ?_)
            clear hl hT
            have hT := hz; clear hz
            refine rSeq ?_
            refine rSeq ?_
            refine zReg md0 hX rfl rfl rfl ?_
            refine rThen ?_
            refine zCond rfl rfl (fun hc => ?_) (fun hc => ?_)
            · replace hT := sT hc hT
              refine rSkip ?_
              refine rThen ?_
              refine rSeq ?_
              refine rBlock ?_
              refine rSeq ?_
              let x8 := (bif (bif (decide ((a6.getD (s1).toNat 0) < (-32))) then true else (decide ((31 : Int) < (a6.getD (s1).toNat 0)))) then true else (bif (decide ((2 : Int) < a4)) then (decide ((a6.getD (s1).toNat 0) ≠ 0)) else false))
              replace hT := sIf hT; obtain ⟨⟨o1, o2, o3, o4, o5, o6, o7, o8, o9, o10⟩, hT⟩ := hT
              refine rRegC md0 hX rfl rfl rfl (by (repeat' first | exact True.intro | with_reducible assumption | (with_reducible apply And.intro) | intro _) <;> first | assumption | exact o4 (by assumption) | exact o5 (by assumption) | exact o6 (by assumption) | exact o7 (by assumption) | exact o8 (by assumption) | exact o9 (by assumption) | exact o10 (by assumption) | exact rfl | omega | exact Nat.le_of_ble_eq_true rfl | exact selF (by assumption) | exact selT (by assumption) | exact And.intro rfl rfl | exact And.intro (by assumption) rfl | exact And.intro (by omega) rfl | (simp only [inK] at *; omega) | (simp_all [sel] <;> fail) | fail) ?_
              refine rThen ?_
              refine zCond rfl rfl (fun hc => ?_) (fun hc => ?_)
              · replace hT := sT hc hT
                refine rSeq ?_
                refine zReg md0 hX rfl rfl rfl ?_
                refine rThen ?_
                refine rRet ?_
                refine rInRet ?_
                refine rThenRet ?_
                refine rThenRet ?_
                exact zTo [] 0 hε (hxs10 _ (houts1 _ (Option.some.inj hT).symm))
              · replace hT := sF hc hT
                refine rSkip ?_
                refine rInNormal ?_
                refine rThen ?_
                replace hT := sIf hT; obtain ⟨o1, hT⟩ := hT
                refine zReg md0 hX rfl rfl rfl ?_
                exact hnexts1 _ (Option.some.inj hT).symm _ (To.mk' [] 0 hε rfl (by repeat' first | exact True.intro | exact rfl | apply And.intro) (by repeat' first | exact True.intro | exact rfl | apply And.intro))
            · replace hT := sF hc hT
              refine rExit ?_
              refine rThenExit ?_
              refine rThenExit ?_
              exact zTo [] 0 hε (hxs11 _ (houts1 _ (Option.some.inj hT).symm))
          · skip
            refine zCond rfl rfl (fun hc => ?_) (fun hc => ?_)
            · replace hT := sT hc hT
              refine rSeq ?_
              let c4 := (ref20_Row N a5)
              replace hT := sIf hT; obtain ⟨o1, hT⟩ := hT
              refine zReg md0 hX rfl rfl rfl ?_
              refine rThen ?_
              refine zCond rfl rfl (fun hc => ?_) (fun hc => ?_)
              · replace hT := sT hc hT
                refine rSeq ?_
                refine zReg md0 hX rfl rfl rfl ?_
                refine rThen ?_
                refine rRet ?_
                refine rThenRet ?_
                have hy := Option.some.inj hT; subst hy
                exact zEnd0 hX rfl
              · replace hT := sF hc hT
                refine rSkip ?_
                exact zTo [] 0 hε (hjk1 _ hT)
            · replace hT := sF hc hT
              refine rSeq ?_
              refine zReg md0 hX rfl rfl rfl ?_
              refine rThen ?_
              refine zCond rfl rfl (fun hc => ?_) (fun hc => ?_)
              · replace hT := sT hc hT
                refine rSeq ?_
                refine zReg md0 hX rfl rfl rfl ?_
                refine rThen ?_
                refine rRet ?_
                refine rThenRet ?_
                have hy := Option.some.inj hT; subst hy
                exact zEnd0 hX rfl
              · replace hT := sF hc hT
                refine rSkip ?_
                exact zTo [] 0 hε (hjk1 _ hT)
  · cases h
def ref11_Order_b2 (N : Nat) (s1 : (Int × Int × (List Int))) (s2 : (Int × Int × (List Int))) : Option ((Int × Int × (List Int)) ⊕ (Int × Int × Int × Bool × (List Int))) :=
  bif (decide (s2.2.1 < 8)) then
    if (0 : Int) ≤ s1.2.1 then
      if ((decide ((s1.2.1 % 2) = 0)) = true → inK .i64 ((7 : Int) - s2.2.1)) then
        if inK .i64 (s1.2.1 - (bif (decide ((s1.2.1 % 2) = 0)) then ((7 : Int) - s2.2.1) else s2.2.1)) then
          let x1 := (decide ((0 : Int) ≤ (s1.2.1 - (bif (decide ((s1.2.1 % 2) = 0)) then ((7 : Int) - s2.2.1) else s2.2.1))))
          let x3 := (bif (decide ((0 : Int) ≤ (s1.2.1 - (bif (decide ((s1.2.1 % 2) = 0)) then ((7 : Int) - s2.2.1) else s2.2.1)))) then (decide ((s1.2.1 - (bif (decide ((s1.2.1 % 2) = 0)) then ((7 : Int) - s2.2.1) else s2.2.1)) < 8)) else false)
          joinK (fun (v3 : (Int × (List Int))) =>
            if inK .i64 (s2.2.1 + 1) then
              some (.inl (v3.1, (s2.2.1 + 1), v3.2))
            else none
          ) fun k1 =>
            bif x3 then
              let x5 := (s2.2.2.set (s2.1).toNat (((8 : Int) * (bif (decide ((s1.2.1 % 2) = 0)) then ((7 : Int) - s2.2.1) else s2.2.1)) + (s1.2.1 - (bif (decide ((s1.2.1 % 2) = 0)) then ((7 : Int) - s2.2.1) else s2.2.1))))
              if inK .i64 ((8 : Int) * (bif (decide ((s1.2.1 % 2) = 0)) then ((7 : Int) - s2.2.1) else s2.2.1)) ∧ inK .i64 (((8 : Int) * (bif (decide ((s1.2.1 % 2) = 0)) then ((7 : Int) - s2.2.1) else s2.2.1)) + (s1.2.1 - (bif (decide ((s1.2.1 % 2) = 0)) then ((7 : Int) - s2.2.1) else s2.2.1))) ∧ (0 : Int) ≤ s2.1 ∧ s2.1 < 64 ∧ (s2.1).toNat < 64 then
                if inK .i64 (s2.1 + 1) then
                  k1 ((s2.1 + 1), x5)
                else none
              else none
            else
              k1 (s2.1, s2.2.2)
        else none
      else none
    else none
  else
    some (.inr (s2.1, s2.2.1, s2.2.1, (decide (s2.2.1 < 8)), s2.2.2))
def ref11_Order_b1 (N : Nat) (s1 : (Int × Int × (List Int))) : Option ((Int × Int × (List Int)) ⊕ (List Int)) :=
  bif (decide (s1.2.1 < 15)) then
    (iter (ref11_Order_b2 N s1) N (s1.1, 0, s1.2.2)).bind fun v2 =>
      if inK .i64 (s1.2.1 + 1) then
        some (.inl (v2.1, (s1.2.1 + 1), v2.2.2.2.2))
      else none
  else
    some (.inr s1.2.2)
def ref11_Order (N : Nat) : Option (List Int) :=
  (iter (ref11_Order_b1 N) N (0, 0, (List.replicate 64 0))).bind fun v1 =>
    some v1
def sp_ref11_Order (N : Nat) : X.Spec := fun args lk => match args with
  | [] => some ⟨(ref11_Order N).isSome = true, .v (.agg [.ints 64 .i64 ((ref11_Order N).getD default)]), [], []⟩
  | _ => none
set_option maxRecDepth 100000 in
set_option maxHeartbeats 1000000 in
theorem ok_ref11_Order (N : Nat) : FnOK Tryd.prog gt0 117 (sp_ref11_Order N) := by
  refine fnOK_handed Tryd.func117 rfl (by kernel_rfl) tt_ok (ktNil) ?_
  intro args lk r h hp
  unfold sp_ref11_Order at h
  split at h
  · skip
    cases h
    obtain ⟨x, hx⟩ := Option.isSome_iff_exists.1 hp
    simp only [hx, Option.getD_some]
    refine hand0 rfl rfl (fun w0 M ε0 hX => ?_)
    refine rCount (fun hε => ?_)
    have hT : ref11_Order N = some x := hx; clear hx hp; unfold ref11_Order at hT
    refine rSeq ?_
    refine zReg md0 hX rfl rfl rfl ?_
    refine rThen ?_
    refine rSeq ?_
    refine zReg md0 hX rfl rfl rfl ?_
    refine rThen ?_
    refine rSeq ?_
    refine zReg md0 hX rfl rfl rfl ?_
    refine rThen ?_
    refine rSeq ?_
    refine rSeq ?_
    refine zReg md0 hX rfl rfl rfl ?_
    refine rThen ?_
    refine rBlock ?_
    replace hT := sBind hT; obtain ⟨w1, hl, hT⟩ := hT
    refine rJoinA (fun v1 => v1 = w1) (fun v1 => ⟨[(0, .v (.c (.ptr 0 0 0 0 0 0))), (1, .v (.c (.ptr 1 0 0 0 0 0)))], [(0, .mem true 22 none (.flat [.ints 64 .i64 (List.replicate 64 0)])), (1, .mem true 22 none (.flat [.ints 64 .i64 v1]))], 2⟩) (.exit 0) (fun v1 hv => ?_) (fun hxs10 => ?_)
    · subst hv; clear hl
      refine rInHit ?_
      refine rThen ?_
      refine rSeq ?_
      refine zReg md0 hX rfl rfl rfl ?_
      refine rThen ?_
      refine rRet ?_
      have hy := Option.some.inj hT; subst hy
      exact zEnd0 hX rfl
    refine rLoopM (ref11_Order_b1 N) (fun s1 => ⟨[(0, .v (.c (.ptr 0 0 0 0 0 0))), (1, .v (.c (.ptr 1 0 0 0 0 0))), (2, .v (.c (.int .i64 s1.1))), (3, .v (.c (.int .i64 s1.2.1)))], [(0, .mem true 22 none (.flat [.ints 64 .i64 (List.replicate 64 0)])), (1, .mem true 22 none (.flat [.ints 64 .i64 s1.2.2]))], 2⟩) hl (To.mk' [] 0 hε rfl (by repeat' first | exact True.intro | exact rfl | apply And.intro) (by repeat' first | exact True.intro | exact rfl | apply And.intro)) (fun s1 zs1 NNs1 hz hnexts1 houts1 => ?_)
    clear hl hT
    have hT := hz; clear hz
    refine rSeq ?_
    refine rSeq ?_
    refine zReg md0 hX rfl rfl rfl ?_
    refine rThen ?_
    refine zCond rfl rfl (fun hc => ?_) (fun hc => ?_)
    · replace hT := sT hc hT
      refine rSkip ?_
      refine rThen ?_
      refine rSeq ?_
      refine rBlock ?_
      refine rSeq ?_
      refine zReg md0 hX rfl rfl rfl ?_
      refine rThen ?_
      refine rBlock ?_
      replace hT := sBind hT; obtain ⟨w2, hl, hT⟩ := hT
      refine rJoinA (fun v2 => v2 = w2) (fun v2 => ⟨[(0, .v (.c (.ptr 0 0 0 0 0 0))), (1, .v (.c (.ptr 1 0 0 0 0 0))), (2, .v (.c (.int .i64 v2.1))), (3, .v (.c (.int .i64 s1.2.1))), (4, .v (.c (.int .i64 v2.2.1))), (7, .v (.c (.int .i64 s1.2.1))), (8, .v (.c (.bool (decide (s1.2.1 < 15))))), (11, .v (.c (.int .i64 v2.2.2.1))), (12, .v (.c (.bool v2.2.2.2.1)))], [(0, .mem true 22 none (.flat [.ints 64 .i64 (List.replicate 64 0)])), (1, .mem true 22 none (.flat [.ints 64 .i64 v2.2.2.2.2]))], 2⟩) (.exit 2) (fun v2 hv => ?_) (fun hxs20 => ?_)
      · subst hv; clear hl
        refine rInHit ?_
        refine rInNormal ?_
        refine rThen ?_
        replace hT := sIf hT; obtain ⟨o1, hT⟩ := hT
        refine zReg md0 hX rfl rfl rfl ?_
        exact hnexts1 _ (Option.some.inj hT).symm _ (To.mk' [] 0 hε rfl (by repeat' first | exact True.intro | exact rfl | apply And.intro) (by repeat' first | exact True.intro | exact rfl | apply And.intro))
      refine rLoopM (ref11_Order_b2 N s1) (fun s2 => ⟨[(0, .v (.c (.ptr 0 0 0 0 0 0))), (1, .v (.c (.ptr 1 0 0 0 0 0))), (2, .v (.c (.int .i64 s2.1))), (3, .v (.c (.int .i64 s1.2.1))), (4, .v (.c (.int .i64 s2.2.1))), (7, .v (.c (.int .i64 s1.2.1))), (8, .v (.c (.bool (decide (s1.2.1 < 15)))))], [(0, .mem true 22 none (.flat [.ints 64 .i64 (List.replicate 64 0)])), (1, .mem true 22 none (.flat [.ints 64 .i64 s2.2.2]))], 2⟩) hl (To.mk' [] 0 hε rfl (by repeat' first | exact True.intro | exact rfl | apply And.intro) (by repeat' first | exact True.intro | exact rfl | apply And.intro)) (fun s2 zs2 NNs2 hz hnexts2 houts2 => ?_)
      clear hl hT
      have hT := hz; clear hz
      refine rSeq ?_
      refine rSeq ?_
      refine zReg md0 hX rfl rfl rfl ?_
      refine rThen ?_
      refine zCond rfl rfl (fun hc => ?_) (fun hc => ?_)
      · replace hT := sT hc hT
        refine rSkip ?_
        refine rThen ?_
        refine rSeq ?_
        refine rBlock ?_
        refine rSeq ?_
        refine zReg md0 hX rfl rfl rfl ?_
        refine rThen ?_
        refine rSeq ?_
        refine rSeq ?_
        replace hT := sIf hT; obtain ⟨o1, hT⟩ := hT
        refine zReg md0 hX rfl rfl rfl ?_
        refine rThen ?_
        replace hT := sIf hT; obtain ⟨q1, hT⟩ := hT
        refine rJoin ⟨[(0, .v (.c (.ptr 0 0 0 0 0 0))), (1, .v (.c (.ptr 1 0 0 0 0 0))), (2, .v (.c (.int .i64 s2.1))), (3, .v (.c (.int .i64 s1.2.1))), (4, .v (.c (.int .i64 s2.2.1))), (5, .v (.c (.int .i64 (bif (decide ((s1.2.1 % 2) = 0)) then ((7 : Int) - s2.2.1) else s2.2.1)))), (7, .v (.c (.int .i64 s1.2.1))), (8, .v (.c (.bool (decide (s1.2.1 < 15))))), (11, .v (.c (.int .i64 s2.2.1))), (12, .v (.c (.bool (decide (s2.2.1 < 8))))), (15, .v (.c (.int .i64 s2.2.1))), (16, .v (.c (.int .i64 s1.2.1))), (17, .v (.c (.int .i64 (s1.2.1 % 2)))), (18, .v (.c (.bool (decide ((s1.2.1 % 2) = 0)))))], [(0, .mem true 22 none (.flat [.ints 64 .i64 (List.replicate 64 0)])), (1, .mem true 22 none (.flat [.ints 64 .i64 s2.2.2]))], 2⟩ ?_ (fun hj => ?_)
        · skip
          refine rThen ?_
          refine rSeq ?_
          replace hT := sIf hT; obtain ⟨o1, hT⟩ := hT
          refine zReg md0 hX rfl rfl rfl ?_
          refine rThen ?_
          refine rSeq ?_
          let x1 := (decide ((0 : Int) ≤ (s1.2.1 - (bif (decide ((s1.2.1 % 2) = 0)) then ((7 : Int) - s2.2.1) else s2.2.1))))
          let x3 := (bif (decide ((0 : Int) ≤ (s1.2.1 - (bif (decide ((s1.2.1 % 2) = 0)) then ((7 : Int) - s2.2.1) else s2.2.1)))) then (decide ((s1.2.1 - (bif (decide ((s1.2.1 % 2) = 0)) then ((7 : Int) - s2.2.1) else s2.2.1)) < 8)) else false)
          refine zReg md0 hX rfl rfl rfl ?_
          refine rThen ?_
          refine rJoinK hT (fun v3 => ⟨[(0, .v (.c (.ptr 0 0 0 0 0 0))), (1, .v (.c (.ptr 1 0 0 0 0 0))), (2, .v (.c (.int .i64 v3.1))), (3, .v (.c (.int .i64 s1.2.1))), (4, .v (.c (.int .i64 s2.2.1))), (5, .v (.c (.int .i64 (bif (decide ((s1.2.1 % 2) = 0)) then ((7 : Int) - s2.2.1) else s2.2.1)))), (6, .v (.c (.int .i64 (s1.2.1 - (bif (decide ((s1.2.1 % 2) = 0)) then ((7 : Int) - s2.2.1) else s2.2.1))))), (7, .v (.c (.int .i64 s1.2.1))), (8, .v (.c (.bool (decide (s1.2.1 < 15))))), (11, .v (.c (.int .i64 s2.2.1))), (12, .v (.c (.bool (decide (s2.2.1 < 8))))), (15, .v (.c (.int .i64 s2.2.1))), (16, .v (.c (.int .i64 s1.2.1))), (17, .v (.c (.int .i64 (s1.2.1 % 2)))), (18, .v (.c (.bool (decide ((s1.2.1 % 2) = 0))))), (21, .v (.c (.int .i64 s1.2.1))), (22, .v (.c (.int .i64 (bif (decide ((s1.2.1 % 2) = 0)) then ((7 : Int) - s2.2.1) else s2.2.1)))), (23, .v (.c (.int .i64 (s1.2.1 - (bif (decide ((s1.2.1 % 2) = 0)) then ((7 : Int) - s2.2.1) else s2.2.1))))), (24, .v (.c (.int .i64 (s1.2.1 - (bif (decide ((s1.2.1 % 2) = 0)) then ((7 : Int) - s2.2.1) else s2.2.1))))), (25, .v (.c (.bool x1))), (26, .v (.c (.bool x1))), (29, .v (.c (.bool x3)))], [(0, .mem true 22 none (.flat [.ints 64 .i64 (List.replicate 64 0)])), (1, .mem true 22 none (.flat [.ints 64 .i64 v3.2]))], 2⟩) (fun v3 hT => ?_) (fun k1 hjk1 hT => ?_)
          · skip
            refine rInNormal ?_
            refine rThen ?_
            replace hT := sIf hT; obtain ⟨o1, hT⟩ := hT
            refine zReg md0 hX rfl rfl rfl ?_
            exact hnexts2 _ (Option.some.inj hT).symm _ (To.mk' [] 0 hε rfl (by repeat' first | exact True.intro | exact rfl | apply And.intro) (by repeat' first | exact True.intro | exact rfl | apply And.intro))
          · skip
            refine zCond rfl rfl (fun hc => ?_) (fun hc => ?_)
            · replace hT := sT hc hT
              refine rSeq ?_
              let x5 := (s2.2.2.set (s2.1).toNat (((8 : Int) * (bif (decide ((s1.2.1 % 2) = 0)) then ((7 : Int) - s2.2.1) else s2.2.1)) + (s1.2.1 - (bif (decide ((s1.2.1 % 2) = 0)) then ((7 : Int) - s2.2.1) else s2.2.1))))
              replace hT := sIf hT; obtain ⟨⟨o1, o2, o3, o4, o5⟩, hT⟩ := hT
              refine zReg md0 hX rfl rfl rfl ?_
              refine rThen ?_
              replace hT := sIf hT; obtain ⟨o1, hT⟩ := hT
              refine zReg md0 hX rfl rfl rfl ?_
              exact zTo [] 0 hε (hjk1 _ hT)
            · replace hT := sF hc hT
              refine rSkip ?_
              exact zTo [] 0 hε (hjk1 _ hT)
        · clear hT
          refine zCond rfl rfl (fun hc => ?_) (fun hc => ?_)
          · skip
            have q1 := q1 hc
            refine zReg md0 hX rfl rfl rfl ?_
            exact rTo (To.mk' [] 0 hε rfl (by (repeat' first | exact True.intro | exact rfl | apply And.intro) <;> (repeat' first | exact rfl | refine Eq.trans ?_ (cTr (by assumption)) | refine Eq.trans ?_ (cFr (by assumption)) | refine Eq.trans (cTl (by assumption)) ?_ | refine Eq.trans (cFl (by assumption)) ?_)) (by (repeat' first | exact True.intro | exact rfl | apply And.intro) <;> (repeat' first | exact rfl | refine Eq.trans ?_ (cTr (by assumption)) | refine Eq.trans ?_ (cFr (by assumption)) | refine Eq.trans (cTl (by assumption)) ?_ | refine Eq.trans (cFl (by assumption)) ?_))) hj
          · skip
            refine rSkip ?_
            exact rTo (To.mk' [] 0 hε rfl (by (repeat' first | exact True.intro | exact rfl | apply And.intro) <;> (repeat' first | exact rfl | refine Eq.trans ?_ (cTr (by assumption)) | refine Eq.trans ?_ (cFr (by assumption)) | refine Eq.trans (cTl (by assumption)) ?_ | refine Eq.trans (cFl (by assumption)) ?_)) (by (repeat' first | exact True.intro | exact rfl | apply And.intro) <;> (repeat' first | exact rfl | refine Eq.trans ?_ (cTr (by assumption)) | refine Eq.trans ?_ (cFr (by assumption)) | refine Eq.trans (cTl (by assumption)) ?_ | refine Eq.trans (cFl (by assumption)) ?_))) hj
      · replace hT := sF hc hT
        refine rExit ?_
        refine rThenExit ?_
        refine rThenExit ?_
        exact zTo [] 0 hε (hxs20 _ (houts2 _ (Option.some.inj hT).symm))
    · replace hT := sF hc hT
      refine rExit ?_
      refine rThenExit ?_
      refine rThenExit ?_
      exact zTo [] 0 hε (hxs10 _ (houts1 _ (Option.some.inj hT).symm))
  · cases h
def ref11_Raster_b1 (N : Nat) (a1 : (List Int)) (c1 : (Option (List Int))) (s1 : (Int × (List Int))) : Option ((Int × (List Int)) ⊕ (List Int)) :=
  bif (decide (s1.1 < 64)) then
    if (0 : Int) ≤ s1.1 ∧ s1.1 < 64 ∧ (s1.1).toNat < 64 ∧ (0 : Int) ≤ ((c1.getD default).getD (s1.1).toNat 0) ∧ ((c1.getD default).getD (s1.1).toNat 0) < 64 ∧ ((c1.getD default).getD (s1.1).toNat 0).toNat < 64 then
      if inK .i64 (s1.1 + 1) then
        some (.inl ((s1.1 + 1), (s1.2.set ((c1.getD default).getD (s1.1).toNat 0).toNat (a1.getD (s1.1).toNat 0))))
      else none
    else none
  else
    some (.inr s1.2)
def ref11_Raster (N : Nat) (a1 : (List Int)) : Option (List Int) :=
  let c1 := (ref11_Order N)
  if c1.isSome = true then
    (iter (ref11_Raster_b1 N a1 c1) N (0, (List.replicate 64 0))).bind fun v1 =>
      some v1
  else none
def sp_ref11_Raster (N : Nat) : X.Spec := fun args lk => match args with
  | [.v (.agg [.ints 64 .i64 a1])] => some ⟨(ref11_Raster N a1).isSome = true, .v (.agg [.ints 64 .i64 ((ref11_Raster N a1).getD default)]), [], []⟩
  | _ => none
set_option maxRecDepth 100000 in
set_option maxHeartbeats 1000000 in
theorem ok_ref11_Raster (N : Nat) : FnOK Tryd.prog gt0 80 (sp_ref11_Raster N) := by
  refine fnOK_handed Tryd.func80 rfl (by kernel_rfl) tt_ok (ktCons (ok_ref11_Order N) (ktNil)) ?_
  intro args lk r h hp
  unfold sp_ref11_Raster at h
  split at h
  · rename_i a1
    change (List Int) at a1
    cases h
    obtain ⟨x, hx⟩ := Option.isSome_iff_exists.1 hp
    simp only [hx, Option.getD_some]
    refine hand0 rfl rfl (fun w0 M ε0 hX => ?_)
    refine rCount (fun hε => ?_)
    have hT : ref11_Raster N a1 = some x := hx; clear hx hp; unfold ref11_Raster at hT
    refine rSeq ?_
    refine zReg md0 hX rfl rfl rfl ?_
    refine rThen ?_
    refine rSeq ?_
    let c1 := (ref11_Order N)
    replace hT := sIf hT; obtain ⟨o1, hT⟩ := hT
    refine zReg md0 hX rfl rfl rfl ?_
    refine rThen ?_
    refine rSeq ?_
    refine zReg md0 hX rfl rfl rfl ?_
    refine rThen ?_
    refine rSeq ?_
    refine rSeq ?_
    refine zReg md0 hX rfl rfl rfl ?_
    refine rThen ?_
    refine rBlock ?_
    replace hT := sBind hT; obtain ⟨w1, hl, hT⟩ := hT
    refine rJoinA (fun v1 => v1 = w1) (fun v1 => ⟨[(2, .v (.c (.ptr 1 0 0 0 0 0))), (4, .v (.c (.ptr 3 0 0 0 0 0)))], [(1, .mem true 22 none (.flat [.ints 64 .i64 (List.replicate 64 0)])), (3, .mem true 22 none (.flat [.ints 64 .i64 v1]))], 4⟩) (.exit 0) (fun v1 hv => ?_) (fun hxs10 => ?_)
    · subst hv; clear hl
      refine rInHit ?_
      refine rThen ?_
      refine rSeq ?_
      refine zReg md0 hX rfl rfl rfl ?_
      refine rThen ?_
      refine rRet ?_
      have hy := Option.some.inj hT; subst hy
      exact zEnd0 hX rfl
    refine rLoopM (ref11_Raster_b1 N a1 c1) (fun s1 => ⟨[(1, .v (.c (.ptr 0 0 0 0 0 0))), (2, .v (.c (.ptr 1 0 0 0 0 0))), (3, .v (.c (.ptr 2 0 0 0 0 0))), (4, .v (.c (.ptr 3 0 0 0 0 0))), (5, .v (.c (.int .i64 s1.1)))], [(0, .mem true 22 none (.flat [.ints 64 .i64 a1])), (1, .mem true 22 none (.flat [.ints 64 .i64 (List.replicate 64 0)])), (2, .mem true 22 none (.flat [.ints 64 .i64 (c1.getD default)])), (3, .mem true 22 none (.flat [.ints 64 .i64 s1.2]))], 4⟩) hl (To.mk' [] 0 hε rfl (by repeat' first | exact True.intro | exact rfl | apply And.intro) (by repeat' first | exact True.intro | exact rfl | apply And.intro)) (fun s1 zs1 NNs1 hz hnexts1 houts1 => ?_)
    clear hl hT
    have hT := hz; clear hz
    refine rSeq ?_
    refine rSeq ?_
    refine zReg md0 hX rfl rfl rfl ?_
    refine rThen ?_
    refine zCond rfl rfl (fun hc => ?_) (fun hc => ?_)
    · replace hT := sT hc hT
      refine rSkip ?_
      refine rThen ?_
      refine rSeq ?_
      refine rBlock ?_
      replace hT := sIf hT; obtain ⟨⟨o1, o2, o3, o4, o5, o6⟩, hT⟩ := hT
      refine zDraw md0 1 [7] hX mixed rfl rfl rfl rfl rfl ?_
      refine rInNormal ?_
      refine rThen ?_
      replace hT := sIf hT; obtain ⟨o1, hT⟩ := hT
      refine zReg md0 hX rfl rfl rfl ?_
      exact hnexts1 _ (Option.some.inj hT).symm _ (To.mk' [] 0 hε rfl (by repeat' first | exact True.intro | exact rfl | apply And.intro) (by repeat' first | exact True.intro | exact rfl | apply And.intro))
    · replace hT := sF hc hT
      refine rExit ?_
      refine rThenExit ?_
      refine rThenExit ?_
      exact zTo [] 0 hε (hxs10 _ (houts1 _ (Option.some.inj hT).symm))
  · cases h
def ref29_Levels_b1 (N : Nat) (a7 : (List (List (Bool × (Int × Int))))) (c1 : (Option Bool)) (s1 : (Int × (List Int))) : Option ((Int × (List Int)) ⊕ (List Int)) :=
  bif (decide (s1.1 < 6)) then
    let c2 := (ref10_Levels N (a7.getD (s1.1).toNat []) (bif (c1.getD default) then (1 : Int) else 0))
    if (0 : Int) ≤ s1.1 ∧ s1.1 < 6 ∧ (s1.1).toNat < 6 ∧ c2.isSome = true then
      let c3 := (ref11_Raster N (c2.getD default).1)
      if c3.isSome = true ∧ (0 : Int) ≤ s1.1 ∧ s1.1 < 6 ∧ (64 * (s1.1).toNat) + 64 ≤ 384 then
        if inK .i64 (s1.1 + 1) then
          some (.inl ((s1.1 + 1), (layL s1.2 (64 * (s1.1).toNat) (c3.getD default) 64)))
        else none
      else none
    else none
  else
    some (.inr s1.2)
def ref29_Levels (N : Nat) (a1 : Int) (a2 : Bool) (a3 : Int) (a4 : Int) (a5 : (List Int)) (a6 : (List Int)) (a7 : (List (List (Bool × (Int × Int))))) : Option (List Int) :=
  let c1 := (ref21_Intra N a3)
  if c1.isSome = true then
    (iter (ref29_Levels_b1 N a7 c1) N (0, (List.replicate 384 0))).bind fun v1 =>
      some v1
  else none
def sp_ref29_Levels (N : Nat) : X.Spec := fun args lk => match args with
  | [.v (.agg [.cs [.int .i64 a1, .bool a2, .int .i64 a3, .int .i64 a4], .ints 2 .i64 a5, .ints 6 .i64 a6, .fzs 6 (.pair .bool (.pair (.int .i64) (.int .i64))) a7])] => some ⟨(ref29_Levels N a1 a2 a3 a4 a5 a6 a7).isSome = true, .v (.agg [.ints 384 .i64 ((ref29_Levels N a1 a2 a3 a4 a5 a6 a7).getD default)]), [], []⟩
  | _ => none
set_option maxRecDepth 100000 in
set_option maxHeartbeats 1000000 in
theorem ok_ref29_Levels (N : Nat) : FnOK Tryd.prog gt0 31 (sp_ref29_Levels N) := by
  refine fnOK_handed Tryd.func31 rfl (by kernel_rfl) tt_ok (ktCons (ok_ref11_Raster N) (ktCons (ok_ref10_Levels N) (ktCons (ok_ref21_Intra N) (ktNil)))) ?_
  intro args lk r h hp
  unfold sp_ref29_Levels at h
  split at h
  · rename_i a1 a2 a3 a4 a5 a6 a7
    change (List Int) at a5
    change (List Int) at a6
    change (List (List (Bool × (Int × Int)))) at a7
    cases h
    obtain ⟨x, hx⟩ := Option.isSome_iff_exists.1 hp
    simp only [hx, Option.getD_some]
    refine hand0 rfl rfl (fun w0 M ε0 hX => ?_)
    refine rCount (fun hε => ?_)
    have hT : ref29_Levels N a1 a2 a3 a4 a5 a6 a7 = some x := hx; clear hx hp; unfold ref29_Levels at hT
    refine rSeq ?_
    refine zReg md0 hX rfl rfl rfl ?_
    refine rThen ?_
    refine rSeq ?_
    refine zReg md0 hX rfl rfl rfl ?_
    refine rThen ?_
    refine rSeq ?_
    refine rSeq ?_
    let c1 := (ref21_Intra N a3)
    replace hT := sIf hT; obtain ⟨o1, hT⟩ := hT
    refine zReg md0 hX rfl rfl rfl ?_
    refine rThen ?_
    refine rJoin ⟨[(1, .v (.c (.ptr 0 0 0 0 0 0))), (2, .v (.c (.ptr 1 0 0 0 0 0))), (3, .v (.c (.int .i64 (bif (c1.getD default) then (1 : Int) else 0))))], [(0, .mem true 37 none (.flat [.cs [.int .i64 a1, .bool a2, .int .i64 a3, .int .i64 a4], .ints 2 .i64 a5, .ints 6 .i64 a6, .fzs 6 (.pair .bool (.pair (.int .i64) (.int .i64))) a7])), (1, .mem true 39 none (.flat [.ints 384 .i64 (List.replicate 384 0)]))], 2⟩ ?_ (fun hj => ?_)
    · skip
      refine rThen ?_
      refine rSeq ?_
      refine zReg md0 hX rfl rfl rfl ?_
      refine rThen ?_
      refine rSeq ?_
      refine rSeq ?_
      refine zReg md0 hX rfl rfl rfl ?_
      refine rThen ?_
      refine rBlock ?_
      replace hT := sBind hT; obtain ⟨w1, hl, hT⟩ := hT
      refine rJoinA (fun v1 => v1 = w1) (fun v1 => ⟨[(2, .v (.c (.ptr 1 0 0 0 0 0))), (4, .v (.c (.ptr 2 0 0 0 0 0)))], [(1, .mem true 39 none (.flat [.ints 384 .i64 (List.replicate 384 0)])), (2, .mem true 39 none (.flat [.ints 384 .i64 v1]))], 3⟩) (.exit 0) (fun v1 hv => ?_) (fun hxs10 => ?_)
      · subst hv; clear hl
        refine rInHit ?_
        refine rThen ?_
        refine rSeq ?_
        refine zReg md0 hX rfl rfl rfl ?_
        refine rThen ?_
        refine rRet ?_
        have hy := Option.some.inj hT; subst hy
        exact zEnd0 hX rfl
      refine rLoopM (ref29_Levels_b1 N a7 c1) (fun s1 => ⟨[(1, .v (.c (.ptr 0 0 0 0 0 0))), (2, .v (.c (.ptr 1 0 0 0 0 0))), (3, .v (.c (.int .i64 (bif (c1.getD default) then (1 : Int) else 0)))), (4, .v (.c (.ptr 2 0 0 0 0 0))), (5, .v (.c (.int .i64 s1.1)))], [(0, .mem true 37 none (.flat [.cs [.int .i64 a1, .bool a2, .int .i64 a3, .int .i64 a4], .ints 2 .i64 a5, .ints 6 .i64 a6, .fzs 6 (.pair .bool (.pair (.int .i64) (.int .i64))) a7])), (1, .mem true 39 none (.flat [.ints 384 .i64 (List.replicate 384 0)])), (2, .mem true 39 none (.flat [.ints 384 .i64 s1.2]))], 3⟩) hl (To.mk' [] 0 hε rfl (by repeat' first | exact True.intro | exact rfl | apply And.intro) (by repeat' first | exact True.intro | exact rfl | apply And.intro)) (fun s1 zs1 NNs1 hz hnexts1 houts1 => ?_)
      clear hl hT
      have hT := hz; clear hz
      refine rSeq ?_
      refine rSeq ?_
      refine zReg md0 hX rfl rfl rfl ?_
      refine rThen ?_
      refine zCond rfl rfl (fun hc => ?_) (fun hc => ?_)
      · replace hT := sT hc hT
        refine rSkip ?_
        refine rThen ?_
        refine rSeq ?_
        refine rBlock ?_
        refine rSeq ?_
        let c2 := (ref10_Levels N (a7.getD (s1.1).toNat []) (bif (c1.getD default) then (1 : Int) else 0))
        replace hT := sIf hT; obtain ⟨⟨o1, o2, o3, o4⟩, hT⟩ := hT
        refine zReg md0 hX rfl rfl rfl ?_
        refine rThen ?_
        let c3 := (ref11_Raster N (c2.getD default).1)
        replace hT := sIf hT; obtain ⟨⟨o1, o2, o3, o4⟩, hT⟩ := hT
        refine zReg md0 hX rfl rfl rfl ?_
        refine rInNormal ?_
        refine rThen ?_
        replace hT := sIf hT; obtain ⟨o1, hT⟩ := hT
        refine zReg md0 hX rfl rfl rfl ?_
        exact hnexts1 _ (Option.some.inj hT).symm _ (To.mk' [] 0 hε rfl (by repeat' first | exact True.intro | exact rfl | apply And.intro) (by repeat' first | exact True.intro | exact rfl | apply And.intro))
      · replace hT := sF hc hT
        refine rExit ?_
        refine rThenExit ?_
        refine rThenExit ?_
        exact zTo [] 0 hε (hxs10 _ (houts1 _ (Option.some.inj hT).symm))
    · clear hT
      refine zCond rfl rfl (fun hc => ?_) (fun hc => ?_)
      · skip
        refine zReg md0 hX rfl rfl rfl ?_
        exact rTo (To.mk' [] 0 hε rfl (by (repeat' first | exact True.intro | exact rfl | apply And.intro) <;> (repeat' first | exact rfl | refine Eq.trans ?_ (cTr (by assumption)) | refine Eq.trans ?_ (cFr (by assumption)) | refine Eq.trans (cTl (by assumption)) ?_ | refine Eq.trans (cFl (by assumption)) ?_)) (by (repeat' first | exact True.intro | exact rfl | apply And.intro) <;> (repeat' first | exact rfl | refine Eq.trans ?_ (cTr (by assumption)) | refine Eq.trans ?_ (cFr (by assumption)) | refine Eq.trans (cTl (by assumption)) ?_ | refine Eq.trans (cFl (by assumption)) ?_))) hj
      · skip
        refine rSkip ?_
        exact rTo (To.mk' [] 0 hε rfl (by (repeat' first | exact True.intro | exact rfl | apply And.intro) <;> (repeat' first | exact rfl | refine Eq.trans ?_ (cTr (by assumption)) | refine Eq.trans ?_ (cFr (by assumption)) | refine Eq.trans (cTl (by assumption)) ?_ | refine Eq.trans (cFl (by assumption)) ?_)) (by (repeat' first | exact True.intro | exact rfl | apply And.intro) <;> (repeat' first | exact rfl | refine Eq.trans ?_ (cTr (by assumption)) | refine Eq.trans ?_ (cFr (by assumption)) | refine Eq.trans (cTl (by assumption)) ?_ | refine Eq.trans (cFl (by assumption)) ?_))) hj
  · cases h
def ref01_Clip (N : Nat) (a1 : Int) (a2 : Int) (a3 : Int) : Option Int :=
  bif (bif (decide (a3 < a2)) then true else (decide (a1 < a2))) then
    some a2
  else
    bif (decide (a3 < a1)) then
      some a3
    else
      some a1
def sp_ref01_Clip (N : Nat) : X.Spec := fun args lk => match args with
  | [.v (.c (.int .i64 a1)), .v (.c (.int .i64 a2)), .v (.c (.int .i64 a3))] => some ⟨(ref01_Clip N a1 a2 a3).isSome = true, .v (.c (.int .i64 ((ref01_Clip N a1 a2 a3).getD default))), [], []⟩
  | _ => none
set_option maxRecDepth 100000 in
set_option maxHeartbeats 1000000 in
theorem ok_ref01_Clip (N : Nat) : FnOK Tryd.prog gt0 53 (sp_ref01_Clip N) := by
  refine fnOK_handed Tryd.func53 rfl (by kernel_rfl) tt_ok (ktNil) ?_
  intro args lk r h hp
  unfold sp_ref01_Clip at h
  split at h
  · rename_i a1 a2 a3
    cases h
    obtain ⟨x, hx⟩ := Option.isSome_iff_exists.1 hp
    simp only [hx, Option.getD_some]
    refine hand0 rfl rfl (fun w0 M ε0 hX => ?_)
    refine rCount (fun hε => ?_)
    have hT : ref01_Clip N a1 a2 a3 = some x := hx; clear hx hp; unfold ref01_Clip at hT
    refine rSeq ?_
    refine zReg md0 hX rfl rfl rfl ?_
    refine rThen ?_
    refine rSeq ?_
    refine rSeq ?_
    refine zReg md0 hX rfl rfl rfl ?_
    refine rThen ?_
    refine zCond rfl rfl (fun hc => ?_) (fun hc => ?_)
    · replace hT := sT hc hT
      refine rSeq ?_
      refine zReg md0 hX rfl rfl rfl ?_
      refine rThen ?_
      refine rRet ?_
      refine rThenRet ?_
      have hy := Option.some.inj hT; subst hy
      exact zEnd0 hX rfl
    · replace hT := sF hc hT
      refine rSkip ?_
      refine rThen ?_
      refine rSeq ?_
      refine rSeq ?_
      refine zReg md0 hX rfl rfl rfl ?_
      refine rThen ?_
      refine zCond rfl rfl (fun hc => ?_) (fun hc => ?_)
      · replace hT := sT hc hT
        refine rSeq ?_
        refine zReg md0 hX rfl rfl rfl ?_
        refine rThen ?_
        refine rRet ?_
        refine rThenRet ?_
        have hy := Option.some.inj hT; subst hy
        exact zEnd0 hX rfl
      · replace hT := sF hc hT
        refine rSkip ?_
        refine rThen ?_
        refine rSeq ?_
        refine zReg md0 hX rfl rfl rfl ?_
        refine rThen ?_
        refine rRet ?_
        have hy := Option.some.inj hT; subst hy
        exact zEnd0 hX rfl
  · cases h
def ref12_amount (N : Nat) (a1 : Int) (a2 : Int) : Option Int :=
  bif (decide (a1 = 0)) then
    some 0
  else
    if (0 : Int) ≤ a2 then
      bif (decide ((a2 % 2) = 1)) then
        if inK .i64 ((2 : Int) * a1) ∧ inK .i64 (((2 : Int) * a1) + 1) ∧ inK .i64 (a2 * (((2 : Int) * a1) + 1)) then
          some (a2 * (((2 : Int) * a1) + 1))
        else none
      else
        if inK .i64 ((2 : Int) * a1) ∧ inK .i64 (((2 : Int) * a1) + 1) ∧ inK .i64 (a2 * (((2 : Int) * a1) + 1)) ∧ inK .i64 ((a2 * (((2 : Int) * a1) + 1)) - 1) then
          some ((a2 * (((2 : Int) * a1) + 1)) - 1)
        else none
    else none
def sp_ref12_amount (N : Nat) : X.Spec := fun args lk => match args with
  | [.v (.c (.int .i64 a1)), .v (.c (.int .i64 a2))] => some ⟨(ref12_amount N a1 a2).isSome = true, .v (.c (.int .i64 ((ref12_amount N a1 a2).getD default))), [], []⟩
  | _ => none
set_option maxRecDepth 100000 in
set_option maxHeartbeats 1000000 in
theorem ok_ref12_amount (N : Nat) : FnOK Tryd.prog gt0 112 (sp_ref12_amount N) := by
  refine fnOK_handed Tryd.func112 rfl (by kernel_rfl) tt_ok (ktNil) ?_
  intro args lk r h hp
  unfold sp_ref12_amount at h
  split at h
  · rename_i a1 a2
    cases h
    obtain ⟨x, hx⟩ := Option.isSome_iff_exists.1 hp
    simp only [hx, Option.getD_some]
    refine hand0 rfl rfl (fun w0 M ε0 hX => ?_)
    refine rCount (fun hε => ?_)
    have hT : ref12_amount N a1 a2 = some x := hx; clear hx hp; unfold ref12_amount at hT
    refine rSeq ?_
    refine zReg md0 hX rfl rfl rfl ?_
    refine rThen ?_
    refine rSeq ?_
    refine rSeq ?_
    refine zReg md0 hX rfl rfl rfl ?_
    refine rThen ?_
    refine zCond rfl rfl (fun hc => ?_) (fun hc => ?_)
    · replace hT := sT hc hT
      refine rSeq ?_
      refine zReg md0 hX rfl rfl rfl ?_
      refine rThen ?_
      refine rRet ?_
      refine rThenRet ?_
      have hy := Option.some.inj hT; subst hy
      exact zEnd0 hX rfl
    · replace hT := sF hc hT
      refine rSkip ?_
      refine rThen ?_
      refine rSeq ?_
      refine rSeq ?_
      replace hT := sIf hT; obtain ⟨o1, hT⟩ := hT
      refine zReg md0 hX rfl rfl rfl ?_
      refine rThen ?_
      refine zCond rfl rfl (fun hc => ?_) (fun hc => ?_)
      · replace hT := sT hc hT
        refine rSeq ?_
        replace hT := sIf hT; obtain ⟨⟨o1, o2, o3⟩, hT⟩ := hT
        refine zReg md0 hX rfl rfl rfl ?_
        refine rThen ?_
        refine rRet ?_
        refine rThenRet ?_
        have hy := Option.some.inj hT; subst hy
        exact zEnd0 hX rfl
      · replace hT := sF hc hT
        refine rSkip ?_
        refine rThen ?_
        refine rSeq ?_
        replace hT := sIf hT; obtain ⟨⟨o1, o2, o3, o4⟩, hT⟩ := hT
        refine zReg md0 hX rfl rfl rfl ?_
        refine rThen ?_
        refine rRet ?_
        have hy := Option.some.inj hT; subst hy
        exact zEnd0 hX rfl
  · cases h
def ref12_Value (N : Nat) (a1 : Int) (a2 : Int) : Option Int :=
  let c1 := (ref01_Clip N a2 1 31)
  if c1.isSome = true then
    let c2 := (ref01_Clip N a1 (-127) 127)
    if c2.isSome = true then
      bif (decide ((c2.getD default) < 0)) then
        let c3 := (ref12_amount N (-(c2.getD default)) (c1.getD default))
        let c4 := (ref01_Clip N (-(c3.getD default)) (-2048) 2047)
        if inK .i64 (-(c2.getD default)) ∧ c3.isSome = true ∧ inK .i64 (-(c3.getD default)) ∧ c4.isSome = true then
          some (c4.getD default)
        else none
      else
        let c5 := (ref12_amount N (c2.getD default) (c1.getD default))
        let c6 := (ref01_Clip N (c5.getD default) (-2048) 2047)
        if c5.isSome = true ∧ c6.isSome = true then
          some (c6.getD default)
        else none
    else none
  else none
def sp_ref12_Value (N : Nat) : X.Spec := fun args lk => match args with
  | [.v (.c (.int .i64 a1)), .v (.c (.int .i64 a2))] => some ⟨(ref12_Value N a1 a2).isSome = true, .v (.c (.int .i64 ((ref12_Value N a1 a2).getD default))), [], []⟩
  | _ => none
set_option maxRecDepth 100000 in
set_option maxHeartbeats 1000000 in
theorem ok_ref12_Value (N : Nat) : FnOK Tryd.prog gt0 56 (sp_ref12_Value N) := by
  refine fnOK_handed Tryd.func56 rfl (by kernel_rfl) tt_ok (ktCons (ok_ref12_amount N) (ktCons (ok_ref01_Clip N) (ktNil))) ?_
  intro args lk r h hp
  unfold sp_ref12_Value at h
  split at h
  · rename_i a1 a2
    cases h
    obtain ⟨x, hx⟩ := Option.isSome_iff_exists.1 hp
    simp only [hx, Option.getD_some]
    refine hand0 rfl rfl (fun w0 M ε0 hX => ?_)
    refine rCount (fun hε => ?_)
    have hT : ref12_Value N a1 a2 = some x := hx; clear hx hp; unfold ref12_Value at hT
    refine rSeq ?_
    refine zReg md0 hX rfl rfl rfl ?_
    refine rThen ?_
    refine rSeq ?_
    let c1 := (ref01_Clip N a2 1 31)
    replace hT := sIf hT; obtain ⟨o1, hT⟩ := hT
    refine zReg md0 hX rfl rfl rfl ?_
    refine rThen ?_
    refine rSeq ?_
    let c2 := (ref01_Clip N a1 (-127) 127)
    replace hT := sIf hT; obtain ⟨o1, hT⟩ := hT
    refine zReg md0 hX rfl rfl rfl ?_
    refine rThen ?_
    refine rSeq ?_
    refine rSeq ?_
    refine zReg md0 hX rfl rfl rfl ?_
    refine rThen ?_
    refine zCond rfl rfl (fun hc => ?_) (fun hc => ?_)
    · replace hT := sT hc hT
      refine rSeq ?_
      let c3 := (ref12_amount N (-(c2.getD default)) (c1.getD default))
      let c4 := (ref01_Clip N (-(c3.getD default)) (-2048) 2047)
      replace hT := sIf hT; obtain ⟨⟨o1, o2, o3, o4⟩, hT⟩ := hT
      refine zReg md0 hX rfl rfl rfl ?_
      refine rThen ?_
      refine rRet ?_
      refine rThenRet ?_
      have hy := Option.some.inj hT; subst hy
      exact zEnd0 hX rfl
    · replace hT := sF hc hT
      refine rSkip ?_
      refine rThen ?_
      refine rSeq ?_
      let c5 := (ref12_amount N (c2.getD default) (c1.getD default))
      let c6 := (ref01_Clip N (c5.getD default) (-2048) 2047)
      replace hT := sIf hT; obtain ⟨⟨o1, o2⟩, hT⟩ := hT
      refine zReg md0 hX rfl rfl rfl ?_
      refine rThen ?_
      refine rRet ?_
      have hy := Option.some.inj hT; subst hy
      exact zEnd0 hX rfl
  · cases h
def ref12_Dc (N : Nat) (a1 : Int) : Option Int :=
  let c1 := (ref01_Clip N a1 1 254)
  if c1.isSome = true ∧ inK .i64 ((8 : Int) * (c1.getD default)) then
    some ((8 : Int) * (c1.getD default))
  else none
def sp_ref12_Dc (N : Nat) : X.Spec := fun args lk => match args with
  | [.v (.c (.int .i64 a1))] => some ⟨(ref12_Dc N a1).isSome = true, .v (.c (.int .i64 ((ref12_Dc N a1).getD default))), [], []⟩
  | _ => none
set_option maxRecDepth 100000 in
set_option maxHeartbeats 1000000 in
theorem ok_ref12_Dc (N : Nat) : FnOK Tryd.prog gt0 128 (sp_ref12_Dc N) := by
  refine fnOK_handed Tryd.func128 rfl (by kernel_rfl) tt_ok (ktCons (ok_ref01_Clip N) (ktNil)) ?_
  intro args lk r h hp
  unfold sp_ref12_Dc at h
  split at h
  · rename_i a1
    cases h
    obtain ⟨x, hx⟩ := Option.isSome_iff_exists.1 hp
    simp only [hx, Option.getD_some]
    refine hand0 rfl rfl (fun w0 M ε0 hX => ?_)
    refine rCount (fun hε => ?_)
    have hT : ref12_Dc N a1 = some x := hx; clear hx hp; unfold ref12_Dc at hT
    refine rSeq ?_
    refine zReg md0 hX rfl rfl rfl ?_
    refine rThen ?_
    refine rSeq ?_
    let c1 := (ref01_Clip N a1 1 254)
    replace hT := sIf hT; obtain ⟨⟨o1, o2⟩, hT⟩ := hT
    refine zReg md0 hX rfl rfl rfl ?_
    refine rThen ?_
    refine rRet ?_
    have hy := Option.some.inj hT; subst hy
    exact zEnd0 hX rfl
  · cases h
def ref12_Block_b1 (N : Nat) (a1 : (List Int)) (a2 : Int) (a3 : Bool) (a4 : Int) (s1 : (Int × (List Int))) : Option ((Int × (List Int)) ⊕ (List Int)) :=
  bif (decide (s1.1 < 64)) then
    let c1 := (ref12_Value N (a1.getD (s1.1).toNat 0) a2)
    if (0 : Int) ≤ s1.1 ∧ s1.1 < 64 ∧ (s1.1).toNat < 64 ∧ c1.isSome = true then
      joinK (fun (v2 : (List Int)) =>
        if inK .i64 (s1.1 + 1) then
          some (.inl ((s1.1 + 1), v2))
        else none
      ) fun k1 =>
        bif (bif (decide (s1.1 = 0)) then a3 else false) then
          let c2 := (ref12_Dc N a4)
          if c2.isSome = true ∧ (0 : Int) ≤ s1.1 ∧ s1.1 < 64 ∧ (s1.1).toNat < 64 then
            k1 ((s1.2.set (s1.1).toNat (c1.getD default)).set (s1.1).toNat (c2.getD default))
          else none
        else
          k1 (s1.2.set (s1.1).toNat (c1.getD default))
    else none
  else
    some (.inr s1.2)
def ref12_Block (N : Nat) (a1 : (List Int)) (a2 : Int) (a3 : Bool) (a4 : Int) : Option (List Int) :=
  (iter (ref12_Block_b1 N a1 a2 a3 a4) N (0, (List.replicate 64 0))).bind fun v1 =>
    some v1
def sp_ref12_Block (N : Nat) : X.Spec := fun args lk => match args with
  | [.v (.agg [.ints 64 .i64 a1]), .v (.c (.int .i64 a2)), .v (.c (.bool a3)), .v (.c (.int .i64 a4))] => some ⟨(ref12_Block N a1 a2 a3 a4).isSome = true, .v (.agg [.ints 64 .i64 ((ref12_Block N a1 a2 a3 a4).getD default)]), [], []⟩
  | _ => none
set_option maxRecDepth 100000 in
set_option maxHeartbeats 1000000 in
theorem ok_ref12_Block (N : Nat) : FnOK Tryd.prog gt0 81 (sp_ref12_Block N) := by
  refine fnOK_handed Tryd.func81 rfl (by kernel_rfl) tt_ok (ktCons (ok_ref12_Dc N) (ktCons (ok_ref12_Value N) (ktNil))) ?_
  intro args lk r h hp
  unfold sp_ref12_Block at h
  split at h
  · rename_i a1 a2 a3 a4
    change (List Int) at a1
    cases h
    obtain ⟨x, hx⟩ := Option.isSome_iff_exists.1 hp
    simp only [hx, Option.getD_some]
    refine hand0 rfl rfl (fun w0 M ε0 hX => ?_)
    refine rCount (fun hε => ?_)
    have hT : ref12_Block N a1 a2 a3 a4 = some x := hx; clear hx hp; unfold ref12_Block at hT
    refine rSeq ?_
    refine zReg md0 hX rfl rfl rfl ?_
    refine rThen ?_
    refine rSeq ?_
    refine zReg md0 hX rfl rfl rfl ?_
    refine rThen ?_
    refine rSeq ?_
    refine rSeq ?_
    refine zReg md0 hX rfl rfl rfl ?_
    refine rThen ?_
    refine rBlock ?_
    replace hT := sBind hT; obtain ⟨w1, hl, hT⟩ := hT
    refine rJoinA (fun v1 => v1 = w1) (fun v1 => ⟨[(8, .v (.c (.ptr 1 0 0 0 0 0))), (9, .v (.c (.ptr 2 0 0 0 0 0)))], [(1, .mem true 22 none (.flat [.ints 64 .i64 (List.replicate 64 0)])), (2, .mem true 22 none (.flat [.ints 64 .i64 v1]))], 3⟩) (.exit 0) (fun v1 hv => ?_) (fun hxs10 => ?_)
    · subst hv; clear hl
      refine rInHit ?_
      refine rThen ?_
      refine rSeq ?_
      refine zReg md0 hX rfl rfl rfl ?_
      refine rThen ?_
      refine rRet ?_
      have hy := Option.some.inj hT; subst hy
      exact zEnd0 hX rfl
    refine rLoopM (ref12_Block_b1 N a1 a2 a3 a4) (fun s1 => ⟨[(1, .v (.c (.int .i64 a2))), (2, .v (.c (.bool a3))), (3, .v (.c (.int .i64 a4))), (4, .v (.c (.ptr 0 0 0 0 0 0))), (8, .v (.c (.ptr 1 0 0 0 0 0))), (9, .v (.c (.ptr 2 0 0 0 0 0))), (10, .v (.c (.int .i64 s1.1)))], [(0, .mem true 22 none (.flat [.ints 64 .i64 a1])), (1, .mem true 22 none (.flat [.ints 64 .i64 (List.replicate 64 0)])), (2, .mem true 22 none (.flat [.ints 64 .i64 s1.2]))], 3⟩) hl (To.mk' [] 0 hε rfl (by repeat' first | exact True.intro | exact rfl | apply And.intro) (by repeat' first | exact True.intro | exact rfl | apply And.intro)) (fun s1 zs1 NNs1 hz hnexts1 houts1 => ?_)
    clear hl hT
    have hT := hz; clear hz
    refine rSeq ?_
    refine rSeq ?_
    refine zReg md0 hX rfl rfl rfl ?_
    refine rThen ?_
    refine zCond rfl rfl (fun hc => ?_) (fun hc => ?_)
    · replace hT := sT hc hT
      refine rSkip ?_
      refine rThen ?_
      refine rSeq ?_
      refine rBlock ?_
      refine rSeq ?_
      let c1 := (ref12_Value N (a1.getD (s1.1).toNat 0) a2)
      replace hT := sIf hT; obtain ⟨⟨o1, o2, o3, o4⟩, hT⟩ := hT
      refine zReg md0 hX rfl rfl rfl ?_
      refine rThen ?_
      refine rSeq ?_
      refine zReg md0 hX rfl rfl rfl ?_
      refine rThen ?_
      refine rJoinK hT (fun v2 => ⟨[(1, .v (.c (.int .i64 a2))), (2, .v (.c (.bool a3))), (3, .v (.c (.int .i64 a4))), (4, .v (.c (.ptr 0 0 0 0 0 0))), (8, .v (.c (.ptr 1 0 0 0 0 0))), (9, .v (.c (.ptr 2 0 0 0 0 0))), (10, .v (.c (.int .i64 s1.1))), (11, .v (.c (.int .i64 s1.1))), (12, .v (.c (.bool (decide (s1.1 < 64))))), (15, .v (.c (.int .i64 s1.1))), (16, .v (.c (.int .i64 s1.1))), (17, .v (.c (.ptr 0 0 0 0 1 (s1.1).toNat))), (18, .v (.c (.int .i64 (a1.getD (s1.1).toNat 0)))), (19, .v (.c (.int .i64 a2))), (20, .v (.c (.int .i64 (c1.getD default)))), (21, .v (.c (.ptr 2 0 0 0 1 (s1.1).toNat))), (22, .v (.c (.int .i64 s1.1))), (23, .v (.c (.bool (decide (s1.1 = 0))))), (24, .v (.c (.bool (decide (s1.1 = 0))))), (26, .v (.c (.bool (bif (decide (s1.1 = 0)) then a3 else false))))], [(0, .mem true 22 none (.flat [.ints 64 .i64 a1])), (1, .mem true 22 none (.flat [.ints 64 .i64 (List.replicate 64 0)])), (2, .mem true 22 none (.flat [.ints 64 .i64 v2]))], 3⟩) (fun v2 hT => ?_) (fun k1 hjk1 hT => ?_)
      · skip
        refine rInNormal ?_
        refine rThen ?_
        replace hT := sIf hT; obtain ⟨o1, hT⟩ := hT
        refine zReg md0 hX rfl rfl rfl ?_
        exact hnexts1 _ (Option.some.inj hT).symm _ (To.mk' [] 0 hε rfl (by repeat' first | exact True.intro | exact rfl | apply And.intro) (by repeat' first | exact True.intro | exact rfl | apply And.intro))
      · skip
        refine zCond rfl rfl (fun hc => ?_) (fun hc => ?_)
        · replace hT := sT hc hT
          let c2 := (ref12_Dc N a4)
          replace hT := sIf hT; obtain ⟨⟨o1, o2, o3, o4⟩, hT⟩ := hT
          refine zReg md0 hX rfl rfl rfl ?_
          exact zTo [] 0 hε (hjk1 _ hT)
        · replace hT := sF hc hT
          refine rSkip ?_
          exact zTo [] 0 hε (hjk1 _ hT)
    · replace hT := sF hc hT
      refine rExit ?_
      refine rThenExit ?_
      refine rThenExit ?_
      exact zTo [] 0 hε (hxs10 _ (houts1 _ (Option.some.inj hT).symm))
  · cases h
def ref29_Values_b1 (N : Nat) (a3 : Int) (a6 : (List Int)) (a8 : Int) (s1 : (Int × (List Int))) : Option ((Int × (List Int)) ⊕ (List Int)) :=
  bif (decide (s1.1 < 6)) then
    let c2 := (ref21_Intra N a3)
    let c3 := (ref12_Block N ((s1.2.drop (64 * (s1.1).toNat)).take 64) a8 (c2.getD default) (a6.getD (s1.1).toNat 0))
    if (0 : Int) ≤ s1.1 ∧ s1.1 < 6 ∧ (64 * (s1.1).toNat) + 64 ≤ 384 ∧ c2.isSome = true ∧ (s1.1).toNat < 6 ∧ c3.isSome = true then
      if inK .i64 (s1.1 + 1) then
        some (.inl ((s1.1 + 1), (layL s1.2 (64 * (s1.1).toNat) (c3.getD default) 64)))
      else none
    else none
  else
    some (.inr s1.2)
def ref29_Values (N : Nat) (a1 : Int) (a2 : Bool) (a3 : Int) (a4 : Int) (a5 : (List Int)) (a6 : (List Int)) (a7 : (List (List (Bool × (Int × Int))))) (a8 : Int) : Option (List Int) :=
  let c1 := (ref29_Levels N a1 a2 a3 a4 a5 a6 a7)
  if c1.isSome = true then
    (iter (ref29_Values_b1 N a3 a6 a8) N (0, (c1.getD default))).bind fun v1 =>
      some v1
  else none
def sp_ref29_Values (N : Nat) : X.Spec := fun args lk => match args with
  | [.v (.agg [.cs [.int .i64 a1, .bool a2, .int .i64 a3, .int .i64 a4], .ints 2 .i64 a5, .ints 6 .i64 a6, .fzs 6 (.pair .bool (.pair (.int .i64) (.int .i64))) a7]), .v (.c (.int .i64 a8))] => some ⟨(ref29_Values N a1 a2 a3 a4 a5 a6 a7 a8).isSome = true, .v (.agg [.ints 384 .i64 ((ref29_Values N a1 a2 a3 a4 a5 a6 a7 a8).getD default)]), [], []⟩
  | _ => none
set_option maxRecDepth 100000 in
set_option maxHeartbeats 1000000 in
theorem ok_ref29_Values (N : Nat) : FnOK Tryd.prog gt0 32 (sp_ref29_Values N) := by
  refine fnOK_handed Tryd.func32 rfl (by kernel_rfl) tt_ok (ktCons (ok_ref12_Block N) (ktCons (ok_ref21_Intra N) (ktCons (ok_ref29_Levels N) (ktNil)))) ?_
  intro args lk r h hp
  unfold sp_ref29_Values at h
  split at h
  · rename_i a1 a2 a3 a4 a5 a6 a7 a8
    change (List Int) at a5
    change (List Int) at a6
    change (List (List (Bool × (Int × Int)))) at a7
    cases h
    obtain ⟨x, hx⟩ := Option.isSome_iff_exists.1 hp
    simp only [hx, Option.getD_some]
    refine hand0 rfl rfl (fun w0 M ε0 hX => ?_)
    refine rCount (fun hε => ?_)
    have hT : ref29_Values N a1 a2 a3 a4 a5 a6 a7 a8 = some x := hx; clear hx hp; unfold ref29_Values at hT
    refine rSeq ?_
    refine zReg md0 hX rfl rfl rfl ?_
    refine rThen ?_
    refine rSeq ?_
    let c1 := (ref29_Levels N a1 a2 a3 a4 a5 a6 a7)
    replace hT := sIf hT; obtain ⟨o1, hT⟩ := hT
    refine zReg md0 hX rfl rfl rfl ?_
    refine rThen ?_
    refine rSeq ?_
    refine rSeq ?_
    refine zReg md0 hX rfl rfl rfl ?_
    refine rThen ?_
    refine rBlock ?_
    replace hT := sBind hT; obtain ⟨w1, hl, hT⟩ := hT
    refine rJoinA (fun v1 => v1 = w1) (fun v1 => ⟨[(4, .v (.c (.ptr 1 0 0 0 0 0))), (5, .v (.c (.ptr 2 0 0 0 0 0)))], [(1, .mem true 39 none (.flat [.ints 384 .i64 (List.replicate 384 0)])), (2, .mem true 39 none (.flat [.ints 384 .i64 v1]))], 3⟩) (.exit 0) (fun v1 hv => ?_) (fun hxs10 => ?_)
    · subst hv; clear hl
      refine rInHit ?_
      refine rThen ?_
      refine rSeq ?_
      refine zReg md0 hX rfl rfl rfl ?_
      refine rThen ?_
      refine rRet ?_
      have hy := Option.some.inj hT; subst hy
      exact zEnd0 hX rfl
    refine rLoopM (ref29_Values_b1 N a3 a6 a8) (fun s1 => ⟨[(1, .v (.c (.int .i64 a8))), (2, .v (.c (.ptr 0 0 0 0 0 0))), (4, .v (.c (.ptr 1 0 0 0 0 0))), (5, .v (.c (.ptr 2 0 0 0 0 0))), (6, .v (.c (.int .i64 s1.1)))], [(0, .mem true 37 none (.flat [.cs [.int .i64 a1, .bool a2, .int .i64 a3, .int .i64 a4], .ints 2 .i64 a5, .ints 6 .i64 a6, .fzs 6 (.pair .bool (.pair (.int .i64) (.int .i64))) a7])), (1, .mem true 39 none (.flat [.ints 384 .i64 (List.replicate 384 0)])), (2, .mem true 39 none (.flat [.ints 384 .i64 s1.2]))], 3⟩) hl (To.mk' [] 0 hε rfl (by repeat' first | exact True.intro | exact rfl | apply And.intro) (by repeat' first | exact True.intro | exact rfl | apply And.intro)) (fun s1 zs1 NNs1 hz hnexts1 houts1 => ?_)
    clear hl hT
    have hT := hz; clear hz
    refine rSeq ?_
    refine rSeq ?_
    refine zReg md0 hX rfl rfl rfl ?_
    refine rThen ?_
    refine zCond rfl rfl (fun hc => ?_) (fun hc => ?_)
    · replace hT := sT hc hT
      refine rSkip ?_
      refine rThen ?_
      refine rSeq ?_
      refine rBlock ?_
      let c2 := (ref21_Intra N a3)
      let c3 := (ref12_Block N ((s1.2.drop (64 * (s1.1).toNat)).take 64) a8 (c2.getD default) (a6.getD (s1.1).toNat 0))
      replace hT := sIf hT; obtain ⟨⟨o1, o2, o3, o4, o5, o6⟩, hT⟩ := hT
      refine zDraw md0 1 [14] hX mixed rfl rfl rfl rfl rfl ?_
      refine rInNormal ?_
      refine rThen ?_
      replace hT := sIf hT; obtain ⟨o1, hT⟩ := hT
      refine zReg md0 hX rfl rfl rfl ?_
      exact hnexts1 _ (Option.some.inj hT).symm _ (To.mk' [] 0 hε rfl (by repeat' first | exact True.intro | exact rfl | apply And.intro) (by repeat' first | exact True.intro | exact rfl | apply And.intro))
    · replace hT := sF hc hT
      refine rExit ?_
      refine rThenExit ?_
      refine rThenExit ?_
      exact zTo [] 0 hε (hxs10 _ (houts1 _ (Option.some.inj hT).symm))
  · cases h
def ref14_Weight (N : Nat) (a1 : Int) (a2 : Int) : Option Int :=
  let x1 := (layL (layL (layL (layL (layL (layL (layL (layL (List.replicate 32 0) 0 (((((List.replicate 4 0).set 0 64).set 1 64).set 2 64).set 3 64) 4) 4 (((((List.replicate 4 0).set 0 89).set 1 75).set 2 50).set 3 18) 4) 8 (((((List.replicate 4 0).set 0 83).set 1 36).set 2 (-36)).set 3 (-83)) 4) 12 (((((List.replicate 4 0).set 0 75).set 1 (-18)).set 2 (-89)).set 3 (-50)) 4) 16 (((((List.replicate 4 0).set 0 64).set 1 (-64)).set 2 (-64)).set 3 64) 4) 20 (((((List.replicate 4 0).set 0 50).set 1 (-89)).set 2 18).set 3 75) 4) 24 (((((List.replicate 4 0).set 0 36).set 1 (-83)).set 2 83).set 3 (-36)) 4) 28 (((((List.replicate 4 0).set 0 18).set 1 (-50)).set 2 75).set 3 (-89)) 4)
  bif (decide (a2 < 4)) then
    if (0 : Int) ≤ a1 ∧ a1 < 8 ∧ (0 : Int) ≤ a2 ∧ a2 < 4 ∧ ((a1).toNat * 4 + (a2).toNat) < 32 then
      some (x1.getD ((a1).toNat * 4 + (a2).toNat) 0)
    else none
  else
    if (0 : Int) ≤ a1 then
      bif (decide ((a1 % 2) = 1)) then
        if inK .i64 ((7 : Int) - a2) ∧ (0 : Int) ≤ a1 ∧ a1 < 8 ∧ (0 : Int) ≤ ((7 : Int) - a2) ∧ ((7 : Int) - a2) < 4 ∧ ((a1).toNat * 4 + ((7 : Int) - a2).toNat) < 32 ∧ inK .i64 (-(x1.getD ((a1).toNat * 4 + ((7 : Int) - a2).toNat) 0)) then
          some (-(x1.getD ((a1).toNat * 4 + ((7 : Int) - a2).toNat) 0))
        else none
      else
        if inK .i64 ((7 : Int) - a2) ∧ (0 : Int) ≤ a1 ∧ a1 < 8 ∧ (0 : Int) ≤ ((7 : Int) - a2) ∧ ((7 : Int) - a2) < 4 ∧ ((a1).toNat * 4 + ((7 : Int) - a2).toNat) < 32 then
          some (x1.getD ((a1).toNat * 4 + ((7 : Int) - a2).toNat) 0)
        else none
    else none
def sp_ref14_Weight (N : Nat) : X.Spec := fun args lk => match args with
  | [.v (.c (.int .i64 a1)), .v (.c (.int .i64 a2))] => some ⟨(ref14_Weight N a1 a2).isSome = true, .v (.c (.int .i64 ((ref14_Weight N a1 a2).getD default))), [], []⟩
  | _ => none
set_option maxRecDepth 100000 in
set_option maxHeartbeats 1000000 in
theorem ok_ref14_Weight (N : Nat) : FnOK Tryd.prog gt0 141 (sp_ref14_Weight N) := by
  refine fnOK_handed Tryd.func141 rfl (by kernel_rfl) tt_ok (ktNil) ?_
  intro args lk r h hp
  unfold sp_ref14_Weight at h
  split at h
  · rename_i a1 a2
    cases h
    obtain ⟨x, hx⟩ := Option.isSome_iff_exists.1 hp
    simp only [hx, Option.getD_some]
    refine hand0 rfl rfl (fun w0 M ε0 hX => ?_)
    refine rCount (fun hε => ?_)
    have hT : ref14_Weight N a1 a2 = some x := hx; clear hx hp; unfold ref14_Weight at hT
    refine rSeq ?_
    refine zReg md0 hX rfl rfl rfl ?_
    refine rThen ?_
    refine rSeq ?_
    let x1 := (layL (layL (layL (layL (layL (layL (layL (layL (List.replicate 32 0) 0 (((((List.replicate 4 0).set 0 64).set 1 64).set 2 64).set 3 64) 4) 4 (((((List.replicate 4 0).set 0 89).set 1 75).set 2 50).set 3 18) 4) 8 (((((List.replicate 4 0).set 0 83).set 1 36).set 2 (-36)).set 3 (-83)) 4) 12 (((((List.replicate 4 0).set 0 75).set 1 (-18)).set 2 (-89)).set 3 (-50)) 4) 16 (((((List.replicate 4 0).set 0 64).set 1 (-64)).set 2 (-64)).set 3 64) 4) 20 (((((List.replicate 4 0).set 0 50).set 1 (-89)).set 2 18).set 3 75) 4) 24 (((((List.replicate 4 0).set 0 36).set 1 (-83)).set 2 83).set 3 (-36)) 4) 28 (((((List.replicate 4 0).set 0 18).set 1 (-50)).set 2 75).set 3 (-89)) 4)
    refine zReg md0 hX rfl rfl rfl ?_
    refine rThen ?_
    refine rSeq ?_
    refine rSeq ?_
    refine zReg md0 hX rfl rfl rfl ?_
    refine rThen ?_
    refine zCond rfl rfl (fun hc => ?_) (fun hc => ?_)
    · replace hT := sT hc hT
      refine rSeq ?_
      replace hT := sIf hT; obtain ⟨⟨o1, o2, o3, o4, o5⟩, hT⟩ := hT
      refine zReg md0 hX rfl rfl rfl ?_
      refine rThen ?_
      refine rRet ?_
      refine rThenRet ?_
      have hy := Option.some.inj hT; subst hy
      exact zEnd0 hX rfl
    · replace hT := sF hc hT
      refine rSkip ?_
      refine rThen ?_
      refine rSeq ?_
      refine rSeq ?_
      replace hT := sIf hT; obtain ⟨o1, hT⟩ := hT
      refine zReg md0 hX rfl rfl rfl ?_
      refine rThen ?_
      refine zCond rfl rfl (fun hc => ?_) (fun hc => ?_)
      · replace hT := sT hc hT
        refine rSeq ?_
        replace hT := sIf hT; obtain ⟨⟨o1, o2, o3, o4, o5, o6, o7⟩, hT⟩ := hT
        refine zReg md0 hX rfl rfl rfl ?_
        refine rThen ?_
        refine rRet ?_
        refine rThenRet ?_
        have hy := Option.some.inj hT; subst hy
        exact zEnd0 hX rfl
      · replace hT := sF hc hT
        refine rSkip ?_
        refine rThen ?_
        refine rSeq ?_
        replace hT := sIf hT; obtain ⟨⟨o1, o2, o3, o4, o5, o6⟩, hT⟩ := hT
        refine zReg md0 hX rfl rfl rfl ?_
        refine rThen ?_
        refine rRet ?_
        have hy := Option.some.inj hT; subst hy
        exact zEnd0 hX rfl
  · cases h
def ref14_weights_b2 (N : Nat) (s1 : (Int × (List Int))) (s2 : (Int × (List Int))) : Option ((Int × (List Int)) ⊕ (Int × Int × Bool × (List Int))) :=
  bif (decide (s2.1 < 8)) then
    let c1 := (ref14_Weight N s1.1 s2.1)
    if c1.isSome = true ∧ (0 : Int) ≤ s1.1 ∧ s1.1 < 8 ∧ (0 : Int) ≤ s2.1 ∧ s2.1 < 8 ∧ ((s1.1).toNat * 8 + (s2.1).toNat) < 64 then
      if inK .i64 (s2.1 + 1) then
        some (.inl ((s2.1 + 1), (s2.2.set ((s1.1).toNat * 8 + (s2.1).toNat) (c1.getD default))))
      else none
    else none
  else
    some (.inr (s2.1, s2.1, (decide (s2.1 < 8)), s2.2))
def ref14_weights_b1 (N : Nat) (s1 : (Int × (List Int))) : Option ((Int × (List Int)) ⊕ (List Int)) :=
  bif (decide (s1.1 < 8)) then
    (iter (ref14_weights_b2 N s1) N (0, s1.2)).bind fun v2 =>
      if inK .i64 (s1.1 + 1) then
        some (.inl ((s1.1 + 1), v2.2.2.2))
      else none
  else
    some (.inr s1.2)
def ref14_weights (N : Nat) : Option (List Int) :=
  (iter (ref14_weights_b1 N) N (0, (List.replicate 64 0))).bind fun v1 =>
    some v1
def sp_ref14_weights (N : Nat) : X.Spec := fun args lk => match args with
  | [] => some ⟨(ref14_weights N).isSome = true, .v (.agg [.ints 64 .i64 ((ref14_weights N).getD default)]), [], []⟩
  | _ => none
set_option maxRecDepth 100000 in
set_option maxHeartbeats 1000000 in
theorem ok_ref14_weights (N : Nat) : FnOK Tryd.prog gt0 110 (sp_ref14_weights N) := by
  refine fnOK_handed Tryd.func110 rfl (by kernel_rfl) tt_ok (ktCons (ok_ref14_Weight N) (ktNil)) ?_
  intro args lk r h hp
  unfold sp_ref14_weights at h
  split at h
  · skip
    cases h
    obtain ⟨x, hx⟩ := Option.isSome_iff_exists.1 hp
    simp only [hx, Option.getD_some]
    refine hand0 rfl rfl (fun w0 M ε0 hX => ?_)
    refine rCount (fun hε => ?_)
    have hT : ref14_weights N = some x := hx; clear hx hp; unfold ref14_weights at hT
    refine rSeq ?_
    refine zReg md0 hX rfl rfl rfl ?_
    refine rThen ?_
    refine rSeq ?_
    refine zReg md0 hX rfl rfl rfl ?_
    refine rThen ?_
    refine rSeq ?_
    refine rSeq ?_
    refine zReg md0 hX rfl rfl rfl ?_
    refine rThen ?_
    refine rBlock ?_
    replace hT := sBind hT; obtain ⟨w1, hl, hT⟩ := hT
    refine rJoinA (fun v1 => v1 = w1) (fun v1 => ⟨[(0, .v (.c (.ptr 0 0 0 0 0 0))), (1, .v (.c (.ptr 1 0 0 0 0 0)))], [(0, .mem true 134 none (.flat [.ints 64 .i64 (List.replicate 64 0)])), (1, .mem true 134 none (.flat [.ints 64 .i64 v1]))], 2⟩) (.exit 0) (fun v1 hv => ?_) (fun hxs10 => ?_)
    · subst hv; clear hl
      refine rInHit ?_
      refine rThen ?_
      refine rSeq ?_
      refine zReg md0 hX rfl rfl rfl ?_
      refine rThen ?_
      refine rRet ?_
      have hy := Option.some.inj hT; subst hy
      exact zEnd0 hX rfl
    refine rLoopM (ref14_weights_b1 N) (fun s1 => ⟨[(0, .v (.c (.ptr 0 0 0 0 0 0))), (1, .v (.c (.ptr 1 0 0 0 0 0))), (2, .v (.c (.int .i64 s1.1)))], [(0, .mem true 134 none (.flat [.ints 64 .i64 (List.replicate 64 0)])), (1, .mem true 134 none (.flat [.ints 64 .i64 s1.2]))], 2⟩) hl (To.mk' [] 0 hε rfl (by repeat' first | exact True.intro | exact rfl | apply And.intro) (by repeat' first | exact True.intro | exact rfl | apply And.intro)) (fun s1 zs1 NNs1 hz hnexts1 houts1 => ?_)
    clear hl hT
    have hT := hz; clear hz
    refine rSeq ?_
    refine rSeq ?_
    refine zReg md0 hX rfl rfl rfl ?_
    refine rThen ?_
    refine zCond rfl rfl (fun hc => ?_) (fun hc => ?_)
    · replace hT := sT hc hT
      refine rSkip ?_
      refine rThen ?_
      refine rSeq ?_
      refine rBlock ?_
      refine rSeq ?_
      refine zReg md0 hX rfl rfl rfl ?_
      refine rThen ?_
      refine rBlock ?_
      replace hT := sBind hT; obtain ⟨w2, hl, hT⟩ := hT
      refine rJoinA (fun v2 => v2 = w2) (fun v2 => ⟨[(0, .v (.c (.ptr 0 0 0 0 0 0))), (1, .v (.c (.ptr 1 0 0 0 0 0))), (2, .v (.c (.int .i64 s1.1))), (3, .v (.c (.int .i64 v2.1))), (4, .v (.c (.int .i64 s1.1))), (5, .v (.c (.bool (decide (s1.1 < 8))))), (8, .v (.c (.int .i64 v2.2.1))), (9, .v (.c (.bool v2.2.2.1)))], [(0, .mem true 134 none (.flat [.ints 64 .i64 (List.replicate 64 0)])), (1, .mem true 134 none (.flat [.ints 64 .i64 v2.2.2.2]))], 2⟩) (.exit 2) (fun v2 hv => ?_) (fun hxs20 => ?_)
      · subst hv; clear hl
        refine rInHit ?_
        refine rInNormal ?_
        refine rThen ?_
        replace hT := sIf hT; obtain ⟨o1, hT⟩ := hT
        refine zReg md0 hX rfl rfl rfl ?_
        exact hnexts1 _ (Option.some.inj hT).symm _ (To.mk' [] 0 hε rfl (by repeat' first | exact True.intro | exact rfl | apply And.intro) (by repeat' first | exact True.intro | exact rfl | apply And.intro))
      refine rLoopM (ref14_weights_b2 N s1) (fun s2 => ⟨[(0, .v (.c (.ptr 0 0 0 0 0 0))), (1, .v (.c (.ptr 1 0 0 0 0 0))), (2, .v (.c (.int .i64 s1.1))), (3, .v (.c (.int .i64 s2.1))), (4, .v (.c (.int .i64 s1.1))), (5, .v (.c (.bool (decide (s1.1 < 8)))))], [(0, .mem true 134 none (.flat [.ints 64 .i64 (List.replicate 64 0)])), (1, .mem true 134 none (.flat [.ints 64 .i64 s2.2]))], 2⟩) hl (To.mk' [] 0 hε rfl (by repeat' first | exact True.intro | exact rfl | apply And.intro) (by repeat' first | exact True.intro | exact rfl | apply And.intro)) (fun s2 zs2 NNs2 hz hnexts2 houts2 => ?_)
      clear hl hT
      have hT := hz; clear hz
      refine rSeq ?_
      refine rSeq ?_
      refine zReg md0 hX rfl rfl rfl ?_
      refine rThen ?_
      refine zCond rfl rfl (fun hc => ?_) (fun hc => ?_)
      · replace hT := sT hc hT
        refine rSkip ?_
        refine rThen ?_
        refine rSeq ?_
        refine rBlock ?_
        let c1 := (ref14_Weight N s1.1 s2.1)
        replace hT := sIf hT; obtain ⟨⟨o1, o2, o3, o4, o5, o6⟩, hT⟩ := hT
        refine zDraw md0 1 [7] hX mixed rfl rfl rfl rfl rfl ?_
        refine rInNormal ?_
        refine rThen ?_
        replace hT := sIf hT; obtain ⟨o1, hT⟩ := hT
        refine zReg md0 hX rfl rfl rfl ?_
        exact hnexts2 _ (Option.some.inj hT).symm _ (To.mk' [] 0 hε rfl (by repeat' first | exact True.intro | exact rfl | apply And.intro) (by repeat' first | exact True.intro | exact rfl | apply And.intro))
      · replace hT := sF hc hT
        refine rExit ?_
        refine rThenExit ?_
        refine rThenExit ?_
        exact zTo [] 0 hε (hxs20 _ (houts2 _ (Option.some.inj hT).symm))
    · replace hT := sF hc hT
      refine rExit ?_
      refine rThenExit ?_
      refine rThenExit ?_
      exact zTo [] 0 hε (hxs10 _ (houts1 _ (Option.some.inj hT).symm))
  · cases h
def ref01_Round_b1 (N : Nat) (c2 : (Option Int)) (s1 : (Int × Int)) : Option ((Int × Int) ⊕ Int) :=
  bif (decide (s1.2 < (c2.getD default))) then
    if inK .i64 ((2 : Int) * s1.1) then
      if inK .i64 (s1.2 + 1) then
        some (.inl (((2 : Int) * s1.1), (s1.2 + 1)))
      else none
    else none
  else
    some (.inr s1.1)
def ref01_Round (N : Nat) (a1 : Int) (a2 : Int) : Option Int :=
  let c1 := (ref01_Clip N a1 (-1099511627776) 1099511627776)
  if c1.isSome = true then
    let c2 := (ref01_Clip N a2 0 32)
    if c2.isSome = true then
      bif (decide ((c2.getD default) = 0)) then
        some (c1.getD default)
      else
        (iter (ref01_Round_b1 N c2) N (1, 0)).bind fun v1 =>
          if inK .i64 (Int.tdiv v1 2) ∧ inK .i64 ((c1.getD default) + (Int.tdiv v1 2)) then
            if v1 ≠ 0 ∧ inK .i64 (Int.tdiv ((c1.getD default) + (Int.tdiv v1 2)) v1) then
              let x2 := (bif (decide (((c1.getD default) + (Int.tdiv v1 2)) < 0)) then (decide (((Int.tdiv ((c1.getD default) + (Int.tdiv v1 2)) v1) * v1) ≠ ((c1.getD default) + (Int.tdiv v1 2)))) else false)
              if ((decide (((c1.getD default) + (Int.tdiv v1 2)) < 0)) = true → inK .i64 ((Int.tdiv ((c1.getD default) + (Int.tdiv v1 2)) v1) * v1)) then
                if (x2 = true → inK .i64 ((Int.tdiv ((c1.getD default) + (Int.tdiv v1 2)) v1) - 1)) then
                  let x3 := (bif x2 then ((Int.tdiv ((c1.getD default) + (Int.tdiv v1 2)) v1) - 1) else (Int.tdiv ((c1.getD default) + (Int.tdiv v1 2)) v1))
                  some x3
                else none
              else none
            else none
          else none
    else none
  else none
def sp_ref01_Round (N : Nat) : X.Spec := fun args lk => match args with
  | [.v (.c (.int .i64 a1)), .v (.c (.int .i64 a2))] => some ⟨(ref01_Round N a1 a2).isSome = true, .v (.c (.int .i64 ((ref01_Round N a1 a2).getD default))), [], []⟩
  | _ => none
set_option maxRecDepth 100000 in
set_option maxHeartbeats 1000000 in
theorem ok_ref01_Round (N : Nat) : FnOK Tryd.prog gt0 111 (sp_ref01_Round N) := by
  refine fnOK_handed Tryd.func111 rfl (by kernel_rfl) tt_ok (ktCons (ok_ref01_Clip N) (ktNil)) ?_
  intro args lk r h hp
  unfold sp_ref01_Round at h
  split at h
  · rename_i a1 a2
    cases h
    obtain ⟨x, hx⟩ := Option.isSome_iff_exists.1 hp
    simp only [hx, Option.getD_some]
    refine hand0 rfl rfl (fun w0 M ε0 hX => ?_)
    refine rCount (fun hε => ?_)
    have hT : ref01_Round N a1 a2 = some x := hx; clear hx hp; unfold ref01_Round at hT
    refine rSeq ?_
    refine zReg mdT hX rfl rfl rfl ?_
    refine rThen ?_
    refine rSeq ?_
    let c1 := (ref01_Clip N a1 (-1099511627776) 1099511627776)
    replace hT := sIf hT; obtain ⟨o1, hT⟩ := hT
    refine zReg mdT hX rfl rfl rfl ?_
    refine rThen ?_
    refine rSeq ?_
    let c2 := (ref01_Clip N a2 0 32)
    replace hT := sIf hT; obtain ⟨o1, hT⟩ := hT
    refine zReg mdT hX rfl rfl rfl ?_
    refine rThen ?_
    refine rSeq ?_
    refine rSeq ?_
    refine zReg mdT hX rfl rfl rfl ?_
    refine rThen ?_
    refine zCond rfl rfl (fun hc => ?_) (fun hc => ?_)
    · replace hT := sT hc hT
      refine rSeq ?_
      refine zReg mdT hX rfl rfl rfl ?_
      refine rThen ?_
      refine rRet ?_
      refine rThenRet ?_
      have hy := Option.some.inj hT; subst hy
      exact zEnd0 hX rfl
    · replace hT := sF hc hT
      refine rSkip ?_
      refine rThen ?_
      refine rSeq ?_
      refine zReg mdT hX rfl rfl rfl ?_
      refine rThen ?_
      refine rSeq ?_
      refine rSeq ?_
      refine zReg mdT hX rfl rfl rfl ?_
      refine rThen ?_
      refine rBlock ?_
      replace hT := sBind hT; obtain ⟨w1, hl, hT⟩ := hT
      refine rJoinA (fun v1 => v1 = w1) (fun v1 => ⟨[(0, .v (.c (.int .i64 (c1.getD default)))), (4, .v (.c (.int .i64 0))), (5, .v (.c (.int .i64 v1)))], [], 0⟩) (.exit 0) (fun v1 hv => ?_) (fun hxs10 => ?_)
      · subst hv; clear hl
        refine rInHit ?_
        refine rThen ?_
        refine rSeq ?_
        replace hT := sIf hT; obtain ⟨⟨o1, o2⟩, hT⟩ := hT
        refine zReg mdT hX rfl rfl rfl ?_
        refine rThen ?_
        refine rSeq ?_
        replace hT := sIf hT; obtain ⟨⟨o1, o2⟩, hT⟩ := hT
        refine zReg mdT hX rfl rfl rfl ?_
        refine rThen ?_
        refine rSeq ?_
        refine rSeq ?_
        let x2 := (bif (decide (((c1.getD default) + (Int.tdiv v1 2)) < 0)) then (decide (((Int.tdiv ((c1.getD default) + (Int.tdiv v1 2)) v1) * v1) ≠ ((c1.getD default) + (Int.tdiv v1 2)))) else false)
        replace hT := sIf hT; obtain ⟨o1, hT⟩ := hT
        refine rRegC mdT hX rfl rfl rfl (by (repeat' first | exact True.intro | with_reducible assumption | (with_reducible apply And.intro) | intro _) <;> first | assumption | exact o1 (by assumption) | exact rfl | omega | exact Nat.le_of_ble_eq_true rfl | exact selF (by assumption) | exact selT (by assumption) | exact And.intro rfl rfl | exact And.intro (by assumption) rfl | exact And.intro (by omega) rfl | (simp only [inK] at *; omega) | (simp_all [sel] <;> fail) | fail) ?_
        refine rThen ?_
        replace hT := sIf hT; obtain ⟨q1, hT⟩ := hT
        refine rJoin ⟨[(4, .v (.c (.int .i64 0))), (8, .v (.c (.int .i64 (bif x2 then ((Int.tdiv ((c1.getD default) + (Int.tdiv v1 2)) v1) - 1) else (Int.tdiv ((c1.getD default) + (Int.tdiv v1 2)) v1)))))], [], 0⟩ ?_ (fun hj => ?_)
        · skip
          let x3 := (bif x2 then ((Int.tdiv ((c1.getD default) + (Int.tdiv v1 2)) v1) - 1) else (Int.tdiv ((c1.getD default) + (Int.tdiv v1 2)) v1))
          refine rThen ?_
          refine rSeq ?_
          refine zReg mdT hX rfl rfl rfl ?_
          refine rThen ?_
          refine rRet ?_
          have hy := Option.some.inj hT; subst hy
          exact zEnd0 hX rfl
        · clear hT
          refine zCond rfl rfl (fun hc => ?_) (fun hc => ?_)
          · skip
            have q1 := q1 hc
            refine zReg mdT hX rfl rfl rfl ?_
            exact rTo (To.mk' [] 0 hε rfl (by (repeat' first | exact True.intro | exact rfl | apply And.intro) <;> (repeat' first | exact rfl | refine Eq.trans ?_ (cTr (by assumption)) | refine Eq.trans ?_ (cFr (by assumption)) | refine Eq.trans (cTl (by assumption)) ?_ | refine Eq.trans (cFl (by assumption)) ?_)) (by (repeat' first | exact True.intro | exact rfl | apply And.intro) <;> (repeat' first | exact rfl | refine Eq.trans ?_ (cTr (by assumption)) | refine Eq.trans ?_ (cFr (by assumption)) | refine Eq.trans (cTl (by assumption)) ?_ | refine Eq.trans (cFl (by assumption)) ?_))) hj
          · skip
            refine rSkip ?_
            exact rTo (To.mk' [] 0 hε rfl (by (repeat' first | exact True.intro | exact rfl | apply And.intro) <;> (repeat' first | exact rfl | refine Eq.trans ?_ (cTr (by assumption)) | refine Eq.trans ?_ (cFr (by assumption)) | refine Eq.trans (cTl (by assumption)) ?_ | refine Eq.trans (cFl (by assumption)) ?_)) (by (repeat' first | exact True.intro | exact rfl | apply And.intro) <;> (repeat' first | exact rfl | refine Eq.trans ?_ (cTr (by assumption)) | refine Eq.trans ?_ (cFr (by assumption)) | refine Eq.trans (cTl (by assumption)) ?_ | refine Eq.trans (cFl (by assumption)) ?_))) hj
      refine rLoopM (ref01_Round_b1 N c2) (fun s1 => ⟨[(0, .v (.c (.int .i64 (c1.getD default)))), (1, .v (.c (.int .i64 (c2.getD default)))), (4, .v (.c (.int .i64 0))), (5, .v (.c (.int .i64 s1.1))), (6, .v (.c (.int .i64 s1.2)))], [], 0⟩) hl (To.mk' [] 0 hε rfl (by repeat' first | exact True.intro | exact rfl | apply And.intro) (by repeat' first | exact True.intro | exact rfl | apply And.intro)) (fun s1 zs1 NNs1 hz hnexts1 houts1 => ?_)
      clear hl hT
      have hT := hz; clear hz
      refine rSeq ?_
      refine rSeq ?_
      refine zReg mdT hX rfl rfl rfl ?_
      refine rThen ?_
      refine zCond rfl rfl (fun hc => ?_) (fun hc => ?_)
      · replace hT := sT hc hT
        refine rSkip ?_
        refine rThen ?_
        refine rSeq ?_
        refine rBlock ?_
        replace hT := sIf hT; obtain ⟨o1, hT⟩ := hT
        refine zReg mdT hX rfl rfl rfl ?_
        refine rInNormal ?_
        refine rThen ?_
        replace hT := sIf hT; obtain ⟨o1, hT⟩ := hT
        refine zReg mdT hX rfl rfl rfl ?_
        exact hnexts1 _ (Option.some.inj hT).symm _ (To.mk' [] 0 hε rfl (by repeat' first | exact True.intro | exact rfl | apply And.intro) (by repeat' first | exact True.intro | exact rfl | apply And.intro))
      · replace hT := sF hc hT
        refine rExit ?_
        refine rThenExit ?_
        refine rThenExit ?_
        exact zTo [] 0 hε (hxs10 _ (houts1 _ (Option.some.inj hT).symm))
  · cases h
def ref14_Inverse_b2 (N : Nat) (a1 : (List Int)) (c1 : (Option (List Int))) (s1 : (Int × (List Int))) (s2 : (Int × Int)) : Option ((Int × Int) ⊕ (Int × Int × Int × Bool)) :=
  bif (decide (s2.2 < 64)) then
    if (0 : Int) ≤ s2.2 ∧ s2.2 < 64 ∧ (s2.2).toNat < 64 then
      let c4 := (ref01_Clip N (a1.getD (s2.2).toNat 0) (-2048) 2047)
      if ((decide ((a1.getD (s2.2).toNat 0) ≠ 0)) = true → (0 : Int) ≤ s2.2) ∧ ((decide ((a1.getD (s2.2).toNat 0) ≠ 0)) = true → (0 : Int) ≤ s1.1) ∧ ((decide ((a1.getD (s2.2).toNat 0) ≠ 0)) = true → (0 : Int) ≤ (s2.2 % 8)) ∧ ((decide ((a1.getD (s2.2).toNat 0) ≠ 0)) = true → (s2.2 % 8) < 8) ∧ ((decide ((a1.getD (s2.2).toNat 0) ≠ 0)) = true → (0 : Int) ≤ (s1.1 % 8)) ∧ ((decide ((a1.getD (s2.2).toNat 0) ≠ 0)) = true → (s1.1 % 8) < 8) ∧ ((decide ((a1.getD (s2.2).toNat 0) ≠ 0)) = true → ((s2.2 % 8).toNat * 8 + (s1.1 % 8).toNat) < 64) ∧ ((decide ((a1.getD (s2.2).toNat 0) ≠ 0)) = true → (0 : Int) ≤ (s2.2 / 8)) ∧ ((decide ((a1.getD (s2.2).toNat 0) ≠ 0)) = true → (s2.2 / 8) < 8) ∧ ((decide ((a1.getD (s2.2).toNat 0) ≠ 0)) = true → (0 : Int) ≤ (s1.1 / 8)) ∧ ((decide ((a1.getD (s2.2).toNat 0) ≠ 0)) = true → (s1.1 / 8) < 8) ∧ ((decide ((a1.getD (s2.2).toNat 0) ≠ 0)) = true → ((s2.2 / 8).toNat * 8 + (s1.1 / 8).toNat) < 64) ∧ ((decide ((a1.getD (s2.2).toNat 0) ≠ 0)) = true → inK .i64 (((c1.getD default).getD ((s2.2 % 8).toNat * 8 + (s1.1 % 8).toNat) 0) * ((c1.getD default).getD ((s2.2 / 8).toNat * 8 + (s1.1 / 8).toNat) 0))) ∧ ((decide ((a1.getD (s2.2).toNat 0) ≠ 0)) = true → s2.2 < 64) ∧ ((decide ((a1.getD (s2.2).toNat 0) ≠ 0)) = true → (s2.2).toNat < 64) ∧ ((decide ((a1.getD (s2.2).toNat 0) ≠ 0)) = true → c4.isSome = true) ∧ ((decide ((a1.getD (s2.2).toNat 0) ≠ 0)) = true → inK .i64 ((((c1.getD default).getD ((s2.2 % 8).toNat * 8 + (s1.1 % 8).toNat) 0) * ((c1.getD default).getD ((s2.2 / 8).toNat * 8 + (s1.1 / 8).toNat) 0)) * (c4.getD default))) ∧ ((decide ((a1.getD (s2.2).toNat 0) ≠ 0)) = true → inK .i64 (s2.1 + ((((c1.getD default).getD ((s2.2 % 8).toNat * 8 + (s1.1 % 8).toNat) 0) * ((c1.getD default).getD ((s2.2 / 8).toNat * 8 + (s1.1 / 8).toNat) 0)) * (c4.getD default)))) then
        let x1 := (bif (decide ((a1.getD (s2.2).toNat 0) ≠ 0)) then (s2.1 + ((((c1.getD default).getD ((s2.2 % 8).toNat * 8 + (s1.1 % 8).toNat) 0) * ((c1.getD default).getD ((s2.2 / 8).toNat * 8 + (s1.1 / 8).toNat) 0)) * (c4.getD default))) else s2.1)
        if inK .i64 (s2.2 + 1) then
          some (.inl (x1, (s2.2 + 1)))
        else none
      else none
    else none
  else
    some (.inr (s2.1, s2.2, s2.2, (decide (s2.2 < 64))))
def ref14_Inverse_b1 (N : Nat) (a1 : (List Int)) (c1 : (Option (List Int))) (s1 : (Int × (List Int))) : Option ((Int × (List Int)) ⊕ (List Int)) :=
  bif (decide (s1.1 < 64)) then
    (iter (ref14_Inverse_b2 N a1 c1 s1) N (0, 0)).bind fun v2 =>
      let c2 := (ref01_Round N v2.1 15)
      let c3 := (ref01_Clip N (c2.getD default) (-256) 255)
      if c2.isSome = true ∧ c3.isSome = true ∧ (0 : Int) ≤ s1.1 ∧ s1.1 < 64 ∧ (s1.1).toNat < 64 then
        if inK .i64 (s1.1 + 1) then
          some (.inl ((s1.1 + 1), (s1.2.set (s1.1).toNat (c3.getD default))))
        else none
      else none
  else
    some (.inr s1.2)
def ref14_Inverse (N : Nat) (a1 : (List Int)) : Option (List Int) :=
  let c1 := (ref14_weights N)
  if c1.isSome = true then
    (iter (ref14_Inverse_b1 N a1 c1) N (0, (List.replicate 64 0))).bind fun v1 =>
      some v1
  else none
def sp_ref14_Inverse (N : Nat) : X.Spec := fun args lk => match args with
  | [.v (.agg [.ints 64 .i64 a1])] => some ⟨(ref14_Inverse N a1).isSome = true, .v (.agg [.ints 64 .i64 ((ref14_Inverse N a1).getD default)]), [], []⟩
  | _ => none
set_option maxRecDepth 100000 in
set_option maxHeartbeats 1000000 in
theorem ok_ref14_Inverse (N : Nat) : FnOK Tryd.prog gt0 77 (sp_ref14_Inverse N) := by
  refine fnOK_handed Tryd.func77 rfl (by kernel_rfl) tt_ok (ktCons (ok_ref01_Clip N) (ktCons (ok_ref01_Round N) (ktCons (ok_ref14_weights N) (ktNil)))) ?_
  intro args lk r h hp
  unfold sp_ref14_Inverse at h
  split at h
  · rename_i a1
    change (List Int) at a1
    cases h
    obtain ⟨x, hx⟩ := Option.isSome_iff_exists.1 hp
    simp only [hx, Option.getD_some]
    refine hand0 rfl rfl (fun w0 M ε0 hX => ?_)
    refine rCount (fun hε => ?_)
    have hT : ref14_Inverse N a1 = some x := hx; clear hx hp; unfold ref14_Inverse at hT
    refine rSeq ?_
    refine zReg md0 hX rfl rfl rfl ?_
    refine rThen ?_
    refine rSeq ?_
    let c1 := (ref14_weights N)
    replace hT := sIf hT; obtain ⟨o1, hT⟩ := hT
    refine zReg md0 hX rfl rfl rfl ?_
    refine rThen ?_
    refine rSeq ?_
    refine zReg md0 hX rfl rfl rfl ?_
    refine rThen ?_
    refine rSeq ?_
    refine rSeq ?_
    refine zReg md0 hX rfl rfl rfl ?_
    refine rThen ?_
    refine rBlock ?_
    replace hT := sBind hT; obtain ⟨w1, hl, hT⟩ := hT
    refine rJoinA (fun v1 => v1 = w1) (fun v1 => ⟨[(2, .v (.c (.ptr 1 0 0 0 0 0))), (4, .v (.c (.ptr 3 0 0 0 0 0)))], [(1, .mem true 22 none (.flat [.ints 64 .i64 (List.replicate 64 0)])), (3, .mem true 22 none (.flat [.ints 64 .i64 v1]))], 4⟩) (.exit 0) (fun v1 hv => ?_) (fun hxs10 => ?_)
    · subst hv; clear hl
      refine rInHit ?_
      refine rThen ?_
      refine rSeq ?_
      refine zReg md0 hX rfl rfl rfl ?_
      refine rThen ?_
      refine rRet ?_
      have hy := Option.some.inj hT; subst hy
      exact zEnd0 hX rfl
    refine rLoopM (ref14_Inverse_b1 N a1 c1) (fun s1 => ⟨[(1, .v (.c (.ptr 0 0 0 0 0 0))), (2, .v (.c (.ptr 1 0 0 0 0 0))), (3, .v (.c (.ptr 2 0 0 0 0 0))), (4, .v (.c (.ptr 3 0 0 0 0 0))), (5, .v (.c (.int .i64 s1.1)))], [(0, .mem true 22 none (.flat [.ints 64 .i64 a1])), (1, .mem true 22 none (.flat [.ints 64 .i64 (List.replicate 64 0)])), (2, .mem true 134 none (.flat [.ints 64 .i64 (c1.getD default)])), (3, .mem true 22 none (.flat [.ints 64 .i64 s1.2]))], 4⟩) hl (To.mk' [] 0 hε rfl (by repeat' first | exact True.intro | exact rfl | apply And.intro) (by repeat' first | exact True.intro | exact rfl | apply And.intro)) (fun s1 zs1 NNs1 hz hnexts1 houts1 => ?_)
    clear hl hT
    have hT := hz; clear hz
    refine rSeq ?_
    refine rSeq ?_
    refine zReg md0 hX rfl rfl rfl ?_
    refine rThen ?_
    refine zCond rfl rfl (fun hc => ?_) (fun hc => ?_)
    · replace hT := sT hc hT
      refine rSkip ?_
      refine rThen ?_
      refine rSeq ?_
      refine rBlock ?_
      refine rSeq ?_
      refine zReg md0 hX rfl rfl rfl ?_
      refine rThen ?_
      refine rSeq ?_
      refine rSeq ?_
      refine zReg md0 hX rfl rfl rfl ?_
      refine rThen ?_
      refine rBlock ?_
      replace hT := sBind hT; obtain ⟨w2, hl, hT⟩ := hT
      refine rJoinA (fun v2 => v2 = w2) (fun v2 => ⟨[(1, .v (.c (.ptr 0 0 0 0 0 0))), (2, .v (.c (.ptr 1 0 0 0 0 0))), (3, .v (.c (.ptr 2 0 0 0 0 0))), (4, .v (.c (.ptr 3 0 0 0 0 0))), (5, .v (.c (.int .i64 s1.1))), (6, .v (.c (.int .i64 v2.1))), (7, .v (.c (.int .i64 v2.2.1))), (9, .v (.c (.int .i64 s1.1))), (10, .v (.c (.bool (decide (s1.1 < 64))))), (13, .v (.c (.int .i64 v2.2.2.1))), (14, .v (.c (.bool v2.2.2.2)))], [(0, .mem true 22 none (.flat [.ints 64 .i64 a1])), (1, .mem true 22 none (.flat [.ints 64 .i64 (List.replicate 64 0)])), (2, .mem true 134 none (.flat [.ints 64 .i64 (c1.getD default)])), (3, .mem true 22 none (.flat [.ints 64 .i64 s1.2]))], 4⟩) (.exit 2) (fun v2 hv => ?_) (fun hxs20 => ?_)
      · subst hv; clear hl
        refine rInHit ?_
        refine rThen ?_
        let c2 := (ref01_Round N v2.1 15)
        let c3 := (ref01_Clip N (c2.getD default) (-256) 255)
        replace hT := sIf hT; obtain ⟨⟨o1, o2, o3, o4, o5⟩, hT⟩ := hT
        refine zReg md0 hX rfl rfl rfl ?_
        refine rInNormal ?_
        refine rThen ?_
        replace hT := sIf hT; obtain ⟨o1, hT⟩ := hT
        refine zReg md0 hX rfl rfl rfl ?_
        exact hnexts1 _ (Option.some.inj hT).symm _ (To.mk' [] 0 hε rfl (by repeat' first | exact True.intro | exact rfl | apply And.intro) (by repeat' first | exact True.intro | exact rfl | apply And.intro))
      refine rLoopM (ref14_Inverse_b2 N a1 c1 s1) (fun s2 => ⟨[(1, .v (.c (.ptr 0 0 0 0 0 0))), (2, .v (.c (.ptr 1 0 0 0 0 0))), (3, .v (.c (.ptr 2 0 0 0 0 0))), (4, .v (.c (.ptr 3 0 0 0 0 0))), (5, .v (.c (.int .i64 s1.1))), (6, .v (.c (.int .i64 s2.1))), (7, .v (.c (.int .i64 s2.2))), (9, .v (.c (.int .i64 s1.1))), (10, .v (.c (.bool (decide (s1.1 < 64)))))], [(0, .mem true 22 none (.flat [.ints 64 .i64 a1])), (1, .mem true 22 none (.flat [.ints 64 .i64 (List.replicate 64 0)])), (2, .mem true 134 none (.flat [.ints 64 .i64 (c1.getD default)])), (3, .mem true 22 none (.flat [.ints 64 .i64 s1.2]))], 4⟩) hl (To.mk' [] 0 hε rfl (by repeat' first | exact True.intro | exact rfl | apply And.intro) (by repeat' first | exact True.intro | exact rfl | apply And.intro)) (fun s2 zs2 NNs2 hz hnexts2 houts2 => ?_)
      clear hl hT
      have hT := hz; clear hz
      refine rSeq ?_
      refine rSeq ?_
      refine zReg md0 hX rfl rfl rfl ?_
      refine rThen ?_
      refine zCond rfl rfl (fun hc => ?_) (fun hc => ?_)
      · replace hT := sT hc hT
        refine rSkip ?_
        refine rThen ?_
        refine rSeq ?_
        refine rBlock ?_
        refine rSeq ?_
        replace hT := sIf hT; obtain ⟨⟨o1, o2, o3⟩, hT⟩ := hT
        refine zReg md0 hX rfl rfl rfl ?_
        refine rThen ?_
        let c4 := (ref01_Clip N (a1.getD (s2.2).toNat 0) (-2048) 2047)
        replace hT := sIf hT; obtain ⟨⟨q1, q2, q3, q4, q5, q6, q7, q8, q9, q10, q11, q12, q13, q14, q15, q16, q17, q18⟩, hT⟩ := hT
        refine rJoin ⟨[(1, .v (.c (.ptr 0 0 0 0 0 0))), (2, .v (.c (.ptr 1 0 0 0 0 0))), (3, .v (.c (.ptr 2 0 0 0 0 0))), (4, .v (.c (.ptr 3 0 0 0 0 0))), (5, .v (.c (.int .i64 s1.1))), (6, .v (.c (.int .i64 (bif (decide ((a1.getD (s2.2).toNat 0) ≠ 0)) then (s2.1 + ((((c1.getD default).getD ((s2.2 % 8).toNat * 8 + (s1.1 % 8).toNat) 0) * ((c1.getD default).getD ((s2.2 / 8).toNat * 8 + (s1.1 / 8).toNat) 0)) * (c4.getD default))) else s2.1)))), (7, .v (.c (.int .i64 s2.2))), (9, .v (.c (.int .i64 s1.1))), (10, .v (.c (.bool (decide (s1.1 < 64))))), (13, .v (.c (.int .i64 s2.2))), (14, .v (.c (.bool (decide (s2.2 < 64))))), (17, .v (.c (.int .i64 s2.2))), (18, .v (.c (.ptr 0 0 0 0 1 (s2.2).toNat))), (19, .v (.c (.int .i64 (a1.getD (s2.2).toNat 0)))), (20, .v (.c (.bool (decide ((a1.getD (s2.2).toNat 0) ≠ 0)))))], [(0, .mem true 22 none (.flat [.ints 64 .i64 a1])), (1, .mem true 22 none (.flat [.ints 64 .i64 (List.replicate 64 0)])), (2, .mem true 134 none (.flat [.ints 64 .i64 (c1.getD default)])), (3, .mem true 22 none (.flat [.ints 64 .i64 s1.2]))], 4⟩ ?_ (fun hj => ?_)
        · skip
          let x1 := (bif (decide ((a1.getD (s2.2).toNat 0) ≠ 0)) then (s2.1 + ((((c1.getD default).getD ((s2.2 % 8).toNat * 8 + (s1.1 % 8).toNat) 0) * ((c1.getD default).getD ((s2.2 / 8).toNat * 8 + (s1.1 / 8).toNat) 0)) * (c4.getD default))) else s2.1)
          refine rInNormal ?_
          refine rThen ?_
          replace hT := sIf hT; obtain ⟨o1, hT⟩ := hT
          refine zReg md0 hX rfl rfl rfl ?_
          exact hnexts2 _ (Option.some.inj hT).symm _ (To.mk' [] 0 hε rfl (by repeat' first | exact True.intro | exact rfl | apply And.intro) (by repeat' first | exact True.intro | exact rfl | apply And.intro))
        · clear hT
          refine zCond rfl rfl (fun hc => ?_) (fun hc => ?_)
          · skip
            have q1 := q1 hc
            have q2 := q2 hc
            have q3 := q3 hc
            have q4 := q4 hc
            have q5 := q5 hc
            have q6 := q6 hc
            have q7 := q7 hc
            have q8 := q8 hc
            have q9 := q9 hc
            have q10 := q10 hc
            have q11 := q11 hc
            have q12 := q12 hc
            have q13 := q13 hc
            have q14 := q14 hc
            have q15 := q15 hc
            have q16 := q16 hc
            have q17 := q17 hc
            have q18 := q18 hc
            refine zDraw md0 1 [22] hX mixed rfl rfl rfl rfl rfl ?_
            exact rTo (To.mk' [] 0 hε rfl (by (repeat' first | exact True.intro | exact rfl | apply And.intro) <;> (repeat' first | exact rfl | refine Eq.trans ?_ (cTr (by assumption)) | refine Eq.trans ?_ (cFr (by assumption)) | refine Eq.trans (cTl (by assumption)) ?_ | refine Eq.trans (cFl (by assumption)) ?_)) (by (repeat' first | exact True.intro | exact rfl | apply And.intro) <;> (repeat' first | exact rfl | refine Eq.trans ?_ (cTr (by assumption)) | refine Eq.trans ?_ (cFr (by assumption)) | refine Eq.trans (cTl (by assumption)) ?_ | refine Eq.trans (cFl (by assumption)) ?_))) hj
          · skip
            refine rSkip ?_
            exact rTo (To.mk' [] 0 hε rfl (by (repeat' first | exact True.intro | exact rfl | apply And.intro) <;> (repeat' first | exact rfl | refine Eq.trans ?_ (cTr (by assumption)) | refine Eq.trans ?_ (cFr (by assumption)) | refine Eq.trans (cTl (by assumption)) ?_ | refine Eq.trans (cFl (by assumption)) ?_)) (by (repeat' first | exact True.intro | exact rfl | apply And.intro) <;> (repeat' first | exact rfl | refine Eq.trans ?_ (cTr (by assumption)) | refine Eq.trans ?_ (cFr (by assumption)) | refine Eq.trans (cTl (by assumption)) ?_ | refine Eq.trans (cFl (by assumption)) ?_))) hj
      · replace hT := sF hc hT
        refine rExit ?_
        refine rThenExit ?_
        refine rThenExit ?_
        exact zTo [] 0 hε (hxs20 _ (houts2 _ (Option.some.inj hT).symm))
    · replace hT := sF hc hT
      refine rExit ?_
      refine rThenExit ?_
      refine rThenExit ?_
      exact zTo [] 0 hε (hxs10 _ (houts1 _ (Option.some.inj hT).symm))
  · cases h
def ref29_Of_b1 (N : Nat) (s1 : (Int × (List Int))) : Option ((Int × (List Int)) ⊕ (List Int)) :=
  bif (decide (s1.1 < 6)) then
    let c2 := (ref14_Inverse N ((s1.2.drop (64 * (s1.1).toNat)).take 64))
    if (0 : Int) ≤ s1.1 ∧ s1.1 < 6 ∧ (64 * (s1.1).toNat) + 64 ≤ 384 ∧ c2.isSome = true then
      if inK .i64 (s1.1 + 1) then
        some (.inl ((s1.1 + 1), (layL s1.2 (64 * (s1.1).toNat) (c2.getD default) 64)))
      else none
    else none
  else
    some (.inr s1.2)
def ref29_Of (N : Nat) (a1 : Int) (a2 : Bool) (a3 : Int) (a4 : Int) (a5 : (List Int)) (a6 : (List Int)) (a7 : (List (List (Bool × (Int × Int))))) (a8 : Int) : Option (List Int) :=
  let c1 := (ref29_Values N a1 a2 a3 a4 a5 a6 a7 a8)
  if c1.isSome = true then
    (iter (ref29_Of_b1 N) N (0, (c1.getD default))).bind fun v1 =>
      some v1
  else none
def sp_ref29_Of (N : Nat) : X.Spec := fun args lk => match args with
  | [.v (.agg [.cs [.int .i64 a1, .bool a2, .int .i64 a3, .int .i64 a4], .ints 2 .i64 a5, .ints 6 .i64 a6, .fzs 6 (.pair .bool (.pair (.int .i64) (.int .i64))) a7]), .v (.c (.int .i64 a8))] => some ⟨(ref29_Of N a1 a2 a3 a4 a5 a6 a7 a8).isSome = true, .v (.agg [.ints 384 .i64 ((ref29_Of N a1 a2 a3 a4 a5 a6 a7 a8).getD default)]), [], []⟩
  | _ => none
set_option maxRecDepth 100000 in
set_option maxHeartbeats 1000000 in
theorem ok_ref29_Of (N : Nat) : FnOK Tryd.prog gt0 29 (sp_ref29_Of N) := by
  refine fnOK_handed Tryd.func29 rfl (by kernel_rfl) tt_ok (ktCons (ok_ref14_Inverse N) (ktCons (ok_ref29_Values N) (ktNil))) ?_
  intro args lk r h hp
  unfold sp_ref29_Of at h
  split at h
  · rename_i a1 a2 a3 a4 a5 a6 a7 a8
    change (List Int) at a5
    change (List Int) at a6
    change (List (List (Bool × (Int × Int)))) at a7
    cases h
    obtain ⟨x, hx⟩ := Option.isSome_iff_exists.1 hp
    simp only [hx, Option.getD_some]
    refine hand0 rfl rfl (fun w0 M ε0 hX => ?_)
    refine rCount (fun hε => ?_)
    have hT : ref29_Of N a1 a2 a3 a4 a5 a6 a7 a8 = some x := hx; clear hx hp; unfold ref29_Of at hT
    refine rSeq ?_
    refine zReg md0 hX rfl rfl rfl ?_
    refine rThen ?_
    refine rSeq ?_
    let c1 := (ref29_Values N a1 a2 a3 a4 a5 a6 a7 a8)
    replace hT := sIf hT; obtain ⟨o1, hT⟩ := hT
    refine zReg md0 hX rfl rfl rfl ?_
    refine rThen ?_
    refine rSeq ?_
    refine rSeq ?_
    refine zReg md0 hX rfl rfl rfl ?_
    refine rThen ?_
    refine rBlock ?_
    replace hT := sBind hT; obtain ⟨w1, hl, hT⟩ := hT
    refine rJoinA (fun v1 => v1 = w1) (fun v1 => ⟨[(4, .v (.c (.ptr 1 0 0 0 0 0))), (5, .v (.c (.ptr 2 0 0 0 0 0)))], [(1, .mem true 39 none (.flat [.ints 384 .i64 (List.replicate 384 0)])), (2, .mem true 39 none (.flat [.ints 384 .i64 v1]))], 3⟩) (.exit 0) (fun v1 hv => ?_) (fun hxs10 => ?_)
    · subst hv; clear hl
      refine rInHit ?_
      refine rThen ?_
      refine rSeq ?_
      refine zReg md0 hX rfl rfl rfl ?_
      refine rThen ?_
      refine rRet ?_
      have hy := Option.some.inj hT; subst hy
      exact zEnd0 hX rfl
    refine rLoopM (ref29_Of_b1 N) (fun s1 => ⟨[(4, .v (.c (.ptr 1 0 0 0 0 0))), (5, .v (.c (.ptr 2 0 0 0 0 0))), (6, .v (.c (.int .i64 s1.1)))], [(1, .mem true 39 none (.flat [.ints 384 .i64 (List.replicate 384 0)])), (2, .mem true 39 none (.flat [.ints 384 .i64 s1.2]))], 3⟩) hl (To.mk' [] 0 hε rfl (by repeat' first | exact True.intro | exact rfl | apply And.intro) (by repeat' first | exact True.intro | exact rfl | apply And.intro)) (fun s1 zs1 NNs1 hz hnexts1 houts1 => ?_)
    clear hl hT
    have hT := hz; clear hz
    refine rSeq ?_
    refine rSeq ?_
    refine zReg md0 hX rfl rfl rfl ?_
    refine rThen ?_
    refine zCond rfl rfl (fun hc => ?_) (fun hc => ?_)
    · replace hT := sT hc hT
      refine rSkip ?_
      refine rThen ?_
      refine rSeq ?_
      refine rBlock ?_
      let c2 := (ref14_Inverse N ((s1.2.drop (64 * (s1.1).toNat)).take 64))
      replace hT := sIf hT; obtain ⟨⟨o1, o2, o3, o4⟩, hT⟩ := hT
      refine zReg md0 hX rfl rfl rfl ?_
      refine rInNormal ?_
      refine rThen ?_
      replace hT := sIf hT; obtain ⟨o1, hT⟩ := hT
      refine zReg md0 hX rfl rfl rfl ?_
      exact hnexts1 _ (Option.some.inj hT).symm _ (To.mk' [] 0 hε rfl (by repeat' first | exact True.intro | exact rfl | apply And.intro) (by repeat' first | exact True.intro | exact rfl | apply And.intro))
    · replace hT := sF hc hT
      refine rExit ?_
      refine rThenExit ?_
      refine rThenExit ?_
      exact zTo [] 0 hε (hxs10 _ (houts1 _ (Option.some.inj hT).symm))
  · cases h
def law29_ResidueOf (N : Nat) (a1 : Int) (a2 : Bool) (a3 : Int) (a4 : Int) (a5 : (List Int)) (a6 : (List Int)) (a7 : (List (List (Bool × (Int × Int))))) (a8 : Int) : Option Bool :=
  let c1 := (law29_few N a1 a2 a3 a4 a5 a6 a7)
  if c1.isSome = true then
    bif (!(c1.getD default)) then
      let c2 := (law29_lives N)
      if c2.isSome = true then
        some (c2.getD default)
      else none
    else
      let c3 := (residue_Of N a1 a2 a3 a4 a5 a6 a7 a8)
      if c3.isSome = true then
        let c4 := (residue_Of N (a1 % (63 + 1)) true 0 0 (List.replicate 2 0) (List.replicate 6 0) (List.replicate 6 []) a8)
        if c4.isSome = true then
          let c5 := (residue_Of N 0 false 0 0 (((List.replicate 2 0).set 0 ((a5.getD 0 0) % (31 + 1))).set 1 (-1)) (List.replicate 6 0) (List.replicate 6 []) a8)
          if c5.isSome = true then
            let x5 := (bif (bif (bif (!(decide ((c4.getD default).1 = (List.replicate 384 0)))) then true else (decide ((c4.getD default).2 ≠ 0))) then true else (!(decide ((c5.getD default).1 = (List.replicate 384 0))))) then true else (decide ((c5.getD default).2 ≠ 0)))
            bif x5 then
              some false
            else
              let c6 := (ref22_Right N true a1 a2 a3 a4 a5 a6 a7)
              if c6.isSome = true then
                bif (!(c6.getD default)) then
                  let c7 := (law29_lives N)
                  let x6 := (bif (bif (decide ((c3.getD default).1 = (List.replicate 384 0))) then (decide ((c3.getD default).2 = 12)) else false) then (c7.getD default) else false)
                  if ((bif (decide ((c3.getD default).1 = (List.replicate 384 0))) then (decide ((c3.getD default).2 = 12)) else false) = true → c7.isSome = true) then
                    some x6
                  else none
                else
                  let c8 := (ref29_Of N a1 a2 a3 a4 a5 a6 a7 a8)
                  let c9 := (law29_lives N)
                  let x8 := (bif (bif (decide ((c3.getD default).1 = (c8.getD default))) then (decide ((c3.getD default).2 = 0)) else false) then (c9.getD default) else false)
                  if c8.isSome = true ∧ ((bif (decide ((c3.getD default).1 = (c8.getD default))) then (decide ((c3.getD default).2 = 0)) else false) = true → c9.isSome = true) then
                    some x8
                  else none
              else none
          else none
        else none
      else none
  else none
def sp_law29_ResidueOf (N : Nat) : X.Spec := fun args lk => match args with
  | [.v (.agg [.cs [.int .i64 a1, .bool a2, .int .i64 a3, .int .i64 a4], .ints 2 .i64 a5, .ints 6 .i64 a6, .fzs 6 (.pair .bool (.pair (.int .i64) (.int .i64))) a7]), .v (.c (.int .i64 a8))] => some ⟨(law29_ResidueOf N a1 a2 a3 a4 a5 a6 a7 a8).isSome = true, .v (.c (.bool ((law29_ResidueOf N a1 a2 a3 a4 a5 a6 a7 a8).getD default))), [], []⟩
  | _ => none
set_option maxRecDepth 100000 in
set_option maxHeartbeats 1000000 in
theorem ok_law29_ResidueOf (N : Nat) : FnOK Tryd.prog gt0 7 (sp_law29_ResidueOf N) := by
  refine fnOK_handed Tryd.func7 rfl (by kernel_rfl) tt_ok (ktCons (ok_ref29_Of N) (ktCons (ok_ref22_Right N) (ktCons (ok_residue_Of N) (ktCons (ok_law29_lives N) (ktCons (ok_law29_few N) (ktNil)))))) ?_
  intro args lk r h hp
  unfold sp_law29_ResidueOf at h
  split at h
  · rename_i a1 a2 a3 a4 a5 a6 a7 a8
    change (List Int) at a5
    change (List Int) at a6
    change (List (List (Bool × (Int × Int)))) at a7
    cases h
    obtain ⟨x, hx⟩ := Option.isSome_iff_exists.1 hp
    simp only [hx, Option.getD_some]
    refine hand0 rfl rfl (fun w0 M ε0 hX => ?_)
    refine rCount (fun hε => ?_)
    have hT : law29_ResidueOf N a1 a2 a3 a4 a5 a6 a7 a8 = some x := hx; clear hx hp; unfold law29_ResidueOf at hT
    refine rSeq ?_
    refine zReg mdT hX rfl rfl rfl ?_
    refine rThen ?_
    refine rSeq ?_
    refine rSeq ?_
    let c1 := (law29_few N a1 a2 a3 a4 a5 a6 a7)
    replace hT := sIf hT; obtain ⟨o1, hT⟩ := hT
    refine zReg mdT hX rfl rfl rfl ?_
    refine rThen ?_
    refine zCond rfl rfl (fun hc => ?_) (fun hc => ?_)
    · replace hT := sT hc hT
      refine rSeq ?_
      let c2 := (law29_lives N)
      replace hT := sIf hT; obtain ⟨o1, hT⟩ := hT
      refine zReg mdT hX rfl rfl rfl ?_
      refine rThen ?_
      refine rRet ?_
      refine rThenRet ?_
      have hy := Option.some.inj hT; subst hy
      exact zEnd0 hX rfl
    · replace hT := sF hc hT
      refine rSkip ?_
      refine rThen ?_
      refine rSeq ?_
      let c3 := (residue_Of N a1 a2 a3 a4 a5 a6 a7 a8)
      replace hT := sIf hT; obtain ⟨o1, hT⟩ := hT
      refine zReg mdT hX rfl rfl rfl ?_
      refine rThen ?_
      refine rSeq ?_
      let c4 := (residue_Of N (a1 % (63 + 1)) true 0 0 (List.replicate 2 0) (List.replicate 6 0) (List.replicate 6 []) a8)
      replace hT := sIf hT; obtain ⟨o1, hT⟩ := hT
      refine zReg mdT hX rfl rfl rfl ?_
      refine rThen ?_
      refine rSeq ?_
      let c5 := (residue_Of N 0 false 0 0 (((List.replicate 2 0).set 0 ((a5.getD 0 0) % (31 + 1))).set 1 (-1)) (List.replicate 6 0) (List.replicate 6 []) a8)
      replace hT := sIf hT; obtain ⟨o1, hT⟩ := hT
      refine zReg mdT hX rfl rfl rfl ?_
      refine rThen ?_
      refine rSeq ?_
      refine rSeq ?_
      let x5 := (bif (bif (bif (!(decide ((c4.getD default).1 = (List.replicate 384 0)))) then true else (decide ((c4.getD default).2 ≠ 0))) then true else (!(decide ((c5.getD default).1 = (List.replicate 384 0))))) then true else (decide ((c5.getD default).2 ≠ 0)))
      refine zReg mdT hX rfl rfl rfl ?_
      refine rThen ?_
      refine zCond rfl rfl (fun hc => ?_) (fun hc => ?_)
      · replace hT := sT hc hT
        refine rSeq ?_
        refine zReg mdT hX rfl rfl rfl ?_
        refine rThen ?_
        refine rRet ?_
        refine rThenRet ?_
        have hy := Option.some.inj hT; subst hy
        exact zEnd0 hX rfl
      · replace hT := sF hc hT
        refine rSkip ?_
        refine rThen ?_
        refine rSeq ?_
        refine rSeq ?_
        let c6 := (ref22_Right N true a1 a2 a3 a4 a5 a6 a7)
        replace hT := sIf hT; obtain ⟨o1, hT⟩ := hT
        refine zReg mdT hX rfl rfl rfl ?_
        refine rThen ?_
        refine zCond rfl rfl (fun hc => ?_) (fun hc => ?_)
        · replace hT := sT hc hT
          refine rSeq ?_
          let c7 := (law29_lives N)
          let x6 := (bif (bif (decide ((c3.getD default).1 = (List.replicate 384 0))) then (decide ((c3.getD default).2 = 12)) else false) then (c7.getD default) else false)
          replace hT := sIf hT; obtain ⟨o1, hT⟩ := hT
          refine rRegC mdT hX rfl rfl rfl (by (repeat' first | exact True.intro | with_reducible assumption | (with_reducible apply And.intro) | intro _) <;> first | assumption | exact o1 (by assumption) | exact rfl | omega | exact Nat.le_of_ble_eq_true rfl | exact selF (by assumption) | exact selT (by assumption) | exact And.intro rfl rfl | exact And.intro (by assumption) rfl | exact And.intro (by omega) rfl | (simp only [inK] at *; omega) | (simp_all [sel] <;> fail) | fail) ?_
          refine rThen ?_
          refine rRet ?_
          refine rThenRet ?_
          have hy := Option.some.inj hT; subst hy
          exact zEnd0 hX rfl
        · replace hT := sF hc hT
          refine rSkip ?_
          refine rThen ?_
          refine rSeq ?_
          let c8 := (ref29_Of N a1 a2 a3 a4 a5 a6 a7 a8)
          let c9 := (law29_lives N)
          let x8 := (bif (bif (decide ((c3.getD default).1 = (c8.getD default))) then (decide ((c3.getD default).2 = 0)) else false) then (c9.getD default) else false)
          replace hT := sIf hT; obtain ⟨⟨o1, o2⟩, hT⟩ := hT
          refine rDrawM mdT 0 [] hX mixed rfl rfl rfl rfl rfl (by (repeat' first | exact True.intro | with_reducible assumption | (with_reducible apply And.intro) | intro _) <;> first | assumption | exact o2 (by assumption) | exact rfl | omega | exact Nat.le_of_ble_eq_true rfl | exact selF (by assumption) | exact selT (by assumption) | exact And.intro rfl rfl | exact And.intro (by assumption) rfl | exact And.intro (by omega) rfl | (simp only [inK] at *; omega) | (simp_all [sel] <;> fail) | fail) ?_
          refine rThen ?_
          refine rRet ?_
          have hy := Option.some.inj hT; subst hy
          exact zEnd0 hX rfl
  · cases h
def residue_every_values_b1 (N : Nat) (a8 : Int) (a9 : Bool) (a10 : Int) (a11 : Int) (a12 : (List Int)) (a13 : (List Int)) (a14 : (List (List (Bool × (Int × Int))))) (a15 : Int) (s1 : (Int × (List Int))) : Option ((Int × (List Int)) ⊕ (List Int)) :=
  bif (decide (s1.1 < 6)) then
    let c2 := (overspill_residue_cell_values N a8 a9 a10 a11 a12 a13 a14 a15 s1.1)
    if c2.isSome = true ∧ (0 : Int) ≤ s1.1 ∧ s1.1 < 6 ∧ (64 * (s1.1).toNat) + 64 ≤ 384 then
      if inK .i64 (s1.1 + 1) then
        some (.inl ((s1.1 + 1), (layL s1.2 (64 * (s1.1).toNat) (c2.getD default) 64)))
      else none
    else none
  else
    some (.inr s1.2)
def residue_every_values (N : Nat) (a1 : Int) (a2 : Bool) (a3 : Int) (a4 : Int) (a5 : (List Int)) (a6 : (List Int)) (a7 : (List (List (Bool × (Int × Int))))) (a8 : Int) (a9 : Bool) (a10 : Int) (a11 : Int) (a12 : (List Int)) (a13 : (List Int)) (a14 : (List (List (Bool × (Int × Int))))) (a15 : Int) : Option ((List Int) × Int) :=
  let c1 := (cellout_Right N true a1 a2 a3 a4 a5 a6 a7)
  if c1.isSome = true then
    bif (!(c1.getD default)) then
      some ((List.replicate 384 0), 12)
    else
      (iter (residue_every_values_b1 N a8 a9 a10 a11 a12 a13 a14 a15) N (0, (List.replicate 384 0))).bind fun v1 =>
        some (v1, 0)
  else none
def sp_residue_every_values (N : Nat) : X.Spec := fun args lk => match args with
  | [.v (.agg [.cs [.int .i64 a1, .bool a2, .int .i64 a3, .int .i64 a4], .ints 2 .i64 a5, .ints 6 .i64 a6, .fzs 6 (.pair .bool (.pair (.int .i64) (.int .i64))) a7]), .fnv 78 [.agg [.cs [.int .i64 a8, .bool a9, .int .i64 a10, .int .i64 a11], .ints 2 .i64 a12, .ints 6 .i64 a13, .fzs 6 (.pair .bool (.pair (.int .i64) (.int .i64))) a14, .cs [.int .i64 a15]]] []] => some ⟨(residue_every_values N a1 a2 a3 a4 a5 a6 a7 a8 a9 a10 a11 a12 a13 a14 a15).isSome = true, .tup [.agg [.ints 384 .i64 ((residue_every_values N a1 a2 a3 a4 a5 a6 a7 a8 a9 a10 a11 a12 a13 a14 a15).getD default).1], .c (.int .i64 ((residue_every_values N a1 a2 a3 a4 a5 a6 a7 a8 a9 a10 a11 a12 a13 a14 a15).getD default).2)], [], []⟩
  | _ => none
set_option maxRecDepth 100000 in
set_option maxHeartbeats 1000000 in
theorem ok_residue_every_values (N : Nat) : FnOK Tryd.prog gt0 68 (sp_residue_every_values N) := by
  refine fnOK_handed Tryd.func68 rfl (by kernel_rfl) tt_ok (ktCons (ok_overspill_residue_cell_values N) (ktCons (ok_cellout_Right N) (ktNil))) ?_
  intro args lk r h hp
  unfold sp_residue_every_values at h
  split at h
  · rename_i a1 a2 a3 a4 a5 a6 a7 a8 a9 a10 a11 a12 a13 a14 a15
    change (List Int) at a5
    change (List Int) at a6
    change (List (List (Bool × (Int × Int)))) at a7
    change (List Int) at a12
    change (List Int) at a13
    change (List (List (Bool × (Int × Int)))) at a14
    cases h
    obtain ⟨x, hx⟩ := Option.isSome_iff_exists.1 hp
    simp only [hx, Option.getD_some]
    refine hand0 rfl rfl (fun w0 M ε0 hX => ?_)
    refine rCount (fun hε => ?_)
    have hT : residue_every_values N a1 a2 a3 a4 a5 a6 a7 a8 a9 a10 a11 a12 a13 a14 a15 = some x := hx; clear hx hp; unfold residue_every_values at hT
    refine rSeq ?_
    refine zReg md0 hX rfl rfl rfl ?_
    refine rThen ?_
    refine rSeq ?_
    refine rSeq ?_
    let c1 := (cellout_Right N true a1 a2 a3 a4 a5 a6 a7)
    replace hT := sIf hT; obtain ⟨o1, hT⟩ := hT
    refine zReg md0 hX rfl rfl rfl ?_
    refine rThen ?_
    refine zCond rfl rfl (fun hc => ?_) (fun hc => ?_)
    · replace hT := sT hc hT
      refine rSeq ?_
      refine zReg md0 hX rfl rfl rfl ?_
      refine rThen ?_
      refine rRet ?_
      refine rThenRet ?_
      have hy := Option.some.inj hT; subst hy
      exact zEnd0 hX rfl
    · replace hT := sF hc hT
      refine rSkip ?_
      refine rThen ?_
      refine rSeq ?_
      refine zReg md0 hX rfl rfl rfl ?_
      refine rThen ?_
      refine rSeq ?_
      refine rSeq ?_
      refine zReg md0 hX rfl rfl rfl ?_
      refine rThen ?_
      refine rBlock ?_
      replace hT := sBind hT; obtain ⟨w1, hl, hT⟩ := hT
      refine rJoinA (fun v1 => v1 = w1) (fun v1 => ⟨[(4, .v (.c (.ptr 1 0 0 0 0 0))), (5, .v (.c (.int .i64 0))), (6, .v (.c (.ptr 2 0 0 0 0 0)))], [(1, .mem true 39 none (.flat [.ints 384 .i64 (List.replicate 384 0)])), (2, .mem true 39 none (.flat [.ints 384 .i64 v1]))], 3⟩) (.exit 0) (fun v1 hv => ?_) (fun hxs10 => ?_)
      · subst hv; clear hl
        refine rInHit ?_
        refine rThen ?_
        refine rSeq ?_
        refine zReg md0 hX rfl rfl rfl ?_
        refine rThen ?_
        refine rRet ?_
        have hy := Option.some.inj hT; subst hy
        exact zEnd0 hX rfl
      refine rLoopM (residue_every_values_b1 N a8 a9 a10 a11 a12 a13 a14 a15) (fun s1 => ⟨[(1, .fnv 78 [.agg [.cs [.int .i64 a8, .bool a9, .int .i64 a10, .int .i64 a11], .ints 2 .i64 a12, .ints 6 .i64 a13, .fzs 6 (.pair .bool (.pair (.int .i64) (.int .i64))) a14, .cs [.int .i64 a15]]] []), (4, .v (.c (.ptr 1 0 0 0 0 0))), (5, .v (.c (.int .i64 0))), (6, .v (.c (.ptr 2 0 0 0 0 0))), (12, .v (.c (.int .i64 s1.1)))], [(1, .mem true 39 none (.flat [.ints 384 .i64 (List.replicate 384 0)])), (2, .mem true 39 none (.flat [.ints 384 .i64 s1.2]))], 3⟩) hl (To.mk' [] 0 hε rfl (by repeat' first | exact True.intro | exact rfl | apply And.intro) (by repeat' first | exact True.intro | exact rfl | apply And.intro)) (fun s1 zs1 NNs1 hz hnexts1 houts1 => ?_)
      clear hl hT
      have hT := hz; clear hz
      refine rSeq ?_
      refine zReg md0 hX rfl rfl rfl ?_
      refine rThen ?_
      refine rSeq ?_
      refine zCond rfl rfl (fun hc => ?_) (fun hc => ?_)
      · replace hT := sT hc hT
        refine rSkip ?_
        refine rThen ?_
        refine rSeq ?_
        refine rBlock ?_
        refine rSeq ?_
        refine zReg md0 hX rfl rfl rfl ?_
        refine rThen ?_
        let c2 := (overspill_residue_cell_values N a8 a9 a10 a11 a12 a13 a14 a15 s1.1)
        replace hT := sIf hT; obtain ⟨⟨o1, o2, o3, o4⟩, hT⟩ := hT
        refine zReg md0 hX rfl rfl rfl ?_
        refine rInNormal ?_
        refine rThen ?_
        replace hT := sIf hT; obtain ⟨o1, hT⟩ := hT
        refine zReg md0 hX rfl rfl rfl ?_
        exact hnexts1 _ (Option.some.inj hT).symm _ (To.mk' [] 0 hε rfl (by repeat' first | exact True.intro | exact rfl | apply And.intro) (by repeat' first | exact True.intro | exact rfl | apply And.intro))
      · replace hT := sF hc hT
        refine rExit ?_
        refine rThenExit ?_
        refine rThenExit ?_
        exact zTo [] 0 hε (hxs10 _ (houts1 _ (Option.some.inj hT).symm))
  · cases h
def residue_Values (N : Nat) (a1 : Int) (a2 : Bool) (a3 : Int) (a4 : Int) (a5 : (List Int)) (a6 : (List Int)) (a7 : (List (List (Bool × (Int × Int))))) (a8 : Int) : Option ((List Int) × Int) :=
  let c1 := (residue_every_values N a1 a2 a3 a4 a5 a6 a7 a1 a2 a3 a4 a5 a6 a7 a8)
  if c1.isSome = true then
    some ((c1.getD default).1, (c1.getD default).2)
  else none
def sp_residue_Values (N : Nat) : X.Spec := fun args lk => match args with
  | [.v (.agg [.cs [.int .i64 a1, .bool a2, .int .i64 a3, .int .i64 a4], .ints 2 .i64 a5, .ints 6 .i64 a6, .fzs 6 (.pair .bool (.pair (.int .i64) (.int .i64))) a7]), .v (.c (.int .i64 a8))] => some ⟨(residue_Values N a1 a2 a3 a4 a5 a6 a7 a8).isSome = true, .tup [.agg [.ints 384 .i64 ((residue_Values N a1 a2 a3 a4 a5 a6 a7 a8).getD default).1], .c (.int .i64 ((residue_Values N a1 a2 a3 a4 a5 a6 a7 a8).getD default).2)], [], []⟩
  | _ => none
set_option maxRecDepth 100000 in
set_option maxHeartbeats 1000000 in
theorem ok_residue_Values (N : Nat) : FnOK Tryd.prog gt0 30 (sp_residue_Values N) := by
  refine fnOK_handed Tryd.func30 rfl (by kernel_rfl) tt_ok (ktCons (ok_residue_every_values N) (ktNil)) ?_
  intro args lk r h hp
  unfold sp_residue_Values at h
  split at h
  · rename_i a1 a2 a3 a4 a5 a6 a7 a8
    change (List Int) at a5
    change (List Int) at a6
    change (List (List (Bool × (Int × Int)))) at a7
    cases h
    obtain ⟨x, hx⟩ := Option.isSome_iff_exists.1 hp
    simp only [hx, Option.getD_some]
    refine hand0 rfl rfl (fun w0 M ε0 hX => ?_)
    refine rCount (fun hε => ?_)
    have hT : residue_Values N a1 a2 a3 a4 a5 a6 a7 a8 = some x := hx; clear hx hp; unfold residue_Values at hT
    refine rSeq ?_
    refine zReg md0 hX rfl rfl rfl ?_
    refine rThen ?_
    refine rSeq ?_
    let c1 := (residue_every_values N a1 a2 a3 a4 a5 a6 a7 a1 a2 a3 a4 a5 a6 a7 a8)
    replace hT := sIf hT; obtain ⟨o1, hT⟩ := hT
    refine zReg md0 hX rfl rfl rfl ?_
    refine rThen ?_
    refine rRet ?_
    have hy := Option.some.inj hT; subst hy
    exact zEnd0 hX rfl
  · cases h
def law29_ResidueLevels (N : Nat) (a1 : Int) (a2 : Bool) (a3 : Int) (a4 : Int) (a5 : (List Int)) (a6 : (List Int)) (a7 : (List (List (Bool × (Int × Int))))) (a8 : Int) : Option Bool :=
  let c1 := (law29_few N a1 a2 a3 a4 a5 a6 a7)
  if c1.isSome = true then
    bif (!(c1.getD default)) then
      let c2 := (law29_lives N)
      if c2.isSome = true then
        some (c2.getD default)
      else none
    else
      let c3 := (residue_Levels N a1 a2 a3 a4 a5 a6 a7)
      if c3.isSome = true then
        let c4 := (residue_Values N a1 a2 a3 a4 a5 a6 a7 a8)
        if c4.isSome = true then
          let c5 := (ref22_Right N true a1 a2 a3 a4 a5 a6 a7)
          if c5.isSome = true then
            bif (!(c5.getD default)) then
              let c6 := (law29_lives N)
              let x1 := (bif (bif (bif (bif (decide ((c3.getD default).1 = (List.replicate 384 0))) then (decide ((c3.getD default).2 = 12)) else false) then (decide ((c4.getD default).1 = (List.replicate 384 0))) else false) then (decide ((c4.getD default).2 = 12)) else false) then (c6.getD default) else false)
              if ((bif (bif (bif (decide ((c3.getD default).1 = (List.replicate 384 0))) then (decide ((c3.getD default).2 = 12)) else false) then (decide ((c4.getD default).1 = (List.replicate 384 0))) else false) then (decide ((c4.getD default).2 = 12)) else false) = true → c6.isSome = true) then
                some x1
              else none
            else
              let c7 := (ref29_Levels N a1 a2 a3 a4 a5 a6 a7)
              let c8 := (ref29_Values N a1 a2 a3 a4 a5 a6 a7 a8)
              let c9 := (law29_lives N)
              let x5 := (bif (bif (bif (bif (decide ((c3.getD default).1 = (c7.getD default))) then (decide ((c3.getD default).2 = 0)) else false) then (decide ((c4.getD default).1 = (c8.getD default))) else false) then (decide ((c4.getD default).2 = 0)) else false) then (c9.getD default) else false)
              if c7.isSome = true ∧ ((bif (decide ((c3.getD default).1 = (c7.getD default))) then (decide ((c3.getD default).2 = 0)) else false) = true → c8.isSome = true) ∧ ((bif (bif (bif (decide ((c3.getD default).1 = (c7.getD default))) then (decide ((c3.getD default).2 = 0)) else false) then (decide ((c4.getD default).1 = (c8.getD default))) else false) then (decide ((c4.getD default).2 = 0)) else false) = true → c9.isSome = true) then
                some x5
              else none
          else none
        else none
      else none
  else none
def sp_law29_ResidueLevels (N : Nat) : X.Spec := fun args lk => match args with
  | [.v (.agg [.cs [.int .i64 a1, .bool a2, .int .i64 a3, .int .i64 a4], .ints 2 .i64 a5, .ints 6 .i64 a6, .fzs 6 (.pair .bool (.pair (.int .i64) (.int .i64))) a7]), .v (.c (.int .i64 a8))] => some ⟨(law29_ResidueLevels N a1 a2 a3 a4 a5 a6 a7 a8).isSome = true, .v (.c (.bool ((law29_ResidueLevels N a1 a2 a3 a4 a5 a6 a7 a8).getD default))), [], []⟩
  | _ => none
set_option maxRecDepth 100000 in
set_option maxHeartbeats 1000000 in
theorem ok_law29_ResidueLevels (N : Nat) : FnOK Tryd.prog gt0 8 (sp_law29_ResidueLevels N) := by
  refine fnOK_handed Tryd.func8 rfl (by kernel_rfl) tt_ok (ktCons (ok_ref29_Values N) (ktCons (ok_ref29_Levels N) (ktCons (ok_ref22_Right N) (ktCons (ok_residue_Values N) (ktCons (ok_residue_Levels N) (ktCons (ok_law29_lives N) (ktCons (ok_law29_few N) (ktNil)))))))) ?_
  intro args lk r h hp
  unfold sp_law29_ResidueLevels at h
  split at h
  · rename_i a1 a2 a3 a4 a5 a6 a7 a8
    change (List Int) at a5
    change (List Int) at a6
    change (List (List (Bool × (Int × Int)))) at a7
    cases h
    obtain ⟨x, hx⟩ := Option.isSome_iff_exists.1 hp
    simp only [hx, Option.getD_some]
    refine hand0 rfl rfl (fun w0 M ε0 hX => ?_)
    refine rCount (fun hε => ?_)
    have hT : law29_ResidueLevels N a1 a2 a3 a4 a5 a6 a7 a8 = some x := hx; clear hx hp; unfold law29_ResidueLevels at hT
    refine rSeq ?_
    refine zReg md0 hX rfl rfl rfl ?_
    refine rThen ?_
    refine rSeq ?_
    refine rSeq ?_
    let c1 := (law29_few N a1 a2 a3 a4 a5 a6 a7)
    replace hT := sIf hT; obtain ⟨o1, hT⟩ := hT
    refine zReg md0 hX rfl rfl rfl ?_
    refine rThen ?_
    refine zCond rfl rfl (fun hc => ?_) (fun hc => ?_)
    · replace hT := sT hc hT
      refine rSeq ?_
      let c2 := (law29_lives N)
      replace hT := sIf hT; obtain ⟨o1, hT⟩ := hT
      refine zReg md0 hX rfl rfl rfl ?_
      refine rThen ?_
      refine rRet ?_
      refine rThenRet ?_
      have hy := Option.some.inj hT; subst hy
      exact zEnd0 hX rfl
    · replace hT := sF hc hT
      refine rSkip ?_
      refine rThen ?_
      refine rSeq ?_
      let c3 := (residue_Levels N a1 a2 a3 a4 a5 a6 a7)
      replace hT := sIf hT; obtain ⟨o1, hT⟩ := hT
      refine zReg md0 hX rfl rfl rfl ?_
      refine rThen ?_
      refine rSeq ?_
      let c4 := (residue_Values N a1 a2 a3 a4 a5 a6 a7 a8)
      replace hT := sIf hT; obtain ⟨o1, hT⟩ := hT
      refine zReg md0 hX rfl rfl rfl ?_
      refine rThen ?_
      refine rSeq ?_
      refine rSeq ?_
      let c5 := (ref22_Right N true a1 a2 a3 a4 a5 a6 a7)
      replace hT := sIf hT; obtain ⟨o1, hT⟩ := hT
      refine zReg md0 hX rfl rfl rfl ?_
      refine rThen ?_
      refine zCond rfl rfl (fun hc => ?_) (fun hc => ?_)
      · replace hT := sT hc hT
        refine rSeq ?_
        let c6 := (law29_lives N)
        let x1 := (bif (bif (bif (bif (decide ((c3.getD default).1 = (List.replicate 384 0))) then (decide ((c3.getD default).2 = 12)) else false) then (decide ((c4.getD default).1 = (List.replicate 384 0))) else false) then (decide ((c4.getD default).2 = 12)) else false) then (c6.getD default) else false)
        replace hT := sIf hT; obtain ⟨o1, hT⟩ := hT
        refine rRegC md0 hX rfl rfl rfl (by (repeat' first | exact True.intro | with_reducible assumption | (with_reducible apply And.intro) | intro _) <;> first | assumption | exact o1 (by assumption) | exact rfl | omega | exact Nat.le_of_ble_eq_true rfl | exact selF (by assumption) | exact selT (by assumption) | exact And.intro rfl rfl | exact And.intro (by assumption) rfl | exact And.intro (by omega) rfl | (simp only [inK] at *; omega) | (simp_all [sel] <;> fail) | fail) ?_
        refine rThen ?_
        refine rRet ?_
        refine rThenRet ?_
        have hy := Option.some.inj hT; subst hy
        exact zEnd0 hX rfl
      · replace hT := sF hc hT
        refine rSkip ?_
        refine rThen ?_
        refine rSeq ?_
        let c7 := (ref29_Levels N a1 a2 a3 a4 a5 a6 a7)
        let c8 := (ref29_Values N a1 a2 a3 a4 a5 a6 a7 a8)
        let c9 := (law29_lives N)
        let x5 := (bif (bif (bif (bif (decide ((c3.getD default).1 = (c7.getD default))) then (decide ((c3.getD default).2 = 0)) else false) then (decide ((c4.getD default).1 = (c8.getD default))) else false) then (decide ((c4.getD default).2 = 0)) else false) then (c9.getD default) else false)
        replace hT := sIf hT; obtain ⟨⟨o1, o2, o3⟩, hT⟩ := hT
        refine rDrawM md0 0 [] hX mixed rfl rfl rfl rfl rfl (by (repeat' first | exact True.intro | with_reducible assumption | (with_reducible apply And.intro) | intro _) <;> first | assumption | exact o2 (by assumption) | exact o3 (by assumption) | exact rfl | omega | exact Nat.le_of_ble_eq_true rfl | exact selF (by assumption) | exact selT (by assumption) | exact And.intro rfl rfl | exact And.intro (by assumption) rfl | exact And.intro (by omega) rfl | (simp only [inK] at *; omega) | (simp_all [sel] <;> fail) | fail) ?_
        refine rThen ?_
        refine rRet ?_
        have hy := Option.some.inj hT; subst hy
        exact zEnd0 hX rfl
  · cases h
def feed_plain_b1 (N : Nat) (a1 : (List Int)) (s1 : (Int × (List Int))) : Option ((Int × (List Int)) ⊕ (List Int)) :=
  bif (decide (s1.1 < 64)) then
    if (0 : Int) ≤ s1.1 ∧ s1.1 < 64 ∧ (s1.1).toNat < 64 then
      let c3 := (whole_Clip N (a1.getD (s1.1).toNat 0) (-127) 127)
      if c3.isSome = true ∧ (0 : Int) ≤ s1.1 ∧ s1.1 < 64 ∧ (s1.1).toNat < 64 then
        if inK .i64 (s1.1 + 1) then
          some (.inl ((s1.1 + 1), (s1.2.set (s1.1).toNat (c3.getD default))))
        else none
      else none
    else none
  else
    some (.inr s1.2)
def feed_plain (N : Nat) (a1 : (List Int)) (a2 : (List Int)) (a3 : Int) (a4 : Int) (a5 : Bool) : Option ((List Int) × (List Int) × Int × Int × Bool) :=
  (iter (feed_plain_b1 N a1) N (0, a1)).bind fun v1 =>
    let c1 := (whole_Clip N a3 1 31)
    let c2 := (whole_Clip N a4 1 31)
    if c1.isSome = true ∧ c2.isSome = true then
      some ((bif a5 then (v1.set 0 0) else v1), (bif a5 then (List.replicate 64 0) else a2), (c1.getD default), (c2.getD default), a5)
    else none
def sp_feed_plain (N : Nat) : X.Spec := fun args lk => match args with
  | [.v (.agg [.ints 64 .i64 a1, .ints 64 .i64 a2, .cs [.int .i64 a3, .int .i64 a4, .bool a5]])] => some ⟨(feed_plain N a1 a2 a3 a4 a5).isSome = true, .v (.agg [.ints 64 .i64 ((feed_plain N a1 a2 a3 a4 a5).getD default).1, .ints 64 .i64 ((feed_plain N a1 a2 a3 a4 a5).getD default).2.1, .cs [.int .i64 ((feed_plain N a1 a2 a3 a4 a5).getD default).2.2.1, .int .i64 ((feed_plain N a1 a2 a3 a4 a5).getD default).2.2.2.1, .bool ((feed_plain N a1 a2 a3 a4 a5).getD default).2.2.2.2]]), [], []⟩
  | _ => none
set_option maxRecDepth 100000 in
set_option maxHeartbeats 1000000 in
theorem ok_feed_plain (N : Nat) : FnOK Tryd.prog gt0 49 (sp_feed_plain N) := by
  refine fnOK_handed Tryd.func49 rfl (by kernel_rfl) tt_ok (ktCons (ok_whole_Clip N) (ktNil)) ?_
  intro args lk r h hp
  unfold sp_feed_plain at h
  split at h
  · rename_i a1 a2 a3 a4 a5
    change (List Int) at a1
    change (List Int) at a2
    cases h
    obtain ⟨x, hx⟩ := Option.isSome_iff_exists.1 hp
    simp only [hx, Option.getD_some]
    refine hand0 rfl rfl (fun w0 M ε0 hX => ?_)
    refine rCount (fun hε => ?_)
    have hT : feed_plain N a1 a2 a3 a4 a5 = some x := hx; clear hx hp; unfold feed_plain at hT
    refine rSeq ?_
    refine zReg md0 hX rfl rfl rfl ?_
    refine rThen ?_
    refine rSeq ?_
    refine rSeq ?_
    refine zReg md0 hX rfl rfl rfl ?_
    refine rThen ?_
    refine rBlock ?_
    replace hT := sBind hT; obtain ⟨w1, hl, hT⟩ := hT
    refine rJoinA (fun v1 => v1 = w1) (fun v1 => ⟨[(1, .v (.c (.ptr 0 0 0 0 0 0))), (2, .v (.c (.ptr 1 0 0 0 0 0)))], [(0, .mem true 26 none (.flat [.ints 64 .i64 v1, .ints 64 .i64 a2, .cs [.int .i64 a3, .int .i64 a4, .bool a5]])), (1, .mem true 26 none (.flat [.ints 64 .i64 (List.replicate 64 0), .ints 64 .i64 (List.replicate 64 0), .cs [.int .i64 0, .int .i64 0, .bool false]]))], 2⟩) (.exit 0) (fun v1 hv => ?_) (fun hxs10 => ?_)
    · subst hv; clear hl
      refine rInHit ?_
      refine rThen ?_
      refine rSeq ?_
      refine rSeq ?_
      refine zReg md0 hX rfl rfl rfl ?_
      refine rThen ?_
      refine rJoin ⟨[(1, .v (.c (.ptr 0 0 0 0 0 0))), (2, .v (.c (.ptr 1 0 0 0 0 0)))], [(0, .mem true 26 none (.flat [.ints 64 .i64 (bif a5 then (v1.set 0 0) else v1), .ints 64 .i64 (bif a5 then (List.replicate 64 0) else a2), .cs [.int .i64 a3, .int .i64 a4, .bool a5]])), (1, .mem true 26 none (.flat [.ints 64 .i64 (List.replicate 64 0), .ints 64 .i64 (List.replicate 64 0), .cs [.int .i64 0, .int .i64 0, .bool false]]))], 2⟩ ?_ (fun hj => ?_)
      · skip
        refine rThen ?_
        refine rSeq ?_
        let c1 := (whole_Clip N a3 1 31)
        let c2 := (whole_Clip N a4 1 31)
        replace hT := sIf hT; obtain ⟨⟨o1, o2⟩, hT⟩ := hT
        refine zDraw md0 2 [7, 9] hX mixed rfl rfl rfl rfl rfl ?_
        refine rThen ?_
        refine rSeq ?_
        refine zReg md0 hX rfl rfl rfl ?_
        refine rThen ?_
        refine rRet ?_
        have hy := Option.some.inj hT; subst hy
        exact zEnd0 hX rfl
      · clear hT
        refine zCond rfl rfl (fun hc => ?_) (fun hc => ?_)
        · skip
          refine zReg md0 hX rfl rfl rfl ?_
          exact rTo (To.mk' [] 0 hε rfl (by (repeat' first | exact True.intro | exact rfl | apply And.intro) <;> (repeat' first | exact rfl | refine Eq.trans ?_ (cTr (by assumption)) | refine Eq.trans ?_ (cFr (by assumption)) | refine Eq.trans (cTl (by assumption)) ?_ | refine Eq.trans (cFl (by assumption)) ?_)) (by (repeat' first | exact True.intro | exact rfl | apply And.intro) <;> (repeat' first | exact rfl | refine Eq.trans ?_ (cTr (by assumption)) | refine Eq.trans ?_ (cFr (by assumption)) | refine Eq.trans (cTl (by assumption)) ?_ | refine Eq.trans (cFl (by assumption)) ?_))) hj
        · skip
          refine rSkip ?_
          exact rTo (To.mk' [] 0 hε rfl (by (repeat' first | exact True.intro | exact rfl | apply And.intro) <;> (repeat' first | exact rfl | refine Eq.trans ?_ (cTr (by assumption)) | refine Eq.trans ?_ (cFr (by assumption)) | refine Eq.trans (cTl (by assumption)) ?_ | refine Eq.trans (cFl (by assumption)) ?_)) (by (repeat' first | exact True.intro | exact rfl | apply And.intro) <;> (repeat' first | exact rfl | refine Eq.trans ?_ (cTr (by assumption)) | refine Eq.trans ?_ (cFr (by assumption)) | refine Eq.trans (cTl (by assumption)) ?_ | refine Eq.trans (cFl (by assumption)) ?_))) hj
    refine rLoopM (feed_plain_b1 N a1) (fun s1 => ⟨[(1, .v (.c (.ptr 0 0 0 0 0 0))), (2, .v (.c (.ptr 1 0 0 0 0 0))), (6, .v (.agg [.ints 64 .i64 a1])), (7, .v (.c (.int .i64 s1.1)))], [(0, .mem true 26 none (.flat [.ints 64 .i64 s1.2, .ints 64 .i64 a2, .cs [.int .i64 a3, .int .i64 a4, .bool a5]])), (1, .mem true 26 none (.flat [.ints 64 .i64 (List.replicate 64 0), .ints 64 .i64 (List.replicate 64 0), .cs [.int .i64 0, .int .i64 0, .bool false]]))], 2⟩) hl (To.mk' [] 0 hε rfl (by repeat' first | exact True.intro | exact rfl | apply And.intro) (by repeat' first | exact True.intro | exact rfl | apply And.intro)) (fun s1 zs1 NNs1 hz hnexts1 houts1 => ?_)
    clear hl hT
    have hT := hz; clear hz
    refine rSeq ?_
    refine zReg md0 hX rfl rfl rfl ?_
    refine rThen ?_
    refine rSeq ?_
    refine zCond rfl rfl (fun hc => ?_) (fun hc => ?_)
    · replace hT := sT hc hT
      refine rSkip ?_
      refine rThen ?_
      refine rSeq ?_
      refine rBlock ?_
      refine rSeq ?_
      replace hT := sIf hT; obtain ⟨⟨o1, o2, o3⟩, hT⟩ := hT
      refine zReg md0 hX rfl rfl rfl ?_
      refine rThen ?_
      let c3 := (whole_Clip N (a1.getD (s1.1).toNat 0) (-127) 127)
      replace hT := sIf hT; obtain ⟨⟨o1, o2, o3, o4⟩, hT⟩ := hT
      refine zReg md0 hX rfl rfl rfl ?_
      refine rInNormal ?_
      refine rThen ?_
      replace hT := sIf hT; obtain ⟨o1, hT⟩ := hT
      refine zReg md0 hX rfl rfl rfl ?_
      exact hnexts1 _ (Option.some.inj hT).symm _ (To.mk' [] 0 hε rfl (by repeat' first | exact True.intro | exact rfl | apply And.intro) (by repeat' first | exact True.intro | exact rfl | apply And.intro))
    · replace hT := sF hc hT
      refine rExit ?_
      refine rThenExit ?_
      refine rThenExit ?_
      exact zTo [] 0 hε (hxs10 _ (houts1 _ (Option.some.inj hT).symm))
  · cases h
def overspill_dct_square_fore_b1 (N : Nat) (a1 : Int) (a2 : Int) (a3 : (List Int)) (s1 : (Int × Int)) : Option ((Int × Int) ⊕ Int) :=
  bif (decide (s1.2 < 8)) then
    let x1 := (s1.1 + ((weightsL.getD ((a2).toNat * 8 + (s1.2).toNat) 0) * (a3.getD (((8 : Int) * a1) + s1.2).toNat 0)))
    if (0 : Int) ≤ a2 ∧ a2 < 8 ∧ (0 : Int) ≤ s1.2 ∧ s1.2 < 8 ∧ ((a2).toNat * 8 + (s1.2).toNat) < 64 ∧ inK .i64 ((8 : Int) * a1) ∧ inK .i64 (((8 : Int) * a1) + s1.2) ∧ (0 : Int) ≤ (((8 : Int) * a1) + s1.2) ∧ (((8 : Int) * a1) + s1.2) < 64 ∧ (((8 : Int) * a1) + s1.2).toNat < 64 ∧ inK .i64 ((weightsL.getD ((a2).toNat * 8 + (s1.2).toNat) 0) * (a3.getD (((8 : Int) * a1) + s1.2).toNat 0)) ∧ inK .i64 (s1.1 + ((weightsL.getD ((a2).toNat * 8 + (s1.2).toNat) 0) * (a3.getD (((8 : Int) * a1) + s1.2).toNat 0))) then
      if inK .i64 (s1.2 + 1) then
        some (.inl (x1, (s1.2 + 1)))
      else none
    else none
  else
    some (.inr s1.1)
def overspill_dct_square_fore (N : Nat) (a1 : Int) (a2 : Int) (a3 : (List Int)) : Option Int :=
  (iter (overspill_dct_square_fore_b1 N a1 a2 a3) N (0, 0)).bind fun v1 =>
    some v1
def sp_overspill_dct_square_fore (N : Nat) : X.Spec := fun args lk => match args with
  | [.v (.c (.ptr i0 0 0 0 0 0)), .v (.c (.int .i64 a1)), .v (.c (.int .i64 a2))] => (match lk i0 with
    | some (.mem _ _ _ (.flat [.ints 64 .i64 a3])) => some ⟨(overspill_dct_square_fore N a1 a2 a3).isSome = true, .v (.c (.int .i64 ((overspill_dct_square_fore N a1 a2 a3).getD default))), [], []⟩
    | _ => none)
  | _ => none
set_option maxRecDepth 100000 in
set_option maxHeartbeats 1000000 in
theorem ok_overspill_dct_square_fore (N : Nat) : FnOK Tryd.prog gt0 106 (sp_overspill_dct_square_fore N) := by
  refine fnOK_handed Tryd.func106 rfl (by kernel_rfl) tt_ok (ktNil) ?_
  intro args lk r h hp
  unfold sp_overspill_dct_square_fore at h
  split at h
  · rename_i i0 a1 a2
    split at h
    · rename_i _ _ _ a3 hl0
      change (List Int) at a3
      cases h
      obtain ⟨x, hx⟩ := Option.isSome_iff_exists.1 hp
      simp only [hx, Option.getD_some]
      refine handL [i0] 1 [(0, .mem false 129 none (.flat [.ints 64 .i64 a3]))] [.v (.c (.ptr 0 0 0 0 0 0)), .v (.c (.int .i64 a1)), .v (.c (.int .i64 a2))] rfl rfl rfl ⟨isSome_of hl0, trivial⟩ ⟨⟨rfl, (by repeat' first | exact True.intro | exact rfl | exact ⟨_, rfl, rfl⟩ | apply And.intro | exact Or.inl rfl), _, hl0, sub_ro⟩, trivial⟩ rfl (fun w0 M ε0 hX => ?_)
      refine rCount (fun hε => ?_)
      have hT : overspill_dct_square_fore N a1 a2 a3 = some x := hx; clear hx hp; unfold overspill_dct_square_fore at hT
      refine rSeq ?_
      refine zReg md0 hX rfl rfl rfl ?_
      refine rThen ?_
      refine rSeq ?_
      refine zReg md0 hX rfl rfl rfl ?_
      refine rThen ?_
      refine rSeq ?_
      refine rSeq ?_
      refine zReg md0 hX rfl rfl rfl ?_
      refine rThen ?_
      refine rBlock ?_
      replace hT := sBind hT; obtain ⟨w1, hl, hT⟩ := hT
      refine rJoinA (fun v1 => v1 = w1) (fun v1 => ⟨[(6, .v (.c (.int .i64 0))), (7, .v (.c (.int .i64 v1)))], [(0, .mem false 129 none (.flat [.ints 64 .i64 a3]))], 1⟩) (.exit 0) (fun v1 hv => ?_) (fun hxs10 => ?_)
      · subst hv; clear hl
        refine rInHit ?_
        refine rThen ?_
        refine rSeq ?_
        refine zReg md0 hX rfl rfl rfl ?_
        refine rThen ?_
        refine rRet ?_
        have hy := Option.some.inj hT; subst hy
        exact zEnd0 hX rfl
      refine rLoopM (overspill_dct_square_fore_b1 N a1 a2 a3) (fun s1 => ⟨[(0, .v (.c (.ptr 0 0 0 0 0 0))), (1, .v (.c (.int .i64 a1))), (2, .v (.c (.int .i64 a2))), (6, .v (.c (.int .i64 0))), (7, .v (.c (.int .i64 s1.1))), (9, .v (.c (.int .i64 s1.2)))], [(0, .mem false 129 none (.flat [.ints 64 .i64 a3]))], 1⟩) hl (To.mk' [] 1 hε rfl (by repeat' first | exact True.intro | exact rfl | apply And.intro) (by repeat' first | exact True.intro | exact rfl | apply And.intro)) (fun s1 zs1 NNs1 hz hnexts1 houts1 => ?_)
      clear hl hT
      have hT := hz; clear hz
      refine rSeq ?_
      refine zReg md0 hX rfl rfl rfl ?_
      refine rThen ?_
      refine rSeq ?_
      refine zCond rfl rfl (fun hc => ?_) (fun hc => ?_)
      · replace hT := sT hc hT
        refine rSkip ?_
        refine rThen ?_
        refine rSeq ?_
        refine rBlock ?_
        refine rSeq ?_
        refine zReg md0 hX rfl rfl rfl ?_
        refine rThen ?_
        let x1 := (s1.1 + ((weightsL.getD ((a2).toNat * 8 + (s1.2).toNat) 0) * (a3.getD (((8 : Int) * a1) + s1.2).toNat 0)))
        replace hT := sIf hT; obtain ⟨⟨o1, o2, o3, o4, o5, o6, o7, o8, o9, o10, o11, o12⟩, hT⟩ := hT
        refine zDraw md0 1 [16] hX mixed rfl rfl rfl rfl rfl ?_
        refine rInNormal ?_
        refine rThen ?_
        replace hT := sIf hT; obtain ⟨o1, hT⟩ := hT
        refine zReg md0 hX rfl rfl rfl ?_
        exact hnexts1 _ (Option.some.inj hT).symm _ (To.mk' [] 1 hε rfl (by repeat' first | exact True.intro | exact rfl | apply And.intro) (by repeat' first | exact True.intro | exact rfl | apply And.intro))
      · replace hT := sF hc hT
        refine rExit ?_
        refine rThenExit ?_
        refine rThenExit ?_
        exact zTo [] 1 hε (hxs10 _ (houts1 _ (Option.some.inj hT).symm))
    · cases h
  · cases h
def dct_pass_fore_b2 (N : Nat) (a1 : (List Int)) (s1 : (Int × (List Int))) (s2 : (Int × (List Int))) : Option ((Int × (List Int)) ⊕ (Int × Bool × (List Int))) :=
  bif (decide (s2.1 < 8)) then
    let c1 := (overspill_dct_square_fore N s1.1 s2.1 a1)
    if inK .i64 ((8 : Int) * s2.1) ∧ inK .i64 (((8 : Int) * s2.1) + s1.1) ∧ c1.isSome = true ∧ (0 : Int) ≤ (((8 : Int) * s2.1) + s1.1) ∧ (((8 : Int) * s2.1) + s1.1) < 64 ∧ (((8 : Int) * s2.1) + s1.1).toNat < 64 then
      if inK .i64 (s2.1 + 1) then
        some (.inl ((s2.1 + 1), (s2.2.set (((8 : Int) * s2.1) + s1.1).toNat (c1.getD default))))
      else none
    else none
  else
    some (.inr (s2.1, (decide (s2.1 < 8)), s2.2))
def dct_pass_fore_b1 (N : Nat) (a1 : (List Int)) (s1 : (Int × (List Int))) : Option ((Int × (List Int)) ⊕ (List Int)) :=
  bif (decide (s1.1 < 8)) then
    (iter (dct_pass_fore_b2 N a1 s1) N (0, s1.2)).bind fun v2 =>
      if inK .i64 (s1.1 + 1) then
        some (.inl ((s1.1 + 1), v2.2.2))
      else none
  else
    some (.inr s1.2)
def dct_pass_fore (N : Nat) (a1 : (List Int)) : Option (List Int) :=
  (iter (dct_pass_fore_b1 N a1) N (0, (List.replicate 64 0))).bind fun v1 =>
    some v1
def sp_dct_pass_fore (N : Nat) : X.Spec := fun args lk => match args with
  | [.fnv 106 [.c (.ptr i0 0 0 0 0 0)] []] => (match lk i0 with
    | some (.mem _ _ _ (.flat [.ints 64 .i64 a1])) => some ⟨(dct_pass_fore N a1).isSome = true, .v (.agg [.ints 64 .i64 ((dct_pass_fore N a1).getD default)]), [], []⟩
    | _ => none)
  | _ => none
set_option maxRecDepth 100000 in
set_option maxHeartbeats 1000000 in
theorem ok_dct_pass_fore (N : Nat) : FnOK Tryd.prog gt0 105 (sp_dct_pass_fore N) := by
  refine fnOK_handed Tryd.func105 rfl (by kernel_rfl) tt_ok (ktCons (ok_overspill_dct_square_fore N) (ktNil)) ?_
  intro args lk r h hp
  unfold sp_dct_pass_fore at h
  split at h
  · rename_i i0
    split at h
    · rename_i _ _ _ a1 hl0
      change (List Int) at a1
      cases h
      obtain ⟨x, hx⟩ := Option.isSome_iff_exists.1 hp
      simp only [hx, Option.getD_some]
      refine handL [i0] 1 [(0, .mem false 129 none (.flat [.ints 64 .i64 a1]))] [.fnv 106 [.c (.ptr 0 0 0 0 0 0)] []] rfl rfl rfl ⟨isSome_of hl0, trivial⟩ ⟨⟨rfl, (by repeat' first | exact True.intro | exact rfl | exact ⟨_, rfl, rfl⟩ | apply And.intro | exact Or.inl rfl), _, hl0, sub_ro⟩, trivial⟩ rfl (fun w0 M ε0 hX => ?_)
      refine rCount (fun hε => ?_)
      have hT : dct_pass_fore N a1 = some x := hx; clear hx hp; unfold dct_pass_fore at hT
      refine rSeq ?_
      refine zReg md0 hX rfl rfl rfl ?_
      refine rThen ?_
      refine rSeq ?_
      refine zReg md0 hX rfl rfl rfl ?_
      refine rThen ?_
      refine rSeq ?_
      refine rSeq ?_
      refine zReg md0 hX rfl rfl rfl ?_
      refine rThen ?_
      refine rBlock ?_
      replace hT := sBind hT; obtain ⟨w1, hl, hT⟩ := hT
      refine rJoinA (fun v1 => v1 = w1) (fun v1 => ⟨[(2, .v (.c (.ptr 1 0 0 0 0 0))), (3, .v (.c (.ptr 2 0 0 0 0 0)))], [(0, .mem false 129 none (.flat [.ints 64 .i64 a1])), (1, .mem true 129 none (.flat [.ints 64 .i64 (List.replicate 64 0)])), (2, .mem true 129 none (.flat [.ints 64 .i64 v1]))], 3⟩) (.exit 0) (fun v1 hv => ?_) (fun hxs10 => ?_)
      · subst hv; clear hl
        refine rInHit ?_
        refine rThen ?_
        refine rSeq ?_
        refine zReg md0 hX rfl rfl rfl ?_
        refine rThen ?_
        refine rRet ?_
        have hy := Option.some.inj hT; subst hy
        exact zEnd0 hX rfl
      refine rLoopM (dct_pass_fore_b1 N a1) (fun s1 => ⟨[(0, .fnv 106 [.c (.ptr 0 0 0 0 0 0)] []), (2, .v (.c (.ptr 1 0 0 0 0 0))), (3, .v (.c (.ptr 2 0 0 0 0 0))), (6, .v (.c (.int .i64 s1.1)))], [(0, .mem false 129 none (.flat [.ints 64 .i64 a1])), (1, .mem true 129 none (.flat [.ints 64 .i64 (List.replicate 64 0)])), (2, .mem true 129 none (.flat [.ints 64 .i64 s1.2]))], 3⟩) hl (To.mk' [] 1 hε rfl (by repeat' first | exact True.intro | exact rfl | apply And.intro) (by repeat' first | exact True.intro | exact rfl | apply And.intro)) (fun s1 zs1 NNs1 hz hnexts1 houts1 => ?_)
      clear hl hT
      have hT := hz; clear hz
      refine rSeq ?_
      refine zReg md0 hX rfl rfl rfl ?_
      refine rThen ?_
      refine rSeq ?_
      refine zCond rfl rfl (fun hc => ?_) (fun hc => ?_)
      · replace hT := sT hc hT
        refine rSkip ?_
        refine rThen ?_
        refine rSeq ?_
        refine rBlock ?_
        refine rSeq ?_
        refine zReg md0 hX rfl rfl rfl ?_
        refine rThen ?_
        refine rSeq ?_
        refine zReg md0 hX rfl rfl rfl ?_
        refine rThen ?_
        refine rBlock ?_
        replace hT := sBind hT; obtain ⟨w2, hl, hT⟩ := hT
        refine rJoinA (fun v2 => v2 = w2) (fun v2 => ⟨[(0, .fnv 106 [.c (.ptr 0 0 0 0 0 0)] []), (2, .v (.c (.ptr 1 0 0 0 0 0))), (3, .v (.c (.ptr 2 0 0 0 0 0))), (4, .v (.c (.int .i64 s1.1))), (6, .v (.c (.int .i64 s1.1))), (7, .v (.c (.bool (decide (s1.1 < 8))))), (8, .v (.c (.int .i64 s1.1))), (9, .v (.c (.int .i64 v2.1))), (10, .v (.c (.bool v2.2.1)))], [(0, .mem false 129 none (.flat [.ints 64 .i64 a1])), (1, .mem true 129 none (.flat [.ints 64 .i64 (List.replicate 64 0)])), (2, .mem true 129 none (.flat [.ints 64 .i64 v2.2.2]))], 3⟩) (.exit 2) (fun v2 hv => ?_) (fun hxs20 => ?_)
        · subst hv; clear hl
          refine rInHit ?_
          refine rInNormal ?_
          refine rThen ?_
          replace hT := sIf hT; obtain ⟨o1, hT⟩ := hT
          refine zReg md0 hX rfl rfl rfl ?_
          exact hnexts1 _ (Option.some.inj hT).symm _ (To.mk' [] 1 hε rfl (by repeat' first | exact True.intro | exact rfl | apply And.intro) (by repeat' first | exact True.intro | exact rfl | apply And.intro))
        refine rLoopM (dct_pass_fore_b2 N a1 s1) (fun s2 => ⟨[(0, .fnv 106 [.c (.ptr 0 0 0 0 0 0)] []), (2, .v (.c (.ptr 1 0 0 0 0 0))), (3, .v (.c (.ptr 2 0 0 0 0 0))), (4, .v (.c (.int .i64 s1.1))), (6, .v (.c (.int .i64 s1.1))), (7, .v (.c (.bool (decide (s1.1 < 8))))), (8, .v (.c (.int .i64 s1.1))), (9, .v (.c (.int .i64 s2.1)))], [(0, .mem false 129 none (.flat [.ints 64 .i64 a1])), (1, .mem true 129 none (.flat [.ints 64 .i64 (List.replicate 64 0)])), (2, .mem true 129 none (.flat [.ints 64 .i64 s2.2]))], 3⟩) hl (To.mk' [] 1 hε rfl (by repeat' first | exact True.intro | exact rfl | apply And.intro) (by repeat' first | exact True.intro | exact rfl | apply And.intro)) (fun s2 zs2 NNs2 hz hnexts2 houts2 => ?_)
        clear hl hT
        have hT := hz; clear hz
        refine rSeq ?_
        refine zReg md0 hX rfl rfl rfl ?_
        refine rThen ?_
        refine rSeq ?_
        refine zCond rfl rfl (fun hc => ?_) (fun hc => ?_)
        · replace hT := sT hc hT
          refine rSkip ?_
          refine rThen ?_
          refine rSeq ?_
          refine rBlock ?_
          refine rSeq ?_
          refine zReg md0 hX rfl rfl rfl ?_
          refine rThen ?_
          let c1 := (overspill_dct_square_fore N s1.1 s2.1 a1)
          replace hT := sIf hT; obtain ⟨⟨o1, o2, o3, o4, o5, o6⟩, hT⟩ := hT
          refine zReg md0 hX rfl rfl rfl ?_
          refine rInNormal ?_
          refine rThen ?_
          replace hT := sIf hT; obtain ⟨o1, hT⟩ := hT
          refine zReg md0 hX rfl rfl rfl ?_
          exact hnexts2 _ (Option.some.inj hT).symm _ (To.mk' [] 1 hε rfl (by repeat' first | exact True.intro | exact rfl | apply And.intro) (by repeat' first | exact True.intro | exact rfl | apply And.intro))
        · replace hT := sF hc hT
          refine rExit ?_
          refine rThenExit ?_
          refine rThenExit ?_
          exact zTo [] 1 hε (hxs20 _ (houts2 _ (Option.some.inj hT).symm))
      · replace hT := sF hc hT
        refine rExit ?_
        refine rThenExit ?_
        refine rThenExit ?_
        exact zTo [] 1 hε (hxs10 _ (houts1 _ (Option.some.inj hT).symm))
    · cases h
  · cases h
def dct_Forward (N : Nat) (a1 : (List Int)) : Option (List Int) :=
  let c1 := (dct_within N a1)
  if c1.isSome = true then
    let c2 := (dct_pass_fore N (c1.getD default))
    if c2.isSome = true then
      let c3 := (dct_pass_fore N (c2.getD default))
      let c4 := (dct_rounded N (c3.getD default) (-2048) 2047)
      if c3.isSome = true ∧ c4.isSome = true then
        some (c4.getD default)
      else none
    else none
  else none
def sp_dct_Forward (N : Nat) : X.Spec := fun args lk => match args with
  | [.v (.agg [.ints 64 .i64 a1])] => some ⟨(dct_Forward N a1).isSome = true, .v (.agg [.ints 64 .i64 ((dct_Forward N a1).getD default)]), [], []⟩
  | _ => none
set_option maxRecDepth 100000 in
set_option maxHeartbeats 1000000 in
theorem ok_dct_Forward (N : Nat) : FnOK Tryd.prog gt0 51 (sp_dct_Forward N) := by
  refine fnOK_handed Tryd.func51 rfl (by kernel_rfl) tt_ok (ktCons (ok_dct_rounded N) (ktCons (ok_dct_pass_fore N) (ktCons (ok_dct_within N) (ktNil)))) ?_
  intro args lk r h hp
  unfold sp_dct_Forward at h
  split at h
  · rename_i a1
    change (List Int) at a1
    cases h
    obtain ⟨x, hx⟩ := Option.isSome_iff_exists.1 hp
    simp only [hx, Option.getD_some]
    refine hand0 rfl rfl (fun w0 M ε0 hX => ?_)
    refine rCount (fun hε => ?_)
    have hT : dct_Forward N a1 = some x := hx; clear hx hp; unfold dct_Forward at hT
    refine rSeq ?_
    refine zReg md0 hX rfl rfl rfl ?_
    refine rThen ?_
    refine rSeq ?_
    let c1 := (dct_within N a1)
    replace hT := sIf hT; obtain ⟨o1, hT⟩ := hT
    refine zReg md0 hX rfl rfl rfl ?_
    refine rThen ?_
    refine rSeq ?_
    let c2 := (dct_pass_fore N (c1.getD default))
    replace hT := sIf hT; obtain ⟨o1, hT⟩ := hT
    refine zReg md0 hX rfl rfl rfl ?_
    refine rThen ?_
    refine rSeq ?_
    let c3 := (dct_pass_fore N (c2.getD default))
    let c4 := (dct_rounded N (c3.getD default) (-2048) 2047)
    replace hT := sIf hT; obtain ⟨⟨o1, o2⟩, hT⟩ := hT
    refine zReg md0 hX rfl rfl rfl ?_
    refine rThen ?_
    refine rRet ?_
    have hy := Option.some.inj hT; subst hy
    exact zEnd0 hX rfl
  · cases h
def coarse_level (N : Nat) (a1 : Int) (a2 : Int) (a3 : Int) : Option Int :=
  let c1 := (whole_Clip N ((max a2 (0 : Int)) / ((2 : Int) * a3)) 0 127)
  if inK .i64 ((2 : Int) * a3) ∧ (0 : Int) ≤ (max a2 (0 : Int)) ∧ (0 : Int) < ((2 : Int) * a3) ∧ c1.isSome = true then
    bif (decide (a1 < 0)) then
      if inK .i64 (-(c1.getD default)) then
        some (-(c1.getD default))
      else none
    else
      some (c1.getD default)
  else none
def sp_coarse_level (N : Nat) : X.Spec := fun args lk => match args with
  | [.v (.c (.int .i64 a1)), .v (.c (.int .i64 a2)), .v (.c (.int .i64 a3))] => some ⟨(coarse_level N a1 a2 a3).isSome = true, .v (.c (.int .i64 ((coarse_level N a1 a2 a3).getD default))), [], []⟩
  | _ => none
set_option maxRecDepth 100000 in
set_option maxHeartbeats 1000000 in
theorem ok_coarse_level (N : Nat) : FnOK Tryd.prog gt0 140 (sp_coarse_level N) := by
  refine fnOK_handed Tryd.func140 rfl (by kernel_rfl) tt_ok (ktCons (ok_whole_Clip N) (ktNil)) ?_
  intro args lk r h hp
  unfold sp_coarse_level at h
  split at h
  · rename_i a1 a2 a3
    cases h
    obtain ⟨x, hx⟩ := Option.isSome_iff_exists.1 hp
    simp only [hx, Option.getD_some]
    refine hand0 rfl rfl (fun w0 M ε0 hX => ?_)
    refine rCount (fun hε => ?_)
    have hT : coarse_level N a1 a2 a3 = some x := hx; clear hx hp; unfold coarse_level at hT
    refine rSeq ?_
    refine zReg md0 hX rfl rfl rfl ?_
    refine rThen ?_
    refine rSeq ?_
    let c1 := (whole_Clip N ((max a2 (0 : Int)) / ((2 : Int) * a3)) 0 127)
    replace hT := sIf hT; obtain ⟨⟨o1, o2, o3, o4⟩, hT⟩ := hT
    refine zReg md0 hX rfl rfl rfl ?_
    refine rThen ?_
    refine rSeq ?_
    refine rSeq ?_
    refine zReg md0 hX rfl rfl rfl ?_
    refine rThen ?_
    refine zCond rfl rfl (fun hc => ?_) (fun hc => ?_)
    · replace hT := sT hc hT
      refine rSeq ?_
      replace hT := sIf hT; obtain ⟨o1, hT⟩ := hT
      refine zReg md0 hX rfl rfl rfl ?_
      refine rThen ?_
      refine rRet ?_
      refine rThenRet ?_
      have hy := Option.some.inj hT; subst hy
      exact zEnd0 hX rfl
    · replace hT := sF hc hT
      refine rSkip ?_
      refine rThen ?_
      refine rSeq ?_
      refine zReg md0 hX rfl rfl rfl ?_
      refine rThen ?_
      refine rRet ?_
      have hy := Option.some.inj hT; subst hy
      exact zEnd0 hX rfl
  · cases h
def coarse_Intra (N : Nat) (a1 : Int) (a2 : Int) : Option Int :=
  let c1 := (whole_Clip N a1 (-2048) 2047)
  let c2 := (whole_Clip N a2 1 31)
  if c1.isSome = true ∧ c2.isSome = true then
    let c3 := (coarse_level N (c1.getD default) (max (c1.getD default) (-(c1.getD default))) (c2.getD default))
    if inK .i64 (-(c1.getD default)) ∧ c3.isSome = true then
      some (c3.getD default)
    else none
  else none
def sp_coarse_Intra (N : Nat) : X.Spec := fun args lk => match args with
  | [.v (.c (.int .i64 a1)), .v (.c (.int .i64 a2))] => some ⟨(coarse_Intra N a1 a2).isSome = true, .v (.c (.int .i64 ((coarse_Intra N a1 a2).getD default))), [], []⟩
  | _ => none
set_option maxRecDepth 100000 in
set_option maxHeartbeats 1000000 in
theorem ok_coarse_Intra (N : Nat) : FnOK Tryd.prog gt0 109 (sp_coarse_Intra N) := by
  refine fnOK_handed Tryd.func109 rfl (by kernel_rfl) tt_ok (ktCons (ok_coarse_level N) (ktCons (ok_whole_Clip N) (ktNil))) ?_
  intro args lk r h hp
  unfold sp_coarse_Intra at h
  split at h
  · rename_i a1 a2
    cases h
    obtain ⟨x, hx⟩ := Option.isSome_iff_exists.1 hp
    simp only [hx, Option.getD_some]
    refine hand0 rfl rfl (fun w0 M ε0 hX => ?_)
    refine rCount (fun hε => ?_)
    have hT : coarse_Intra N a1 a2 = some x := hx; clear hx hp; unfold coarse_Intra at hT
    refine rSeq ?_
    refine zReg md0 hX rfl rfl rfl ?_
    refine rThen ?_
    refine rSeq ?_
    let c1 := (whole_Clip N a1 (-2048) 2047)
    let c2 := (whole_Clip N a2 1 31)
    replace hT := sIf hT; obtain ⟨⟨o1, o2⟩, hT⟩ := hT
    refine zReg md0 hX rfl rfl rfl ?_
    refine rThen ?_
    refine rSeq ?_
    let c3 := (coarse_level N (c1.getD default) (max (c1.getD default) (-(c1.getD default))) (c2.getD default))
    replace hT := sIf hT; obtain ⟨⟨o1, o2⟩, hT⟩ := hT
    refine zReg md0 hX rfl rfl rfl ?_
    refine rThen ?_
    refine rRet ?_
    have hy := Option.some.inj hT; subst hy
    exact zEnd0 hX rfl
  · cases h
def coarse_Inter (N : Nat) (a1 : Int) (a2 : Int) : Option Int :=
  let c1 := (whole_Clip N a1 (-2048) 2047)
  let c2 := (whole_Clip N a2 1 31)
  if c1.isSome = true ∧ c2.isSome = true then
    let c3 := (coarse_level N (c1.getD default) ((max (c1.getD default) (-(c1.getD default))) - ((c2.getD default) / 2)) (c2.getD default))
    if inK .i64 (-(c1.getD default)) ∧ (0 : Int) ≤ (c2.getD default) ∧ inK .i64 ((max (c1.getD default) (-(c1.getD default))) - ((c2.getD default) / 2)) ∧ c3.isSome = true then
      some (c3.getD default)
    else none
  else none
def sp_coarse_Inter (N : Nat) : X.Spec := fun args lk => match args with
  | [.v (.c (.int .i64 a1)), .v (.c (.int .i64 a2))] => some ⟨(coarse_Inter N a1 a2).isSome = true, .v (.c (.int .i64 ((coarse_Inter N a1 a2).getD default))), [], []⟩
  | _ => none
set_option maxRecDepth 100000 in
set_option maxHeartbeats 1000000 in
theorem ok_coarse_Inter (N : Nat) : FnOK Tryd.prog gt0 108 (sp_coarse_Inter N) := by
  refine fnOK_handed Tryd.func108 rfl (by kernel_rfl) tt_ok (ktCons (ok_coarse_level N) (ktCons (ok_whole_Clip N) (ktNil))) ?_
  intro args lk r h hp
  unfold sp_coarse_Inter at h
  split at h
  · rename_i a1 a2
    cases h
    obtain ⟨x, hx⟩ := Option.isSome_iff_exists.1 hp
    simp only [hx, Option.getD_some]
    refine hand0 rfl rfl (fun w0 M ε0 hX => ?_)
    refine rCount (fun hε => ?_)
    have hT : coarse_Inter N a1 a2 = some x := hx; clear hx hp; unfold coarse_Inter at hT
    refine rSeq ?_
    refine zReg md0 hX rfl rfl rfl ?_
    refine rThen ?_
    refine rSeq ?_
    let c1 := (whole_Clip N a1 (-2048) 2047)
    let c2 := (whole_Clip N a2 1 31)
    replace hT := sIf hT; obtain ⟨⟨o1, o2⟩, hT⟩ := hT
    refine zReg md0 hX rfl rfl rfl ?_
    refine rThen ?_
    refine rSeq ?_
    let c3 := (coarse_level N (c1.getD default) ((max (c1.getD default) (-(c1.getD default))) - ((c2.getD default) / 2)) (c2.getD default))
    replace hT := sIf hT; obtain ⟨⟨o1, o2, o3, o4⟩, hT⟩ := hT
    refine zReg md0 hX rfl rfl rfl ?_
    refine rThen ?_
    refine rRet ?_
    have hy := Option.some.inj hT; subst hy
    exact zEnd0 hX rfl
  · cases h

end Go.Proofs.YtkfaebbbjahcpaaDoor
