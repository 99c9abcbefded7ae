/- Models of functions, and that the program does what they tell. -/
import Derived.Test.YtjknjjdijoboiaaF1
set_option linter.unusedVariables false
set_option linter.unusedSimpArgs false
namespace Go.Proofs.Ytjknjjdijoboiaa
open Go.X

def planes_has (N : Nat) (a1 : Int) (a2 : Int) : Option Bool :=
  let c1 := (formats_Cells N a1)
  if c1.isSome = true then
    let x1 := (bif (decide ((0 : Int) ≤ a2)) then (decide (a2 < ((c1.getD default).1 * (c1.getD default).2))) else false)
    if ((decide ((0 : Int) ≤ a2)) = true → inK .i64 ((c1.getD default).1 * (c1.getD default).2)) then
      some x1
    else none
  else none
def sp_planes_has (N : Nat) : X.Spec := fun args lk => match args with
  | [.v (.c (.int .i64 a1)), .v (.c (.int .i64 a2))] => some ⟨(planes_has N a1 a2).isSome = true, .v (.c (.bool ((planes_has N a1 a2).getD default))), [], []⟩
  | _ => none
set_option maxRecDepth 100000 in
set_option maxHeartbeats 1000000 in
theorem ok_planes_has (N : Nat) : FnOK Try.prog gt0 67 (sp_planes_has N) := by
  refine fnOK_handed Try.func67 rfl (by kernel_rfl) tt_ok (ktCons (ok_formats_Cells N) (ktNil)) ?_
  intro args lk r h hp
  unfold sp_planes_has at h
  split at h
  · rename_i a1 a2
    cases h
    obtain ⟨x, hx⟩ := Option.isSome_iff_exists.1 hp
    simp only [hx, Option.getD_some]
    refine hand0 rfl rfl (fun w0 M ε0 hX => ?_)
    refine rCount (fun hε => ?_)
    have hT : planes_has N a1 a2 = some x := hx; clear hx hp; unfold planes_has at hT
    refine rSeq ?_
    refine zReg md0 hX rfl rfl rfl ?_
    refine rThen ?_
    refine rSeq ?_
    let c1 := (formats_Cells N a1)
    replace hT := sIf hT; obtain ⟨o1, hT⟩ := hT
    refine zReg md0 hX rfl rfl rfl ?_
    refine rThen ?_
    refine rSeq ?_
    let x1 := (bif (decide ((0 : Int) ≤ a2)) then (decide (a2 < ((c1.getD default).1 * (c1.getD default).2))) else false)
    replace hT := sIf hT; obtain ⟨o1, hT⟩ := hT
    refine rRegC md0 hX rfl rfl rfl (by (repeat' first | exact True.intro | with_reducible assumption | (with_reducible apply And.intro) | intro _) <;> first | assumption | exact o1 (by assumption) | exact rfl | omega | exact Nat.le_of_ble_eq_true rfl | exact selF (by assumption) | exact selT (by assumption) | exact And.intro rfl rfl | exact And.intro (by assumption) rfl | exact And.intro (by omega) rfl | (simp only [inK] at *; omega) | (simp_all [sel] <;> fail) | fail) ?_
    refine rThen ?_
    refine rRet ?_
    have hy := Option.some.inj hT; subst hy
    exact zEnd0 hX rfl
  · cases h
def planes_place (N : Nat) (a1 : Int) (a2 : Int) (a3 : Int) : Option (Int × Int × Int) :=
  let c1 := (formats_Cells N a1)
  if c1.isSome = true then
    if (0 : Int) ≤ a2 ∧ (0 : Int) < (c1.getD default).1 ∧ inK .i64 ((a2 % (c1.getD default).1) * 8) ∧ inK .i64 ((a2 / (c1.getD default).1) * 8) then
      bif (decide (a3 < 4)) then
        let c2 := (formats_Plane N a1 0)
        if c2.isSome = true then
          let x1 := ((((((2 : Int) * ((a2 / (c1.getD default).1) * 8)) + ((a3 / 2) * 8)) * (c2.getD default).1) + ((2 : Int) * ((a2 % (c1.getD default).1) * 8))) + ((a3 % 2) * 8))
          if inK .i64 ((2 : Int) * ((a2 / (c1.getD default).1) * 8)) ∧ (0 : Int) ≤ a3 ∧ inK .i64 ((a3 / 2) * 8) ∧ inK .i64 (((2 : Int) * ((a2 / (c1.getD default).1) * 8)) + ((a3 / 2) * 8)) ∧ inK .i64 ((((2 : Int) * ((a2 / (c1.getD default).1) * 8)) + ((a3 / 2) * 8)) * (c2.getD default).1) ∧ inK .i64 ((2 : Int) * ((a2 % (c1.getD default).1) * 8)) ∧ inK .i64 (((((2 : Int) * ((a2 / (c1.getD default).1) * 8)) + ((a3 / 2) * 8)) * (c2.getD default).1) + ((2 : Int) * ((a2 % (c1.getD default).1) * 8))) ∧ inK .i64 ((a3 % 2) * 8) ∧ inK .i64 ((((((2 : Int) * ((a2 / (c1.getD default).1) * 8)) + ((a3 / 2) * 8)) * (c2.getD default).1) + ((2 : Int) * ((a2 % (c1.getD default).1) * 8))) + ((a3 % 2) * 8)) then
            some (0, x1, (c2.getD default).1)
          else none
        else none
      else
        if inK .i64 (a3 - 4) ∧ inK .i64 ((a3 - 4) + 1) then
          let c3 := (formats_Plane N a1 ((a3 - 4) + 1))
          if c3.isSome = true then
            let x3 := ((((a2 / (c1.getD default).1) * 8) * (c3.getD default).1) + ((a2 % (c1.getD default).1) * 8))
            if inK .i64 (((a2 / (c1.getD default).1) * 8) * (c3.getD default).1) ∧ inK .i64 ((((a2 / (c1.getD default).1) * 8) * (c3.getD default).1) + ((a2 % (c1.getD default).1) * 8)) then
              some (((a3 - 4) + 1), x3, (c3.getD default).1)
            else none
          else none
        else none
    else none
  else none
def sp_planes_place (N : Nat) : X.Spec := fun args lk => match args with
  | [.v (.c (.int .i64 a1)), .v (.c (.int .i64 a2)), .v (.c (.int .i64 a3))] => some ⟨(planes_place N a1 a2 a3).isSome = true, .tup [.c (.int .i64 ((planes_place N a1 a2 a3).getD default).1), .c (.int .i64 ((planes_place N a1 a2 a3).getD default).2.1), .c (.int .i64 ((planes_place N a1 a2 a3).getD default).2.2)], [], []⟩
  | _ => none
set_option maxRecDepth 100000 in
set_option maxHeartbeats 1000000 in
theorem ok_planes_place (N : Nat) : FnOK Try.prog gt0 68 (sp_planes_place N) := by
  refine fnOK_handed Try.func68 rfl (by kernel_rfl) tt_ok (ktCons (ok_formats_Plane N) (ktCons (ok_formats_Cells N) (ktNil))) ?_
  intro args lk r h hp
  unfold sp_planes_place at h
  split at h
  · rename_i a1 a2 a3
    cases h
    obtain ⟨x, hx⟩ := Option.isSome_iff_exists.1 hp
    simp only [hx, Option.getD_some]
    refine hand0 rfl rfl (fun w0 M ε0 hX => ?_)
    refine rCount (fun hε => ?_)
    have hT : planes_place N a1 a2 a3 = some x := hx; clear hx hp; unfold planes_place at hT
    refine rSeq ?_
    refine zReg md0 hX rfl rfl rfl ?_
    refine rThen ?_
    refine rSeq ?_
    let c1 := (formats_Cells N a1)
    replace hT := sIf hT; obtain ⟨o1, hT⟩ := hT
    refine zReg md0 hX rfl rfl rfl ?_
    refine rThen ?_
    refine rSeq ?_
    replace hT := sIf hT; obtain ⟨⟨o1, o2, o3, o4⟩, hT⟩ := hT
    refine zDraw md0 0 [] hX mixed rfl rfl rfl rfl rfl ?_
    refine rThen ?_
    refine rSeq ?_
    refine rSeq ?_
    refine zReg md0 hX rfl rfl rfl ?_
    refine rThen ?_
    refine zCond rfl rfl (fun hc => ?_) (fun hc => ?_)
    · replace hT := sT hc hT
      refine rSeq ?_
      let c2 := (formats_Plane N a1 0)
      replace hT := sIf hT; obtain ⟨o1, hT⟩ := hT
      refine zReg md0 hX rfl rfl rfl ?_
      refine rThen ?_
      refine rSeq ?_
      let x1 := ((((((2 : Int) * ((a2 / (c1.getD default).1) * 8)) + ((a3 / 2) * 8)) * (c2.getD default).1) + ((2 : Int) * ((a2 % (c1.getD default).1) * 8))) + ((a3 % 2) * 8))
      replace hT := sIf hT; obtain ⟨⟨o1, o2, o3, o4, o5, o6, o7, o8, o9⟩, hT⟩ := hT
      refine zReg md0 hX rfl rfl rfl ?_
      refine rThen ?_
      refine rRet ?_
      refine rThenRet ?_
      have hy := Option.some.inj hT; subst hy
      exact zEnd0 hX rfl
    · replace hT := sF hc hT
      refine rSkip ?_
      refine rThen ?_
      refine rSeq ?_
      replace hT := sIf hT; obtain ⟨⟨o1, o2⟩, hT⟩ := hT
      refine zReg md0 hX rfl rfl rfl ?_
      refine rThen ?_
      refine rSeq ?_
      let c3 := (formats_Plane N a1 ((a3 - 4) + 1))
      replace hT := sIf hT; obtain ⟨o1, hT⟩ := hT
      refine zReg md0 hX rfl rfl rfl ?_
      refine rThen ?_
      refine rSeq ?_
      let x3 := ((((a2 / (c1.getD default).1) * 8) * (c3.getD default).1) + ((a2 % (c1.getD default).1) * 8))
      replace hT := sIf hT; obtain ⟨⟨o1, o2⟩, hT⟩ := hT
      refine zReg md0 hX rfl rfl rfl ?_
      refine rThen ?_
      refine rRet ?_
      have hy := Option.some.inj hT; subst hy
      exact zEnd0 hX rfl
  · cases h
def planes_Cut_b2 (N : Nat) (a2 : (List (List Int))) (s1 : (Int × (List Int))) (c3 : (Option (Int × Int × Int))) (s2 : (Int × (List Int))) : Option ((Int × (List Int)) ⊕ (Int × Bool × (List Int))) :=
  bif (decide (s2.1 < 64)) then
    let x2 := (s2.2.set ((s1.1).toNat * 64 + (s2.1).toNat) ((a2.getD (c3.getD default).1.toNat []).getD (((c3.getD default).2.1 + ((s2.1 / 8) * (c3.getD default).2.2)) + (s2.1 % 8)).toNat 0))
    if (0 : Int) ≤ (c3.getD default).1 ∧ (c3.getD default).1 < 3 ∧ (c3.getD default).1.toNat < 3 ∧ (0 : Int) ≤ s2.1 ∧ inK .i64 ((s2.1 / 8) * (c3.getD default).2.2) ∧ inK .i64 ((c3.getD default).2.1 + ((s2.1 / 8) * (c3.getD default).2.2)) ∧ inK .i64 (((c3.getD default).2.1 + ((s2.1 / 8) * (c3.getD default).2.2)) + (s2.1 % 8)) ∧ (0 : Int) ≤ (((c3.getD default).2.1 + ((s2.1 / 8) * (c3.getD default).2.2)) + (s2.1 % 8)) ∧ (((c3.getD default).2.1 + ((s2.1 / 8) * (c3.getD default).2.2)) + (s2.1 % 8)) < ((a2.getD (c3.getD default).1.toNat []).length : Int) ∧ inK .i64 ((a2.getD (c3.getD default).1.toNat []).getD (((c3.getD default).2.1 + ((s2.1 / 8) * (c3.getD default).2.2)) + (s2.1 % 8)).toNat 0) ∧ (0 : Int) ≤ s1.1 ∧ s1.1 < 6 ∧ s2.1 < 64 ∧ ((s1.1).toNat * 64 + (s2.1).toNat) < 384 then
      if inK .i64 (s2.1 + 1) then
        some (.inl ((s2.1 + 1), x2))
      else none
    else none
  else
    some (.inr (s2.1, (decide (s2.1 < 64)), s2.2))
def planes_Cut_b1 (N : Nat) (a1 : Int) (a2 : (List (List Int))) (a3 : Int) (s1 : (Int × (List Int))) : Option ((Int × (List Int)) ⊕ (List Int)) :=
  bif (decide (s1.1 < 6)) then
    let c3 := (planes_place N a1 a3 s1.1)
    if c3.isSome = true then
      (iter (planes_Cut_b2 N a2 s1 c3) N (0, s1.2)).bind fun v2 =>
        if inK .i64 (s1.1 + 1) then
          some (.inl ((s1.1 + 1), v2.2.2))
        else none
    else none
  else
    some (.inr s1.2)
def planes_Cut (N : Nat) (a1 : Int) (a2 : (List (List Int))) (a3 : Int) : Option ((List Int) × Int) :=
  let c1 := (planes_Right N a1 a2)
  let c2 := (planes_has N a1 a3)
  if c1.isSome = true ∧ ((!(!(c1.getD default))) = true → c2.isSome = true) then
    bif (bif (!(c1.getD default)) then true else (!(c2.getD default))) then
      some ((List.replicate 384 0), 1)
    else
      (iter (planes_Cut_b1 N a1 a2 a3) N (0, (List.replicate 384 0))).bind fun v1 =>
        some (v1, 0)
  else none
def sp_planes_Cut (N : Nat) : X.Spec := fun args lk => match args with
  | [.v (.agg [.cs [.int .i64 a1], .fzs 3 (.int .u8) a2]), .v (.c (.int .i64 a3))] => some ⟨(planes_Cut N a1 a2 a3).isSome = true, .tup [.agg [.ints 384 .i64 ((planes_Cut N a1 a2 a3).getD default).1], .c (.int .i64 ((planes_Cut N a1 a2 a3).getD default).2)], [], []⟩
  | _ => none
set_option maxRecDepth 100000 in
set_option maxHeartbeats 1000000 in
theorem ok_planes_Cut (N : Nat) : FnOK Try.prog gt0 25 (sp_planes_Cut N) := by
  refine fnOK_handed Try.func25 rfl (by kernel_rfl) tt_ok (ktCons (ok_planes_place N) (ktCons (ok_planes_has N) (ktCons (ok_planes_Right N) (ktNil)))) ?_
  intro args lk r h hp
  unfold sp_planes_Cut at h
  split at h
  · rename_i a1 a2 a3
    change (List (List Int)) at a2
    cases h
    obtain ⟨x, hx⟩ := Option.isSome_iff_exists.1 hp
    simp only [hx, Option.getD_some]
    refine hand0 rfl rfl (fun w0 M ε0 hX => ?_)
    refine rCount (fun hε => ?_)
    have hT : planes_Cut N a1 a2 a3 = some x := hx; clear hx hp; unfold planes_Cut at hT
    refine rSeq ?_
    refine zReg md0 hX rfl rfl rfl ?_
    refine rThen ?_
    refine rSeq ?_
    refine rSeq ?_
    let c1 := (planes_Right N a1 a2)
    let c2 := (planes_has N a1 a3)
    replace hT := sIf hT; obtain ⟨⟨o1, o2⟩, hT⟩ := hT
    refine rRegC md0 hX rfl rfl rfl (by (repeat' first | exact True.intro | with_reducible assumption | (with_reducible apply And.intro) | intro _) <;> first | assumption | exact o2 (by assumption) | exact rfl | omega | exact Nat.le_of_ble_eq_true rfl | exact selF (by assumption) | exact selT (by assumption) | exact And.intro rfl rfl | exact And.intro (by assumption) rfl | exact And.intro (by omega) rfl | (simp only [inK] at *; omega) | (simp_all [sel] <;> fail) | fail) ?_
    refine rThen ?_
    refine zCond rfl rfl (fun hc => ?_) (fun hc => ?_)
    · replace hT := sT hc hT
      refine rSeq ?_
      refine zReg md0 hX rfl rfl rfl ?_
      refine rThen ?_
      refine rRet ?_
      refine rThenRet ?_
      have hy := Option.some.inj hT; subst hy
      exact zEnd0 hX rfl
    · replace hT := sF hc hT
      refine rSkip ?_
      refine rThen ?_
      refine rSeq ?_
      refine zReg md0 hX rfl rfl rfl ?_
      refine rThen ?_
      refine rSeq ?_
      refine rSeq ?_
      refine zReg md0 hX rfl rfl rfl ?_
      refine rThen ?_
      refine rBlock ?_
      replace hT := sBind hT; obtain ⟨w1, hl, hT⟩ := hT
      refine rJoinA (fun v1 => v1 = w1) (fun v1 => ⟨[(4, .v (.c (.ptr 1 0 0 0 0 0))), (5, .v (.c (.int .i64 0))), (6, .v (.c (.ptr 2 0 0 0 0 0)))], [(1, .mem true 31 none (.flat [.ints 384 .i64 (List.replicate 384 0)])), (2, .mem true 31 none (.flat [.ints 384 .i64 v1]))], 3⟩) (.exit 0) (fun v1 hv => ?_) (fun hxs10 => ?_)
      · subst hv; clear hl
        refine rInHit ?_
        refine rThen ?_
        refine rSeq ?_
        refine zReg md0 hX rfl rfl rfl ?_
        refine rThen ?_
        refine rRet ?_
        have hy := Option.some.inj hT; subst hy
        exact zEnd0 hX rfl
      refine rLoopM (planes_Cut_b1 N a1 a2 a3) (fun s1 => ⟨[(1, .v (.c (.int .i64 a3))), (2, .v (.c (.ptr 0 0 0 0 0 0))), (4, .v (.c (.ptr 1 0 0 0 0 0))), (5, .v (.c (.int .i64 0))), (6, .v (.c (.ptr 2 0 0 0 0 0))), (23, .v (.c (.int .i64 s1.1)))], [(0, .mem true 25 none (.flat [.cs [.int .i64 a1], .fzs 3 (.int .u8) a2])), (1, .mem true 31 none (.flat [.ints 384 .i64 (List.replicate 384 0)])), (2, .mem true 31 none (.flat [.ints 384 .i64 s1.2]))], 3⟩) hl (To.mk' [] 0 hε rfl (by repeat' first | exact True.intro | exact rfl | apply And.intro) (by repeat' first | exact True.intro | exact rfl | apply And.intro)) (fun s1 zs1 NNs1 hz hnexts1 houts1 => ?_)
      clear hl hT
      have hT := hz; clear hz
      refine rSeq ?_
      refine zReg md0 hX rfl rfl rfl ?_
      refine rThen ?_
      refine rSeq ?_
      refine zCond rfl rfl (fun hc => ?_) (fun hc => ?_)
      · replace hT := sT hc hT
        refine rSkip ?_
        refine rThen ?_
        refine rSeq ?_
        refine rBlock ?_
        refine rSeq ?_
        refine zReg md0 hX rfl rfl rfl ?_
        refine rThen ?_
        refine rSeq ?_
        let c3 := (planes_place N a1 a3 s1.1)
        replace hT := sIf hT; obtain ⟨o1, hT⟩ := hT
        refine zReg md0 hX rfl rfl rfl ?_
        refine rThen ?_
        refine rSeq ?_
        refine zReg md0 hX rfl rfl rfl ?_
        refine rThen ?_
        refine rBlock ?_
        replace hT := sBind hT; obtain ⟨w2, hl, hT⟩ := hT
        refine rJoinA (fun v2 => v2 = w2) (fun v2 => ⟨[(1, .v (.c (.int .i64 a3))), (2, .v (.c (.ptr 0 0 0 0 0 0))), (4, .v (.c (.ptr 1 0 0 0 0 0))), (5, .v (.c (.int .i64 0))), (6, .v (.c (.ptr 2 0 0 0 0 0))), (7, .v (.c (.int .i64 s1.1))), (8, .v (.c (.int .i64 (c3.getD default).1))), (9, .v (.c (.int .i64 (c3.getD default).2.1))), (10, .v (.c (.int .i64 (c3.getD default).2.2))), (23, .v (.c (.int .i64 s1.1))), (24, .v (.c (.bool (decide (s1.1 < 6))))), (25, .v (.c (.int .i64 s1.1))), (26, .tup [.c (.int .i64 (c3.getD default).1), .c (.int .i64 (c3.getD default).2.1), .c (.int .i64 (c3.getD default).2.2)]), (27, .v (.c (.ptr 0 0 0 0 0 0))), (28, .v (.c (.int .i64 a1))), (29, .v (.c (.int .i64 a3))), (30, .v (.c (.int .i64 s1.1))), (31, .tup [.c (.int .i64 (c3.getD default).1), .c (.int .i64 (c3.getD default).2.1), .c (.int .i64 (c3.getD default).2.2)]), (32, .v (.c (.int .i64 (c3.getD default).1))), (33, .v (.c (.int .i64 (c3.getD default).2.1))), (34, .v (.c (.int .i64 (c3.getD default).2.2))), (35, .v (.c (.int .i64 v2.1))), (36, .v (.c (.bool v2.2.1)))], [(0, .mem true 25 none (.flat [.cs [.int .i64 a1], .fzs 3 (.int .u8) a2])), (1, .mem true 31 none (.flat [.ints 384 .i64 (List.replicate 384 0)])), (2, .mem true 31 none (.flat [.ints 384 .i64 v2.2.2]))], 3⟩) (.exit 2) (fun v2 hv => ?_) (fun hxs20 => ?_)
        · subst hv; clear hl
          refine rInHit ?_
          refine rInNormal ?_
          refine rThen ?_
          replace hT := sIf hT; obtain ⟨o1, hT⟩ := hT
          refine zReg md0 hX rfl rfl rfl ?_
          exact hnexts1 _ (Option.some.inj hT).symm _ (To.mk' [] 0 hε rfl (by repeat' first | exact True.intro | exact rfl | apply And.intro) (by repeat' first | exact True.intro | exact rfl | apply And.intro))
        refine rLoopM (planes_Cut_b2 N a2 s1 c3) (fun s2 => ⟨[(1, .v (.c (.int .i64 a3))), (2, .v (.c (.ptr 0 0 0 0 0 0))), (4, .v (.c (.ptr 1 0 0 0 0 0))), (5, .v (.c (.int .i64 0))), (6, .v (.c (.ptr 2 0 0 0 0 0))), (7, .v (.c (.int .i64 s1.1))), (8, .v (.c (.int .i64 (c3.getD default).1))), (9, .v (.c (.int .i64 (c3.getD default).2.1))), (10, .v (.c (.int .i64 (c3.getD default).2.2))), (23, .v (.c (.int .i64 s1.1))), (24, .v (.c (.bool (decide (s1.1 < 6))))), (25, .v (.c (.int .i64 s1.1))), (26, .tup [.c (.int .i64 (c3.getD default).1), .c (.int .i64 (c3.getD default).2.1), .c (.int .i64 (c3.getD default).2.2)]), (27, .v (.c (.ptr 0 0 0 0 0 0))), (28, .v (.c (.int .i64 a1))), (29, .v (.c (.int .i64 a3))), (30, .v (.c (.int .i64 s1.1))), (31, .tup [.c (.int .i64 (c3.getD default).1), .c (.int .i64 (c3.getD default).2.1), .c (.int .i64 (c3.getD default).2.2)]), (32, .v (.c (.int .i64 (c3.getD default).1))), (33, .v (.c (.int .i64 (c3.getD default).2.1))), (34, .v (.c (.int .i64 (c3.getD default).2.2))), (35, .v (.c (.int .i64 s2.1)))], [(0, .mem true 25 none (.flat [.cs [.int .i64 a1], .fzs 3 (.int .u8) a2])), (1, .mem true 31 none (.flat [.ints 384 .i64 (List.replicate 384 0)])), (2, .mem true 31 none (.flat [.ints 384 .i64 s2.2]))], 3⟩) hl (To.mk' [] 0 hε rfl (by repeat' first | exact True.intro | exact rfl | apply And.intro) (by repeat' first | exact True.intro | exact rfl | apply And.intro)) (fun s2 zs2 NNs2 hz hnexts2 houts2 => ?_)
        clear hl hT
        have hT := hz; clear hz
        refine rSeq ?_
        refine zReg md0 hX rfl rfl rfl ?_
        refine rThen ?_
        refine rSeq ?_
        refine zCond rfl rfl (fun hc => ?_) (fun hc => ?_)
        · replace hT := sT hc hT
          refine rSkip ?_
          refine rThen ?_
          refine rSeq ?_
          refine rBlock ?_
          refine rSeq ?_
          refine zReg md0 hX rfl rfl rfl ?_
          refine rThen ?_
          let x2 := (s2.2.set ((s1.1).toNat * 64 + (s2.1).toNat) ((a2.getD (c3.getD default).1.toNat []).getD (((c3.getD default).2.1 + ((s2.1 / 8) * (c3.getD default).2.2)) + (s2.1 % 8)).toNat 0))
          replace hT := sIf hT; obtain ⟨⟨o1, o2, o3, o4, o5, o6, o7, o8, o9, o10, o11, o12, o13, o14⟩, hT⟩ := hT
          refine zDraw md0 1 [20] hX mixed rfl rfl rfl rfl rfl ?_
          refine rInNormal ?_
          refine rThen ?_
          replace hT := sIf hT; obtain ⟨o1, hT⟩ := hT
          refine zReg md0 hX rfl rfl rfl ?_
          exact hnexts2 _ (Option.some.inj hT).symm _ (To.mk' [] 0 hε rfl (by repeat' first | exact True.intro | exact rfl | apply And.intro) (by repeat' first | exact True.intro | exact rfl | apply And.intro))
        · replace hT := sF hc hT
          refine rExit ?_
          refine rThenExit ?_
          refine rThenExit ?_
          exact zTo [] 0 hε (hxs20 _ (houts2 _ (Option.some.inj hT).symm))
      · replace hT := sF hc hT
        refine rExit ?_
        refine rThenExit ?_
        refine rThenExit ?_
        exact zTo [] 0 hε (hxs10 _ (houts1 _ (Option.some.inj hT).symm))
  · cases h
def ref17_Cut_b2 (N : Nat) (a1 : Int) (a2 : (List (List Int))) (a3 : Int) (s1 : (Int × (List Int))) (s2 : (Int × (List Int))) : Option ((Int × (List Int)) ⊕ (Int × Int × Bool × (List Int))) :=
  bif (decide (s2.1 < 64)) then
    let c1 := (ref17_Place N a1 a3 s1.1 s2.1)
    if c1.isSome = true then
      let c2 := (ref17_At N a1 a2 (c1.getD default).1 (c1.getD default).2.1 (c1.getD default).2.2)
      if c2.isSome = true ∧ (0 : Int) ≤ s1.1 ∧ s1.1 < 6 ∧ (0 : Int) ≤ s2.1 ∧ s2.1 < 64 ∧ ((s1.1).toNat * 64 + (s2.1).toNat) < 384 then
        if inK .i64 (s2.1 + 1) then
          some (.inl ((s2.1 + 1), (s2.2.set ((s1.1).toNat * 64 + (s2.1).toNat) (c2.getD default))))
        else none
      else none
    else none
  else
    some (.inr (s2.1, s2.1, (decide (s2.1 < 64)), s2.2))
def ref17_Cut_b1 (N : Nat) (a1 : Int) (a2 : (List (List Int))) (a3 : Int) (s1 : (Int × (List Int))) : Option ((Int × (List Int)) ⊕ (List Int)) :=
  bif (decide (s1.1 < 6)) then
    (iter (ref17_Cut_b2 N a1 a2 a3 s1) N (0, s1.2)).bind fun v2 =>
      if inK .i64 (s1.1 + 1) then
        some (.inl ((s1.1 + 1), v2.2.2.2))
      else none
  else
    some (.inr s1.2)
def ref17_Cut (N : Nat) (a1 : Int) (a2 : (List (List Int))) (a3 : Int) : Option (List Int) :=
  (iter (ref17_Cut_b1 N a1 a2 a3) N (0, (List.replicate 384 0))).bind fun v1 =>
    some v1
def sp_ref17_Cut (N : Nat) : X.Spec := fun args lk => match args with
  | [.v (.agg [.cs [.int .i64 a1], .fzs 3 (.int .u8) a2]), .v (.c (.int .i64 a3))] => some ⟨(ref17_Cut N a1 a2 a3).isSome = true, .v (.agg [.ints 384 .i64 ((ref17_Cut N a1 a2 a3).getD default)]), [], []⟩
  | _ => none
set_option maxRecDepth 100000 in
set_option maxHeartbeats 1000000 in
theorem ok_ref17_Cut (N : Nat) : FnOK Try.prog gt0 26 (sp_ref17_Cut N) := by
  refine fnOK_handed Try.func26 rfl (by kernel_rfl) tt_ok (ktCons (ok_ref17_At N) (ktCons (ok_ref17_Place N) (ktNil))) ?_
  intro args lk r h hp
  unfold sp_ref17_Cut at h
  split at h
  · rename_i a1 a2 a3
    change (List (List Int)) at a2
    cases h
    obtain ⟨x, hx⟩ := Option.isSome_iff_exists.1 hp
    simp only [hx, Option.getD_some]
    refine hand0 rfl rfl (fun w0 M ε0 hX => ?_)
    refine rCount (fun hε => ?_)
    have hT : ref17_Cut N a1 a2 a3 = some x := hx; clear hx hp; unfold ref17_Cut at hT
    refine rSeq ?_
    refine zReg md0 hX rfl rfl rfl ?_
    refine rThen ?_
    refine rSeq ?_
    refine zReg md0 hX rfl rfl rfl ?_
    refine rThen ?_
    refine rSeq ?_
    refine rSeq ?_
    refine zReg md0 hX rfl rfl rfl ?_
    refine rThen ?_
    refine rBlock ?_
    replace hT := sBind hT; obtain ⟨w1, hl, hT⟩ := hT
    refine rJoinA (fun v1 => v1 = w1) (fun v1 => ⟨[(4, .v (.c (.ptr 1 0 0 0 0 0))), (5, .v (.c (.ptr 2 0 0 0 0 0)))], [(1, .mem true 31 none (.flat [.ints 384 .i64 (List.replicate 384 0)])), (2, .mem true 31 none (.flat [.ints 384 .i64 v1]))], 3⟩) (.exit 0) (fun v1 hv => ?_) (fun hxs10 => ?_)
    · subst hv; clear hl
      refine rInHit ?_
      refine rThen ?_
      refine rSeq ?_
      refine zReg md0 hX rfl rfl rfl ?_
      refine rThen ?_
      refine rRet ?_
      have hy := Option.some.inj hT; subst hy
      exact zEnd0 hX rfl
    refine rLoopM (ref17_Cut_b1 N a1 a2 a3) (fun s1 => ⟨[(1, .v (.c (.int .i64 a3))), (2, .v (.c (.ptr 0 0 0 0 0 0))), (4, .v (.c (.ptr 1 0 0 0 0 0))), (5, .v (.c (.ptr 2 0 0 0 0 0))), (6, .v (.c (.int .i64 s1.1)))], [(0, .mem true 25 none (.flat [.cs [.int .i64 a1], .fzs 3 (.int .u8) a2])), (1, .mem true 31 none (.flat [.ints 384 .i64 (List.replicate 384 0)])), (2, .mem true 31 none (.flat [.ints 384 .i64 s1.2]))], 3⟩) hl (To.mk' [] 0 hε rfl (by repeat' first | exact True.intro | exact rfl | apply And.intro) (by repeat' first | exact True.intro | exact rfl | apply And.intro)) (fun s1 zs1 NNs1 hz hnexts1 houts1 => ?_)
    clear hl hT
    have hT := hz; clear hz
    refine rSeq ?_
    refine rSeq ?_
    refine zReg md0 hX rfl rfl rfl ?_
    refine rThen ?_
    refine zCond rfl rfl (fun hc => ?_) (fun hc => ?_)
    · replace hT := sT hc hT
      refine rSkip ?_
      refine rThen ?_
      refine rSeq ?_
      refine rBlock ?_
      refine rSeq ?_
      refine zReg md0 hX rfl rfl rfl ?_
      refine rThen ?_
      refine rBlock ?_
      replace hT := sBind hT; obtain ⟨w2, hl, hT⟩ := hT
      refine rJoinA (fun v2 => v2 = w2) (fun v2 => ⟨[(1, .v (.c (.int .i64 a3))), (2, .v (.c (.ptr 0 0 0 0 0 0))), (4, .v (.c (.ptr 1 0 0 0 0 0))), (5, .v (.c (.ptr 2 0 0 0 0 0))), (6, .v (.c (.int .i64 s1.1))), (7, .v (.c (.int .i64 v2.1))), (11, .v (.c (.int .i64 s1.1))), (12, .v (.c (.bool (decide (s1.1 < 6))))), (15, .v (.c (.int .i64 v2.2.1))), (16, .v (.c (.bool v2.2.2.1)))], [(0, .mem true 25 none (.flat [.cs [.int .i64 a1], .fzs 3 (.int .u8) a2])), (1, .mem true 31 none (.flat [.ints 384 .i64 (List.replicate 384 0)])), (2, .mem true 31 none (.flat [.ints 384 .i64 v2.2.2.2]))], 3⟩) (.exit 2) (fun v2 hv => ?_) (fun hxs20 => ?_)
      · subst hv; clear hl
        refine rInHit ?_
        refine rInNormal ?_
        refine rThen ?_
        replace hT := sIf hT; obtain ⟨o1, hT⟩ := hT
        refine zReg md0 hX rfl rfl rfl ?_
        exact hnexts1 _ (Option.some.inj hT).symm _ (To.mk' [] 0 hε rfl (by repeat' first | exact True.intro | exact rfl | apply And.intro) (by repeat' first | exact True.intro | exact rfl | apply And.intro))
      refine rLoopM (ref17_Cut_b2 N a1 a2 a3 s1) (fun s2 => ⟨[(1, .v (.c (.int .i64 a3))), (2, .v (.c (.ptr 0 0 0 0 0 0))), (4, .v (.c (.ptr 1 0 0 0 0 0))), (5, .v (.c (.ptr 2 0 0 0 0 0))), (6, .v (.c (.int .i64 s1.1))), (7, .v (.c (.int .i64 s2.1))), (11, .v (.c (.int .i64 s1.1))), (12, .v (.c (.bool (decide (s1.1 < 6)))))], [(0, .mem true 25 none (.flat [.cs [.int .i64 a1], .fzs 3 (.int .u8) a2])), (1, .mem true 31 none (.flat [.ints 384 .i64 (List.replicate 384 0)])), (2, .mem true 31 none (.flat [.ints 384 .i64 s2.2]))], 3⟩) hl (To.mk' [] 0 hε rfl (by repeat' first | exact True.intro | exact rfl | apply And.intro) (by repeat' first | exact True.intro | exact rfl | apply And.intro)) (fun s2 zs2 NNs2 hz hnexts2 houts2 => ?_)
      clear hl hT
      have hT := hz; clear hz
      refine rSeq ?_
      refine rSeq ?_
      refine zReg md0 hX rfl rfl rfl ?_
      refine rThen ?_
      refine zCond rfl rfl (fun hc => ?_) (fun hc => ?_)
      · replace hT := sT hc hT
        refine rSkip ?_
        refine rThen ?_
        refine rSeq ?_
        refine rBlock ?_
        refine rSeq ?_
        let c1 := (ref17_Place N a1 a3 s1.1 s2.1)
        replace hT := sIf hT; obtain ⟨o1, hT⟩ := hT
        refine zReg md0 hX rfl rfl rfl ?_
        refine rThen ?_
        let c2 := (ref17_At N a1 a2 (c1.getD default).1 (c1.getD default).2.1 (c1.getD default).2.2)
        replace hT := sIf hT; obtain ⟨⟨o1, o2, o3, o4, o5, o6⟩, hT⟩ := hT
        refine zDraw md0 1 [9] hX mixed rfl rfl rfl rfl rfl ?_
        refine rInNormal ?_
        refine rThen ?_
        replace hT := sIf hT; obtain ⟨o1, hT⟩ := hT
        refine zReg md0 hX rfl rfl rfl ?_
        exact hnexts2 _ (Option.some.inj hT).symm _ (To.mk' [] 0 hε rfl (by repeat' first | exact True.intro | exact rfl | apply And.intro) (by repeat' first | exact True.intro | exact rfl | apply And.intro))
      · replace hT := sF hc hT
        refine rExit ?_
        refine rThenExit ?_
        refine rThenExit ?_
        exact zTo [] 0 hε (hxs20 _ (houts2 _ (Option.some.inj hT).symm))
    · replace hT := sF hc hT
      refine rExit ?_
      refine rThenExit ?_
      refine rThenExit ?_
      exact zTo [] 0 hε (hxs10 _ (houts1 _ (Option.some.inj hT).symm))
  · cases h
def law17_PlanesCuts (N : Nat) (a1 : Int) (a2 : (List (List Int))) (a3 : Int) : Option Bool :=
  let c1 := (law17_Light N a1 a2)
  if c1.isSome = true then
    bif (!(c1.getD default)) then
      let c2 := (law17_lives N)
      if c2.isSome = true then
        some (c2.getD default)
      else none
    else
      let c3 := (planes_Cut N a1 a2 a3)
      if c3.isSome = true then
        let c4 := (ref17_Right N a1 a2)
        let c5 := (ref16_Many N a1)
        let x1 := (bif (bif (!(c4.getD default)) then true else (decide (a3 < 0))) then true else (decide ((c5.getD default) ≤ a3)))
        if c4.isSome = true ∧ ((!(bif (!(c4.getD default)) then true else (decide (a3 < 0)))) = true → c5.isSome = true) then
          bif x1 then
            let c6 := (law17_lives N)
            let x2 := (bif (bif (decide ((c3.getD default).1 = (List.replicate 384 0))) then (decide ((c3.getD default).2 = 1)) else false) then (c6.getD default) else false)
            if ((bif (decide ((c3.getD default).1 = (List.replicate 384 0))) then (decide ((c3.getD default).2 = 1)) else false) = true → c6.isSome = true) then
              some x2
            else none
          else
            let c7 := (ref17_Cut N a1 a2 a3)
            let c8 := (law17_lives N)
            let x4 := (bif (bif (decide ((c3.getD default).1 = (c7.getD default))) then (decide ((c3.getD default).2 = 0)) else false) then (c8.getD default) else false)
            if c7.isSome = true ∧ ((bif (decide ((c3.getD default).1 = (c7.getD default))) then (decide ((c3.getD default).2 = 0)) else false) = true → c8.isSome = true) then
              some x4
            else none
        else none
      else none
  else none
def sp_law17_PlanesCuts (N : Nat) : X.Spec := fun args lk => match args with
  | [.v (.agg [.cs [.int .i64 a1], .fzs 3 (.int .u8) a2]), .v (.c (.int .i64 a3))] => some ⟨(law17_PlanesCuts N a1 a2 a3).isSome = true, .v (.c (.bool ((law17_PlanesCuts N a1 a2 a3).getD default))), [], []⟩
  | _ => none
set_option maxRecDepth 100000 in
set_option maxHeartbeats 1000000 in
theorem ok_law17_PlanesCuts (N : Nat) : FnOK Try.prog gt0 5 (sp_law17_PlanesCuts N) := by
  refine fnOK_handed Try.func5 rfl (by kernel_rfl) tt_ok (ktCons (ok_ref17_Cut N) (ktCons (ok_ref16_Many N) (ktCons (ok_ref17_Right N) (ktCons (ok_planes_Cut N) (ktCons (ok_law17_lives N) (ktCons (ok_law17_Light N) (ktNil))))))) ?_
  intro args lk r h hp
  unfold sp_law17_PlanesCuts at h
  split at h
  · rename_i a1 a2 a3
    change (List (List Int)) at a2
    cases h
    obtain ⟨x, hx⟩ := Option.isSome_iff_exists.1 hp
    simp only [hx, Option.getD_some]
    refine hand0 rfl rfl (fun w0 M ε0 hX => ?_)
    refine rCount (fun hε => ?_)
    have hT : law17_PlanesCuts N a1 a2 a3 = some x := hx; clear hx hp; unfold law17_PlanesCuts at hT
    refine rSeq ?_
    refine zReg md0 hX rfl rfl rfl ?_
    refine rThen ?_
    refine rSeq ?_
    refine rSeq ?_
    let c1 := (law17_Light N a1 a2)
    replace hT := sIf hT; obtain ⟨o1, hT⟩ := hT
    refine zReg md0 hX rfl rfl rfl ?_
    refine rThen ?_
    refine zCond rfl rfl (fun hc => ?_) (fun hc => ?_)
    · replace hT := sT hc hT
      refine rSeq ?_
      let c2 := (law17_lives N)
      replace hT := sIf hT; obtain ⟨o1, hT⟩ := hT
      refine zReg md0 hX rfl rfl rfl ?_
      refine rThen ?_
      refine rRet ?_
      refine rThenRet ?_
      have hy := Option.some.inj hT; subst hy
      exact zEnd0 hX rfl
    · replace hT := sF hc hT
      refine rSkip ?_
      refine rThen ?_
      refine rSeq ?_
      let c3 := (planes_Cut N a1 a2 a3)
      replace hT := sIf hT; obtain ⟨o1, hT⟩ := hT
      refine zReg md0 hX rfl rfl rfl ?_
      refine rThen ?_
      refine rSeq ?_
      refine rSeq ?_
      let c4 := (ref17_Right N a1 a2)
      let c5 := (ref16_Many N a1)
      let x1 := (bif (bif (!(c4.getD default)) then true else (decide (a3 < 0))) then true else (decide ((c5.getD default) ≤ a3)))
      replace hT := sIf hT; obtain ⟨⟨o1, o2⟩, hT⟩ := hT
      refine rRegC md0 hX rfl rfl rfl (by (repeat' first | exact True.intro | with_reducible assumption | (with_reducible apply And.intro) | intro _) <;> first | assumption | exact o2 (by assumption) | exact rfl | omega | exact Nat.le_of_ble_eq_true rfl | exact selF (by assumption) | exact selT (by assumption) | exact And.intro rfl rfl | exact And.intro (by assumption) rfl | exact And.intro (by omega) rfl | (simp only [inK] at *; omega) | (simp_all [sel] <;> fail) | fail) ?_
      refine rThen ?_
      refine zCond rfl rfl (fun hc => ?_) (fun hc => ?_)
      · replace hT := sT hc hT
        refine rSeq ?_
        let c6 := (law17_lives N)
        let x2 := (bif (bif (decide ((c3.getD default).1 = (List.replicate 384 0))) then (decide ((c3.getD default).2 = 1)) else false) then (c6.getD default) else false)
        replace hT := sIf hT; obtain ⟨o1, hT⟩ := hT
        refine rRegC md0 hX rfl rfl rfl (by (repeat' first | exact True.intro | with_reducible assumption | (with_reducible apply And.intro) | intro _) <;> first | assumption | exact o1 (by assumption) | exact rfl | omega | exact Nat.le_of_ble_eq_true rfl | exact selF (by assumption) | exact selT (by assumption) | exact And.intro rfl rfl | exact And.intro (by assumption) rfl | exact And.intro (by omega) rfl | (simp only [inK] at *; omega) | (simp_all [sel] <;> fail) | fail) ?_
        refine rThen ?_
        refine rRet ?_
        refine rThenRet ?_
        have hy := Option.some.inj hT; subst hy
        exact zEnd0 hX rfl
      · replace hT := sF hc hT
        refine rSkip ?_
        refine rThen ?_
        refine rSeq ?_
        let c7 := (ref17_Cut N a1 a2 a3)
        let c8 := (law17_lives N)
        let x4 := (bif (bif (decide ((c3.getD default).1 = (c7.getD default))) then (decide ((c3.getD default).2 = 0)) else false) then (c8.getD default) else false)
        replace hT := sIf hT; obtain ⟨⟨o1, o2⟩, hT⟩ := hT
        refine rDrawM md0 0 [] hX mixed rfl rfl rfl rfl rfl (by (repeat' first | exact True.intro | with_reducible assumption | (with_reducible apply And.intro) | intro _) <;> first | assumption | exact o2 (by assumption) | exact rfl | omega | exact Nat.le_of_ble_eq_true rfl | exact selF (by assumption) | exact selT (by assumption) | exact And.intro rfl rfl | exact And.intro (by assumption) rfl | exact And.intro (by omega) rfl | (simp only [inK] at *; omega) | (simp_all [sel] <;> fail) | fail) ?_
        refine rThen ?_
        refine rRet ?_
        have hy := Option.some.inj hT; subst hy
        exact zEnd0 hX rfl
  · cases h
def bytes_Equal (N : Nat) (a1 : (List Int)) (a2 : (List Int)) : Option Bool :=
  some (decide (ByteArray.toList (bytesOf a1) = ByteArray.toList (bytesOf a2)))
def sp_bytes_Equal (N : Nat) : X.Spec := fun args lk => match args with
  | [.v (.c (.fz (.int .u8) a1)), .v (.c (.fz (.int .u8) a2))] => some ⟨(bytes_Equal N a1 a2).isSome = true, .v (.c (.bool ((bytes_Equal N a1 a2).getD default))), [], []⟩
  | _ => none
set_option maxRecDepth 100000 in
set_option maxHeartbeats 1000000 in
theorem ok_bytes_Equal (N : Nat) : FnOK Try.prog gt0 63 (sp_bytes_Equal N) := by
  refine fnOK_handed Try.func63 rfl (by kernel_rfl) tt_ok (ktNil) ?_
  intro args lk r h hp
  unfold sp_bytes_Equal at h
  split at h
  · rename_i a1 a2
    change (List Int) at a1
    change (List Int) at a2
    cases h
    obtain ⟨x, hx⟩ := Option.isSome_iff_exists.1 hp
    simp only [hx, Option.getD_some]
    refine hand0 rfl rfl (fun w0 M ε0 hX => ?_)
    refine rCount (fun hε => ?_)
    have hT : bytes_Equal N a1 a2 = some x := hx; clear hx hp; unfold bytes_Equal at hT
    refine rSeq ?_
    refine zReg md0 hX rfl rfl rfl ?_
    refine rThen ?_
    refine rSeq ?_
    refine zReg md0 hX rfl rfl rfl ?_
    refine rThen ?_
    refine rRet ?_
    have hy := Option.some.inj hT; subst hy
    exact zEnd0 hX rfl
  · cases h
def planes_Same_b1 (N : Nat) (a2 : (List (List Int))) (a4 : (List (List Int))) (s1 : (Bool × Int)) : Option ((Bool × Int) ⊕ Bool) :=
  bif (decide (s1.2 < 3)) then
    let c1 := (bytes_Equal N (a2.getD (s1.2).toNat []) (a4.getD (s1.2).toNat []))
    if (s1.1 = true → (0 : Int) ≤ s1.2) ∧ (s1.1 = true → s1.2 < 3) ∧ (s1.1 = true → (s1.2).toNat < 3) ∧ (s1.1 = true → c1.isSome = true) then
      if inK .i64 (s1.2 + 1) then
        some (.inl ((bif s1.1 then (c1.getD default) else false), (s1.2 + 1)))
      else none
    else none
  else
    some (.inr s1.1)
def planes_Same (N : Nat) (a1 : Int) (a2 : (List (List Int))) (a3 : Int) (a4 : (List (List Int))) : Option Bool :=
  (iter (planes_Same_b1 N a2 a4) N ((decide (a1 = a3)), 0)).bind fun v1 =>
    some v1
def sp_planes_Same (N : Nat) : X.Spec := fun args lk => match args with
  | [.v (.agg [.cs [.int .i64 a1], .fzs 3 (.int .u8) a2]), .v (.agg [.cs [.int .i64 a3], .fzs 3 (.int .u8) a4])] => some ⟨(planes_Same N a1 a2 a3 a4).isSome = true, .v (.c (.bool ((planes_Same N a1 a2 a3 a4).getD default))), [], []⟩
  | _ => none
set_option maxRecDepth 100000 in
set_option maxHeartbeats 1000000 in
theorem ok_planes_Same (N : Nat) : FnOK Try.prog gt0 21 (sp_planes_Same N) := by
  refine fnOK_handed Try.func21 rfl (by kernel_rfl) tt_ok (ktCons (ok_bytes_Equal N) (ktNil)) ?_
  intro args lk r h hp
  unfold sp_planes_Same at h
  split at h
  · rename_i a1 a2 a3 a4
    change (List (List Int)) at a2
    change (List (List Int)) at a4
    cases h
    obtain ⟨x, hx⟩ := Option.isSome_iff_exists.1 hp
    simp only [hx, Option.getD_some]
    refine hand0 rfl rfl (fun w0 M ε0 hX => ?_)
    refine rCount (fun hε => ?_)
    have hT : planes_Same N a1 a2 a3 a4 = some x := hx; clear hx hp; unfold planes_Same at hT
    refine rSeq ?_
    refine zReg md0 hX rfl rfl rfl ?_
    refine rThen ?_
    refine rSeq ?_
    refine zReg md0 hX rfl rfl rfl ?_
    refine rThen ?_
    refine rSeq ?_
    refine rSeq ?_
    refine zReg md0 hX rfl rfl rfl ?_
    refine rThen ?_
    refine rBlock ?_
    replace hT := sBind hT; obtain ⟨w1, hl, hT⟩ := hT
    refine rJoinA (fun v1 => v1 = w1) (fun v1 => ⟨[(4, .v (.c (.bool false))), (5, .v (.c (.bool v1)))], [], 2⟩) (.exit 0) (fun v1 hv => ?_) (fun hxs10 => ?_)
    · subst hv; clear hl
      refine rInHit ?_
      refine rThen ?_
      refine rSeq ?_
      refine zReg md0 hX rfl rfl rfl ?_
      refine rThen ?_
      refine rRet ?_
      have hy := Option.some.inj hT; subst hy
      exact zEnd0 hX rfl
    refine rLoopM (planes_Same_b1 N a2 a4) (fun s1 => ⟨[(2, .v (.c (.ptr 0 0 0 0 0 0))), (3, .v (.c (.ptr 1 0 0 0 0 0))), (4, .v (.c (.bool false))), (5, .v (.c (.bool s1.1))), (12, .v (.c (.int .i64 s1.2)))], [(0, .mem true 25 none (.flat [.cs [.int .i64 a1], .fzs 3 (.int .u8) a2])), (1, .mem true 25 none (.flat [.cs [.int .i64 a3], .fzs 3 (.int .u8) a4]))], 2⟩) hl (To.mk' [] 0 hε rfl (by repeat' first | exact True.intro | exact rfl | apply And.intro) (by repeat' first | exact True.intro | exact rfl | apply And.intro)) (fun s1 zs1 NNs1 hz hnexts1 houts1 => ?_)
    clear hl hT
    have hT := hz; clear hz
    refine rSeq ?_
    refine zReg md0 hX rfl rfl rfl ?_
    refine rThen ?_
    refine rSeq ?_
    refine zCond rfl rfl (fun hc => ?_) (fun hc => ?_)
    · replace hT := sT hc hT
      refine rSkip ?_
      refine rThen ?_
      refine rSeq ?_
      refine rBlock ?_
      refine rSeq ?_
      refine zReg md0 hX rfl rfl rfl ?_
      refine rThen ?_
      let c1 := (bytes_Equal N (a2.getD (s1.2).toNat []) (a4.getD (s1.2).toNat []))
      replace hT := sIf hT; obtain ⟨⟨o1, o2, o3, o4⟩, hT⟩ := hT
      refine rDrawM md0 1 [12] hX mixed rfl rfl rfl rfl rfl (by (repeat' first | exact True.intro | with_reducible assumption | (with_reducible apply And.intro) | intro _) <;> first | assumption | exact o1 (by assumption) | exact o2 (by assumption) | exact o3 (by assumption) | exact o4 (by assumption) | exact rfl | omega | exact Nat.le_of_ble_eq_true rfl | exact selF (by assumption) | exact selT (by assumption) | exact And.intro rfl rfl | exact And.intro (by assumption) rfl | exact And.intro (by omega) rfl | (simp only [inK] at *; omega) | (simp_all [sel] <;> fail) | fail) ?_
      refine rInNormal ?_
      refine rThen ?_
      replace hT := sIf hT; obtain ⟨o1, hT⟩ := hT
      refine zReg md0 hX rfl rfl rfl ?_
      exact hnexts1 _ (Option.some.inj hT).symm _ (To.mk' [] 0 hε rfl (by repeat' first | exact True.intro | exact rfl | apply And.intro) (by repeat' first | exact True.intro | exact rfl | apply And.intro))
    · replace hT := sF hc hT
      refine rExit ?_
      refine rThenExit ?_
      refine rThenExit ?_
      exact zTo [] 0 hε (hxs10 _ (houts1 _ (Option.some.inj hT).symm))
  · cases h
def ref17_Same_b1 (N : Nat) (a2 : (List (List Int))) (a4 : (List (List Int))) (s1 : Int) : Option (Int ⊕ (Unit ⊕ Unit)) :=
  bif (decide (s1 < 3)) then
    let x1 := (decide (ByteArray.toList (bytesOf (a2.getD (s1).toNat [])) ≠ ByteArray.toList (bytesOf (a4.getD (s1).toNat []))))
    if (0 : Int) ≤ s1 ∧ s1 < 3 ∧ (s1).toNat < 3 then
      bif x1 then
        some (.inr (Sum.inl ()))
      else
        if inK .i64 (s1 + 1) then
          some (.inl (s1 + 1))
        else none
    else none
  else
    some (.inr (Sum.inr ()))
def ref17_Same (N : Nat) (a1 : Int) (a2 : (List (List Int))) (a3 : Int) (a4 : (List (List Int))) : Option Bool :=
  bif (decide (a1 ≠ a3)) then
    some false
  else
    (iter (ref17_Same_b1 N a2 a4) N 0).bind fun w1 =>
      (Sum.elim (fun v1 =>
        some false
      )
        (fun v2 =>
          some true
        )
      ) w1
def sp_ref17_Same (N : Nat) : X.Spec := fun args lk => match args with
  | [.v (.agg [.cs [.int .i64 a1], .fzs 3 (.int .u8) a2]), .v (.agg [.cs [.int .i64 a3], .fzs 3 (.int .u8) a4])] => some ⟨(ref17_Same N a1 a2 a3 a4).isSome = true, .v (.c (.bool ((ref17_Same N a1 a2 a3 a4).getD default))), [], []⟩
  | _ => none
set_option maxRecDepth 100000 in
set_option maxHeartbeats 1000000 in
theorem ok_ref17_Same (N : Nat) : FnOK Try.prog gt0 22 (sp_ref17_Same N) := by
  refine fnOK_handed Try.func22 rfl (by kernel_rfl) tt_ok (ktNil) ?_
  intro args lk r h hp
  unfold sp_ref17_Same at h
  split at h
  · rename_i a1 a2 a3 a4
    change (List (List Int)) at a2
    change (List (List Int)) at a4
    cases h
    obtain ⟨x, hx⟩ := Option.isSome_iff_exists.1 hp
    simp only [hx, Option.getD_some]
    refine hand0 rfl rfl (fun w0 M ε0 hX => ?_)
    refine rCount (fun hε => ?_)
    have hT : ref17_Same N a1 a2 a3 a4 = some x := hx; clear hx hp; unfold ref17_Same at hT
    refine rSeq ?_
    refine zReg md0 hX rfl rfl rfl ?_
    refine rThen ?_
    refine rSeq ?_
    refine rSeq ?_
    refine zReg md0 hX rfl rfl rfl ?_
    refine rThen ?_
    refine zCond rfl rfl (fun hc => ?_) (fun hc => ?_)
    · replace hT := sT hc hT
      refine rSeq ?_
      refine zReg md0 hX rfl rfl rfl ?_
      refine rThen ?_
      refine rRet ?_
      refine rThenRet ?_
      have hy := Option.some.inj hT; subst hy
      exact zEnd0 hX rfl
    · replace hT := sF hc hT
      refine rSkip ?_
      refine rThen ?_
      refine rSeq ?_
      refine rSeq ?_
      refine zReg md0 hX rfl rfl rfl ?_
      refine rThen ?_
      refine rBlock ?_
      replace hT := sBind hT; obtain ⟨w1, hl, hT⟩ := hT
      refine rJoinA (fun v1 => (Sum.inl v1) = w1) (fun v1 => ⟨[(4, .v (.c (.bool false)))], [], 2⟩) .ret (fun v1 hv => ?_) (fun hxs10 => ?_)
      · subst hv; clear hl; replace hT := (sElimL hT)
        refine rInRet ?_
        refine rThenRet ?_
        have hy := Option.some.inj hT; subst hy
        exact zEnd0 hX rfl
      refine rJoinA (fun v2 => (Sum.inr v2) = w1) (fun v2 => ⟨[(4, .v (.c (.bool false)))], [], 2⟩) (.exit 0) (fun v2 hv => ?_) (fun hxs11 => ?_)
      · subst hv; clear hl; replace hT := (sElimR hT)
        refine rInHit ?_
        refine rThen ?_
        refine rSeq ?_
        refine zReg md0 hX rfl rfl rfl ?_
        refine rThen ?_
        refine rRet ?_
        have hy := Option.some.inj hT; subst hy
        exact zEnd0 hX rfl
      refine rLoopM (ref17_Same_b1 N a2 a4) (fun s1 => ⟨[(2, .v (.c (.ptr 0 0 0 0 0 0))), (3, .v (.c (.ptr 1 0 0 0 0 0))), (4, .v (.c (.bool false))), (5, .v (.c (.int .i64 s1)))], [(0, .mem true 25 none (.flat [.cs [.int .i64 a1], .fzs 3 (.int .u8) a2])), (1, .mem true 25 none (.flat [.cs [.int .i64 a3], .fzs 3 (.int .u8) a4]))], 2⟩) hl (To.mk' [] 0 hε rfl (by repeat' first | exact True.intro | exact rfl | apply And.intro) (by repeat' first | exact True.intro | exact rfl | apply And.intro)) (fun s1 zs1 NNs1 hz hnexts1 houts1 => ?_)
      clear hl hT
      have hT := hz; clear hz
      refine rSeq ?_
      refine rSeq ?_
      refine zReg md0 hX rfl rfl rfl ?_
      refine rThen ?_
      refine zCond rfl rfl (fun hc => ?_) (fun hc => ?_)
      · replace hT := sT hc hT
        refine rSkip ?_
        refine rThen ?_
        refine rSeq ?_
        refine rBlock ?_
        refine rSeq ?_
        let x1 := (decide (ByteArray.toList (bytesOf (a2.getD (s1).toNat [])) ≠ ByteArray.toList (bytesOf (a4.getD (s1).toNat []))))
        replace hT := sIf hT; obtain ⟨⟨o1, o2, o3⟩, hT⟩ := hT
        refine zDraw md0 0 [] hX mixed rfl rfl rfl rfl rfl ?_
        refine rThen ?_
        refine zCond rfl rfl (fun hc => ?_) (fun hc => ?_)
        · replace hT := sT hc hT
          refine rSeq ?_
          refine zReg md0 hX rfl rfl rfl ?_
          refine rThen ?_
          refine rRet ?_
          refine rInRet ?_
          refine rThenRet ?_
          refine rThenRet ?_
          exact zTo [] 0 hε (hxs10 _ (houts1 _ (Option.some.inj hT).symm))
        · replace hT := sF hc hT
          refine rSkip ?_
          refine rInNormal ?_
          refine rThen ?_
          replace hT := sIf hT; obtain ⟨o1, hT⟩ := hT
          refine zReg md0 hX rfl rfl rfl ?_
          exact hnexts1 _ (Option.some.inj hT).symm _ (To.mk' [] 0 hε rfl (by repeat' first | exact True.intro | exact rfl | apply And.intro) (by repeat' first | exact True.intro | exact rfl | apply And.intro))
      · replace hT := sF hc hT
        refine rExit ?_
        refine rThenExit ?_
        refine rThenExit ?_
        exact zTo [] 0 hε (hxs11 _ (houts1 _ (Option.some.inj hT).symm))
  · cases h
def ref17_New_b2 (N : Nat) (a2 : Int) (c1 : (Option Int)) (c2 : (Option Int)) (s2 : (Int × (List Int))) : Option ((Int × (List Int)) ⊕ (Int × Int × Bool × (List Int))) :=
  bif (decide (s2.1 < (((c1.getD default) * (c2.getD default)).toNat : Int))) then
    let c3 := (ref01_Clip N a2 0 255)
    if c3.isSome = true ∧ inK .u8 (c3.getD default) ∧ (0 : Int) ≤ s2.1 ∧ s2.1 < (((c1.getD default) * (c2.getD default)).toNat : Int) ∧ (s2.1).toNat < ((c1.getD default) * (c2.getD default)).toNat then
      if inK .i64 (s2.1 + 1) then
        some (.inl ((s2.1 + 1), (s2.2.set (s2.1).toNat (c3.getD default))))
      else none
    else none
  else
    some (.inr (s2.1, s2.1, (decide (s2.1 < (((c1.getD default) * (c2.getD default)).toNat : Int))), s2.2))
def ref17_New_b1 (N : Nat) (a1 : Int) (a2 : Int) (s1 : (Int × (List (List Int)))) : Option ((Int × (List (List Int))) ⊕ (List (List Int))) :=
  bif (decide (s1.1 < 3)) then
    let c1 := (ref17_Wide N a1 s1.1)
    let c2 := (ref17_High N a1 s1.1)
    if c1.isSome = true ∧ c2.isSome = true ∧ inK .i64 ((c1.getD default) * (c2.getD default)) ∧ (0 : Int) ≤ ((c1.getD default) * (c2.getD default)) ∧ ((c1.getD default) * (c2.getD default)) * 1 ≤ 140737488355328 then
      (iter (ref17_New_b2 N a2 c1 c2) N (0, (List.replicate ((c1.getD default) * (c2.getD default)).toNat 0))).bind fun v2 =>
        if (0 : Int) ≤ s1.1 ∧ s1.1 < 3 then
          if ((c1.getD default) * (c2.getD default)).toNat = v2.2.2.2.length then
            if (s1.1).toNat < 3 then
              if inK .i64 (s1.1 + 1) then
                some (.inl ((s1.1 + 1), (s1.2.set (s1.1).toNat v2.2.2.2)))
              else none
            else none
          else none
        else none
    else none
  else
    some (.inr s1.2)
def ref17_New (N : Nat) (a1 : Int) (a2 : Int) : Option (Int × (List (List Int))) :=
  (iter (ref17_New_b1 N a1 a2) N (0, (List.replicate 3 []))).bind fun v1 =>
    some (a1, v1)
def sp_ref17_New (N : Nat) : X.Spec := fun args lk => match args with
  | [.v (.c (.int .i64 a1)), .v (.c (.int .i64 a2))] => some ⟨(ref17_New N a1 a2).isSome = true, .v (.agg [.cs [.int .i64 ((ref17_New N a1 a2).getD default).1], .fzs 3 (.int .u8) ((ref17_New N a1 a2).getD default).2]), [], []⟩
  | _ => none
set_option maxRecDepth 100000 in
set_option maxHeartbeats 1000000 in
theorem ok_ref17_New (N : Nat) : FnOK Try.prog gt0 24 (sp_ref17_New N) := by
  refine fnOK_handed Try.func24 rfl (by kernel_rfl) tt_ok (ktCons (ok_ref01_Clip N) (ktCons (ok_ref17_High N) (ktCons (ok_ref17_Wide N) (ktNil)))) ?_
  intro args lk r h hp
  unfold sp_ref17_New at h
  split at h
  · rename_i a1 a2
    cases h
    obtain ⟨x, hx⟩ := Option.isSome_iff_exists.1 hp
    simp only [hx, Option.getD_some]
    refine hand0 rfl rfl (fun w0 M ε0 hX => ?_)
    refine rCount (fun hε => ?_)
    have hT : ref17_New N a1 a2 = some x := hx; clear hx hp; unfold ref17_New at hT
    refine rSeq ?_
    refine zReg md0 hX rfl rfl rfl ?_
    refine rThen ?_
    refine rSeq ?_
    refine zReg md0 hX rfl rfl rfl ?_
    refine rThen ?_
    refine rSeq ?_
    refine rSeq ?_
    refine zReg md0 hX rfl rfl rfl ?_
    refine rThen ?_
    refine rBlock ?_
    replace hT := sBind hT; obtain ⟨w1, hl, hT⟩ := hT
    refine rJoinA (fun v1 => v1 = w1) (fun v1 => ⟨[(4, .v (.c (.ptr 0 0 0 0 0 0))), (5, .v (.c (.ptr 1 0 0 0 0 0)))], [(0, .mem true 25 none (.flat [.cs [.int .i64 0], .fzs 3 (.int .u8) (List.replicate 3 [])])), (1, .mem true 25 none (.flat [.cs [.int .i64 a1], .fzs 3 (.int .u8) v1]))], 2⟩) (.exit 0) (fun v1 hv => ?_) (fun hxs10 => ?_)
    · subst hv; clear hl
      refine rInHit ?_
      refine rThen ?_
      refine rSeq ?_
      refine zReg md0 hX rfl rfl rfl ?_
      refine rThen ?_
      refine rRet ?_
      have hy := Option.some.inj hT; subst hy
      exact zEnd0 hX rfl
    refine rLoopM (ref17_New_b1 N a1 a2) (fun s1 => ⟨[(0, .v (.c (.int .i64 a1))), (1, .v (.c (.int .i64 a2))), (4, .v (.c (.ptr 0 0 0 0 0 0))), (5, .v (.c (.ptr 1 0 0 0 0 0))), (6, .v (.c (.int .i64 s1.1)))], [(0, .mem true 25 none (.flat [.cs [.int .i64 0], .fzs 3 (.int .u8) (List.replicate 3 [])])), (1, .mem true 25 none (.flat [.cs [.int .i64 a1], .fzs 3 (.int .u8) s1.2]))], 2⟩) hl (To.mk' [] 0 hε rfl (by repeat' first | exact True.intro | exact rfl | apply And.intro) (by repeat' first | exact True.intro | exact rfl | apply And.intro)) (fun s1 zs1 NNs1 hz hnexts1 houts1 => ?_)
    clear hl hT
    have hT := hz; clear hz
    refine rSeq ?_
    refine rSeq ?_
    refine zReg md0 hX rfl rfl rfl ?_
    refine rThen ?_
    refine zCond rfl rfl (fun hc => ?_) (fun hc => ?_)
    · replace hT := sT hc hT
      refine rSkip ?_
      refine rThen ?_
      refine rSeq ?_
      refine rBlock ?_
      refine rSeq ?_
      let c1 := (ref17_Wide N a1 s1.1)
      let c2 := (ref17_High N a1 s1.1)
      replace hT := sIf hT; obtain ⟨⟨o1, o2, o3, o4, o5⟩, hT⟩ := hT
      refine zReg md0 hX rfl rfl rfl ?_
      refine rThen ?_
      refine rSeq ?_
      refine rSeq ?_
      refine zReg md0 hX rfl rfl rfl ?_
      refine rThen ?_
      refine rBlock ?_
      replace hT := sBind hT; obtain ⟨w2, hl, hT⟩ := hT
      refine rJoinA (fun v2 => v2 = w2) (fun v2 => ⟨[(0, .v (.c (.int .i64 a1))), (1, .v (.c (.int .i64 a2))), (4, .v (.c (.ptr 0 0 0 0 0 0))), (5, .v (.c (.ptr 1 0 0 0 0 0))), (6, .v (.c (.int .i64 s1.1))), (7, .v (.c (.sl 2 0 ((c1.getD default) * (c2.getD default)).toNat 1))), (8, .v (.c (.int .i64 v2.1))), (11, .v (.c (.int .i64 s1.1))), (12, .v (.c (.bool (decide (s1.1 < 3))))), (15, .v (.c (.int .i64 a1))), (16, .v (.c (.int .i64 s1.1))), (17, .v (.c (.int .i64 (c1.getD default)))), (18, .v (.c (.int .i64 a1))), (19, .v (.c (.int .i64 s1.1))), (20, .v (.c (.int .i64 (c2.getD default)))), (21, .v (.c (.int .i64 ((c1.getD default) * (c2.getD default))))), (22, .v (.c (.sl 2 0 ((c1.getD default) * (c2.getD default)).toNat 1))), (23, .v (.c (.int .i64 v2.2.1))), (24, .v (.c (.sl 2 0 ((c1.getD default) * (c2.getD default)).toNat 1))), (25, .v (.c (.int .i64 (((c1.getD default) * (c2.getD default)).toNat : Int)))), (26, .v (.c (.bool v2.2.2.1)))], [(0, .mem true 25 none (.flat [.cs [.int .i64 0], .fzs 3 (.int .u8) (List.replicate 3 [])])), (1, .mem true 25 none (.flat [.cs [.int .i64 a1], .fzs 3 (.int .u8) s1.2])), (2, .mem true 5 (some 1) (.flat [.ints ((c1.getD default) * (c2.getD default)).toNat .u8 v2.2.2.2]))], 3⟩) (.exit 2) (fun v2 hv => ?_) (fun hxs20 => ?_)
      · subst hv; clear hl
        refine rInHit ?_
        refine rThen ?_
        refine rRegSL ?_
        replace hT := sIf hT; obtain ⟨⟨o1, o2⟩, hT⟩ := hT
        refine rSLCut md0 4 hX rfl rfl rfl (by (repeat' first | exact True.intro | with_reducible assumption | (with_reducible apply And.intro) | intro _) <;> first | assumption | exact rfl | omega | exact Nat.le_of_ble_eq_true rfl | exact selF (by assumption) | exact selT (by assumption) | exact And.intro rfl rfl | exact And.intro (by assumption) rfl | exact And.intro (by omega) rfl | (simp only [inK] at *; omega) | (simp_all [sel] <;> fail) | fail) ?_
        replace hT := sIf hT; obtain ⟨f1, hT⟩ := hT
        refine rFreezeL 2 (.int .u8) v2.2.2.2 [(0, .v (.c (.int .i64 a1))), (1, .v (.c (.int .i64 a2))), (4, .v (.c (.ptr 0 0 0 0 0 0))), (5, .v (.c (.ptr 1 0 0 0 0 0))), (6, .v (.c (.int .i64 s1.1))), (7, .v (.c (.fz (.int .u8) v2.2.2.2))), (8, .v (.c (.int .i64 v2.1))), (11, .v (.c (.int .i64 s1.1))), (12, .v (.c (.bool (decide (s1.1 < 3))))), (15, .v (.c (.int .i64 a1))), (16, .v (.c (.int .i64 s1.1))), (17, .v (.c (.int .i64 (c1.getD default)))), (18, .v (.c (.int .i64 a1))), (19, .v (.c (.int .i64 s1.1))), (20, .v (.c (.int .i64 (c2.getD default)))), (21, .v (.c (.int .i64 ((c1.getD default) * (c2.getD default))))), (22, .v (.c (.fz (.int .u8) v2.2.2.2))), (23, .v (.c (.int .i64 v2.2.1))), (24, .v (.c (.fz (.int .u8) v2.2.2.2))), (25, .v (.c (.int .i64 (((c1.getD default) * (c2.getD default)).toNat : Int)))), (26, .v (.c (.bool v2.2.2.1))), (35, .v (.c (.int .i64 s1.1))), (36, .v (.c (.fz (.int .u8) v2.2.2.2))), (37, .v (.c (.ptr 1 0 0 1 0 0))), (38, .v (.c (.ptr 1 0 0 1 1 (s1.1).toNat)))] [(0, .mem true 25 none (.flat [.cs [.int .i64 0], .fzs 3 (.int .u8) (List.replicate 3 [])])), (1, .mem true 25 none (.flat [.cs [.int .i64 a1], .fzs 3 (.int .u8) s1.2]))] rfl rfl (by (repeat' first | exact True.intro | exact rfl | apply And.intro) <;> first | assumption | rfl) (by (repeat' first | exact True.intro | exact rfl | apply And.intro) <;> first | assumption | rfl) ?_
        replace hT := sIf hT; obtain ⟨o1, hT⟩ := hT
        refine rSLDone md0 hX rfl rfl rfl (by (repeat' first | exact True.intro | with_reducible assumption | (with_reducible apply And.intro) | intro _) <;> first | assumption | exact rfl | omega | exact Nat.le_of_ble_eq_true rfl | exact selF (by assumption) | exact selT (by assumption) | exact And.intro rfl rfl | exact And.intro (by assumption) rfl | exact And.intro (by omega) rfl | (simp only [inK] at *; omega) | (simp_all [sel] <;> fail) | fail) ?_
        refine rInNormal ?_
        refine rThen ?_
        replace hT := sIf hT; obtain ⟨o1, hT⟩ := hT
        refine zReg md0 hX rfl rfl rfl ?_
        exact hnexts1 _ (Option.some.inj hT).symm _ (To.mk' [] 0 hε rfl (by repeat' first | exact True.intro | exact rfl | apply And.intro) (by repeat' first | exact True.intro | exact rfl | apply And.intro))
      refine rLoopM (ref17_New_b2 N a2 c1 c2) (fun s2 => ⟨[(0, .v (.c (.int .i64 a1))), (1, .v (.c (.int .i64 a2))), (4, .v (.c (.ptr 0 0 0 0 0 0))), (5, .v (.c (.ptr 1 0 0 0 0 0))), (6, .v (.c (.int .i64 s1.1))), (7, .v (.c (.sl 2 0 ((c1.getD default) * (c2.getD default)).toNat 1))), (8, .v (.c (.int .i64 s2.1))), (11, .v (.c (.int .i64 s1.1))), (12, .v (.c (.bool (decide (s1.1 < 3))))), (15, .v (.c (.int .i64 a1))), (16, .v (.c (.int .i64 s1.1))), (17, .v (.c (.int .i64 (c1.getD default)))), (18, .v (.c (.int .i64 a1))), (19, .v (.c (.int .i64 s1.1))), (20, .v (.c (.int .i64 (c2.getD default)))), (21, .v (.c (.int .i64 ((c1.getD default) * (c2.getD default))))), (22, .v (.c (.sl 2 0 ((c1.getD default) * (c2.getD default)).toNat 1)))], [(0, .mem true 25 none (.flat [.cs [.int .i64 0], .fzs 3 (.int .u8) (List.replicate 3 [])])), (1, .mem true 25 none (.flat [.cs [.int .i64 a1], .fzs 3 (.int .u8) s1.2])), (2, .mem true 5 (some 1) (.flat [.ints ((c1.getD default) * (c2.getD default)).toNat .u8 s2.2]))], 3⟩) hl (To.mk' [] 0 hε rfl (by repeat' first | exact True.intro | exact rfl | apply And.intro) (by repeat' first | exact True.intro | exact rfl | apply And.intro)) (fun s2 zs2 NNs2 hz hnexts2 houts2 => ?_)
      clear hl hT
      have hT := hz; clear hz
      refine rSeq ?_
      refine rSeq ?_
      refine zReg md0 hX rfl rfl rfl ?_
      refine rThen ?_
      refine zCond rfl rfl (fun hc => ?_) (fun hc => ?_)
      · replace hT := sT hc hT
        refine rSkip ?_
        refine rThen ?_
        refine rSeq ?_
        refine rBlock ?_
        let c3 := (ref01_Clip N a2 0 255)
        replace hT := sIf hT; obtain ⟨⟨o1, o2, o3, o4, o5⟩, hT⟩ := hT
        refine zReg md0 hX rfl rfl rfl ?_
        refine rInNormal ?_
        refine rThen ?_
        replace hT := sIf hT; obtain ⟨o1, hT⟩ := hT
        refine zReg md0 hX rfl rfl rfl ?_
        exact hnexts2 _ (Option.some.inj hT).symm _ (To.mk' [] 0 hε rfl (by repeat' first | exact True.intro | exact rfl | apply And.intro) (by repeat' first | exact True.intro | exact rfl | apply And.intro))
      · replace hT := sF hc hT
        refine rExit ?_
        refine rThenExit ?_
        refine rThenExit ?_
        exact zTo [] 0 hε (hxs20 _ (houts2 _ (Option.some.inj hT).symm))
    · replace hT := sF hc hT
      refine rExit ?_
      refine rThenExit ?_
      refine rThenExit ?_
      exact zTo [] 0 hε (hxs10 _ (houts1 _ (Option.some.inj hT).symm))
  · cases h
def law17_PlanesNew (N : Nat) (a1 : Int) (a2 : (List (List Int))) (a3 : Int) (a4 : (List (List Int))) (a5 : Int) : Option Bool :=
  let c1 := (law17_Light N a1 a2)
  let c2 := (law17_Light N a3 a4)
  let x2 := (bif (bif (!(c1.getD default)) then true else (!(c2.getD default))) then true else (bif (decide ((3 : Int) ≤ a1)) then (decide (a1 ≤ 5)) else false))
  if c1.isSome = true ∧ ((!(!(c1.getD default))) = true → c2.isSome = true) ∧ ((!(bif (!(c1.getD default)) then true else (!(c2.getD default)))) = true → ((decide ((3 : Int) ≤ a1)) = true → ((!(bif (!(c1.getD default)) then true else (!(c2.getD default)))) && (decide ((3 : Int) ≤ a1))) = true)) then
    bif x2 then
      let c3 := (law17_lives N)
      if c3.isSome = true then
        some (c3.getD default)
      else none
    else
      let c4 := (planes_Right N a1 a2)
      let c5 := (ref17_Right N a1 a2)
      let c6 := (planes_Same N a1 a2 a3 a4)
      let c7 := (ref17_Same N a1 a2 a3 a4)
      let c8 := (planes_Same N a1 a2 a1 a2)
      let x5 := (bif (bif (!((c4.getD default) == (c5.getD default))) then true else (!((c6.getD default) == (c7.getD default)))) then true else (!(c8.getD default)))
      if c4.isSome = true ∧ c5.isSome = true ∧ ((!(!((c4.getD default) == (c5.getD default)))) = true → c6.isSome = true) ∧ ((!(!((c4.getD default) == (c5.getD default)))) = true → c7.isSome = true) ∧ ((!(bif (!((c4.getD default) == (c5.getD default))) then true else (!((c6.getD default) == (c7.getD default))))) = true → c8.isSome = true) then
        bif x5 then
          some false
        else
          let c9 := (planes_New N a1 a5)
          if c9.isSome = true then
            let c10 := (ref16_Many N a1)
            if c10.isSome = true then
              bif (decide ((c10.getD default) = 0)) then
                let c11 := (planes_Same N (c9.getD default).1 (c9.getD default).2.1 0 (List.replicate 3 []))
                let c12 := (law17_lives N)
                let x6 := (bif (bif (c11.getD default) then (decide ((c9.getD default).2.2 = 1)) else false) then (c12.getD default) else false)
                if c11.isSome = true ∧ ((bif (c11.getD default) then (decide ((c9.getD default).2.2 = 1)) else false) = true → c12.isSome = true) then
                  some x6
                else none
              else
                let c13 := (ref17_New N a1 a5)
                let c14 := (ref17_Same N (c9.getD default).1 (c9.getD default).2.1 (c13.getD default).1 (c13.getD default).2)
                let c15 := (law17_lives N)
                let x7 := (bif (bif (decide ((c9.getD default).2.2 = 0)) then (c14.getD default) else false) then (c15.getD default) else false)
                if ((decide ((c9.getD default).2.2 = 0)) = true → c13.isSome = true) ∧ ((decide ((c9.getD default).2.2 = 0)) = true → c14.isSome = true) ∧ ((bif (decide ((c9.getD default).2.2 = 0)) then (c14.getD default) else false) = true → c15.isSome = true) then
                  some x7
                else none
            else none
          else none
      else none
  else none
def sp_law17_PlanesNew (N : Nat) : X.Spec := fun args lk => match args with
  | [.v (.agg [.cs [.int .i64 a1], .fzs 3 (.int .u8) a2]), .v (.agg [.cs [.int .i64 a3], .fzs 3 (.int .u8) a4]), .v (.c (.int .i64 a5))] => some ⟨(law17_PlanesNew N a1 a2 a3 a4 a5).isSome = true, .v (.c (.bool ((law17_PlanesNew N a1 a2 a3 a4 a5).getD default))), [], []⟩
  | _ => none
set_option maxRecDepth 100000 in
set_option maxHeartbeats 1000000 in
theorem ok_law17_PlanesNew (N : Nat) : FnOK Try.prog gt0 4 (sp_law17_PlanesNew N) := by
  refine fnOK_handed Try.func4 rfl (by kernel_rfl) tt_ok (ktCons (ok_ref17_New N) (ktCons (ok_ref16_Many N) (ktCons (ok_planes_New N) (ktCons (ok_ref17_Same N) (ktCons (ok_planes_Same N) (ktCons (ok_ref17_Right N) (ktCons (ok_planes_Right N) (ktCons (ok_law17_lives N) (ktCons (ok_law17_Light N) (ktNil)))))))))) ?_
  intro args lk r h hp
  unfold sp_law17_PlanesNew at h
  split at h
  · rename_i a1 a2 a3 a4 a5
    change (List (List Int)) at a2
    change (List (List Int)) at a4
    cases h
    obtain ⟨x, hx⟩ := Option.isSome_iff_exists.1 hp
    simp only [hx, Option.getD_some]
    refine hand0 rfl rfl (fun w0 M ε0 hX => ?_)
    refine rCount (fun hε => ?_)
    have hT : law17_PlanesNew N a1 a2 a3 a4 a5 = some x := hx; clear hx hp; unfold law17_PlanesNew at hT
    refine rSeq ?_
    refine zReg md0 hX rfl rfl rfl ?_
    refine rThen ?_
    refine rSeq ?_
    refine rSeq ?_
    let c1 := (law17_Light N a1 a2)
    let c2 := (law17_Light N a3 a4)
    let x2 := (bif (bif (!(c1.getD default)) then true else (!(c2.getD default))) then true else (bif (decide ((3 : Int) ≤ a1)) then (decide (a1 ≤ 5)) else false))
    replace hT := sIf hT; obtain ⟨⟨o1, o2, o3⟩, hT⟩ := hT
    refine rRegC md0 hX rfl rfl rfl (by (repeat' first | exact True.intro | with_reducible assumption | (with_reducible apply And.intro) | intro _) <;> first | assumption | exact o2 (by assumption) | exact o3 (by assumption) | exact rfl | omega | exact Nat.le_of_ble_eq_true rfl | exact selF (by assumption) | exact selT (by assumption) | exact And.intro rfl rfl | exact And.intro (by assumption) rfl | exact And.intro (by omega) rfl | (simp only [inK] at *; omega) | (simp_all [sel] <;> fail) | fail) ?_
    refine rThen ?_
    refine zCond rfl rfl (fun hc => ?_) (fun hc => ?_)
    · replace hT := sT hc hT
      refine rSeq ?_
      let c3 := (law17_lives N)
      replace hT := sIf hT; obtain ⟨o1, hT⟩ := hT
      refine zReg md0 hX rfl rfl rfl ?_
      refine rThen ?_
      refine rRet ?_
      refine rThenRet ?_
      have hy := Option.some.inj hT; subst hy
      exact zEnd0 hX rfl
    · replace hT := sF hc hT
      refine rSkip ?_
      refine rThen ?_
      refine rSeq ?_
      refine rSeq ?_
      let c4 := (planes_Right N a1 a2)
      let c5 := (ref17_Right N a1 a2)
      let c6 := (planes_Same N a1 a2 a3 a4)
      let c7 := (ref17_Same N a1 a2 a3 a4)
      let c8 := (planes_Same N a1 a2 a1 a2)
      let x5 := (bif (bif (!((c4.getD default) == (c5.getD default))) then true else (!((c6.getD default) == (c7.getD default)))) then true else (!(c8.getD default)))
      replace hT := sIf hT; obtain ⟨⟨o1, o2, o3, o4, o5⟩, hT⟩ := hT
      refine rDrawM md0 0 [] hX mixed rfl rfl rfl rfl rfl (by (repeat' first | exact True.intro | with_reducible assumption | (with_reducible apply And.intro) | intro _) <;> first | assumption | exact o3 (by assumption) | exact o4 (by assumption) | exact o5 (by assumption) | exact rfl | omega | exact Nat.le_of_ble_eq_true rfl | exact selF (by assumption) | exact selT (by assumption) | exact And.intro rfl rfl | exact And.intro (by assumption) rfl | exact And.intro (by omega) rfl | (simp only [inK] at *; omega) | (simp_all [sel] <;> fail) | fail) ?_
      refine rThen ?_
      refine zCond rfl rfl (fun hc => ?_) (fun hc => ?_)
      · replace hT := sT hc hT
        refine rSeq ?_
        refine zReg md0 hX rfl rfl rfl ?_
        refine rThen ?_
        refine rRet ?_
        refine rThenRet ?_
        have hy := Option.some.inj hT; subst hy
        exact zEnd0 hX rfl
      · replace hT := sF hc hT
        refine rSkip ?_
        refine rThen ?_
        refine rSeq ?_
        let c9 := (planes_New N a1 a5)
        replace hT := sIf hT; obtain ⟨o1, hT⟩ := hT
        refine zReg md0 hX rfl rfl rfl ?_
        refine rThen ?_
        refine rSeq ?_
        refine rSeq ?_
        let c10 := (ref16_Many N a1)
        replace hT := sIf hT; obtain ⟨o1, hT⟩ := hT
        refine zReg md0 hX rfl rfl rfl ?_
        refine rThen ?_
        refine zCond rfl rfl (fun hc => ?_) (fun hc => ?_)
        · replace hT := sT hc hT
          refine rSeq ?_
          let c11 := (planes_Same N (c9.getD default).1 (c9.getD default).2.1 0 (List.replicate 3 []))
          let c12 := (law17_lives N)
          let x6 := (bif (bif (c11.getD default) then (decide ((c9.getD default).2.2 = 1)) else false) then (c12.getD default) else false)
          replace hT := sIf hT; obtain ⟨⟨o1, o2⟩, hT⟩ := hT
          refine rRegC md0 hX rfl rfl rfl (by (repeat' first | exact True.intro | with_reducible assumption | (with_reducible apply And.intro) | intro _) <;> first | assumption | exact o2 (by assumption) | exact rfl | omega | exact Nat.le_of_ble_eq_true rfl | exact selF (by assumption) | exact selT (by assumption) | exact And.intro rfl rfl | exact And.intro (by assumption) rfl | exact And.intro (by omega) rfl | (simp only [inK] at *; omega) | (simp_all [sel] <;> fail) | fail) ?_
          refine rThen ?_
          refine rRet ?_
          refine rThenRet ?_
          have hy := Option.some.inj hT; subst hy
          exact zEnd0 hX rfl
        · replace hT := sF hc hT
          refine rSkip ?_
          refine rThen ?_
          refine rSeq ?_
          let c13 := (ref17_New N a1 a5)
          let c14 := (ref17_Same N (c9.getD default).1 (c9.getD default).2.1 (c13.getD default).1 (c13.getD default).2)
          let c15 := (law17_lives N)
          let x7 := (bif (bif (decide ((c9.getD default).2.2 = 0)) then (c14.getD default) else false) then (c15.getD default) else false)
          replace hT := sIf hT; obtain ⟨⟨o1, o2, o3⟩, hT⟩ := hT
          refine rDrawM md0 0 [] hX mixed rfl rfl rfl rfl rfl (by (repeat' first | exact True.intro | with_reducible assumption | (with_reducible apply And.intro) | intro _) <;> first | assumption | exact o1 (by assumption) | exact o2 (by assumption) | exact o3 (by assumption) | exact rfl | omega | exact Nat.le_of_ble_eq_true rfl | exact selF (by assumption) | exact selT (by assumption) | exact And.intro rfl rfl | exact And.intro (by assumption) rfl | exact And.intro (by omega) rfl | (simp only [inK] at *; omega) | (simp_all [sel] <;> fail) | fail) ?_
          refine rThen ?_
          refine rRet ?_
          have hy := Option.some.inj hT; subst hy
          exact zEnd0 hX rfl
  · cases h
def stores_New_own (N : Nat) (a1 : Int) : Option (Int × Nat × Nat × Nat × Int × Nat × (List Int) × Nat × (List Int) × Nat × (List Int)) :=
  let c1 := (formats_Size N a1)
  if c1.isSome = true then
    bif (!(c1.getD default).2.2) then
      some (0, 0, 0, 0, 1, 0, [], 0, [], 0, [])
    else
      let c2 := (formats_Plane N a1 0)
      if c2.isSome = true then
        if inK .i64 ((c2.getD default).1 * (c2.getD default).2) ∧ (0 : Int) ≤ ((c2.getD default).1 * (c2.getD default).2) ∧ ((c2.getD default).1 * (c2.getD default).2) * 8 ≤ 140737488355328 then
          let c3 := (formats_Plane N a1 1)
          if c3.isSome = true then
            if inK .i64 ((c3.getD default).1 * (c3.getD default).2) ∧ (0 : Int) ≤ ((c3.getD default).1 * (c3.getD default).2) ∧ ((c3.getD default).1 * (c3.getD default).2) * 8 ≤ 140737488355328 then
              let c4 := (formats_Plane N a1 2)
              if c4.isSome = true then
                if inK .i64 ((c4.getD default).1 * (c4.getD default).2) ∧ (0 : Int) ≤ ((c4.getD default).1 * (c4.getD default).2) ∧ ((c4.getD default).1 * (c4.getD default).2) * 8 ≤ 140737488355328 then
                  some (a1, ((c2.getD default).1 * (c2.getD default).2).toNat, ((c3.getD default).1 * (c3.getD default).2).toNat, ((c4.getD default).1 * (c4.getD default).2).toNat, 0, ((c2.getD default).1 * (c2.getD default).2).toNat, (List.replicate ((c2.getD default).1 * (c2.getD default).2).toNat 0), ((c3.getD default).1 * (c3.getD default).2).toNat, (List.replicate ((c3.getD default).1 * (c3.getD default).2).toNat 0), ((c4.getD default).1 * (c4.getD default).2).toNat, (List.replicate ((c4.getD default).1 * (c4.getD default).2).toNat 0))
                else none
              else none
            else none
          else none
        else none
      else none
  else none
def sp_stores_New_own (N : Nat) : X.Spec := fun args lk => match args with
  | [.v (.c (.int .i64 a1))] => some ⟨(stores_New_own N a1).isSome = true, .tup [.agg [.cs [.int .i64 ((stores_New_own N a1).getD default).1, .sl 0 0 ((stores_New_own N a1).getD default).2.1 1, .sl 1 0 ((stores_New_own N a1).getD default).2.2.1 1, .sl 2 0 ((stores_New_own N a1).getD default).2.2.2.1 1]], .c (.int .i64 ((stores_New_own N a1).getD default).2.2.2.2.1)], [.mem true 3 (some 0) (.flat [.ints ((stores_New_own N a1).getD default).2.2.2.2.2.1 .i64 ((stores_New_own N a1).getD default).2.2.2.2.2.2.1]), .mem true 3 (some 0) (.flat [.ints ((stores_New_own N a1).getD default).2.2.2.2.2.2.2.1 .i64 ((stores_New_own N a1).getD default).2.2.2.2.2.2.2.2.1]), .mem true 3 (some 0) (.flat [.ints ((stores_New_own N a1).getD default).2.2.2.2.2.2.2.2.2.1 .i64 ((stores_New_own N a1).getD default).2.2.2.2.2.2.2.2.2.2])], []⟩
  | _ => none
set_option maxRecDepth 100000 in
set_option maxHeartbeats 1000000 in
theorem ok_stores_New_own (N : Nat) : FnOK Try.prog gt0 43 (sp_stores_New_own N) := by
  refine fnOK_handed Try.func43 rfl (by kernel_rfl) ttC_ok (ktCons (ok_formats_Plane N) (ktCons (ok_formats_Size N) (ktNil))) ?_
  intro args lk r h hp
  unfold sp_stores_New_own at h
  split at h
  · rename_i a1
    cases h
    obtain ⟨x, hx⟩ := Option.isSome_iff_exists.1 hp
    simp only [hx, Option.getD_some]
    refine hand0 rfl rfl (fun w0 M ε0 hX => ?_)
    refine rCount (fun hε => ?_)
    have hT : stores_New_own N a1 = some x := hx; clear hx hp; unfold stores_New_own at hT
    refine rSeq ?_
    refine zReg md0 hX rfl rfl rfl ?_
    refine rThen ?_
    refine rSeq ?_
    refine rSeq ?_
    let c1 := (formats_Size N a1)
    replace hT := sIf hT; obtain ⟨o1, hT⟩ := hT
    refine zReg md0 hX rfl rfl rfl ?_
    refine rThen ?_
    refine rSeq ?_
    refine zReg md0 hX rfl rfl rfl ?_
    refine rThen ?_
    refine zCond rfl rfl (fun hc => ?_) (fun hc => ?_)
    · replace hT := sT hc hT
      refine rSeq ?_
      refine zReg md0 hX rfl rfl rfl ?_
      refine rThen ?_
      refine rRet ?_
      refine rThenRet ?_
      refine rNilQ 3 1 (.flat [.ints 0 .i64 []]) [(2, .v (.c (.ptr 0 0 0 0 0 0))), (3, .v (.c (.int .i64 1)))] [(0, .mem true 64 none (.flat [.cs [.int .i64 0, .sl 1 0 0 1, .val (.slice none 0 0), .val (.slice none 0 0)]]))] (nil_ints _) (by (repeat' first | exact True.intro | exact rfl | apply And.intro) <;> first | assumption | rfl) (by (repeat' first | exact True.intro | exact rfl | apply And.intro) <;> first | assumption | rfl) ?_
      refine rNilQ 3 1 (.flat [.ints 0 .i64 []]) [(2, .v (.c (.ptr 0 0 0 0 0 0))), (3, .v (.c (.int .i64 1)))] [(0, .mem true 64 none (.flat [.cs [.int .i64 0, .sl 1 0 0 1, .sl 2 0 0 1, .val (.slice none 0 0)]])), (1, .mem true 3 (some 1) (.flat [.ints 0 .i64 []]))] (nil_ints _) (by (repeat' first | exact True.intro | exact rfl | apply And.intro) <;> first | assumption | rfl) (by (repeat' first | exact True.intro | exact rfl | apply And.intro) <;> first | assumption | rfl) ?_
      refine rNilQ 3 1 (.flat [.ints 0 .i64 []]) [(2, .v (.c (.ptr 0 0 0 0 0 0))), (3, .v (.c (.int .i64 1)))] [(0, .mem true 64 none (.flat [.cs [.int .i64 0, .sl 1 0 0 1, .sl 2 0 0 1, .sl 3 0 0 1]])), (1, .mem true 3 (some 1) (.flat [.ints 0 .i64 []])), (2, .mem true 3 (some 1) (.flat [.ints 0 .i64 []]))] (nil_ints _) (by (repeat' first | exact True.intro | exact rfl | apply And.intro) <;> first | assumption | rfl) (by (repeat' first | exact True.intro | exact rfl | apply And.intro) <;> first | assumption | rfl) ?_
      refine rTail0Q 1 rfl rfl ?_
      refine rTail0Q 2 rfl rfl ?_
      refine rTail0Q 3 rfl rfl ?_
      have hy := Option.some.inj hT; subst hy
      exact rEndA [1, 2, 3] [.mem true 3 (some 0) (.flat [.ints 0 .i64 []]), .mem true 3 (some 0) (.flat [.ints 0 .i64 []]), .mem true 3 (some 0) (.flat [.ints 0 .i64 []])] [] (.tup [.agg [.cs [.int .i64 0, .sl 1 0 0 1, .sl 2 0 0 1, .sl 3 0 0 1]], .c (.int .i64 1)]) hX rfl (by repeat' first | exact True.intro | exact rfl | apply And.intro | omega | exact Nat.le_of_ble_eq_true rfl) (by repeat' first | exact True.intro | exact rfl | apply And.intro) rfl rfl rfl (by repeat' first | exact True.intro | exact rfl | exact ⟨_, rfl, rfl⟩ | apply And.intro | exact Or.inl rfl) rfl rfl (by repeat' first | exact True.intro | exact rfl | exact ⟨_, rfl, rfl⟩ | apply And.intro | exact Or.inl rfl) rfl rfl
    · replace hT := sF hc hT
      refine rSkip ?_
      refine rThen ?_
      refine rSeq ?_
      refine zReg md0 hX rfl rfl rfl ?_
      refine rThen ?_
      refine rSeq ?_
      refine rSeq ?_
      refine zReg md0 hX rfl rfl rfl ?_
      refine rThen ?_
      refine rBlock ?_
      refine rRounds 24 ?_
      refine rSeq ?_
      refine zReg md0 hX rfl rfl rfl ?_
      refine rThen ?_
      refine rSeq ?_
      refine rCondT rfl rfl (by (repeat' first | exact True.intro | with_reducible assumption | (with_reducible apply And.intro) | intro _) <;> first | assumption | exact rfl | omega | exact Nat.le_of_ble_eq_true rfl | exact selF (by assumption) | exact selT (by assumption) | exact And.intro rfl rfl | exact And.intro (by assumption) rfl | exact And.intro (by omega) rfl | (simp only [inK] at *; omega) | (simp_all [sel] <;> fail) | fail) rfl ?_
      refine rSkip ?_
      refine rThen ?_
      refine rSeq ?_
      refine rBlock ?_
      refine rSeq ?_
      refine zReg md0 hX rfl rfl rfl ?_
      refine rThen ?_
      refine rSeq ?_
      let c2 := (formats_Plane N a1 0)
      replace hT := sIf hT; obtain ⟨o1, hT⟩ := hT
      refine zReg md0 hX rfl rfl rfl ?_
      refine rThen ?_
      replace hT := sIf hT; obtain ⟨⟨o1, o2, o3⟩, hT⟩ := hT
      refine zReg md0 hX rfl rfl rfl ?_
      refine rInNormal ?_
      refine rThen ?_
      refine zReg md0 hX rfl rfl rfl ?_
      refine rRound ?_
      refine rSeq ?_
      refine zReg md0 hX rfl rfl rfl ?_
      refine rThen ?_
      refine rSeq ?_
      refine rCondT rfl rfl (by (repeat' first | exact True.intro | with_reducible assumption | (with_reducible apply And.intro) | intro _) <;> first | assumption | exact rfl | omega | exact Nat.le_of_ble_eq_true rfl | exact selF (by assumption) | exact selT (by assumption) | exact And.intro rfl rfl | exact And.intro (by assumption) rfl | exact And.intro (by omega) rfl | (simp only [inK] at *; omega) | (simp_all [sel] <;> fail) | fail) rfl ?_
      refine rSkip ?_
      refine rThen ?_
      refine rSeq ?_
      refine rBlock ?_
      refine rSeq ?_
      refine zReg md0 hX rfl rfl rfl ?_
      refine rThen ?_
      refine rSeq ?_
      let c3 := (formats_Plane N a1 1)
      replace hT := sIf hT; obtain ⟨o1, hT⟩ := hT
      refine zReg md0 hX rfl rfl rfl ?_
      refine rThen ?_
      replace hT := sIf hT; obtain ⟨⟨o1, o2, o3⟩, hT⟩ := hT
      refine zReg md0 hX rfl rfl rfl ?_
      refine rInNormal ?_
      refine rThen ?_
      refine zReg md0 hX rfl rfl rfl ?_
      refine rRound ?_
      refine rSeq ?_
      refine zReg md0 hX rfl rfl rfl ?_
      refine rThen ?_
      refine rSeq ?_
      refine rCondT rfl rfl (by (repeat' first | exact True.intro | with_reducible assumption | (with_reducible apply And.intro) | intro _) <;> first | assumption | exact rfl | omega | exact Nat.le_of_ble_eq_true rfl | exact selF (by assumption) | exact selT (by assumption) | exact And.intro rfl rfl | exact And.intro (by assumption) rfl | exact And.intro (by omega) rfl | (simp only [inK] at *; omega) | (simp_all [sel] <;> fail) | fail) rfl ?_
      refine rSkip ?_
      refine rThen ?_
      refine rSeq ?_
      refine rBlock ?_
      refine rSeq ?_
      refine zReg md0 hX rfl rfl rfl ?_
      refine rThen ?_
      refine rSeq ?_
      let c4 := (formats_Plane N a1 2)
      replace hT := sIf hT; obtain ⟨o1, hT⟩ := hT
      refine zReg md0 hX rfl rfl rfl ?_
      refine rThen ?_
      replace hT := sIf hT; obtain ⟨⟨o1, o2, o3⟩, hT⟩ := hT
      refine zReg md0 hX rfl rfl rfl ?_
      refine rInNormal ?_
      refine rThen ?_
      refine zReg md0 hX rfl rfl rfl ?_
      refine rRound ?_
      refine rSeq ?_
      refine zReg md0 hX rfl rfl rfl ?_
      refine rThen ?_
      refine rSeq ?_
      refine rCondF rfl rfl (by (repeat' first | exact True.intro | with_reducible assumption | (with_reducible apply And.intro) | intro _) <;> first | assumption | exact rfl | omega | exact Nat.le_of_ble_eq_true rfl | exact selF (by assumption) | exact selT (by assumption) | exact And.intro rfl rfl | exact And.intro (by assumption) rfl | exact And.intro (by omega) rfl | (simp only [inK] at *; omega) | (simp_all [sel] <;> fail) | fail) rfl ?_
      refine rExit ?_
      refine rThenExit ?_
      refine rThenExit ?_
      refine rInHit ?_
      refine rThen ?_
      refine rSeq ?_
      refine zReg md0 hX rfl rfl rfl ?_
      refine rThen ?_
      refine rRet ?_
      refine rTail0Q 2 rfl rfl ?_
      refine rTail0Q 3 rfl rfl ?_
      refine rTail0Q 4 rfl rfl ?_
      have hy := Option.some.inj hT; subst hy
      exact rEndA [2, 3, 4] [.mem true 3 (some 0) (.flat [.ints ((c2.getD default).1 * (c2.getD default).2).toNat .i64 (List.replicate ((c2.getD default).1 * (c2.getD default).2).toNat 0)]), .mem true 3 (some 0) (.flat [.ints ((c3.getD default).1 * (c3.getD default).2).toNat .i64 (List.replicate ((c3.getD default).1 * (c3.getD default).2).toNat 0)]), .mem true 3 (some 0) (.flat [.ints ((c4.getD default).1 * (c4.getD default).2).toNat .i64 (List.replicate ((c4.getD default).1 * (c4.getD default).2).toNat 0)])] [] (.tup [.agg [.cs [.int .i64 a1, .sl 2 0 ((c2.getD default).1 * (c2.getD default).2).toNat 1, .sl 3 0 ((c3.getD default).1 * (c3.getD default).2).toNat 1, .sl 4 0 ((c4.getD default).1 * (c4.getD default).2).toNat 1]], .c (.int .i64 0)]) hX rfl (by repeat' first | exact True.intro | exact rfl | apply And.intro | omega | exact Nat.le_of_ble_eq_true rfl) (by repeat' first | exact True.intro | exact rfl | apply And.intro) rfl rfl rfl (by repeat' first | exact True.intro | exact rfl | exact ⟨_, rfl, rfl⟩ | apply And.intro | exact Or.inl rfl) rfl rfl (by repeat' first | exact True.intro | exact rfl | exact ⟨_, rfl, rfl⟩ | apply And.intro | exact Or.inl rfl) rfl rfl
  · cases h
def stores_Diff_b1 (N : Nat) (a2 : (List (List Int))) (a4 : (List (List Int))) (c3 : (Option (Int × Nat × Nat × Nat × Int × Nat × (List Int) × Nat × (List Int) × Nat × (List Int)))) (s3 : (Int × Bool × (List Int))) : Option ((Int × Bool × (List Int)) ⊕ (Int × Bool × (List Int))) :=
  bif (decide (s3.1 < ((a2.getD 2 []).length : Int))) then
    if (0 : Int) ≤ s3.1 ∧ s3.1 < ((a2.getD 2 []).length : Int) then
      let x2 := (s3.2.2.set (s3.1).toNat (((a2.getD 2 []).getD (s3.1).toNat 0) - ((a4.getD 2 []).getD (s3.1).toNat 0)))
      if inK .i64 ((a2.getD 2 []).getD (s3.1).toNat 0) ∧ (0 : Int) ≤ s3.1 ∧ s3.1 < ((a4.getD 2 []).length : Int) ∧ inK .i64 ((a4.getD 2 []).getD (s3.1).toNat 0) ∧ inK .i64 (((a2.getD 2 []).getD (s3.1).toNat 0) - ((a4.getD 2 []).getD (s3.1).toNat 0)) ∧ s3.1 < ((c3.getD default).2.2.2.1 : Int) ∧ (s3.1).toNat < (c3.getD default).2.2.2.2.2.2.2.2.2.1 then
        if inK .i64 (s3.1 + 1) then
          some (.inl ((s3.1 + 1), (decide (s3.1 < ((a2.getD 2 []).length : Int))), x2))
        else none
      else none
    else none
  else
    some (.inr (s3.1, (decide (s3.1 < ((a2.getD 2 []).length : Int))), s3.2.2))
def stores_Diff_b2 (N : Nat) (a2 : (List (List Int))) (a4 : (List (List Int))) (c3 : (Option (Int × Nat × Nat × Nat × Int × Nat × (List Int) × Nat × (List Int) × Nat × (List Int)))) (s2 : (Int × Bool × (List Int))) : Option ((Int × Bool × (List Int)) ⊕ (Int × Bool × (List Int))) :=
  bif (decide (s2.1 < ((a2.getD 1 []).length : Int))) then
    if (0 : Int) ≤ s2.1 ∧ s2.1 < ((a2.getD 1 []).length : Int) then
      let x3 := (s2.2.2.set (s2.1).toNat (((a2.getD 1 []).getD (s2.1).toNat 0) - ((a4.getD 1 []).getD (s2.1).toNat 0)))
      if inK .i64 ((a2.getD 1 []).getD (s2.1).toNat 0) ∧ (0 : Int) ≤ s2.1 ∧ s2.1 < ((a4.getD 1 []).length : Int) ∧ inK .i64 ((a4.getD 1 []).getD (s2.1).toNat 0) ∧ inK .i64 (((a2.getD 1 []).getD (s2.1).toNat 0) - ((a4.getD 1 []).getD (s2.1).toNat 0)) ∧ s2.1 < ((c3.getD default).2.2.1 : Int) ∧ (s2.1).toNat < (c3.getD default).2.2.2.2.2.2.2.1 then
        if inK .i64 (s2.1 + 1) then
          some (.inl ((s2.1 + 1), (decide (s2.1 < ((a2.getD 1 []).length : Int))), x3))
        else none
      else none
    else none
  else
    some (.inr (s2.1, (decide (s2.1 < ((a2.getD 1 []).length : Int))), s2.2.2))
def stores_Diff_b3 (N : Nat) (a2 : (List (List Int))) (a4 : (List (List Int))) (c3 : (Option (Int × Nat × Nat × Nat × Int × Nat × (List Int) × Nat × (List Int) × Nat × (List Int)))) (s1 : (Int × (List Int))) : Option ((Int × (List Int)) ⊕ (Int × Bool × (List Int))) :=
  bif (decide (s1.1 < ((a2.getD 0 []).length : Int))) then
    if (0 : Int) ≤ s1.1 ∧ s1.1 < ((a2.getD 0 []).length : Int) then
      let x4 := (s1.2.set (s1.1).toNat (((a2.getD 0 []).getD (s1.1).toNat 0) - ((a4.getD 0 []).getD (s1.1).toNat 0)))
      if inK .i64 ((a2.getD 0 []).getD (s1.1).toNat 0) ∧ (0 : Int) ≤ s1.1 ∧ s1.1 < ((a4.getD 0 []).length : Int) ∧ inK .i64 ((a4.getD 0 []).getD (s1.1).toNat 0) ∧ inK .i64 (((a2.getD 0 []).getD (s1.1).toNat 0) - ((a4.getD 0 []).getD (s1.1).toNat 0)) ∧ s1.1 < ((c3.getD default).2.1 : Int) ∧ (s1.1).toNat < (c3.getD default).2.2.2.2.2.1 then
        if inK .i64 (s1.1 + 1) then
          some (.inl ((s1.1 + 1), x4))
        else none
      else none
    else none
  else
    some (.inr (s1.1, (decide (s1.1 < ((a2.getD 0 []).length : Int))), s1.2))
def stores_Diff (N : Nat) (a1 : Int) (a2 : (List (List Int))) (a3 : Int) (a4 : (List (List Int))) : Option (Int × (List (List Int)) × Int) :=
  let c1 := (planes_Right N a1 a2)
  let c2 := (planes_Right N a3 a4)
  let x1 := (bif (bif (!(c1.getD default)) then true else (!(c2.getD default))) then true else (decide (a1 ≠ a3)))
  if c1.isSome = true ∧ ((!(!(c1.getD default))) = true → c2.isSome = true) then
    bif x1 then
      some (0, [[], [], []], 1)
    else
      let c3 := (stores_New_own N a1)
      if c3.isSome = true then
        (iter (stores_Diff_b3 N a2 a4 c3) N (0, (c3.getD default).2.2.2.2.2.2.1)).bind fun v1 =>
          (iter (stores_Diff_b2 N a2 a4 c3) N (0, v1.2.1, (c3.getD default).2.2.2.2.2.2.2.2.1)).bind fun v2 =>
            (iter (stores_Diff_b1 N a2 a4 c3) N (0, v2.2.1, (c3.getD default).2.2.2.2.2.2.2.2.2.2)).bind fun v3 =>
              if (c3.getD default).2.1 = v1.2.2.length ∧ (c3.getD default).2.2.1 = v2.2.2.length ∧ (c3.getD default).2.2.2.1 = v3.2.2.length then
                some ((c3.getD default).1, [v1.2.2, v2.2.2, v3.2.2], 0)
              else none
      else none
  else none
def sp_stores_Diff (N : Nat) : X.Spec := fun args lk => match args with
  | [.v (.agg [.cs [.int .i64 a1], .fzs 3 (.int .u8) a2]), .v (.agg [.cs [.int .i64 a3], .fzs 3 (.int .u8) a4])] => some ⟨(stores_Diff N a1 a2 a3 a4).isSome = true, .tup [.agg [.cs [.int .i64 ((stores_Diff N a1 a2 a3 a4).getD default).1], .fzs 3 (.int .i64) ((stores_Diff N a1 a2 a3 a4).getD default).2.1], .c (.int .i64 ((stores_Diff N a1 a2 a3 a4).getD default).2.2)], [], []⟩
  | _ => none
set_option maxRecDepth 100000 in
set_option maxHeartbeats 1000000 in
theorem ok_stores_Diff (N : Nat) : FnOK Try.prog gt0 33 (sp_stores_Diff N) := by
  refine fnOK_handed Try.func33 rfl (by kernel_rfl) ttC_ok (ktCons (ok_stores_New_own N) (ktCons (ok_planes_Right N) (ktNil))) ?_
  intro args lk r h hp
  unfold sp_stores_Diff at h
  split at h
  · rename_i a1 a2 a3 a4
    change (List (List Int)) at a2
    change (List (List Int)) at a4
    cases h
    obtain ⟨x, hx⟩ := Option.isSome_iff_exists.1 hp
    simp only [hx, Option.getD_some]
    refine hand0 rfl rfl (fun w0 M ε0 hX => ?_)
    refine rCount (fun hε => ?_)
    have hT : stores_Diff N a1 a2 a3 a4 = some x := hx; clear hx hp; unfold stores_Diff at hT
    refine rSeq ?_
    refine zReg md0 hX rfl rfl rfl ?_
    refine rThen ?_
    refine rSeq ?_
    refine rSeq ?_
    let c1 := (planes_Right N a1 a2)
    let c2 := (planes_Right N a3 a4)
    let x1 := (bif (bif (!(c1.getD default)) then true else (!(c2.getD default))) then true else (decide (a1 ≠ a3)))
    replace hT := sIf hT; obtain ⟨⟨o1, o2⟩, hT⟩ := hT
    refine rRegC md0 hX rfl rfl rfl (by (repeat' first | exact True.intro | with_reducible assumption | (with_reducible apply And.intro) | intro _) <;> first | assumption | exact o2 (by assumption) | exact rfl | omega | exact Nat.le_of_ble_eq_true rfl | exact selF (by assumption) | exact selT (by assumption) | exact And.intro rfl rfl | exact And.intro (by assumption) rfl | exact And.intro (by omega) rfl | (simp only [inK] at *; omega) | (simp_all [sel] <;> fail) | fail) ?_
    refine rThen ?_
    refine zCond rfl rfl (fun hc => ?_) (fun hc => ?_)
    · replace hT := sT hc hT
      refine rSeq ?_
      refine zReg md0 hX rfl rfl rfl ?_
      refine rThen ?_
      refine rRet ?_
      refine rThenRet ?_
      refine rPackNE 2 (.int .i64) rfl rfl ?_
      have hy := Option.some.inj hT; subst hy
      exact zEnd0 hX rfl
    · replace hT := sF hc hT
      refine rSkip ?_
      refine rThen ?_
      refine rSeq ?_
      let c3 := (stores_New_own N a1)
      replace hT := sIf hT; obtain ⟨o1, hT⟩ := hT
      refine zReg md0 hX rfl rfl rfl ?_
      refine rThen ?_
      refine rSeq ?_
      refine rSeq ?_
      refine zReg md0 hX rfl rfl rfl ?_
      refine rThen ?_
      refine rBlock ?_
      refine rRounds 24 ?_
      refine rSeq ?_
      refine zReg md0 hX rfl rfl rfl ?_
      refine rThen ?_
      refine rSeq ?_
      refine rCondT rfl rfl (by (repeat' first | exact True.intro | with_reducible assumption | (with_reducible apply And.intro) | intro _) <;> first | assumption | exact rfl | omega | exact Nat.le_of_ble_eq_true rfl | exact selF (by assumption) | exact selT (by assumption) | exact And.intro rfl rfl | exact And.intro (by assumption) rfl | exact And.intro (by omega) rfl | (simp only [inK] at *; omega) | (simp_all [sel] <;> fail) | fail) rfl ?_
      refine rSkip ?_
      refine rThen ?_
      refine rSeq ?_
      refine rBlock ?_
      refine rSeq ?_
      refine zReg md0 hX rfl rfl rfl ?_
      refine rThen ?_
      refine rSeq ?_
      refine zReg md0 hX rfl rfl rfl ?_
      refine rThen ?_
      refine rBlock ?_
      replace hT := sBind hT; obtain ⟨w1, hl, hT⟩ := hT
      refine rJoinA (fun v1 => v1 = w1) (fun v1 => ⟨[(3, .v (.c (.ptr 1 0 0 0 0 0))), (4, .v (.c (.ptr 2 0 0 0 0 0))), (5, .v (.c (.int .i64 0))), (6, .v (.c (.ptr 6 0 0 0 0 0))), (8, .v (.c (.int .i64 0))), (9, .v (.c (.fz (.int .u8) (a2.getD 0 [])))), (35, .v (.agg [.fzs 3 (.int .u8) a2])), (36, .v (.c (.int .i64 0))), (37, .v (.c (.bool true))), (38, .v (.c (.int .i64 0))), (39, .v (.c (.fz (.int .u8) (a2.getD 0 [])))), (40, .v (.c (.fz (.int .u8) (a2.getD 0 [])))), (41, .v (.c (.int .i64 ((a2.getD 0 []).length : Int)))), (42, .v (.c (.int .i64 v1.1))), (43, .v (.c (.bool v1.2.1)))], [(1, .mem true 25 none (.flat [.cs [.int .i64 a3], .fzs 3 (.int .u8) a4])), (2, .mem true 64 none (.flat [.cs [.int .i64 0, .val (.slice none 0 0), .val (.slice none 0 0), .val (.slice none 0 0)]])), (3, .mem true 3 (some 0) (.flat [.ints (c3.getD default).2.2.2.2.2.1 .i64 v1.2.2])), (4, .mem true 3 (some 0) (.flat [.ints (c3.getD default).2.2.2.2.2.2.2.1 .i64 (c3.getD default).2.2.2.2.2.2.2.2.1])), (5, .mem true 3 (some 0) (.flat [.ints (c3.getD default).2.2.2.2.2.2.2.2.2.1 .i64 (c3.getD default).2.2.2.2.2.2.2.2.2.2])), (6, .mem true 64 none (.flat [.cs [.int .i64 (c3.getD default).1, .sl 3 0 (c3.getD default).2.1 1, .sl 4 0 (c3.getD default).2.2.1 1, .sl 5 0 (c3.getD default).2.2.2.1 1]]))], 7⟩) (.exit 2) (fun v1 hv => ?_) (fun hxs10 => ?_)
      · subst hv; clear hl
        refine rInHit ?_
        refine rInNormal ?_
        refine rThen ?_
        refine zReg md0 hX rfl rfl rfl ?_
        refine rRound ?_
        refine rSeq ?_
        refine zReg md0 hX rfl rfl rfl ?_
        refine rThen ?_
        refine rSeq ?_
        refine rCondT rfl rfl (by (repeat' first | exact True.intro | with_reducible assumption | (with_reducible apply And.intro) | intro _) <;> first | assumption | exact rfl | omega | exact Nat.le_of_ble_eq_true rfl | exact selF (by assumption) | exact selT (by assumption) | exact And.intro rfl rfl | exact And.intro (by assumption) rfl | exact And.intro (by omega) rfl | (simp only [inK] at *; omega) | (simp_all [sel] <;> fail) | fail) rfl ?_
        refine rSkip ?_
        refine rThen ?_
        refine rSeq ?_
        refine rBlock ?_
        refine rSeq ?_
        refine zReg md0 hX rfl rfl rfl ?_
        refine rThen ?_
        refine rSeq ?_
        refine zReg md0 hX rfl rfl rfl ?_
        refine rThen ?_
        refine rBlock ?_
        replace hT := sBind hT; obtain ⟨w2, hl, hT⟩ := hT
        refine rJoinA (fun v2 => v2 = w2) (fun v2 => ⟨[(3, .v (.c (.ptr 1 0 0 0 0 0))), (4, .v (.c (.ptr 2 0 0 0 0 0))), (5, .v (.c (.int .i64 0))), (6, .v (.c (.ptr 6 0 0 0 0 0))), (8, .v (.c (.int .i64 1))), (9, .v (.c (.fz (.int .u8) (a2.getD 1 [])))), (35, .v (.agg [.fzs 3 (.int .u8) a2])), (36, .v (.c (.int .i64 1))), (37, .v (.c (.bool true))), (38, .v (.c (.int .i64 1))), (39, .v (.c (.fz (.int .u8) (a2.getD 1 [])))), (40, .v (.c (.fz (.int .u8) (a2.getD 1 [])))), (41, .v (.c (.int .i64 ((a2.getD 1 []).length : Int)))), (42, .v (.c (.int .i64 v2.1))), (43, .v (.c (.bool v2.2.1))), (65, .v (.c (.int .i64 1)))], [(1, .mem true 25 none (.flat [.cs [.int .i64 a3], .fzs 3 (.int .u8) a4])), (2, .mem true 64 none (.flat [.cs [.int .i64 0, .val (.slice none 0 0), .val (.slice none 0 0), .val (.slice none 0 0)]])), (3, .mem true 3 (some 0) (.flat [.ints (c3.getD default).2.2.2.2.2.1 .i64 v1.2.2])), (4, .mem true 3 (some 0) (.flat [.ints (c3.getD default).2.2.2.2.2.2.2.1 .i64 v2.2.2])), (5, .mem true 3 (some 0) (.flat [.ints (c3.getD default).2.2.2.2.2.2.2.2.2.1 .i64 (c3.getD default).2.2.2.2.2.2.2.2.2.2])), (6, .mem true 64 none (.flat [.cs [.int .i64 (c3.getD default).1, .sl 3 0 (c3.getD default).2.1 1, .sl 4 0 (c3.getD default).2.2.1 1, .sl 5 0 (c3.getD default).2.2.2.1 1]]))], 7⟩) (.exit 2) (fun v2 hv => ?_) (fun hxs20 => ?_)
        · subst hv; clear hl
          refine rInHit ?_
          refine rInNormal ?_
          refine rThen ?_
          refine zReg md0 hX rfl rfl rfl ?_
          refine rRound ?_
          refine rSeq ?_
          refine zReg md0 hX rfl rfl rfl ?_
          refine rThen ?_
          refine rSeq ?_
          refine rCondT rfl rfl (by (repeat' first | exact True.intro | with_reducible assumption | (with_reducible apply And.intro) | intro _) <;> first | assumption | exact rfl | omega | exact Nat.le_of_ble_eq_true rfl | exact selF (by assumption) | exact selT (by assumption) | exact And.intro rfl rfl | exact And.intro (by assumption) rfl | exact And.intro (by omega) rfl | (simp only [inK] at *; omega) | (simp_all [sel] <;> fail) | fail) rfl ?_
          refine rSkip ?_
          refine rThen ?_
          refine rSeq ?_
          refine rBlock ?_
          refine rSeq ?_
          refine zReg md0 hX rfl rfl rfl ?_
          refine rThen ?_
          refine rSeq ?_
          refine zReg md0 hX rfl rfl rfl ?_
          refine rThen ?_
          refine rBlock ?_
          replace hT := sBind hT; obtain ⟨w3, hl, hT⟩ := hT
          refine rJoinA (fun v3 => v3 = w3) (fun v3 => ⟨[(3, .v (.c (.ptr 1 0 0 0 0 0))), (4, .v (.c (.ptr 2 0 0 0 0 0))), (5, .v (.c (.int .i64 0))), (6, .v (.c (.ptr 6 0 0 0 0 0))), (8, .v (.c (.int .i64 2))), (9, .v (.c (.fz (.int .u8) (a2.getD 2 [])))), (35, .v (.agg [.fzs 3 (.int .u8) a2])), (36, .v (.c (.int .i64 2))), (37, .v (.c (.bool true))), (38, .v (.c (.int .i64 2))), (39, .v (.c (.fz (.int .u8) (a2.getD 2 [])))), (40, .v (.c (.fz (.int .u8) (a2.getD 2 [])))), (41, .v (.c (.int .i64 ((a2.getD 2 []).length : Int)))), (42, .v (.c (.int .i64 v3.1))), (43, .v (.c (.bool v3.2.1))), (65, .v (.c (.int .i64 2)))], [(1, .mem true 25 none (.flat [.cs [.int .i64 a3], .fzs 3 (.int .u8) a4])), (2, .mem true 64 none (.flat [.cs [.int .i64 0, .val (.slice none 0 0), .val (.slice none 0 0), .val (.slice none 0 0)]])), (3, .mem true 3 (some 0) (.flat [.ints (c3.getD default).2.2.2.2.2.1 .i64 v1.2.2])), (4, .mem true 3 (some 0) (.flat [.ints (c3.getD default).2.2.2.2.2.2.2.1 .i64 v2.2.2])), (5, .mem true 3 (some 0) (.flat [.ints (c3.getD default).2.2.2.2.2.2.2.2.2.1 .i64 v3.2.2])), (6, .mem true 64 none (.flat [.cs [.int .i64 (c3.getD default).1, .sl 3 0 (c3.getD default).2.1 1, .sl 4 0 (c3.getD default).2.2.1 1, .sl 5 0 (c3.getD default).2.2.2.1 1]]))], 7⟩) (.exit 2) (fun v3 hv => ?_) (fun hxs30 => ?_)
          · subst hv; clear hl
            refine rInHit ?_
            refine rInNormal ?_
            refine rThen ?_
            refine zReg md0 hX rfl rfl rfl ?_
            refine rRound ?_
            refine rSeq ?_
            refine zReg md0 hX rfl rfl rfl ?_
            refine rThen ?_
            refine rSeq ?_
            refine rCondF rfl rfl (by (repeat' first | exact True.intro | with_reducible assumption | (with_reducible apply And.intro) | intro _) <;> first | assumption | exact rfl | omega | exact Nat.le_of_ble_eq_true rfl | exact selF (by assumption) | exact selT (by assumption) | exact And.intro rfl rfl | exact And.intro (by assumption) rfl | exact And.intro (by omega) rfl | (simp only [inK] at *; omega) | (simp_all [sel] <;> fail) | fail) rfl ?_
            refine rExit ?_
            refine rThenExit ?_
            refine rThenExit ?_
            refine rInHit ?_
            refine rThen ?_
            refine rSeq ?_
            refine zReg md0 hX rfl rfl rfl ?_
            refine rThen ?_
            refine rRet ?_
            replace hT := sIf hT; obtain ⟨⟨p1, p2, p3⟩, hT⟩ := hT
            refine rFreezeQ 3 (.int .i64) v1.2.2 [(4, .v (.c (.ptr 2 0 0 0 0 0))), (5, .v (.c (.int .i64 0)))] [(2, .mem true 64 none (.flat [.cs [.int .i64 (c3.getD default).1, .fz (.int .i64) v1.2.2, .sl 4 0 (c3.getD default).2.2.1 1, .sl 5 0 (c3.getD default).2.2.2.1 1]])), (4, .mem true 3 (some 0) (.flat [.ints (c3.getD default).2.2.2.2.2.2.2.1 .i64 v2.2.2])), (5, .mem true 3 (some 0) (.flat [.ints (c3.getD default).2.2.2.2.2.2.2.2.2.1 .i64 v3.2.2]))] rfl rfl (by (repeat' first | exact True.intro | exact rfl | apply And.intro) <;> first | assumption | rfl) (by (repeat' first | exact True.intro | exact rfl | apply And.intro) <;> first | assumption | rfl) ?_
            refine rFreezeQ 4 (.int .i64) v2.2.2 [(4, .v (.c (.ptr 2 0 0 0 0 0))), (5, .v (.c (.int .i64 0)))] [(2, .mem true 64 none (.flat [.cs [.int .i64 (c3.getD default).1, .fz (.int .i64) v1.2.2, .fz (.int .i64) v2.2.2, .sl 5 0 (c3.getD default).2.2.2.1 1]])), (5, .mem true 3 (some 0) (.flat [.ints (c3.getD default).2.2.2.2.2.2.2.2.2.1 .i64 v3.2.2]))] rfl rfl (by (repeat' first | exact True.intro | exact rfl | apply And.intro) <;> first | assumption | rfl) (by (repeat' first | exact True.intro | exact rfl | apply And.intro) <;> first | assumption | rfl) ?_
            refine rFreezeQ 5 (.int .i64) v3.2.2 [(4, .v (.c (.ptr 2 0 0 0 0 0))), (5, .v (.c (.int .i64 0)))] [(2, .mem true 64 none (.flat [.cs [.int .i64 (c3.getD default).1, .fz (.int .i64) v1.2.2, .fz (.int .i64) v2.2.2, .fz (.int .i64) v3.2.2]]))] rfl rfl (by (repeat' first | exact True.intro | exact rfl | apply And.intro) <;> first | assumption | rfl) (by (repeat' first | exact True.intro | exact rfl | apply And.intro) <;> first | assumption | rfl) ?_
            refine rPackE 2 rfl rfl ?_
            have hy := Option.some.inj hT; subst hy
            exact zEnd0 hX rfl
          refine rLoopM (stores_Diff_b1 N a2 a4 c3) (fun s3 => ⟨[(3, .v (.c (.ptr 1 0 0 0 0 0))), (4, .v (.c (.ptr 2 0 0 0 0 0))), (5, .v (.c (.int .i64 0))), (6, .v (.c (.ptr 6 0 0 0 0 0))), (8, .v (.c (.int .i64 2))), (9, .v (.c (.fz (.int .u8) (a2.getD 2 [])))), (35, .v (.agg [.fzs 3 (.int .u8) a2])), (36, .v (.c (.int .i64 2))), (37, .v (.c (.bool true))), (38, .v (.c (.int .i64 2))), (39, .v (.c (.fz (.int .u8) (a2.getD 2 [])))), (40, .v (.c (.fz (.int .u8) (a2.getD 2 [])))), (41, .v (.c (.int .i64 ((a2.getD 2 []).length : Int)))), (42, .v (.c (.int .i64 s3.1))), (43, .v (.c (.bool s3.2.1))), (65, .v (.c (.int .i64 2)))], [(1, .mem true 25 none (.flat [.cs [.int .i64 a3], .fzs 3 (.int .u8) a4])), (2, .mem true 64 none (.flat [.cs [.int .i64 0, .val (.slice none 0 0), .val (.slice none 0 0), .val (.slice none 0 0)]])), (3, .mem true 3 (some 0) (.flat [.ints (c3.getD default).2.2.2.2.2.1 .i64 v1.2.2])), (4, .mem true 3 (some 0) (.flat [.ints (c3.getD default).2.2.2.2.2.2.2.1 .i64 v2.2.2])), (5, .mem true 3 (some 0) (.flat [.ints (c3.getD default).2.2.2.2.2.2.2.2.2.1 .i64 s3.2.2])), (6, .mem true 64 none (.flat [.cs [.int .i64 (c3.getD default).1, .sl 3 0 (c3.getD default).2.1 1, .sl 4 0 (c3.getD default).2.2.1 1, .sl 5 0 (c3.getD default).2.2.2.1 1]]))], 7⟩) hl (To.mk' [] 0 hε rfl (by repeat' first | exact True.intro | exact rfl | apply And.intro) (by repeat' first | exact True.intro | exact rfl | apply And.intro)) (fun s3 zs3 NNs3 hz hnexts3 houts3 => ?_)
          clear hl hT
          have hT := hz; clear hz
          refine rSeq ?_
          refine zReg md0 hX rfl rfl rfl ?_
          refine rThen ?_
          refine rSeq ?_
          refine zCond rfl rfl (fun hc => ?_) (fun hc => ?_)
          · replace hT := sT hc hT
            refine rSkip ?_
            refine rThen ?_
            refine rSeq ?_
            refine rBlock ?_
            refine rSeq ?_
            replace hT := sIf hT; obtain ⟨⟨o1, o2⟩, hT⟩ := hT
            refine zReg md0 hX rfl rfl rfl ?_
            refine rThen ?_
            let x2 := (s3.2.2.set (s3.1).toNat (((a2.getD 2 []).getD (s3.1).toNat 0) - ((a4.getD 2 []).getD (s3.1).toNat 0)))
            replace hT := sIf hT; obtain ⟨⟨o1, o2, o3, o4, o5, o6, o7⟩, hT⟩ := hT
            refine zDraw md0 1 [17] hX mixed rfl rfl rfl rfl rfl ?_
            refine rInNormal ?_
            refine rThen ?_
            replace hT := sIf hT; obtain ⟨o1, hT⟩ := hT
            refine zReg md0 hX rfl rfl rfl ?_
            exact hnexts3 _ (Option.some.inj hT).symm _ (To.mk' [] 0 hε rfl (by repeat' first | exact True.intro | exact rfl | apply And.intro) (by repeat' first | exact True.intro | exact rfl | apply And.intro))
          · replace hT := sF hc hT
            refine rExit ?_
            refine rThenExit ?_
            refine rThenExit ?_
            exact zTo [] 0 hε (hxs30 _ (houts3 _ (Option.some.inj hT).symm))
        refine rLoopM (stores_Diff_b2 N a2 a4 c3) (fun s2 => ⟨[(3, .v (.c (.ptr 1 0 0 0 0 0))), (4, .v (.c (.ptr 2 0 0 0 0 0))), (5, .v (.c (.int .i64 0))), (6, .v (.c (.ptr 6 0 0 0 0 0))), (8, .v (.c (.int .i64 1))), (9, .v (.c (.fz (.int .u8) (a2.getD 1 [])))), (35, .v (.agg [.fzs 3 (.int .u8) a2])), (36, .v (.c (.int .i64 1))), (37, .v (.c (.bool true))), (38, .v (.c (.int .i64 1))), (39, .v (.c (.fz (.int .u8) (a2.getD 1 [])))), (40, .v (.c (.fz (.int .u8) (a2.getD 1 [])))), (41, .v (.c (.int .i64 ((a2.getD 1 []).length : Int)))), (42, .v (.c (.int .i64 s2.1))), (43, .v (.c (.bool s2.2.1))), (65, .v (.c (.int .i64 1)))], [(1, .mem true 25 none (.flat [.cs [.int .i64 a3], .fzs 3 (.int .u8) a4])), (2, .mem true 64 none (.flat [.cs [.int .i64 0, .val (.slice none 0 0), .val (.slice none 0 0), .val (.slice none 0 0)]])), (3, .mem true 3 (some 0) (.flat [.ints (c3.getD default).2.2.2.2.2.1 .i64 v1.2.2])), (4, .mem true 3 (some 0) (.flat [.ints (c3.getD default).2.2.2.2.2.2.2.1 .i64 s2.2.2])), (5, .mem true 3 (some 0) (.flat [.ints (c3.getD default).2.2.2.2.2.2.2.2.2.1 .i64 (c3.getD default).2.2.2.2.2.2.2.2.2.2])), (6, .mem true 64 none (.flat [.cs [.int .i64 (c3.getD default).1, .sl 3 0 (c3.getD default).2.1 1, .sl 4 0 (c3.getD default).2.2.1 1, .sl 5 0 (c3.getD default).2.2.2.1 1]]))], 7⟩) hl (To.mk' [] 0 hε rfl (by repeat' first | exact True.intro | exact rfl | apply And.intro) (by repeat' first | exact True.intro | exact rfl | apply And.intro)) (fun s2 zs2 NNs2 hz hnexts2 houts2 => ?_)
        clear hl hT
        have hT := hz; clear hz
        refine rSeq ?_
        refine zReg md0 hX rfl rfl rfl ?_
        refine rThen ?_
        refine rSeq ?_
        refine zCond rfl rfl (fun hc => ?_) (fun hc => ?_)
        · replace hT := sT hc hT
          refine rSkip ?_
          refine rThen ?_
          refine rSeq ?_
          refine rBlock ?_
          refine rSeq ?_
          replace hT := sIf hT; obtain ⟨⟨o1, o2⟩, hT⟩ := hT
          refine zReg md0 hX rfl rfl rfl ?_
          refine rThen ?_
          let x3 := (s2.2.2.set (s2.1).toNat (((a2.getD 1 []).getD (s2.1).toNat 0) - ((a4.getD 1 []).getD (s2.1).toNat 0)))
          replace hT := sIf hT; obtain ⟨⟨o1, o2, o3, o4, o5, o6, o7⟩, hT⟩ := hT
          refine zDraw md0 1 [17] hX mixed rfl rfl rfl rfl rfl ?_
          refine rInNormal ?_
          refine rThen ?_
          replace hT := sIf hT; obtain ⟨o1, hT⟩ := hT
          refine zReg md0 hX rfl rfl rfl ?_
          exact hnexts2 _ (Option.some.inj hT).symm _ (To.mk' [] 0 hε rfl (by repeat' first | exact True.intro | exact rfl | apply And.intro) (by repeat' first | exact True.intro | exact rfl | apply And.intro))
        · replace hT := sF hc hT
          refine rExit ?_
          refine rThenExit ?_
          refine rThenExit ?_
          exact zTo [] 0 hε (hxs20 _ (houts2 _ (Option.some.inj hT).symm))
      refine rLoopM (stores_Diff_b3 N a2 a4 c3) (fun s1 => ⟨[(3, .v (.c (.ptr 1 0 0 0 0 0))), (4, .v (.c (.ptr 2 0 0 0 0 0))), (5, .v (.c (.int .i64 0))), (6, .v (.c (.ptr 6 0 0 0 0 0))), (8, .v (.c (.int .i64 0))), (9, .v (.c (.fz (.int .u8) (a2.getD 0 [])))), (35, .v (.agg [.fzs 3 (.int .u8) a2])), (36, .v (.c (.int .i64 0))), (37, .v (.c (.bool true))), (38, .v (.c (.int .i64 0))), (39, .v (.c (.fz (.int .u8) (a2.getD 0 [])))), (40, .v (.c (.fz (.int .u8) (a2.getD 0 [])))), (41, .v (.c (.int .i64 ((a2.getD 0 []).length : Int)))), (42, .v (.c (.int .i64 s1.1)))], [(1, .mem true 25 none (.flat [.cs [.int .i64 a3], .fzs 3 (.int .u8) a4])), (2, .mem true 64 none (.flat [.cs [.int .i64 0, .val (.slice none 0 0), .val (.slice none 0 0), .val (.slice none 0 0)]])), (3, .mem true 3 (some 0) (.flat [.ints (c3.getD default).2.2.2.2.2.1 .i64 s1.2])), (4, .mem true 3 (some 0) (.flat [.ints (c3.getD default).2.2.2.2.2.2.2.1 .i64 (c3.getD default).2.2.2.2.2.2.2.2.1])), (5, .mem true 3 (some 0) (.flat [.ints (c3.getD default).2.2.2.2.2.2.2.2.2.1 .i64 (c3.getD default).2.2.2.2.2.2.2.2.2.2])), (6, .mem true 64 none (.flat [.cs [.int .i64 (c3.getD default).1, .sl 3 0 (c3.getD default).2.1 1, .sl 4 0 (c3.getD default).2.2.1 1, .sl 5 0 (c3.getD default).2.2.2.1 1]]))], 7⟩) hl (To.mk' [] 0 hε rfl (by repeat' first | exact True.intro | exact rfl | apply And.intro) (by repeat' first | exact True.intro | exact rfl | apply And.intro)) (fun s1 zs1 NNs1 hz hnexts1 houts1 => ?_)
      clear hl hT
      have hT := hz; clear hz
      refine rSeq ?_
      refine zReg md0 hX rfl rfl rfl ?_
      refine rThen ?_
      refine rSeq ?_
      refine zCond rfl rfl (fun hc => ?_) (fun hc => ?_)
      · replace hT := sT hc hT
        refine rSkip ?_
        refine rThen ?_
        refine rSeq ?_
        refine rBlock ?_
        refine rSeq ?_
        replace hT := sIf hT; obtain ⟨⟨o1, o2⟩, hT⟩ := hT
        refine zReg md0 hX rfl rfl rfl ?_
        refine rThen ?_
        let x4 := (s1.2.set (s1.1).toNat (((a2.getD 0 []).getD (s1.1).toNat 0) - ((a4.getD 0 []).getD (s1.1).toNat 0)))
        replace hT := sIf hT; obtain ⟨⟨o1, o2, o3, o4, o5, o6, o7⟩, hT⟩ := hT
        refine zDraw md0 1 [17] hX mixed rfl rfl rfl rfl rfl ?_
        refine rInNormal ?_
        refine rThen ?_
        replace hT := sIf hT; obtain ⟨o1, hT⟩ := hT
        refine zReg md0 hX rfl rfl rfl ?_
        exact hnexts1 _ (Option.some.inj hT).symm _ (To.mk' [] 0 hε rfl (by repeat' first | exact True.intro | exact rfl | apply And.intro) (by repeat' first | exact True.intro | exact rfl | apply And.intro))
      · replace hT := sF hc hT
        refine rExit ?_
        refine rThenExit ?_
        refine rThenExit ?_
        exact zTo [] 0 hε (hxs10 _ (houts1 _ (Option.some.inj hT).symm))
  · cases h
def stores_Right_b2 (N : Nat) (a2 : (List (List Int))) (s1 : (Bool × Int)) (s2 : (Bool × Int)) : Option ((Bool × Int) ⊕ (Bool × Int × Bool)) :=
  bif (decide (s2.2 < ((a2.getD (s1.2).toNat []).length : Int))) then
    if (0 : Int) ≤ s2.2 ∧ s2.2 < ((a2.getD (s1.2).toNat []).length : Int) then
      let x3 := (bif (bif s2.1 then (decide (((-255) : Int) ≤ ((a2.getD (s1.2).toNat []).getD (s2.2).toNat 0))) else false) then (decide (((a2.getD (s1.2).toNat []).getD (s2.2).toNat 0) ≤ 255)) else false)
      if inK .i64 (s2.2 + 1) then
        some (.inl (x3, (s2.2 + 1)))
      else none
    else none
  else
    some (.inr (s2.1, s2.2, (decide (s2.2 < ((a2.getD (s1.2).toNat []).length : Int)))))
def stores_Right_b1 (N : Nat) (a1 : Int) (a2 : (List (List Int))) (s1 : (Bool × Int)) : Option ((Bool × Int) ⊕ Bool) :=
  bif (decide (s1.2 < 3)) then
    if (0 : Int) ≤ s1.2 ∧ s1.2 < 3 ∧ (s1.2).toNat < 3 then
      let c2 := (formats_Plane N a1 s1.2)
      if c2.isSome = true then
        let x1 := (bif s1.1 then (decide (((a2.getD (s1.2).toNat []).length : Int) = ((c2.getD default).1 * (c2.getD default).2))) else false)
        if (s1.1 = true → inK .i64 ((c2.getD default).1 * (c2.getD default).2)) then
          (iter (stores_Right_b2 N a2 s1) N (x1, 0)).bind fun v2 =>
            if inK .i64 (s1.2 + 1) then
              some (.inl (v2.1, (s1.2 + 1)))
            else none
        else none
      else none
    else none
  else
    some (.inr s1.1)
def stores_Right (N : Nat) (a1 : Int) (a2 : (List (List Int))) : Option Bool :=
  let c1 := (formats_Size N a1)
  if c1.isSome = true then
    (iter (stores_Right_b1 N a1 a2) N ((c1.getD default).2.2, 0)).bind fun v1 =>
      some v1
  else none
def sp_stores_Right (N : Nat) : X.Spec := fun args lk => match args with
  | [.v (.agg [.cs [.int .i64 a1], .fzs 3 (.int .i64) a2])] => some ⟨(stores_Right N a1 a2).isSome = true, .v (.c (.bool ((stores_Right N a1 a2).getD default))), [], []⟩
  | _ => none
set_option maxRecDepth 100000 in
set_option maxHeartbeats 1000000 in
theorem ok_stores_Right (N : Nat) : FnOK Try.prog gt0 35 (sp_stores_Right N) := by
  refine fnOK_handed Try.func35 rfl (by kernel_rfl) tt_ok (ktCons (ok_formats_Plane N) (ktCons (ok_formats_Size N) (ktNil))) ?_
  intro args lk r h hp
  unfold sp_stores_Right at h
  split at h
  · rename_i a1 a2
    change (List (List Int)) at a2
    cases h
    obtain ⟨x, hx⟩ := Option.isSome_iff_exists.1 hp
    simp only [hx, Option.getD_some]
    refine hand0 rfl rfl (fun w0 M ε0 hX => ?_)
    refine rCount (fun hε => ?_)
    have hT : stores_Right N a1 a2 = some x := hx; clear hx hp; unfold stores_Right at hT
    refine rSeq ?_
    refine zReg md0 hX rfl rfl rfl ?_
    refine rThen ?_
    refine rSeq ?_
    let c1 := (formats_Size N a1)
    replace hT := sIf hT; obtain ⟨o1, hT⟩ := hT
    refine zReg md0 hX rfl rfl rfl ?_
    refine rThen ?_
    refine rSeq ?_
    refine rSeq ?_
    refine zReg md0 hX rfl rfl rfl ?_
    refine rThen ?_
    refine rBlock ?_
    replace hT := sBind hT; obtain ⟨w1, hl, hT⟩ := hT
    refine rJoinA (fun v1 => v1 = w1) (fun v1 => ⟨[(2, .v (.c (.bool false))), (5, .v (.c (.bool v1)))], [], 1⟩) (.exit 0) (fun v1 hv => ?_) (fun hxs10 => ?_)
    · subst hv; clear hl
      refine rInHit ?_
      refine rThen ?_
      refine rSeq ?_
      refine zReg md0 hX rfl rfl rfl ?_
      refine rThen ?_
      refine rRet ?_
      have hy := Option.some.inj hT; subst hy
      exact zEnd0 hX rfl
    refine rLoopM (stores_Right_b1 N a1 a2) (fun s1 => ⟨[(1, .v (.c (.ptr 0 0 0 0 0 0))), (2, .v (.c (.bool false))), (5, .v (.c (.bool s1.1))), (20, .v (.agg [.fzs 3 (.int .i64) a2])), (21, .v (.c (.int .i64 s1.2)))], [(0, .mem true 64 none (.flat [.cs [.int .i64 a1], .fzs 3 (.int .i64) a2]))], 1⟩) hl (To.mk' [] 0 hε rfl (by repeat' first | exact True.intro | exact rfl | apply And.intro) (by repeat' first | exact True.intro | exact rfl | apply And.intro)) (fun s1 zs1 NNs1 hz hnexts1 houts1 => ?_)
    clear hl hT
    have hT := hz; clear hz
    refine rSeq ?_
    refine zReg md0 hX rfl rfl rfl ?_
    refine rThen ?_
    refine rSeq ?_
    refine zCond rfl rfl (fun hc => ?_) (fun hc => ?_)
    · replace hT := sT hc hT
      refine rSkip ?_
      refine rThen ?_
      refine rSeq ?_
      refine rBlock ?_
      refine rSeq ?_
      replace hT := sIf hT; obtain ⟨⟨o1, o2, o3⟩, hT⟩ := hT
      refine zReg md0 hX rfl rfl rfl ?_
      refine rThen ?_
      refine rSeq ?_
      let c2 := (formats_Plane N a1 s1.2)
      replace hT := sIf hT; obtain ⟨o1, hT⟩ := hT
      refine zReg md0 hX rfl rfl rfl ?_
      refine rThen ?_
      refine rSeq ?_
      let x1 := (bif s1.1 then (decide (((a2.getD (s1.2).toNat []).length : Int) = ((c2.getD default).1 * (c2.getD default).2))) else false)
      replace hT := sIf hT; obtain ⟨o1, hT⟩ := hT
      refine rRegC md0 hX rfl rfl rfl (by (repeat' first | exact True.intro | with_reducible assumption | (with_reducible apply And.intro) | intro _) <;> first | assumption | exact o1 (by assumption) | exact rfl | omega | exact Nat.le_of_ble_eq_true rfl | exact selF (by assumption) | exact selT (by assumption) | exact And.intro rfl rfl | exact And.intro (by assumption) rfl | exact And.intro (by omega) rfl | (simp only [inK] at *; omega) | (simp_all [sel] <;> fail) | fail) ?_
      refine rThen ?_
      refine rSeq ?_
      refine zReg md0 hX rfl rfl rfl ?_
      refine rThen ?_
      refine rBlock ?_
      replace hT := sBind hT; obtain ⟨w2, hl, hT⟩ := hT
      refine rJoinA (fun v2 => v2 = w2) (fun v2 => ⟨[(1, .v (.c (.ptr 0 0 0 0 0 0))), (2, .v (.c (.bool false))), (5, .v (.c (.bool v2.1))), (6, .v (.c (.int .i64 s1.2))), (7, .v (.c (.fz (.int .i64) (a2.getD (s1.2).toNat [])))), (8, .v (.c (.int .i64 (c2.getD default).1))), (9, .v (.c (.int .i64 (c2.getD default).2))), (20, .v (.agg [.fzs 3 (.int .i64) a2])), (21, .v (.c (.int .i64 s1.2))), (22, .v (.c (.bool (decide (s1.2 < 3))))), (23, .v (.c (.int .i64 s1.2))), (24, .v (.c (.fz (.int .i64) (a2.getD (s1.2).toNat [])))), (25, .tup [.c (.int .i64 (c2.getD default).1), .c (.int .i64 (c2.getD default).2)]), (26, .v (.c (.ptr 0 0 0 0 0 0))), (27, .v (.c (.int .i64 a1))), (28, .v (.c (.int .i64 s1.2))), (29, .tup [.c (.int .i64 (c2.getD default).1), .c (.int .i64 (c2.getD default).2)]), (30, .v (.c (.int .i64 (c2.getD default).1))), (31, .v (.c (.int .i64 (c2.getD default).2))), (32, .v (.c (.bool s1.1))), (33, .v (.c (.bool s1.1))), (40, .v (.c (.bool x1))), (41, .v (.c (.fz (.int .i64) (a2.getD (s1.2).toNat [])))), (42, .v (.c (.int .i64 ((a2.getD (s1.2).toNat []).length : Int)))), (43, .v (.c (.int .i64 v2.2.1))), (44, .v (.c (.bool v2.2.2)))], [(0, .mem true 64 none (.flat [.cs [.int .i64 a1], .fzs 3 (.int .i64) a2]))], 1⟩) (.exit 2) (fun v2 hv => ?_) (fun hxs20 => ?_)
      · subst hv; clear hl
        refine rInHit ?_
        refine rInNormal ?_
        refine rThen ?_
        replace hT := sIf hT; obtain ⟨o1, hT⟩ := hT
        refine zReg md0 hX rfl rfl rfl ?_
        exact hnexts1 _ (Option.some.inj hT).symm _ (To.mk' [] 0 hε rfl (by repeat' first | exact True.intro | exact rfl | apply And.intro) (by repeat' first | exact True.intro | exact rfl | apply And.intro))
      refine rLoopM (stores_Right_b2 N a2 s1) (fun s2 => ⟨[(1, .v (.c (.ptr 0 0 0 0 0 0))), (2, .v (.c (.bool false))), (5, .v (.c (.bool s2.1))), (6, .v (.c (.int .i64 s1.2))), (7, .v (.c (.fz (.int .i64) (a2.getD (s1.2).toNat [])))), (8, .v (.c (.int .i64 (c2.getD default).1))), (9, .v (.c (.int .i64 (c2.getD default).2))), (20, .v (.agg [.fzs 3 (.int .i64) a2])), (21, .v (.c (.int .i64 s1.2))), (22, .v (.c (.bool (decide (s1.2 < 3))))), (23, .v (.c (.int .i64 s1.2))), (24, .v (.c (.fz (.int .i64) (a2.getD (s1.2).toNat [])))), (25, .tup [.c (.int .i64 (c2.getD default).1), .c (.int .i64 (c2.getD default).2)]), (26, .v (.c (.ptr 0 0 0 0 0 0))), (27, .v (.c (.int .i64 a1))), (28, .v (.c (.int .i64 s1.2))), (29, .tup [.c (.int .i64 (c2.getD default).1), .c (.int .i64 (c2.getD default).2)]), (30, .v (.c (.int .i64 (c2.getD default).1))), (31, .v (.c (.int .i64 (c2.getD default).2))), (32, .v (.c (.bool s1.1))), (33, .v (.c (.bool s1.1))), (40, .v (.c (.bool x1))), (41, .v (.c (.fz (.int .i64) (a2.getD (s1.2).toNat [])))), (42, .v (.c (.int .i64 ((a2.getD (s1.2).toNat []).length : Int)))), (43, .v (.c (.int .i64 s2.2)))], [(0, .mem true 64 none (.flat [.cs [.int .i64 a1], .fzs 3 (.int .i64) a2]))], 1⟩) hl (To.mk' [] 0 hε rfl (by repeat' first | exact True.intro | exact rfl | apply And.intro) (by repeat' first | exact True.intro | exact rfl | apply And.intro)) (fun s2 zs2 NNs2 hz hnexts2 houts2 => ?_)
      clear hl hT
      have hT := hz; clear hz
      refine rSeq ?_
      refine zReg md0 hX rfl rfl rfl ?_
      refine rThen ?_
      refine rSeq ?_
      refine zCond rfl rfl (fun hc => ?_) (fun hc => ?_)
      · replace hT := sT hc hT
        refine rSkip ?_
        refine rThen ?_
        refine rSeq ?_
        refine rBlock ?_
        refine rSeq ?_
        replace hT := sIf hT; obtain ⟨⟨o1, o2⟩, hT⟩ := hT
        refine zReg md0 hX rfl rfl rfl ?_
        refine rThen ?_
        let x3 := (bif (bif s2.1 then (decide (((-255) : Int) ≤ ((a2.getD (s1.2).toNat []).getD (s2.2).toNat 0))) else false) then (decide (((a2.getD (s1.2).toNat []).getD (s2.2).toNat 0) ≤ 255)) else false)
        refine zReg md0 hX rfl rfl rfl ?_
        refine rInNormal ?_
        refine rThen ?_
        replace hT := sIf hT; obtain ⟨o1, hT⟩ := hT
        refine zReg md0 hX rfl rfl rfl ?_
        exact hnexts2 _ (Option.some.inj hT).symm _ (To.mk' [] 0 hε rfl (by repeat' first | exact True.intro | exact rfl | apply And.intro) (by repeat' first | exact True.intro | exact rfl | apply And.intro))
      · replace hT := sF hc hT
        refine rExit ?_
        refine rThenExit ?_
        refine rThenExit ?_
        exact zTo [] 0 hε (hxs20 _ (houts2 _ (Option.some.inj hT).symm))
    · replace hT := sF hc hT
      refine rExit ?_
      refine rThenExit ?_
      refine rThenExit ?_
      exact zTo [] 0 hε (hxs10 _ (houts1 _ (Option.some.inj hT).symm))
  · cases h
def stores_Weight_b2 (N : Nat) (a2 : (List (List Int))) (s1 : (Int × Int)) (s2 : (Int × Int)) : Option ((Int × Int) ⊕ (Int × Int × Bool)) :=
  bif (decide (s2.2 < ((a2.getD (s1.2).toNat []).length : Int))) then
    if (0 : Int) ≤ s2.2 ∧ s2.2 < ((a2.getD (s1.2).toNat []).length : Int) then
      let x1 := (s2.1 + (max ((a2.getD (s1.2).toNat []).getD (s2.2).toNat 0) (-((a2.getD (s1.2).toNat []).getD (s2.2).toNat 0))))
      if inK .i64 (-((a2.getD (s1.2).toNat []).getD (s2.2).toNat 0)) ∧ inK .i64 (s2.1 + (max ((a2.getD (s1.2).toNat []).getD (s2.2).toNat 0) (-((a2.getD (s1.2).toNat []).getD (s2.2).toNat 0)))) then
        if inK .i64 (s2.2 + 1) then
          some (.inl (x1, (s2.2 + 1)))
        else none
      else none
    else none
  else
    some (.inr (s2.1, s2.2, (decide (s2.2 < ((a2.getD (s1.2).toNat []).length : Int)))))
def stores_Weight_b1 (N : Nat) (a2 : (List (List Int))) (s1 : (Int × Int)) : Option ((Int × Int) ⊕ Int) :=
  bif (decide (s1.2 < 3)) then
    if (0 : Int) ≤ s1.2 ∧ s1.2 < 3 ∧ (s1.2).toNat < 3 then
      (iter (stores_Weight_b2 N a2 s1) N (s1.1, 0)).bind fun v2 =>
        if inK .i64 (s1.2 + 1) then
          some (.inl (v2.1, (s1.2 + 1)))
        else none
    else none
  else
    some (.inr s1.1)
def stores_Weight (N : Nat) (a1 : Int) (a2 : (List (List Int))) : Option Int :=
  let c1 := (stores_Right N a1 a2)
  if c1.isSome = true then
    bif (!(c1.getD default)) then
      some 0
    else
      (iter (stores_Weight_b1 N a2) N (0, 0)).bind fun v1 =>
        some v1
  else none
def sp_stores_Weight (N : Nat) : X.Spec := fun args lk => match args with
  | [.v (.agg [.cs [.int .i64 a1], .fzs 3 (.int .i64) a2])] => some ⟨(stores_Weight N a1 a2).isSome = true, .v (.c (.int .i64 ((stores_Weight N a1 a2).getD default))), [], []⟩
  | _ => none
set_option maxRecDepth 100000 in
set_option maxHeartbeats 1000000 in
theorem ok_stores_Weight (N : Nat) : FnOK Try.prog gt0 36 (sp_stores_Weight N) := by
  refine fnOK_handed Try.func36 rfl (by kernel_rfl) tt_ok (ktCons (ok_stores_Right N) (ktNil)) ?_
  intro args lk r h hp
  unfold sp_stores_Weight at h
  split at h
  · rename_i a1 a2
    change (List (List Int)) at a2
    cases h
    obtain ⟨x, hx⟩ := Option.isSome_iff_exists.1 hp
    simp only [hx, Option.getD_some]
    refine hand0 rfl rfl (fun w0 M ε0 hX => ?_)
    refine rCount (fun hε => ?_)
    have hT : stores_Weight N a1 a2 = some x := hx; clear hx hp; unfold stores_Weight at hT
    refine rSeq ?_
    refine zReg md0 hX rfl rfl rfl ?_
    refine rThen ?_
    refine rSeq ?_
    refine rSeq ?_
    let c1 := (stores_Right N a1 a2)
    replace hT := sIf hT; obtain ⟨o1, hT⟩ := hT
    refine zReg md0 hX rfl rfl rfl ?_
    refine rThen ?_
    refine zCond rfl rfl (fun hc => ?_) (fun hc => ?_)
    · replace hT := sT hc hT
      refine rSeq ?_
      refine zReg md0 hX rfl rfl rfl ?_
      refine rThen ?_
      refine rRet ?_
      refine rThenRet ?_
      have hy := Option.some.inj hT; subst hy
      exact zEnd0 hX rfl
    · replace hT := sF hc hT
      refine rSkip ?_
      refine rThen ?_
      refine rSeq ?_
      refine zReg md0 hX rfl rfl rfl ?_
      refine rThen ?_
      refine rSeq ?_
      refine rSeq ?_
      refine zReg md0 hX rfl rfl rfl ?_
      refine rThen ?_
      refine rBlock ?_
      replace hT := sBind hT; obtain ⟨w1, hl, hT⟩ := hT
      refine rJoinA (fun v1 => v1 = w1) (fun v1 => ⟨[(2, .v (.c (.int .i64 0))), (3, .v (.c (.int .i64 v1)))], [], 1⟩) (.exit 0) (fun v1 hv => ?_) (fun hxs10 => ?_)
      · subst hv; clear hl
        refine rInHit ?_
        refine rThen ?_
        refine rSeq ?_
        refine zReg md0 hX rfl rfl rfl ?_
        refine rThen ?_
        refine rRet ?_
        have hy := Option.some.inj hT; subst hy
        exact zEnd0 hX rfl
      refine rLoopM (stores_Weight_b1 N a2) (fun s1 => ⟨[(2, .v (.c (.int .i64 0))), (3, .v (.c (.int .i64 s1.1))), (12, .v (.agg [.fzs 3 (.int .i64) a2])), (13, .v (.c (.int .i64 s1.2)))], [], 1⟩) hl (To.mk' [] 0 hε rfl (by repeat' first | exact True.intro | exact rfl | apply And.intro) (by repeat' first | exact True.intro | exact rfl | apply And.intro)) (fun s1 zs1 NNs1 hz hnexts1 houts1 => ?_)
      clear hl hT
      have hT := hz; clear hz
      refine rSeq ?_
      refine zReg md0 hX rfl rfl rfl ?_
      refine rThen ?_
      refine rSeq ?_
      refine zCond rfl rfl (fun hc => ?_) (fun hc => ?_)
      · replace hT := sT hc hT
        refine rSkip ?_
        refine rThen ?_
        refine rSeq ?_
        refine rBlock ?_
        refine rSeq ?_
        replace hT := sIf hT; obtain ⟨⟨o1, o2, o3⟩, hT⟩ := hT
        refine zReg md0 hX rfl rfl rfl ?_
        refine rThen ?_
        refine rSeq ?_
        refine zReg md0 hX rfl rfl rfl ?_
        refine rThen ?_
        refine rBlock ?_
        replace hT := sBind hT; obtain ⟨w2, hl, hT⟩ := hT
        refine rJoinA (fun v2 => v2 = w2) (fun v2 => ⟨[(2, .v (.c (.int .i64 0))), (3, .v (.c (.int .i64 v2.1))), (5, .v (.c (.fz (.int .i64) (a2.getD (s1.2).toNat [])))), (12, .v (.agg [.fzs 3 (.int .i64) a2])), (13, .v (.c (.int .i64 s1.2))), (14, .v (.c (.bool (decide (s1.2 < 3))))), (15, .v (.c (.fz (.int .i64) (a2.getD (s1.2).toNat [])))), (16, .v (.c (.fz (.int .i64) (a2.getD (s1.2).toNat [])))), (17, .v (.c (.int .i64 ((a2.getD (s1.2).toNat []).length : Int)))), (18, .v (.c (.int .i64 v2.2.1))), (19, .v (.c (.bool v2.2.2)))], [], 1⟩) (.exit 2) (fun v2 hv => ?_) (fun hxs20 => ?_)
        · subst hv; clear hl
          refine rInHit ?_
          refine rInNormal ?_
          refine rThen ?_
          replace hT := sIf hT; obtain ⟨o1, hT⟩ := hT
          refine zReg md0 hX rfl rfl rfl ?_
          exact hnexts1 _ (Option.some.inj hT).symm _ (To.mk' [] 0 hε rfl (by repeat' first | exact True.intro | exact rfl | apply And.intro) (by repeat' first | exact True.intro | exact rfl | apply And.intro))
        refine rLoopM (stores_Weight_b2 N a2 s1) (fun s2 => ⟨[(2, .v (.c (.int .i64 0))), (3, .v (.c (.int .i64 s2.1))), (5, .v (.c (.fz (.int .i64) (a2.getD (s1.2).toNat [])))), (12, .v (.agg [.fzs 3 (.int .i64) a2])), (13, .v (.c (.int .i64 s1.2))), (14, .v (.c (.bool (decide (s1.2 < 3))))), (15, .v (.c (.fz (.int .i64) (a2.getD (s1.2).toNat [])))), (16, .v (.c (.fz (.int .i64) (a2.getD (s1.2).toNat [])))), (17, .v (.c (.int .i64 ((a2.getD (s1.2).toNat []).length : Int)))), (18, .v (.c (.int .i64 s2.2)))], [], 1⟩) hl (To.mk' [] 0 hε rfl (by repeat' first | exact True.intro | exact rfl | apply And.intro) (by repeat' first | exact True.intro | exact rfl | apply And.intro)) (fun s2 zs2 NNs2 hz hnexts2 houts2 => ?_)
        clear hl hT
        have hT := hz; clear hz
        refine rSeq ?_
        refine zReg md0 hX rfl rfl rfl ?_
        refine rThen ?_
        refine rSeq ?_
        refine zCond rfl rfl (fun hc => ?_) (fun hc => ?_)
        · replace hT := sT hc hT
          refine rSkip ?_
          refine rThen ?_
          refine rSeq ?_
          refine rBlock ?_
          refine rSeq ?_
          replace hT := sIf hT; obtain ⟨⟨o1, o2⟩, hT⟩ := hT
          refine zReg md0 hX rfl rfl rfl ?_
          refine rThen ?_
          let x1 := (s2.1 + (max ((a2.getD (s1.2).toNat []).getD (s2.2).toNat 0) (-((a2.getD (s1.2).toNat []).getD (s2.2).toNat 0))))
          replace hT := sIf hT; obtain ⟨⟨o1, o2⟩, hT⟩ := hT
          refine zReg md0 hX rfl rfl rfl ?_
          refine rInNormal ?_
          refine rThen ?_
          replace hT := sIf hT; obtain ⟨o1, hT⟩ := hT
          refine zReg md0 hX rfl rfl rfl ?_
          exact hnexts2 _ (Option.some.inj hT).symm _ (To.mk' [] 0 hε rfl (by repeat' first | exact True.intro | exact rfl | apply And.intro) (by repeat' first | exact True.intro | exact rfl | apply And.intro))
        · replace hT := sF hc hT
          refine rExit ?_
          refine rThenExit ?_
          refine rThenExit ?_
          exact zTo [] 0 hε (hxs20 _ (houts2 _ (Option.some.inj hT).symm))
      · replace hT := sF hc hT
        refine rExit ?_
        refine rThenExit ?_
        refine rThenExit ?_
        exact zTo [] 0 hε (hxs10 _ (houts1 _ (Option.some.inj hT).symm))
  · cases h
def law34_lives (N : Nat) : Option Bool :=
  let c1 := (planes_New N 6 10)
  if c1.isSome = true then
    let c2 := (planes_New N 6 14)
    if c2.isSome = true then
      let c3 := (stores_Diff N (c1.getD default).1 (c1.getD default).2.1 (c2.getD default).1 (c2.getD default).2.1)
      if c3.isSome = true then
        let c4 := (stores_Weight N (c3.getD default).1 (c3.getD default).2.1)
        let c5 := (stores_Right N (c3.getD default).1 (c3.getD default).2.1)
        let x1 := (bif (bif (bif (bif (decide ((c3.getD default).2.2 = 0)) then (decide ((((c3.getD default).2.1.getD 0 []).length : Int) = 1024)) else false) then (decide ((((c3.getD default).2.1.getD 2 []).getD 0 0) = (-4))) else false) then (decide ((c4.getD default) = 6144)) else false) then (c5.getD default) else false)
        if ((bif (decide ((c3.getD default).2.2 = 0)) then (decide ((((c3.getD default).2.1.getD 0 []).length : Int) = 1024)) else false) = true → (0 : Int) < (((c3.getD default).2.1.getD 2 []).length : Int)) ∧ ((bif (bif (decide ((c3.getD default).2.2 = 0)) then (decide ((((c3.getD default).2.1.getD 0 []).length : Int) = 1024)) else false) then (decide ((((c3.getD default).2.1.getD 2 []).getD 0 0) = (-4))) else false) = true → c4.isSome = true) ∧ ((bif (bif (bif (decide ((c3.getD default).2.2 = 0)) then (decide ((((c3.getD default).2.1.getD 0 []).length : Int) = 1024)) else false) then (decide ((((c3.getD default).2.1.getD 2 []).getD 0 0) = (-4))) else false) then (decide ((c4.getD default) = 6144)) else false) = true → c5.isSome = true) then
          some x1
        else none
      else none
    else none
  else none
def sp_law34_lives (N : Nat) : X.Spec := fun args lk => match args with
  | [] => some ⟨(law34_lives N).isSome = true, .v (.c (.bool ((law34_lives N).getD default))), [], []⟩
  | _ => none
set_option maxRecDepth 100000 in
set_option maxHeartbeats 1000000 in
theorem ok_law34_lives (N : Nat) : FnOK Try.prog gt0 32 (sp_law34_lives N) := by
  refine fnOK_handed Try.func32 rfl (by kernel_rfl) tt_ok (ktCons (ok_stores_Right N) (ktCons (ok_stores_Weight N) (ktCons (ok_stores_Diff N) (ktCons (ok_planes_New N) (ktNil))))) ?_
  intro args lk r h hp
  unfold sp_law34_lives at h
  split at h
  · skip
    cases h
    obtain ⟨x, hx⟩ := Option.isSome_iff_exists.1 hp
    simp only [hx, Option.getD_some]
    refine hand0 rfl rfl (fun w0 M ε0 hX => ?_)
    refine rCount (fun hε => ?_)
    have hT : law34_lives N = some x := hx; clear hx hp; unfold law34_lives at hT
    refine rSeq ?_
    refine zReg md0 hX rfl rfl rfl ?_
    refine rThen ?_
    refine rSeq ?_
    let c1 := (planes_New N 6 10)
    replace hT := sIf hT; obtain ⟨o1, hT⟩ := hT
    refine zReg md0 hX rfl rfl rfl ?_
    refine rThen ?_
    refine rSeq ?_
    let c2 := (planes_New N 6 14)
    replace hT := sIf hT; obtain ⟨o1, hT⟩ := hT
    refine zReg md0 hX rfl rfl rfl ?_
    refine rThen ?_
    refine rSeq ?_
    let c3 := (stores_Diff N (c1.getD default).1 (c1.getD default).2.1 (c2.getD default).1 (c2.getD default).2.1)
    replace hT := sIf hT; obtain ⟨o1, hT⟩ := hT
    refine zReg md0 hX rfl rfl rfl ?_
    refine rThen ?_
    refine rSeq ?_
    let c4 := (stores_Weight N (c3.getD default).1 (c3.getD default).2.1)
    let c5 := (stores_Right N (c3.getD default).1 (c3.getD default).2.1)
    let x1 := (bif (bif (bif (bif (decide ((c3.getD default).2.2 = 0)) then (decide ((((c3.getD default).2.1.getD 0 []).length : Int) = 1024)) else false) then (decide ((((c3.getD default).2.1.getD 2 []).getD 0 0) = (-4))) else false) then (decide ((c4.getD default) = 6144)) else false) then (c5.getD default) else false)
    replace hT := sIf hT; obtain ⟨⟨o1, o2, o3⟩, hT⟩ := hT
    refine rRegC md0 hX rfl rfl rfl (by (repeat' first | exact True.intro | with_reducible assumption | (with_reducible apply And.intro) | intro _) <;> first | assumption | exact o1 (by assumption) | exact o2 (by assumption) | exact o3 (by assumption) | exact rfl | omega | exact Nat.le_of_ble_eq_true rfl | exact selF (by assumption) | exact selT (by assumption) | exact And.intro rfl rfl | exact And.intro (by assumption) rfl | exact And.intro (by omega) rfl | (simp only [inK] at *; omega) | (simp_all [sel] <;> fail) | fail) ?_
    refine rThen ?_
    refine rRet ?_
    have hy := Option.some.inj hT; subst hy
    exact zEnd0 hX rfl
  · cases h
def planes_New_own (N : Nat) (a1 : Int) (a2 : Int) : Option (Int × Nat × Nat × Nat × Int × Nat × (List Int) × Nat × (List Int) × Nat × (List Int)) :=
  let c1 := (formats_Size N a1)
  if c1.isSome = true then
    bif (!(c1.getD default).2.2) then
      some (0, 0, 0, 0, 1, 0, [], 0, [], 0, [])
    else
      let c2 := (formats_Plane N a1 0)
      if c2.isSome = true then
        let c3 := (whole_Clip N a2 0 255)
        let c4 := (rep N 1 ((c2.getD default).1 * (c2.getD default).2) ((List.replicate 1 0).set 0 (c3.getD default)))
        if c3.isSome = true ∧ inK .u8 (c3.getD default) ∧ inK .i64 ((c2.getD default).1 * (c2.getD default).2) ∧ c4.isSome = true then
          let c5 := (formats_Plane N a1 1)
          if c5.isSome = true then
            let c6 := (whole_Clip N a2 0 255)
            let c7 := (rep N 1 ((c5.getD default).1 * (c5.getD default).2) ((List.replicate 1 0).set 0 (c6.getD default)))
            if c6.isSome = true ∧ inK .u8 (c6.getD default) ∧ inK .i64 ((c5.getD default).1 * (c5.getD default).2) ∧ c7.isSome = true then
              let c8 := (formats_Plane N a1 2)
              if c8.isSome = true then
                let c9 := (whole_Clip N a2 0 255)
                let c10 := (rep N 1 ((c8.getD default).1 * (c8.getD default).2) ((List.replicate 1 0).set 0 (c9.getD default)))
                if c9.isSome = true ∧ inK .u8 (c9.getD default) ∧ inK .i64 ((c8.getD default).1 * (c8.getD default).2) ∧ c10.isSome = true then
                  some (a1, (c4.getD default).1, (c7.getD default).1, (c10.getD default).1, 0, (c4.getD default).2.1, (c4.getD default).2.2, (c7.getD default).2.1, (c7.getD default).2.2, (c10.getD default).2.1, (c10.getD default).2.2)
                else none
              else none
            else none
          else none
        else none
      else none
  else none
def sp_planes_New_own (N : Nat) : X.Spec := fun args lk => match args with
  | [.v (.c (.int .i64 a1)), .v (.c (.int .i64 a2))] => some ⟨(planes_New_own N a1 a2).isSome = true, .tup [.agg [.cs [.int .i64 ((planes_New_own N a1 a2).getD default).1, .sl 0 0 ((planes_New_own N a1 a2).getD default).2.1 1, .sl 1 0 ((planes_New_own N a1 a2).getD default).2.2.1 1, .sl 2 0 ((planes_New_own N a1 a2).getD default).2.2.2.1 1]], .c (.int .i64 ((planes_New_own N a1 a2).getD default).2.2.2.2.1)], [.mem true 5 (some 0) (.flat [.ints ((planes_New_own N a1 a2).getD default).2.2.2.2.2.1 .u8 ((planes_New_own N a1 a2).getD default).2.2.2.2.2.2.1]), .mem true 5 (some 0) (.flat [.ints ((planes_New_own N a1 a2).getD default).2.2.2.2.2.2.2.1 .u8 ((planes_New_own N a1 a2).getD default).2.2.2.2.2.2.2.2.1]), .mem true 5 (some 0) (.flat [.ints ((planes_New_own N a1 a2).getD default).2.2.2.2.2.2.2.2.2.1 .u8 ((planes_New_own N a1 a2).getD default).2.2.2.2.2.2.2.2.2.2])], []⟩
  | _ => none
set_option maxRecDepth 100000 in
set_option maxHeartbeats 1000000 in
theorem ok_planes_New_own (N : Nat) : FnOK Try.prog gt0 23 (sp_planes_New_own N) := by
  refine fnOK_handed Try.func23 rfl (by kernel_rfl) ttC_ok (ktCons (ok_rep N) (ktCons (ok_whole_Clip N) (ktCons (ok_formats_Plane N) (ktCons (ok_formats_Size N) (ktNil))))) ?_
  intro args lk r h hp
  unfold sp_planes_New_own at h
  split at h
  · rename_i a1 a2
    cases h
    obtain ⟨x, hx⟩ := Option.isSome_iff_exists.1 hp
    simp only [hx, Option.getD_some]
    refine hand0 rfl rfl (fun w0 M ε0 hX => ?_)
    refine rCount (fun hε => ?_)
    have hT : planes_New_own N a1 a2 = some x := hx; clear hx hp; unfold planes_New_own at hT
    refine rSeq ?_
    refine zReg md0 hX rfl rfl rfl ?_
    refine rThen ?_
    refine rSeq ?_
    refine rSeq ?_
    let c1 := (formats_Size N a1)
    replace hT := sIf hT; obtain ⟨o1, hT⟩ := hT
    refine zReg md0 hX rfl rfl rfl ?_
    refine rThen ?_
    refine rSeq ?_
    refine zReg md0 hX rfl rfl rfl ?_
    refine rThen ?_
    refine zCond rfl rfl (fun hc => ?_) (fun hc => ?_)
    · replace hT := sT hc hT
      refine rSeq ?_
      refine zReg md0 hX rfl rfl rfl ?_
      refine rThen ?_
      refine rRet ?_
      refine rThenRet ?_
      refine rNilQ 5 1 (.flat [.ints 0 .u8 []]) [(4, .v (.c (.ptr 0 0 0 0 0 0))), (5, .v (.c (.int .i64 1)))] [(0, .mem true 25 none (.flat [.cs [.int .i64 0, .sl 1 0 0 1, .val (.slice none 0 0), .val (.slice none 0 0)]]))] (nil_ints _) (by (repeat' first | exact True.intro | exact rfl | apply And.intro) <;> first | assumption | rfl) (by (repeat' first | exact True.intro | exact rfl | apply And.intro) <;> first | assumption | rfl) ?_
      refine rNilQ 5 1 (.flat [.ints 0 .u8 []]) [(4, .v (.c (.ptr 0 0 0 0 0 0))), (5, .v (.c (.int .i64 1)))] [(0, .mem true 25 none (.flat [.cs [.int .i64 0, .sl 1 0 0 1, .sl 2 0 0 1, .val (.slice none 0 0)]])), (1, .mem true 5 (some 1) (.flat [.ints 0 .u8 []]))] (nil_ints _) (by (repeat' first | exact True.intro | exact rfl | apply And.intro) <;> first | assumption | rfl) (by (repeat' first | exact True.intro | exact rfl | apply And.intro) <;> first | assumption | rfl) ?_
      refine rNilQ 5 1 (.flat [.ints 0 .u8 []]) [(4, .v (.c (.ptr 0 0 0 0 0 0))), (5, .v (.c (.int .i64 1)))] [(0, .mem true 25 none (.flat [.cs [.int .i64 0, .sl 1 0 0 1, .sl 2 0 0 1, .sl 3 0 0 1]])), (1, .mem true 5 (some 1) (.flat [.ints 0 .u8 []])), (2, .mem true 5 (some 1) (.flat [.ints 0 .u8 []]))] (nil_ints _) (by (repeat' first | exact True.intro | exact rfl | apply And.intro) <;> first | assumption | rfl) (by (repeat' first | exact True.intro | exact rfl | apply And.intro) <;> first | assumption | rfl) ?_
      refine rTail0Q 1 rfl rfl ?_
      refine rTail0Q 2 rfl rfl ?_
      refine rTail0Q 3 rfl rfl ?_
      have hy := Option.some.inj hT; subst hy
      exact rEndA [1, 2, 3] [.mem true 5 (some 0) (.flat [.ints 0 .u8 []]), .mem true 5 (some 0) (.flat [.ints 0 .u8 []]), .mem true 5 (some 0) (.flat [.ints 0 .u8 []])] [] (.tup [.agg [.cs [.int .i64 0, .sl 1 0 0 1, .sl 2 0 0 1, .sl 3 0 0 1]], .c (.int .i64 1)]) hX rfl (by repeat' first | exact True.intro | exact rfl | apply And.intro | omega | exact Nat.le_of_ble_eq_true rfl) (by repeat' first | exact True.intro | exact rfl | apply And.intro) rfl rfl rfl (by repeat' first | exact True.intro | exact rfl | exact ⟨_, rfl, rfl⟩ | apply And.intro | exact Or.inl rfl) rfl rfl (by repeat' first | exact True.intro | exact rfl | exact ⟨_, rfl, rfl⟩ | apply And.intro | exact Or.inl rfl) rfl rfl
    · replace hT := sF hc hT
      refine rSkip ?_
      refine rThen ?_
      refine rSeq ?_
      refine zReg md0 hX rfl rfl rfl ?_
      refine rThen ?_
      refine rSeq ?_
      refine rSeq ?_
      refine zReg md0 hX rfl rfl rfl ?_
      refine rThen ?_
      refine rBlock ?_
      refine rRounds 24 ?_
      refine rSeq ?_
      refine zReg md0 hX rfl rfl rfl ?_
      refine rThen ?_
      refine rSeq ?_
      refine rCondT rfl rfl (by (repeat' first | exact True.intro | with_reducible assumption | (with_reducible apply And.intro) | intro _) <;> first | assumption | exact rfl | omega | exact Nat.le_of_ble_eq_true rfl | exact selF (by assumption) | exact selT (by assumption) | exact And.intro rfl rfl | exact And.intro (by assumption) rfl | exact And.intro (by omega) rfl | (simp only [inK] at *; omega) | (simp_all [sel] <;> fail) | fail) rfl ?_
      refine rSkip ?_
      refine rThen ?_
      refine rSeq ?_
      refine rBlock ?_
      refine rSeq ?_
      refine zReg md0 hX rfl rfl rfl ?_
      refine rThen ?_
      refine rSeq ?_
      let c2 := (formats_Plane N a1 0)
      replace hT := sIf hT; obtain ⟨o1, hT⟩ := hT
      refine zReg md0 hX rfl rfl rfl ?_
      refine rThen ?_
      let c3 := (whole_Clip N a2 0 255)
      let c4 := (rep N 1 ((c2.getD default).1 * (c2.getD default).2) ((List.replicate 1 0).set 0 (c3.getD default)))
      replace hT := sIf hT; obtain ⟨⟨o1, o2, o3, o4⟩, hT⟩ := hT
      refine zReg md0 hX rfl rfl rfl ?_
      refine rInNormal ?_
      refine rThen ?_
      refine zReg md0 hX rfl rfl rfl ?_
      refine rRound ?_
      refine rSeq ?_
      refine zReg md0 hX rfl rfl rfl ?_
      refine rThen ?_
      refine rSeq ?_
      refine rCondT rfl rfl (by (repeat' first | exact True.intro | with_reducible assumption | (with_reducible apply And.intro) | intro _) <;> first | assumption | exact rfl | omega | exact Nat.le_of_ble_eq_true rfl | exact selF (by assumption) | exact selT (by assumption) | exact And.intro rfl rfl | exact And.intro (by assumption) rfl | exact And.intro (by omega) rfl | (simp only [inK] at *; omega) | (simp_all [sel] <;> fail) | fail) rfl ?_
      refine rSkip ?_
      refine rThen ?_
      refine rSeq ?_
      refine rBlock ?_
      refine rSeq ?_
      refine zReg md0 hX rfl rfl rfl ?_
      refine rThen ?_
      refine rSeq ?_
      let c5 := (formats_Plane N a1 1)
      replace hT := sIf hT; obtain ⟨o1, hT⟩ := hT
      refine zReg md0 hX rfl rfl rfl ?_
      refine rThen ?_
      let c6 := (whole_Clip N a2 0 255)
      let c7 := (rep N 1 ((c5.getD default).1 * (c5.getD default).2) ((List.replicate 1 0).set 0 (c6.getD default)))
      replace hT := sIf hT; obtain ⟨⟨o1, o2, o3, o4⟩, hT⟩ := hT
      refine zReg md0 hX rfl rfl rfl ?_
      refine rInNormal ?_
      refine rThen ?_
      refine zReg md0 hX rfl rfl rfl ?_
      refine rRound ?_
      refine rSeq ?_
      refine zReg md0 hX rfl rfl rfl ?_
      refine rThen ?_
      refine rSeq ?_
      refine rCondT rfl rfl (by (repeat' first | exact True.intro | with_reducible assumption | (with_reducible apply And.intro) | intro _) <;> first | assumption | exact rfl | omega | exact Nat.le_of_ble_eq_true rfl | exact selF (by assumption) | exact selT (by assumption) | exact And.intro rfl rfl | exact And.intro (by assumption) rfl | exact And.intro (by omega) rfl | (simp only [inK] at *; omega) | (simp_all [sel] <;> fail) | fail) rfl ?_
      refine rSkip ?_
      refine rThen ?_
      refine rSeq ?_
      refine rBlock ?_
      refine rSeq ?_
      refine zReg md0 hX rfl rfl rfl ?_
      refine rThen ?_
      refine rSeq ?_
      let c8 := (formats_Plane N a1 2)
      replace hT := sIf hT; obtain ⟨o1, hT⟩ := hT
      refine zReg md0 hX rfl rfl rfl ?_
      refine rThen ?_
      let c9 := (whole_Clip N a2 0 255)
      let c10 := (rep N 1 ((c8.getD default).1 * (c8.getD default).2) ((List.replicate 1 0).set 0 (c9.getD default)))
      replace hT := sIf hT; obtain ⟨⟨o1, o2, o3, o4⟩, hT⟩ := hT
      refine zReg md0 hX rfl rfl rfl ?_
      refine rInNormal ?_
      refine rThen ?_
      refine zReg md0 hX rfl rfl rfl ?_
      refine rRound ?_
      refine rSeq ?_
      refine zReg md0 hX rfl rfl rfl ?_
      refine rThen ?_
      refine rSeq ?_
      refine rCondF rfl rfl (by (repeat' first | exact True.intro | with_reducible assumption | (with_reducible apply And.intro) | intro _) <;> first | assumption | exact rfl | omega | exact Nat.le_of_ble_eq_true rfl | exact selF (by assumption) | exact selT (by assumption) | exact And.intro rfl rfl | exact And.intro (by assumption) rfl | exact And.intro (by omega) rfl | (simp only [inK] at *; omega) | (simp_all [sel] <;> fail) | fail) rfl ?_
      refine rExit ?_
      refine rThenExit ?_
      refine rThenExit ?_
      refine rInHit ?_
      refine rThen ?_
      refine rSeq ?_
      refine zReg md0 hX rfl rfl rfl ?_
      refine rThen ?_
      refine rRet ?_
      have hy := Option.some.inj hT; subst hy
      exact rEndA [3, 5, 7] [.mem true 5 (some 0) (.flat [.ints (c4.getD default).2.1 .u8 (c4.getD default).2.2]), .mem true 5 (some 0) (.flat [.ints (c7.getD default).2.1 .u8 (c7.getD default).2.2]), .mem true 5 (some 0) (.flat [.ints (c10.getD default).2.1 .u8 (c10.getD default).2.2])] [] (.tup [.agg [.cs [.int .i64 a1, .sl 3 0 (c4.getD default).1 1, .sl 5 0 (c7.getD default).1 1, .sl 7 0 (c10.getD default).1 1]], .c (.int .i64 0)]) hX rfl (by repeat' first | exact True.intro | exact rfl | apply And.intro | omega | exact Nat.le_of_ble_eq_true rfl) (by repeat' first | exact True.intro | exact rfl | apply And.intro) rfl rfl rfl (by repeat' first | exact True.intro | exact rfl | exact ⟨_, rfl, rfl⟩ | apply And.intro | exact Or.inl rfl) rfl rfl (by repeat' first | exact True.intro | exact rfl | exact ⟨_, rfl, rfl⟩ | apply And.intro | exact Or.inl rfl) rfl rfl
  · cases h
def stores_Add_b1 (N : Nat) (a2 : (List (List Int))) (a4 : (List (List Int))) (c3 : (Option (Int × Nat × Nat × Nat × Int × Nat × (List Int) × Nat × (List Int) × Nat × (List Int)))) (s3 : (Int × Bool × (List Int))) : Option ((Int × Bool × (List Int)) ⊕ (Int × Bool × (List Int))) :=
  bif (decide (s3.1 < ((a2.getD 2 []).length : Int))) then
    if (0 : Int) ≤ s3.1 ∧ s3.1 < ((a2.getD 2 []).length : Int) then
      let c4 := (whole_Clip N (((a2.getD 2 []).getD (s3.1).toNat 0) + ((a4.getD 2 []).getD (s3.1).toNat 0)) 0 255)
      if inK .i64 ((a2.getD 2 []).getD (s3.1).toNat 0) ∧ (0 : Int) ≤ s3.1 ∧ s3.1 < ((a4.getD 2 []).length : Int) ∧ inK .i64 (((a2.getD 2 []).getD (s3.1).toNat 0) + ((a4.getD 2 []).getD (s3.1).toNat 0)) ∧ c4.isSome = true ∧ inK .u8 (c4.getD default) ∧ s3.1 < ((c3.getD default).2.2.2.1 : Int) ∧ (s3.1).toNat < (c3.getD default).2.2.2.2.2.2.2.2.2.1 then
        if inK .i64 (s3.1 + 1) then
          some (.inl ((s3.1 + 1), (decide (s3.1 < ((a2.getD 2 []).length : Int))), (s3.2.2.set (s3.1).toNat (c4.getD default))))
        else none
      else none
    else none
  else
    some (.inr (s3.1, (decide (s3.1 < ((a2.getD 2 []).length : Int))), s3.2.2))
def stores_Add_b2 (N : Nat) (a2 : (List (List Int))) (a4 : (List (List Int))) (c3 : (Option (Int × Nat × Nat × Nat × Int × Nat × (List Int) × Nat × (List Int) × Nat × (List Int)))) (s2 : (Int × Bool × (List Int))) : Option ((Int × Bool × (List Int)) ⊕ (Int × Bool × (List Int))) :=
  bif (decide (s2.1 < ((a2.getD 1 []).length : Int))) then
    if (0 : Int) ≤ s2.1 ∧ s2.1 < ((a2.getD 1 []).length : Int) then
      let c5 := (whole_Clip N (((a2.getD 1 []).getD (s2.1).toNat 0) + ((a4.getD 1 []).getD (s2.1).toNat 0)) 0 255)
      if inK .i64 ((a2.getD 1 []).getD (s2.1).toNat 0) ∧ (0 : Int) ≤ s2.1 ∧ s2.1 < ((a4.getD 1 []).length : Int) ∧ inK .i64 (((a2.getD 1 []).getD (s2.1).toNat 0) + ((a4.getD 1 []).getD (s2.1).toNat 0)) ∧ c5.isSome = true ∧ inK .u8 (c5.getD default) ∧ s2.1 < ((c3.getD default).2.2.1 : Int) ∧ (s2.1).toNat < (c3.getD default).2.2.2.2.2.2.2.1 then
        if inK .i64 (s2.1 + 1) then
          some (.inl ((s2.1 + 1), (decide (s2.1 < ((a2.getD 1 []).length : Int))), (s2.2.2.set (s2.1).toNat (c5.getD default))))
        else none
      else none
    else none
  else
    some (.inr (s2.1, (decide (s2.1 < ((a2.getD 1 []).length : Int))), s2.2.2))
def stores_Add_b3 (N : Nat) (a2 : (List (List Int))) (a4 : (List (List Int))) (c3 : (Option (Int × Nat × Nat × Nat × Int × Nat × (List Int) × Nat × (List Int) × Nat × (List Int)))) (s1 : (Int × (List Int))) : Option ((Int × (List Int)) ⊕ (Int × Bool × (List Int))) :=
  bif (decide (s1.1 < ((a2.getD 0 []).length : Int))) then
    if (0 : Int) ≤ s1.1 ∧ s1.1 < ((a2.getD 0 []).length : Int) then
      let c6 := (whole_Clip N (((a2.getD 0 []).getD (s1.1).toNat 0) + ((a4.getD 0 []).getD (s1.1).toNat 0)) 0 255)
      if inK .i64 ((a2.getD 0 []).getD (s1.1).toNat 0) ∧ (0 : Int) ≤ s1.1 ∧ s1.1 < ((a4.getD 0 []).length : Int) ∧ inK .i64 (((a2.getD 0 []).getD (s1.1).toNat 0) + ((a4.getD 0 []).getD (s1.1).toNat 0)) ∧ c6.isSome = true ∧ inK .u8 (c6.getD default) ∧ s1.1 < ((c3.getD default).2.1 : Int) ∧ (s1.1).toNat < (c3.getD default).2.2.2.2.2.1 then
        if inK .i64 (s1.1 + 1) then
          some (.inl ((s1.1 + 1), (s1.2.set (s1.1).toNat (c6.getD default))))
        else none
      else none
    else none
  else
    some (.inr (s1.1, (decide (s1.1 < ((a2.getD 0 []).length : Int))), s1.2))
def stores_Add (N : Nat) (a1 : Int) (a2 : (List (List Int))) (a3 : Int) (a4 : (List (List Int))) : Option (Int × (List (List Int)) × Int) :=
  let c1 := (planes_Right N a1 a2)
  let c2 := (stores_Right N a3 a4)
  let x1 := (bif (bif (!(c1.getD default)) then true else (!(c2.getD default))) then true else (decide (a1 ≠ a3)))
  if c1.isSome = true ∧ ((!(!(c1.getD default))) = true → c2.isSome = true) then
    bif x1 then
      some (0, [[], [], []], 1)
    else
      let c3 := (planes_New_own N a1 0)
      if c3.isSome = true then
        (iter (stores_Add_b3 N a2 a4 c3) N (0, (c3.getD default).2.2.2.2.2.2.1)).bind fun v1 =>
          (iter (stores_Add_b2 N a2 a4 c3) N (0, v1.2.1, (c3.getD default).2.2.2.2.2.2.2.2.1)).bind fun v2 =>
            (iter (stores_Add_b1 N a2 a4 c3) N (0, v2.2.1, (c3.getD default).2.2.2.2.2.2.2.2.2.2)).bind fun v3 =>
              if (c3.getD default).2.1 = v1.2.2.length ∧ (c3.getD default).2.2.1 = v2.2.2.length ∧ (c3.getD default).2.2.2.1 = v3.2.2.length then
                some ((c3.getD default).1, [v1.2.2, v2.2.2, v3.2.2], 0)
              else none
      else none
  else none
def sp_stores_Add (N : Nat) : X.Spec := fun args lk => match args with
  | [.v (.agg [.cs [.int .i64 a1], .fzs 3 (.int .u8) a2]), .v (.agg [.cs [.int .i64 a3], .fzs 3 (.int .i64) a4])] => some ⟨(stores_Add N a1 a2 a3 a4).isSome = true, .tup [.agg [.cs [.int .i64 ((stores_Add N a1 a2 a3 a4).getD default).1], .fzs 3 (.int .u8) ((stores_Add N a1 a2 a3 a4).getD default).2.1], .c (.int .i64 ((stores_Add N a1 a2 a3 a4).getD default).2.2)], [], []⟩
  | _ => none
set_option maxRecDepth 100000 in
set_option maxHeartbeats 1000000 in
theorem ok_stores_Add (N : Nat) : FnOK Try.prog gt0 34 (sp_stores_Add N) := by
  refine fnOK_handed Try.func34 rfl (by kernel_rfl) ttC_ok (ktCons (ok_whole_Clip N) (ktCons (ok_planes_New_own N) (ktCons (ok_stores_Right N) (ktCons (ok_planes_Right N) (ktNil))))) ?_
  intro args lk r h hp
  unfold sp_stores_Add at h
  split at h
  · rename_i a1 a2 a3 a4
    change (List (List Int)) at a2
    change (List (List Int)) at a4
    cases h
    obtain ⟨x, hx⟩ := Option.isSome_iff_exists.1 hp
    simp only [hx, Option.getD_some]
    refine hand0 rfl rfl (fun w0 M ε0 hX => ?_)
    refine rCount (fun hε => ?_)
    have hT : stores_Add N a1 a2 a3 a4 = some x := hx; clear hx hp; unfold stores_Add at hT
    refine rSeq ?_
    refine zReg md0 hX rfl rfl rfl ?_
    refine rThen ?_
    refine rSeq ?_
    refine rSeq ?_
    let c1 := (planes_Right N a1 a2)
    let c2 := (stores_Right N a3 a4)
    let x1 := (bif (bif (!(c1.getD default)) then true else (!(c2.getD default))) then true else (decide (a1 ≠ a3)))
    replace hT := sIf hT; obtain ⟨⟨o1, o2⟩, hT⟩ := hT
    refine rRegC md0 hX rfl rfl rfl (by (repeat' first | exact True.intro | with_reducible assumption | (with_reducible apply And.intro) | intro _) <;> first | assumption | exact o2 (by assumption) | exact rfl | omega | exact Nat.le_of_ble_eq_true rfl | exact selF (by assumption) | exact selT (by assumption) | exact And.intro rfl rfl | exact And.intro (by assumption) rfl | exact And.intro (by omega) rfl | (simp only [inK] at *; omega) | (simp_all [sel] <;> fail) | fail) ?_
    refine rThen ?_
    refine zCond rfl rfl (fun hc => ?_) (fun hc => ?_)
    · replace hT := sT hc hT
      refine rSeq ?_
      refine zReg md0 hX rfl rfl rfl ?_
      refine rThen ?_
      refine rRet ?_
      refine rThenRet ?_
      refine rPackNE 2 (.int .u8) rfl rfl ?_
      have hy := Option.some.inj hT; subst hy
      exact zEnd0 hX rfl
    · replace hT := sF hc hT
      refine rSkip ?_
      refine rThen ?_
      refine rSeq ?_
      let c3 := (planes_New_own N a1 0)
      replace hT := sIf hT; obtain ⟨o1, hT⟩ := hT
      refine zReg md0 hX rfl rfl rfl ?_
      refine rThen ?_
      refine rSeq ?_
      refine rSeq ?_
      refine zReg md0 hX rfl rfl rfl ?_
      refine rThen ?_
      refine rBlock ?_
      refine rRounds 24 ?_
      refine rSeq ?_
      refine zReg md0 hX rfl rfl rfl ?_
      refine rThen ?_
      refine rSeq ?_
      refine rCondT rfl rfl (by (repeat' first | exact True.intro | with_reducible assumption | (with_reducible apply And.intro) | intro _) <;> first | assumption | exact rfl | omega | exact Nat.le_of_ble_eq_true rfl | exact selF (by assumption) | exact selT (by assumption) | exact And.intro rfl rfl | exact And.intro (by assumption) rfl | exact And.intro (by omega) rfl | (simp only [inK] at *; omega) | (simp_all [sel] <;> fail) | fail) rfl ?_
      refine rSkip ?_
      refine rThen ?_
      refine rSeq ?_
      refine rBlock ?_
      refine rSeq ?_
      refine zReg md0 hX rfl rfl rfl ?_
      refine rThen ?_
      refine rSeq ?_
      refine zReg md0 hX rfl rfl rfl ?_
      refine rThen ?_
      refine rBlock ?_
      replace hT := sBind hT; obtain ⟨w1, hl, hT⟩ := hT
      refine rJoinA (fun v1 => v1 = w1) (fun v1 => ⟨[(3, .v (.c (.ptr 1 0 0 0 0 0))), (4, .v (.c (.ptr 2 0 0 0 0 0))), (5, .v (.c (.int .i64 0))), (6, .v (.c (.ptr 6 0 0 0 0 0))), (8, .v (.c (.int .i64 0))), (9, .v (.c (.fz (.int .u8) (a2.getD 0 [])))), (35, .v (.agg [.fzs 3 (.int .u8) a2])), (36, .v (.c (.int .i64 0))), (37, .v (.c (.bool true))), (38, .v (.c (.int .i64 0))), (39, .v (.c (.fz (.int .u8) (a2.getD 0 [])))), (40, .v (.c (.fz (.int .u8) (a2.getD 0 [])))), (41, .v (.c (.int .i64 ((a2.getD 0 []).length : Int)))), (42, .v (.c (.int .i64 v1.1))), (43, .v (.c (.bool v1.2.1)))], [(1, .mem true 64 none (.flat [.cs [.int .i64 a3], .fzs 3 (.int .i64) a4])), (2, .mem true 25 none (.flat [.cs [.int .i64 0, .val (.slice none 0 0), .val (.slice none 0 0), .val (.slice none 0 0)]])), (3, .mem true 5 (some 0) (.flat [.ints (c3.getD default).2.2.2.2.2.1 .u8 v1.2.2])), (4, .mem true 5 (some 0) (.flat [.ints (c3.getD default).2.2.2.2.2.2.2.1 .u8 (c3.getD default).2.2.2.2.2.2.2.2.1])), (5, .mem true 5 (some 0) (.flat [.ints (c3.getD default).2.2.2.2.2.2.2.2.2.1 .u8 (c3.getD default).2.2.2.2.2.2.2.2.2.2])), (6, .mem true 25 none (.flat [.cs [.int .i64 (c3.getD default).1, .sl 3 0 (c3.getD default).2.1 1, .sl 4 0 (c3.getD default).2.2.1 1, .sl 5 0 (c3.getD default).2.2.2.1 1]]))], 7⟩) (.exit 2) (fun v1 hv => ?_) (fun hxs10 => ?_)
      · subst hv; clear hl
        refine rInHit ?_
        refine rInNormal ?_
        refine rThen ?_
        refine zReg md0 hX rfl rfl rfl ?_
        refine rRound ?_
        refine rSeq ?_
        refine zReg md0 hX rfl rfl rfl ?_
        refine rThen ?_
        refine rSeq ?_
        refine rCondT rfl rfl (by (repeat' first | exact True.intro | with_reducible assumption | (with_reducible apply And.intro) | intro _) <;> first | assumption | exact rfl | omega | exact Nat.le_of_ble_eq_true rfl | exact selF (by assumption) | exact selT (by assumption) | exact And.intro rfl rfl | exact And.intro (by assumption) rfl | exact And.intro (by omega) rfl | (simp only [inK] at *; omega) | (simp_all [sel] <;> fail) | fail) rfl ?_
        refine rSkip ?_
        refine rThen ?_
        refine rSeq ?_
        refine rBlock ?_
        refine rSeq ?_
        refine zReg md0 hX rfl rfl rfl ?_
        refine rThen ?_
        refine rSeq ?_
        refine zReg md0 hX rfl rfl rfl ?_
        refine rThen ?_
        refine rBlock ?_
        replace hT := sBind hT; obtain ⟨w2, hl, hT⟩ := hT
        refine rJoinA (fun v2 => v2 = w2) (fun v2 => ⟨[(3, .v (.c (.ptr 1 0 0 0 0 0))), (4, .v (.c (.ptr 2 0 0 0 0 0))), (5, .v (.c (.int .i64 0))), (6, .v (.c (.ptr 6 0 0 0 0 0))), (8, .v (.c (.int .i64 1))), (9, .v (.c (.fz (.int .u8) (a2.getD 1 [])))), (35, .v (.agg [.fzs 3 (.int .u8) a2])), (36, .v (.c (.int .i64 1))), (37, .v (.c (.bool true))), (38, .v (.c (.int .i64 1))), (39, .v (.c (.fz (.int .u8) (a2.getD 1 [])))), (40, .v (.c (.fz (.int .u8) (a2.getD 1 [])))), (41, .v (.c (.int .i64 ((a2.getD 1 []).length : Int)))), (42, .v (.c (.int .i64 v2.1))), (43, .v (.c (.bool v2.2.1))), (66, .v (.c (.int .i64 1)))], [(1, .mem true 64 none (.flat [.cs [.int .i64 a3], .fzs 3 (.int .i64) a4])), (2, .mem true 25 none (.flat [.cs [.int .i64 0, .val (.slice none 0 0), .val (.slice none 0 0), .val (.slice none 0 0)]])), (3, .mem true 5 (some 0) (.flat [.ints (c3.getD default).2.2.2.2.2.1 .u8 v1.2.2])), (4, .mem true 5 (some 0) (.flat [.ints (c3.getD default).2.2.2.2.2.2.2.1 .u8 v2.2.2])), (5, .mem true 5 (some 0) (.flat [.ints (c3.getD default).2.2.2.2.2.2.2.2.2.1 .u8 (c3.getD default).2.2.2.2.2.2.2.2.2.2])), (6, .mem true 25 none (.flat [.cs [.int .i64 (c3.getD default).1, .sl 3 0 (c3.getD default).2.1 1, .sl 4 0 (c3.getD default).2.2.1 1, .sl 5 0 (c3.getD default).2.2.2.1 1]]))], 7⟩) (.exit 2) (fun v2 hv => ?_) (fun hxs20 => ?_)
        · subst hv; clear hl
          refine rInHit ?_
          refine rInNormal ?_
          refine rThen ?_
          refine zReg md0 hX rfl rfl rfl ?_
          refine rRound ?_
          refine rSeq ?_
          refine zReg md0 hX rfl rfl rfl ?_
          refine rThen ?_
          refine rSeq ?_
          refine rCondT rfl rfl (by (repeat' first | exact True.intro | with_reducible assumption | (with_reducible apply And.intro) | intro _) <;> first | assumption | exact rfl | omega | exact Nat.le_of_ble_eq_true rfl | exact selF (by assumption) | exact selT (by assumption) | exact And.intro rfl rfl | exact And.intro (by assumption) rfl | exact And.intro (by omega) rfl | (simp only [inK] at *; omega) | (simp_all [sel] <;> fail) | fail) rfl ?_
          refine rSkip ?_
          refine rThen ?_
          refine rSeq ?_
          refine rBlock ?_
          refine rSeq ?_
          refine zReg md0 hX rfl rfl rfl ?_
          refine rThen ?_
          refine rSeq ?_
          refine zReg md0 hX rfl rfl rfl ?_
          refine rThen ?_
          refine rBlock ?_
          replace hT := sBind hT; obtain ⟨w3, hl, hT⟩ := hT
          refine rJoinA (fun v3 => v3 = w3) (fun v3 => ⟨[(3, .v (.c (.ptr 1 0 0 0 0 0))), (4, .v (.c (.ptr 2 0 0 0 0 0))), (5, .v (.c (.int .i64 0))), (6, .v (.c (.ptr 6 0 0 0 0 0))), (8, .v (.c (.int .i64 2))), (9, .v (.c (.fz (.int .u8) (a2.getD 2 [])))), (35, .v (.agg [.fzs 3 (.int .u8) a2])), (36, .v (.c (.int .i64 2))), (37, .v (.c (.bool true))), (38, .v (.c (.int .i64 2))), (39, .v (.c (.fz (.int .u8) (a2.getD 2 [])))), (40, .v (.c (.fz (.int .u8) (a2.getD 2 [])))), (41, .v (.c (.int .i64 ((a2.getD 2 []).length : Int)))), (42, .v (.c (.int .i64 v3.1))), (43, .v (.c (.bool v3.2.1))), (66, .v (.c (.int .i64 2)))], [(1, .mem true 64 none (.flat [.cs [.int .i64 a3], .fzs 3 (.int .i64) a4])), (2, .mem true 25 none (.flat [.cs [.int .i64 0, .val (.slice none 0 0), .val (.slice none 0 0), .val (.slice none 0 0)]])), (3, .mem true 5 (some 0) (.flat [.ints (c3.getD default).2.2.2.2.2.1 .u8 v1.2.2])), (4, .mem true 5 (some 0) (.flat [.ints (c3.getD default).2.2.2.2.2.2.2.1 .u8 v2.2.2])), (5, .mem true 5 (some 0) (.flat [.ints (c3.getD default).2.2.2.2.2.2.2.2.2.1 .u8 v3.2.2])), (6, .mem true 25 none (.flat [.cs [.int .i64 (c3.getD default).1, .sl 3 0 (c3.getD default).2.1 1, .sl 4 0 (c3.getD default).2.2.1 1, .sl 5 0 (c3.getD default).2.2.2.1 1]]))], 7⟩) (.exit 2) (fun v3 hv => ?_) (fun hxs30 => ?_)
          · subst hv; clear hl
            refine rInHit ?_
            refine rInNormal ?_
            refine rThen ?_
            refine zReg md0 hX rfl rfl rfl ?_
            refine rRound ?_
            refine rSeq ?_
            refine zReg md0 hX rfl rfl rfl ?_
            refine rThen ?_
            refine rSeq ?_
            refine rCondF rfl rfl (by (repeat' first | exact True.intro | with_reducible assumption | (with_reducible apply And.intro) | intro _) <;> first | assumption | exact rfl | omega | exact Nat.le_of_ble_eq_true rfl | exact selF (by assumption) | exact selT (by assumption) | exact And.intro rfl rfl | exact And.intro (by assumption) rfl | exact And.intro (by omega) rfl | (simp only [inK] at *; omega) | (simp_all [sel] <;> fail) | fail) rfl ?_
            refine rExit ?_
            refine rThenExit ?_
            refine rThenExit ?_
            refine rInHit ?_
            refine rThen ?_
            refine rSeq ?_
            refine zReg md0 hX rfl rfl rfl ?_
            refine rThen ?_
            refine rRet ?_
            replace hT := sIf hT; obtain ⟨⟨p1, p2, p3⟩, hT⟩ := hT
            refine rFreezeQ 3 (.int .u8) v1.2.2 [(4, .v (.c (.ptr 2 0 0 0 0 0))), (5, .v (.c (.int .i64 0)))] [(2, .mem true 25 none (.flat [.cs [.int .i64 (c3.getD default).1, .fz (.int .u8) v1.2.2, .sl 4 0 (c3.getD default).2.2.1 1, .sl 5 0 (c3.getD default).2.2.2.1 1]])), (4, .mem true 5 (some 0) (.flat [.ints (c3.getD default).2.2.2.2.2.2.2.1 .u8 v2.2.2])), (5, .mem true 5 (some 0) (.flat [.ints (c3.getD default).2.2.2.2.2.2.2.2.2.1 .u8 v3.2.2]))] rfl rfl (by (repeat' first | exact True.intro | exact rfl | apply And.intro) <;> first | assumption | rfl) (by (repeat' first | exact True.intro | exact rfl | apply And.intro) <;> first | assumption | rfl) ?_
            refine rFreezeQ 4 (.int .u8) v2.2.2 [(4, .v (.c (.ptr 2 0 0 0 0 0))), (5, .v (.c (.int .i64 0)))] [(2, .mem true 25 none (.flat [.cs [.int .i64 (c3.getD default).1, .fz (.int .u8) v1.2.2, .fz (.int .u8) v2.2.2, .sl 5 0 (c3.getD default).2.2.2.1 1]])), (5, .mem true 5 (some 0) (.flat [.ints (c3.getD default).2.2.2.2.2.2.2.2.2.1 .u8 v3.2.2]))] rfl rfl (by (repeat' first | exact True.intro | exact rfl | apply And.intro) <;> first | assumption | rfl) (by (repeat' first | exact True.intro | exact rfl | apply And.intro) <;> first | assumption | rfl) ?_
            refine rFreezeQ 5 (.int .u8) v3.2.2 [(4, .v (.c (.ptr 2 0 0 0 0 0))), (5, .v (.c (.int .i64 0)))] [(2, .mem true 25 none (.flat [.cs [.int .i64 (c3.getD default).1, .fz (.int .u8) v1.2.2, .fz (.int .u8) v2.2.2, .fz (.int .u8) v3.2.2]]))] rfl rfl (by (repeat' first | exact True.intro | exact rfl | apply And.intro) <;> first | assumption | rfl) (by (repeat' first | exact True.intro | exact rfl | apply And.intro) <;> first | assumption | rfl) ?_
            refine rPackE 2 rfl rfl ?_
            have hy := Option.some.inj hT; subst hy
            exact zEnd0 hX rfl
          refine rLoopM (stores_Add_b1 N a2 a4 c3) (fun s3 => ⟨[(3, .v (.c (.ptr 1 0 0 0 0 0))), (4, .v (.c (.ptr 2 0 0 0 0 0))), (5, .v (.c (.int .i64 0))), (6, .v (.c (.ptr 6 0 0 0 0 0))), (8, .v (.c (.int .i64 2))), (9, .v (.c (.fz (.int .u8) (a2.getD 2 [])))), (35, .v (.agg [.fzs 3 (.int .u8) a2])), (36, .v (.c (.int .i64 2))), (37, .v (.c (.bool true))), (38, .v (.c (.int .i64 2))), (39, .v (.c (.fz (.int .u8) (a2.getD 2 [])))), (40, .v (.c (.fz (.int .u8) (a2.getD 2 [])))), (41, .v (.c (.int .i64 ((a2.getD 2 []).length : Int)))), (42, .v (.c (.int .i64 s3.1))), (43, .v (.c (.bool s3.2.1))), (66, .v (.c (.int .i64 2)))], [(1, .mem true 64 none (.flat [.cs [.int .i64 a3], .fzs 3 (.int .i64) a4])), (2, .mem true 25 none (.flat [.cs [.int .i64 0, .val (.slice none 0 0), .val (.slice none 0 0), .val (.slice none 0 0)]])), (3, .mem true 5 (some 0) (.flat [.ints (c3.getD default).2.2.2.2.2.1 .u8 v1.2.2])), (4, .mem true 5 (some 0) (.flat [.ints (c3.getD default).2.2.2.2.2.2.2.1 .u8 v2.2.2])), (5, .mem true 5 (some 0) (.flat [.ints (c3.getD default).2.2.2.2.2.2.2.2.2.1 .u8 s3.2.2])), (6, .mem true 25 none (.flat [.cs [.int .i64 (c3.getD default).1, .sl 3 0 (c3.getD default).2.1 1, .sl 4 0 (c3.getD default).2.2.1 1, .sl 5 0 (c3.getD default).2.2.2.1 1]]))], 7⟩) hl (To.mk' [] 0 hε rfl (by repeat' first | exact True.intro | exact rfl | apply And.intro) (by repeat' first | exact True.intro | exact rfl | apply And.intro)) (fun s3 zs3 NNs3 hz hnexts3 houts3 => ?_)
          clear hl hT
          have hT := hz; clear hz
          refine rSeq ?_
          refine zReg md0 hX rfl rfl rfl ?_
          refine rThen ?_
          refine rSeq ?_
          refine zCond rfl rfl (fun hc => ?_) (fun hc => ?_)
          · replace hT := sT hc hT
            refine rSkip ?_
            refine rThen ?_
            refine rSeq ?_
            refine rBlock ?_
            refine rSeq ?_
            replace hT := sIf hT; obtain ⟨⟨o1, o2⟩, hT⟩ := hT
            refine zReg md0 hX rfl rfl rfl ?_
            refine rThen ?_
            let c4 := (whole_Clip N (((a2.getD 2 []).getD (s3.1).toNat 0) + ((a4.getD 2 []).getD (s3.1).toNat 0)) 0 255)
            replace hT := sIf hT; obtain ⟨⟨o1, o2, o3, o4, o5, o6, o7, o8⟩, hT⟩ := hT
            refine zDraw md0 1 [18] hX mixed rfl rfl rfl rfl rfl ?_
            refine rInNormal ?_
            refine rThen ?_
            replace hT := sIf hT; obtain ⟨o1, hT⟩ := hT
            refine zReg md0 hX rfl rfl rfl ?_
            exact hnexts3 _ (Option.some.inj hT).symm _ (To.mk' [] 0 hε rfl (by repeat' first | exact True.intro | exact rfl | apply And.intro) (by repeat' first | exact True.intro | exact rfl | apply And.intro))
          · replace hT := sF hc hT
            refine rExit ?_
            refine rThenExit ?_
            refine rThenExit ?_
            exact zTo [] 0 hε (hxs30 _ (houts3 _ (Option.some.inj hT).symm))
        refine rLoopM (stores_Add_b2 N a2 a4 c3) (fun s2 => ⟨[(3, .v (.c (.ptr 1 0 0 0 0 0))), (4, .v (.c (.ptr 2 0 0 0 0 0))), (5, .v (.c (.int .i64 0))), (6, .v (.c (.ptr 6 0 0 0 0 0))), (8, .v (.c (.int .i64 1))), (9, .v (.c (.fz (.int .u8) (a2.getD 1 [])))), (35, .v (.agg [.fzs 3 (.int .u8) a2])), (36, .v (.c (.int .i64 1))), (37, .v (.c (.bool true))), (38, .v (.c (.int .i64 1))), (39, .v (.c (.fz (.int .u8) (a2.getD 1 [])))), (40, .v (.c (.fz (.int .u8) (a2.getD 1 [])))), (41, .v (.c (.int .i64 ((a2.getD 1 []).length : Int)))), (42, .v (.c (.int .i64 s2.1))), (43, .v (.c (.bool s2.2.1))), (66, .v (.c (.int .i64 1)))], [(1, .mem true 64 none (.flat [.cs [.int .i64 a3], .fzs 3 (.int .i64) a4])), (2, .mem true 25 none (.flat [.cs [.int .i64 0, .val (.slice none 0 0), .val (.slice none 0 0), .val (.slice none 0 0)]])), (3, .mem true 5 (some 0) (.flat [.ints (c3.getD default).2.2.2.2.2.1 .u8 v1.2.2])), (4, .mem true 5 (some 0) (.flat [.ints (c3.getD default).2.2.2.2.2.2.2.1 .u8 s2.2.2])), (5, .mem true 5 (some 0) (.flat [.ints (c3.getD default).2.2.2.2.2.2.2.2.2.1 .u8 (c3.getD default).2.2.2.2.2.2.2.2.2.2])), (6, .mem true 25 none (.flat [.cs [.int .i64 (c3.getD default).1, .sl 3 0 (c3.getD default).2.1 1, .sl 4 0 (c3.getD default).2.2.1 1, .sl 5 0 (c3.getD default).2.2.2.1 1]]))], 7⟩) hl (To.mk' [] 0 hε rfl (by repeat' first | exact True.intro | exact rfl | apply And.intro) (by repeat' first | exact True.intro | exact rfl | apply And.intro)) (fun s2 zs2 NNs2 hz hnexts2 houts2 => ?_)
        clear hl hT
        have hT := hz; clear hz
        refine rSeq ?_
        refine zReg md0 hX rfl rfl rfl ?_
        refine rThen ?_
        refine rSeq ?_
        refine zCond rfl rfl (fun hc => ?_) (fun hc => ?_)
        · replace hT := sT hc hT
          refine rSkip ?_
          refine rThen ?_
          refine rSeq ?_
          refine rBlock ?_
          refine rSeq ?_
          replace hT := sIf hT; obtain ⟨⟨o1, o2⟩, hT⟩ := hT
          refine zReg md0 hX rfl rfl rfl ?_
          refine rThen ?_
          let c5 := (whole_Clip N (((a2.getD 1 []).getD (s2.1).toNat 0) + ((a4.getD 1 []).getD (s2.1).toNat 0)) 0 255)
          replace hT := sIf hT; obtain ⟨⟨o1, o2, o3, o4, o5, o6, o7, o8⟩, hT⟩ := hT
          refine zDraw md0 1 [18] hX mixed rfl rfl rfl rfl rfl ?_
          refine rInNormal ?_
          refine rThen ?_
          replace hT := sIf hT; obtain ⟨o1, hT⟩ := hT
          refine zReg md0 hX rfl rfl rfl ?_
          exact hnexts2 _ (Option.some.inj hT).symm _ (To.mk' [] 0 hε rfl (by repeat' first | exact True.intro | exact rfl | apply And.intro) (by repeat' first | exact True.intro | exact rfl | apply And.intro))
        · replace hT := sF hc hT
          refine rExit ?_
          refine rThenExit ?_
          refine rThenExit ?_
          exact zTo [] 0 hε (hxs20 _ (houts2 _ (Option.some.inj hT).symm))
      refine rLoopM (stores_Add_b3 N a2 a4 c3) (fun s1 => ⟨[(3, .v (.c (.ptr 1 0 0 0 0 0))), (4, .v (.c (.ptr 2 0 0 0 0 0))), (5, .v (.c (.int .i64 0))), (6, .v (.c (.ptr 6 0 0 0 0 0))), (8, .v (.c (.int .i64 0))), (9, .v (.c (.fz (.int .u8) (a2.getD 0 [])))), (35, .v (.agg [.fzs 3 (.int .u8) a2])), (36, .v (.c (.int .i64 0))), (37, .v (.c (.bool true))), (38, .v (.c (.int .i64 0))), (39, .v (.c (.fz (.int .u8) (a2.getD 0 [])))), (40, .v (.c (.fz (.int .u8) (a2.getD 0 [])))), (41, .v (.c (.int .i64 ((a2.getD 0 []).length : Int)))), (42, .v (.c (.int .i64 s1.1)))], [(1, .mem true 64 none (.flat [.cs [.int .i64 a3], .fzs 3 (.int .i64) a4])), (2, .mem true 25 none (.flat [.cs [.int .i64 0, .val (.slice none 0 0), .val (.slice none 0 0), .val (.slice none 0 0)]])), (3, .mem true 5 (some 0) (.flat [.ints (c3.getD default).2.2.2.2.2.1 .u8 s1.2])), (4, .mem true 5 (some 0) (.flat [.ints (c3.getD default).2.2.2.2.2.2.2.1 .u8 (c3.getD default).2.2.2.2.2.2.2.2.1])), (5, .mem true 5 (some 0) (.flat [.ints (c3.getD default).2.2.2.2.2.2.2.2.2.1 .u8 (c3.getD default).2.2.2.2.2.2.2.2.2.2])), (6, .mem true 25 none (.flat [.cs [.int .i64 (c3.getD default).1, .sl 3 0 (c3.getD default).2.1 1, .sl 4 0 (c3.getD default).2.2.1 1, .sl 5 0 (c3.getD default).2.2.2.1 1]]))], 7⟩) hl (To.mk' [] 0 hε rfl (by repeat' first | exact True.intro | exact rfl | apply And.intro) (by repeat' first | exact True.intro | exact rfl | apply And.intro)) (fun s1 zs1 NNs1 hz hnexts1 houts1 => ?_)
      clear hl hT
      have hT := hz; clear hz
      refine rSeq ?_
      refine zReg md0 hX rfl rfl rfl ?_
      refine rThen ?_
      refine rSeq ?_
      refine zCond rfl rfl (fun hc => ?_) (fun hc => ?_)
      · replace hT := sT hc hT
        refine rSkip ?_
        refine rThen ?_
        refine rSeq ?_
        refine rBlock ?_
        refine rSeq ?_
        replace hT := sIf hT; obtain ⟨⟨o1, o2⟩, hT⟩ := hT
        refine zReg md0 hX rfl rfl rfl ?_
        refine rThen ?_
        let c6 := (whole_Clip N (((a2.getD 0 []).getD (s1.1).toNat 0) + ((a4.getD 0 []).getD (s1.1).toNat 0)) 0 255)
        replace hT := sIf hT; obtain ⟨⟨o1, o2, o3, o4, o5, o6, o7, o8⟩, hT⟩ := hT
        refine zDraw md0 1 [18] hX mixed rfl rfl rfl rfl rfl ?_
        refine rInNormal ?_
        refine rThen ?_
        replace hT := sIf hT; obtain ⟨o1, hT⟩ := hT
        refine zReg md0 hX rfl rfl rfl ?_
        exact hnexts1 _ (Option.some.inj hT).symm _ (To.mk' [] 0 hε rfl (by repeat' first | exact True.intro | exact rfl | apply And.intro) (by repeat' first | exact True.intro | exact rfl | apply And.intro))
      · replace hT := sF hc hT
        refine rExit ?_
        refine rThenExit ?_
        refine rThenExit ?_
        exact zTo [] 0 hε (hxs10 _ (houts1 _ (Option.some.inj hT).symm))
  · cases h
def law34_StoresBack (N : Nat) (a1 : Int) (a2 : (List (List Int))) (a3 : Int) (a4 : (List (List Int))) : Option Bool :=
  let c1 := (law17_Light N a1 a2)
  let c2 := (law17_Light N a3 a4)
  let c3 := (planes_Right N a1 a2)
  let c4 := (planes_Right N a3 a4)
  let x5 := (bif (bif (bif (bif (!(c1.getD default)) then true else (!(c2.getD default))) then true else (!(c3.getD default))) then true else (!(c4.getD default))) then true else (decide (a1 ≠ a3)))
  if c1.isSome = true ∧ ((!(!(c1.getD default))) = true → c2.isSome = true) ∧ ((!(bif (!(c1.getD default)) then true else (!(c2.getD default)))) = true → c3.isSome = true) ∧ ((!(bif (bif (!(c1.getD default)) then true else (!(c2.getD default))) then true else (!(c3.getD default)))) = true → c4.isSome = true) then
    bif x5 then
      let c5 := (law34_lives N)
      if c5.isSome = true then
        some (c5.getD default)
      else none
    else
      let c6 := (stores_Diff N a1 a2 a3 a4)
      if c6.isSome = true then
        let c7 := (stores_Add N a3 a4 (c6.getD default).1 (c6.getD default).2.1)
        if c7.isSome = true then
          let c8 := (planes_Same N (c7.getD default).1 (c7.getD default).2.1 a1 a2)
          let c9 := (stores_Right N (c6.getD default).1 (c6.getD default).2.1)
          let c10 := (stores_Weight N (c6.getD default).1 (c6.getD default).2.1)
          let c11 := (planes_Same N a1 a2 a3 a4)
          let x12 := (bif (bif (bif (bif (decide ((c6.getD default).2.2 ≠ 0)) then true else (decide ((c7.getD default).2.2 ≠ 0))) then true else (!(c8.getD default))) then true else (!(c9.getD default))) then true else (!((decide ((c10.getD default) = 0)) == (c11.getD default))))
          if ((!(bif (decide ((c6.getD default).2.2 ≠ 0)) then true else (decide ((c7.getD default).2.2 ≠ 0)))) = true → c8.isSome = true) ∧ ((!(bif (bif (decide ((c6.getD default).2.2 ≠ 0)) then true else (decide ((c7.getD default).2.2 ≠ 0))) then true else (!(c8.getD default)))) = true → c9.isSome = true) ∧ ((!(bif (bif (bif (decide ((c6.getD default).2.2 ≠ 0)) then true else (decide ((c7.getD default).2.2 ≠ 0))) then true else (!(c8.getD default))) then true else (!(c9.getD default)))) = true → c10.isSome = true) ∧ ((!(bif (bif (bif (decide ((c6.getD default).2.2 ≠ 0)) then true else (decide ((c7.getD default).2.2 ≠ 0))) then true else (!(c8.getD default))) then true else (!(c9.getD default)))) = true → c11.isSome = true) then
            bif x12 then
              some false
            else
              let c12 := (stores_Diff N a3 a4 a1 a2)
              if c12.isSome = true then
                let c13 := (stores_Weight N (c12.getD default).1 (c12.getD default).2.1)
                let c14 := (stores_Weight N (c6.getD default).1 (c6.getD default).2.1)
                let c15 := (law34_lives N)
                let x13 := (bif (bif (decide ((c12.getD default).2.2 = 0)) then (decide ((c13.getD default) = (c14.getD default))) else false) then (c15.getD default) else false)
                if ((decide ((c12.getD default).2.2 = 0)) = true → c13.isSome = true) ∧ ((decide ((c12.getD default).2.2 = 0)) = true → c14.isSome = true) ∧ ((bif (decide ((c12.getD default).2.2 = 0)) then (decide ((c13.getD default) = (c14.getD default))) else false) = true → c15.isSome = true) then
                  some x13
                else none
              else none
          else none
        else none
      else none
  else none
def sp_law34_StoresBack (N : Nat) : X.Spec := fun args lk => match args with
  | [.v (.agg [.cs [.int .i64 a1], .fzs 3 (.int .u8) a2]), .v (.agg [.cs [.int .i64 a3], .fzs 3 (.int .u8) a4])] => some ⟨(law34_StoresBack N a1 a2 a3 a4).isSome = true, .v (.c (.bool ((law34_StoresBack N a1 a2 a3 a4).getD default))), [], []⟩
  | _ => none
set_option maxRecDepth 100000 in
set_option maxHeartbeats 1000000 in
theorem ok_law34_StoresBack (N : Nat) : FnOK Try.prog gt0 7 (sp_law34_StoresBack N) := by
  refine fnOK_handed Try.func7 rfl (by kernel_rfl) tt_ok (ktCons (ok_stores_Weight N) (ktCons (ok_stores_Right N) (ktCons (ok_planes_Same N) (ktCons (ok_stores_Add N) (ktCons (ok_stores_Diff N) (ktCons (ok_law34_lives N) (ktCons (ok_planes_Right N) (ktCons (ok_law17_Light N) (ktNil))))))))) ?_
  intro args lk r h hp
  unfold sp_law34_StoresBack at h
  split at h
  · rename_i a1 a2 a3 a4
    change (List (List Int)) at a2
    change (List (List Int)) at a4
    cases h
    obtain ⟨x, hx⟩ := Option.isSome_iff_exists.1 hp
    simp only [hx, Option.getD_some]
    refine hand0 rfl rfl (fun w0 M ε0 hX => ?_)
    refine rCount (fun hε => ?_)
    have hT : law34_StoresBack N a1 a2 a3 a4 = some x := hx; clear hx hp; unfold law34_StoresBack at hT
    refine rSeq ?_
    refine zReg md0 hX rfl rfl rfl ?_
    refine rThen ?_
    refine rSeq ?_
    refine rSeq ?_
    let c1 := (law17_Light N a1 a2)
    let c2 := (law17_Light N a3 a4)
    let c3 := (planes_Right N a1 a2)
    let c4 := (planes_Right N a3 a4)
    let x5 := (bif (bif (bif (bif (!(c1.getD default)) then true else (!(c2.getD default))) then true else (!(c3.getD default))) then true else (!(c4.getD default))) then true else (decide (a1 ≠ a3)))
    replace hT := sIf hT; obtain ⟨⟨o1, o2, o3, o4⟩, hT⟩ := hT
    refine rRegC md0 hX rfl rfl rfl (by (repeat' first | exact True.intro | with_reducible assumption | (with_reducible apply And.intro) | intro _) <;> first | assumption | exact o2 (by assumption) | exact o3 (by assumption) | exact o4 (by assumption) | exact rfl | omega | exact Nat.le_of_ble_eq_true rfl | exact selF (by assumption) | exact selT (by assumption) | exact And.intro rfl rfl | exact And.intro (by assumption) rfl | exact And.intro (by omega) rfl | (simp only [inK] at *; omega) | (simp_all [sel] <;> fail) | fail) ?_
    refine rThen ?_
    refine zCond rfl rfl (fun hc => ?_) (fun hc => ?_)
    · replace hT := sT hc hT
      refine rSeq ?_
      let c5 := (law34_lives N)
      replace hT := sIf hT; obtain ⟨o1, hT⟩ := hT
      refine zReg md0 hX rfl rfl rfl ?_
      refine rThen ?_
      refine rRet ?_
      refine rThenRet ?_
      have hy := Option.some.inj hT; subst hy
      exact zEnd0 hX rfl
    · replace hT := sF hc hT
      refine rSkip ?_
      refine rThen ?_
      refine rSeq ?_
      let c6 := (stores_Diff N a1 a2 a3 a4)
      replace hT := sIf hT; obtain ⟨o1, hT⟩ := hT
      refine zReg md0 hX rfl rfl rfl ?_
      refine rThen ?_
      refine rSeq ?_
      let c7 := (stores_Add N a3 a4 (c6.getD default).1 (c6.getD default).2.1)
      replace hT := sIf hT; obtain ⟨o1, hT⟩ := hT
      refine zReg md0 hX rfl rfl rfl ?_
      refine rThen ?_
      refine rSeq ?_
      refine rSeq ?_
      let c8 := (planes_Same N (c7.getD default).1 (c7.getD default).2.1 a1 a2)
      let c9 := (stores_Right N (c6.getD default).1 (c6.getD default).2.1)
      let c10 := (stores_Weight N (c6.getD default).1 (c6.getD default).2.1)
      let c11 := (planes_Same N a1 a2 a3 a4)
      let x12 := (bif (bif (bif (bif (decide ((c6.getD default).2.2 ≠ 0)) then true else (decide ((c7.getD default).2.2 ≠ 0))) then true else (!(c8.getD default))) then true else (!(c9.getD default))) then true else (!((decide ((c10.getD default) = 0)) == (c11.getD default))))
      replace hT := sIf hT; obtain ⟨⟨o1, o2, o3, o4⟩, hT⟩ := hT
      refine rDrawM md0 0 [] hX mixed rfl rfl rfl rfl rfl (by (repeat' first | exact True.intro | with_reducible assumption | (with_reducible apply And.intro) | intro _) <;> first | assumption | exact o1 (by assumption) | exact o2 (by assumption) | exact o3 (by assumption) | exact o4 (by assumption) | exact rfl | omega | exact Nat.le_of_ble_eq_true rfl | exact selF (by assumption) | exact selT (by assumption) | exact And.intro rfl rfl | exact And.intro (by assumption) rfl | exact And.intro (by omega) rfl | (simp only [inK] at *; omega) | (simp_all [sel] <;> fail) | fail) ?_
      refine rThen ?_
      refine zCond rfl rfl (fun hc => ?_) (fun hc => ?_)
      · replace hT := sT hc hT
        refine rSeq ?_
        refine zReg md0 hX rfl rfl rfl ?_
        refine rThen ?_
        refine rRet ?_
        refine rThenRet ?_
        have hy := Option.some.inj hT; subst hy
        exact zEnd0 hX rfl
      · replace hT := sF hc hT
        refine rSkip ?_
        refine rThen ?_
        refine rSeq ?_
        let c12 := (stores_Diff N a3 a4 a1 a2)
        replace hT := sIf hT; obtain ⟨o1, hT⟩ := hT
        refine zReg md0 hX rfl rfl rfl ?_
        refine rThen ?_
        refine rSeq ?_
        let c13 := (stores_Weight N (c12.getD default).1 (c12.getD default).2.1)
        let c14 := (stores_Weight N (c6.getD default).1 (c6.getD default).2.1)
        let c15 := (law34_lives N)
        let x13 := (bif (bif (decide ((c12.getD default).2.2 = 0)) then (decide ((c13.getD default) = (c14.getD default))) else false) then (c15.getD default) else false)
        replace hT := sIf hT; obtain ⟨⟨o1, o2, o3⟩, hT⟩ := hT
        refine rDrawM md0 0 [] hX mixed rfl rfl rfl rfl rfl (by (repeat' first | exact True.intro | with_reducible assumption | (with_reducible apply And.intro) | intro _) <;> first | assumption | exact o1 (by assumption) | exact o2 (by assumption) | exact o3 (by assumption) | exact rfl | omega | exact Nat.le_of_ble_eq_true rfl | exact selF (by assumption) | exact selT (by assumption) | exact And.intro rfl rfl | exact And.intro (by assumption) rfl | exact And.intro (by omega) rfl | (simp only [inK] at *; omega) | (simp_all [sel] <;> fail) | fail) ?_
        refine rThen ?_
        refine rRet ?_
        have hy := Option.some.inj hT; subst hy
        exact zEnd0 hX rfl
  · cases h

end Go.Proofs.Ytjknjjdijoboiaa
