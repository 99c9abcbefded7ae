/- Models of functions, and that the program does what they tell. -/
import Derived.Test.YtkfaebbbjahcpaaDoorR1
set_option linter.unusedVariables false
set_option linter.unusedSimpArgs false
namespace Go.Proofs.YtkfaebbbjahcpaaDoor
open Go.X

def formats_Plane (N : Nat) (a1 : Int) (a2 : Int) : Option (Int × Int) :=
  let c1 := (formats_Size N a1)
  if c1.isSome = true then
    bif (decide (a2 = 0)) then
      some ((c1.getD default).1, (c1.getD default).2.1)
    else
      bif (bif (decide (a2 = 1)) then (decide (a2 = 1)) else (decide (a2 = 2))) then
        if (0 : Int) ≤ (c1.getD default).1 ∧ (0 : Int) ≤ (c1.getD default).2.1 then
          some (((c1.getD default).1 / 2), ((c1.getD default).2.1 / 2))
        else none
      else
        some (0, 0)
  else none
def sp_formats_Plane (N : Nat) : X.Spec := fun args lk => match args with
  | [.v (.c (.int .i64 a1)), .v (.c (.int .i64 a2))] => some ⟨(formats_Plane N a1 a2).isSome = true, .tup [.c (.int .i64 ((formats_Plane N a1 a2).getD default).1), .c (.int .i64 ((formats_Plane N a1 a2).getD default).2)], [], []⟩
  | _ => none
set_option maxRecDepth 100000 in
set_option maxHeartbeats 1000000 in
theorem ok_formats_Plane (N : Nat) : FnOK Tryd.prog gt0 97 (sp_formats_Plane N) := by
  refine fnOK_handed Tryd.func97 rfl (by kernel_rfl) tt_ok (ktCons (ok_formats_Size N) (ktNil)) ?_
  intro args lk r h hp
  unfold sp_formats_Plane at h
  split at h
  · rename_i a1 a2
    cases h
    obtain ⟨x, hx⟩ := Option.isSome_iff_exists.1 hp
    simp only [hx, Option.getD_some]
    refine hand0 rfl rfl (fun w0 M ε0 hX => ?_)
    refine rCount (fun hε => ?_)
    have hT : formats_Plane N a1 a2 = some x := hx; clear hx hp; unfold formats_Plane at hT
    refine rSeq ?_
    refine zReg md0 hX rfl rfl rfl ?_
    refine rThen ?_
    refine rSeq ?_
    let c1 := (formats_Size N a1)
    replace hT := sIf hT; obtain ⟨o1, hT⟩ := hT
    refine zReg md0 hX rfl rfl rfl ?_
    refine rThen ?_
    refine rSeq ?_
    refine rSeq ?_
    refine zReg md0 hX rfl rfl rfl ?_
    refine rThen ?_
    refine rBlock ?_
    refine rSeq ?_
    refine zReg md0 hX rfl rfl rfl ?_
    refine rThen ?_
    refine zCond rfl rfl (fun hc => ?_) (fun hc => ?_)
    · replace hT := sT hc hT
      refine rSeq ?_
      refine zReg md0 hX rfl rfl rfl ?_
      refine rThen ?_
      refine rRet ?_
      refine rInRet ?_
      refine rThenRet ?_
      have hy := Option.some.inj hT; subst hy
      exact zEnd0 hX rfl
    · replace hT := sF hc hT
      refine rSeq ?_
      refine rSeq ?_
      refine zReg md0 hX rfl rfl rfl ?_
      refine rThen ?_
      refine rJoin ⟨[(4, .v (.c (.int .i64 0))), (5, .v (.c (.int .i64 0))), (6, .v (.c (.int .i64 (c1.getD default).1))), (7, .v (.c (.int .i64 (c1.getD default).2.1))), (20, .v (.c (.bool (bif (decide (a2 = 1)) then (decide (a2 = 1)) else (decide (a2 = 2))))))], [], 0⟩ ?_ (fun hj => ?_)
      · skip
        refine rThen ?_
        refine zCond rfl rfl (fun hc => ?_) (fun hc => ?_)
        · replace hT := sT hc hT
          refine rSeq ?_
          replace hT := sIf hT; obtain ⟨⟨o1, o2⟩, hT⟩ := hT
          refine zReg md0 hX rfl rfl rfl ?_
          refine rThen ?_
          refine rRet ?_
          refine rInRet ?_
          refine rThenRet ?_
          have hy := Option.some.inj hT; subst hy
          exact zEnd0 hX rfl
        · replace hT := sF hc hT
          refine rSkip ?_
          refine rInNormal ?_
          refine rThen ?_
          refine rSeq ?_
          refine zReg md0 hX rfl rfl rfl ?_
          refine rThen ?_
          refine rRet ?_
          have hy := Option.some.inj hT; subst hy
          exact zEnd0 hX rfl
      · clear hT
        refine zCond rfl rfl (fun hc => ?_) (fun hc => ?_)
        · skip
          refine rSkip ?_
          exact rTo (To.mk' [] 0 hε rfl (by (repeat' first | exact True.intro | exact rfl | apply And.intro) <;> (repeat' first | exact rfl | refine Eq.trans ?_ (cTr (by assumption)) | refine Eq.trans ?_ (cFr (by assumption)) | refine Eq.trans (cTl (by assumption)) ?_ | refine Eq.trans (cFl (by assumption)) ?_)) (by (repeat' first | exact True.intro | exact rfl | apply And.intro) <;> (repeat' first | exact rfl | refine Eq.trans ?_ (cTr (by assumption)) | refine Eq.trans ?_ (cFr (by assumption)) | refine Eq.trans (cTl (by assumption)) ?_ | refine Eq.trans (cFl (by assumption)) ?_))) hj
        · skip
          refine zReg md0 hX rfl rfl rfl ?_
          exact rTo (To.mk' [] 0 hε rfl (by (repeat' first | exact True.intro | exact rfl | apply And.intro) <;> (repeat' first | exact rfl | refine Eq.trans ?_ (cTr (by assumption)) | refine Eq.trans ?_ (cFr (by assumption)) | refine Eq.trans (cTl (by assumption)) ?_ | refine Eq.trans (cFl (by assumption)) ?_)) (by (repeat' first | exact True.intro | exact rfl | apply And.intro) <;> (repeat' first | exact rfl | refine Eq.trans ?_ (cTr (by assumption)) | refine Eq.trans ?_ (cFr (by assumption)) | refine Eq.trans (cTl (by assumption)) ?_ | refine Eq.trans (cFl (by assumption)) ?_))) hj
  · cases h
def planes_Right_b1 (N : Nat) (a1 : Int) (a2 : (List (List Int))) (s1 : (Bool × Int)) : Option ((Bool × Int) ⊕ Bool) :=
  bif (decide (s1.2 < 3)) then
    if (0 : Int) ≤ s1.2 ∧ s1.2 < 3 ∧ (s1.2).toNat < 3 then
      let c2 := (formats_Plane N a1 s1.2)
      if c2.isSome = true then
        let x1 := (bif s1.1 then (decide (((a2.getD (s1.2).toNat []).length : Int) = ((c2.getD default).1 * (c2.getD default).2))) else false)
        if (s1.1 = true → inK .i64 ((c2.getD default).1 * (c2.getD default).2)) then
          if inK .i64 (s1.2 + 1) then
            some (.inl (x1, (s1.2 + 1)))
          else none
        else none
      else none
    else none
  else
    some (.inr s1.1)
def planes_Right (N : Nat) (a1 : Int) (a2 : (List (List Int))) : Option Bool :=
  let c1 := (formats_Size N a1)
  if c1.isSome = true then
    (iter (planes_Right_b1 N a1 a2) N ((c1.getD default).2.2, 0)).bind fun v1 =>
      some v1
  else none
def sp_planes_Right (N : Nat) : X.Spec := fun args lk => match args with
  | [.v (.agg [.cs [.int .i64 a1], .fzs 3 (.int .u8) a2])] => some ⟨(planes_Right N a1 a2).isSome = true, .v (.c (.bool ((planes_Right N a1 a2).getD default))), [], []⟩
  | _ => none
set_option maxRecDepth 100000 in
set_option maxHeartbeats 1000000 in
theorem ok_planes_Right (N : Nat) : FnOK Tryd.prog gt0 91 (sp_planes_Right N) := by
  refine fnOK_handed Tryd.func91 rfl (by kernel_rfl) tt_ok (ktCons (ok_formats_Plane N) (ktCons (ok_formats_Size N) (ktNil))) ?_
  intro args lk r h hp
  unfold sp_planes_Right at h
  split at h
  · rename_i a1 a2
    change (List (List Int)) at a2
    cases h
    obtain ⟨x, hx⟩ := Option.isSome_iff_exists.1 hp
    simp only [hx, Option.getD_some]
    refine hand0 rfl rfl (fun w0 M ε0 hX => ?_)
    refine rCount (fun hε => ?_)
    have hT : planes_Right N a1 a2 = some x := hx; clear hx hp; unfold planes_Right at hT
    refine rSeq ?_
    refine zReg md0 hX rfl rfl rfl ?_
    refine rThen ?_
    refine rSeq ?_
    let c1 := (formats_Size N a1)
    replace hT := sIf hT; obtain ⟨o1, hT⟩ := hT
    refine zReg md0 hX rfl rfl rfl ?_
    refine rThen ?_
    refine rSeq ?_
    refine rSeq ?_
    refine zReg md0 hX rfl rfl rfl ?_
    refine rThen ?_
    refine rBlock ?_
    replace hT := sBind hT; obtain ⟨w1, hl, hT⟩ := hT
    refine rJoinA (fun v1 => v1 = w1) (fun v1 => ⟨[(2, .v (.c (.bool false))), (5, .v (.c (.bool v1)))], [], 1⟩) (.exit 0) (fun v1 hv => ?_) (fun hxs10 => ?_)
    · subst hv; clear hl
      refine rInHit ?_
      refine rThen ?_
      refine rSeq ?_
      refine zReg md0 hX rfl rfl rfl ?_
      refine rThen ?_
      refine rRet ?_
      have hy := Option.some.inj hT; subst hy
      exact zEnd0 hX rfl
    refine rLoopM (planes_Right_b1 N a1 a2) (fun s1 => ⟨[(1, .v (.c (.ptr 0 0 0 0 0 0))), (2, .v (.c (.bool false))), (5, .v (.c (.bool s1.1))), (18, .v (.agg [.fzs 3 (.int .u8) a2])), (19, .v (.c (.int .i64 s1.2)))], [(0, .mem true 62 none (.flat [.cs [.int .i64 a1], .fzs 3 (.int .u8) a2]))], 1⟩) hl (To.mk' [] 0 hε rfl (by repeat' first | exact True.intro | exact rfl | apply And.intro) (by repeat' first | exact True.intro | exact rfl | apply And.intro)) (fun s1 zs1 NNs1 hz hnexts1 houts1 => ?_)
    clear hl hT
    have hT := hz; clear hz
    refine rSeq ?_
    refine zReg md0 hX rfl rfl rfl ?_
    refine rThen ?_
    refine rSeq ?_
    refine zCond rfl rfl (fun hc => ?_) (fun hc => ?_)
    · replace hT := sT hc hT
      refine rSkip ?_
      refine rThen ?_
      refine rSeq ?_
      refine rBlock ?_
      refine rSeq ?_
      replace hT := sIf hT; obtain ⟨⟨o1, o2, o3⟩, hT⟩ := hT
      refine zReg md0 hX rfl rfl rfl ?_
      refine rThen ?_
      refine rSeq ?_
      let c2 := (formats_Plane N a1 s1.2)
      replace hT := sIf hT; obtain ⟨o1, hT⟩ := hT
      refine zReg md0 hX rfl rfl rfl ?_
      refine rThen ?_
      let x1 := (bif s1.1 then (decide (((a2.getD (s1.2).toNat []).length : Int) = ((c2.getD default).1 * (c2.getD default).2))) else false)
      replace hT := sIf hT; obtain ⟨o1, hT⟩ := hT
      refine rRegC md0 hX rfl rfl rfl (by (repeat' first | exact True.intro | with_reducible assumption | (with_reducible apply And.intro) | intro _) <;> first | assumption | exact o1 (by assumption) | exact rfl | omega | exact Nat.le_of_ble_eq_true rfl | exact selF (by assumption) | exact selT (by assumption) | exact And.intro rfl rfl | exact And.intro (by assumption) rfl | exact And.intro (by omega) rfl | (simp only [inK] at *; omega) | (simp_all [sel] <;> fail) | fail) ?_
      refine rInNormal ?_
      refine rThen ?_
      replace hT := sIf hT; obtain ⟨o1, hT⟩ := hT
      refine zReg md0 hX rfl rfl rfl ?_
      exact hnexts1 _ (Option.some.inj hT).symm _ (To.mk' [] 0 hε rfl (by repeat' first | exact True.intro | exact rfl | apply And.intro) (by repeat' first | exact True.intro | exact rfl | apply And.intro))
    · replace hT := sF hc hT
      refine rExit ?_
      refine rThenExit ?_
      refine rThenExit ?_
      exact zTo [] 0 hε (hxs10 _ (houts1 _ (Option.some.inj hT).symm))
  · cases h
def motion_within (N : Nat) (a1 : Int) (a2 : Int) (a3 : Int) : Option Bool :=
  if ((decide ((0 : Int) ≤ a1)) = true → inK .i64 (a1 + 1)) ∧ ((decide ((0 : Int) ≤ a1)) = true → (0 : Int) ≤ (a1 + 1)) ∧ ((decide ((0 : Int) ≤ a1)) = true → inK .i64 (((a1 + 1) / 2) + a2)) then
    some (bif (decide ((0 : Int) ≤ a1)) then (decide ((((a1 + 1) / 2) + a2) ≤ a3)) else false)
  else none
def sp_motion_within (N : Nat) : X.Spec := fun args lk => match args with
  | [.v (.c (.int .i64 a1)), .v (.c (.int .i64 a2)), .v (.c (.int .i64 a3))] => some ⟨(motion_within N a1 a2 a3).isSome = true, .v (.c (.bool ((motion_within N a1 a2 a3).getD default))), [], []⟩
  | _ => none
set_option maxRecDepth 100000 in
set_option maxHeartbeats 1000000 in
theorem ok_motion_within (N : Nat) : FnOK Tryd.prog gt0 152 (sp_motion_within N) := by
  refine fnOK_handed Tryd.func152 rfl (by kernel_rfl) tt_ok (ktNil) ?_
  intro args lk r h hp
  unfold sp_motion_within at h
  split at h
  · rename_i a1 a2 a3
    cases h
    obtain ⟨x, hx⟩ := Option.isSome_iff_exists.1 hp
    simp only [hx, Option.getD_some]
    refine hand0 rfl rfl (fun w0 M ε0 hX => ?_)
    refine rCount (fun hε => ?_)
    have hT : motion_within N a1 a2 a3 = some x := hx; clear hx hp; unfold motion_within at hT
    refine rSeq ?_
    refine zReg md0 hX rfl rfl rfl ?_
    refine rThen ?_
    refine rSeq ?_
    replace hT := sIf hT; obtain ⟨⟨o1, o2, o3⟩, hT⟩ := hT
    refine rRegC md0 hX rfl rfl rfl (by (repeat' first | exact True.intro | with_reducible assumption | (with_reducible apply And.intro) | intro _) <;> first | assumption | exact o1 (by assumption) | exact o2 (by assumption) | exact o3 (by assumption) | exact rfl | omega | exact Nat.le_of_ble_eq_true rfl | exact selF (by assumption) | exact selT (by assumption) | exact And.intro rfl rfl | exact And.intro (by assumption) rfl | exact And.intro (by omega) rfl | (simp only [inK] at *; omega) | (simp_all [sel] <;> fail) | fail) ?_
    refine rThen ?_
    refine rRet ?_
    have hy := Option.some.inj hT; subst hy
    exact zEnd0 hX rfl
  · cases h
def motion_May_b1 (N : Nat) (a3 : (List Int)) (s1 : Int) : Option (Int ⊕ (Unit ⊕ Unit)) :=
  bif (decide (s1 < 2)) then
    if (0 : Int) ≤ s1 ∧ s1 < 2 ∧ (s1).toNat < 2 then
      let x2 := (bif (decide ((a3.getD (s1).toNat 0) < (-32))) then true else (decide ((31 : Int) < (a3.getD (s1).toNat 0))))
      bif x2 then
        some (.inr (Sum.inl ()))
      else
        if inK .i64 (s1 + 1) then
          some (.inl (s1 + 1))
        else none
    else none
  else
    some (.inr (Sum.inr ()))
def motion_May (N : Nat) (a1 : Int) (a2 : Int) (a3 : (List Int)) : Option Bool :=
  let c1 := (formats_Cells N a1)
  if c1.isSome = true then
    let c2 := (formats_Size N a1)
    if c2.isSome = true then
      let x1 := (bif (bif (!(c2.getD default).2.2) then true else (decide (a2 < 0))) then true else (decide (((c1.getD default).1 * (c1.getD default).2) ≤ a2)))
      if ((!(bif (!(c2.getD default).2.2) then true else (decide (a2 < 0)))) = true → inK .i64 ((c1.getD default).1 * (c1.getD default).2)) then
        bif x1 then
          some false
        else
          (iter (motion_May_b1 N a3) N 0).bind fun w1 =>
            (Sum.elim (fun v1 =>
              some false
            )
              (fun v2 =>
                let c3 := (motion_within N (((32 : Int) * (a2 % (c1.getD default).1)) + (a3.getD 0 0)) 16 (c2.getD default).1)
                let c4 := (motion_within N (((32 : Int) * (a2 / (c1.getD default).1)) + (a3.getD 1 0)) 16 (c2.getD default).2.1)
                if (0 : Int) ≤ a2 ∧ (0 : Int) < (c1.getD default).1 ∧ inK .i64 ((32 : Int) * (a2 % (c1.getD default).1)) ∧ inK .i64 (((32 : Int) * (a2 % (c1.getD default).1)) + (a3.getD 0 0)) ∧ c3.isSome = true ∧ ((c3.getD default) = true → (0 : Int) ≤ a2) ∧ ((c3.getD default) = true → (0 : Int) < (c1.getD default).1) ∧ ((c3.getD default) = true → inK .i64 ((32 : Int) * (a2 / (c1.getD default).1))) ∧ ((c3.getD default) = true → inK .i64 (((32 : Int) * (a2 / (c1.getD default).1)) + (a3.getD 1 0))) ∧ ((c3.getD default) = true → c4.isSome = true) then
                  some (bif (c3.getD default) then (c4.getD default) else false)
                else none
              )
            ) w1
      else none
    else none
  else none
def sp_motion_May (N : Nat) : X.Spec := fun args lk => match args with
  | [.v (.c (.int .i64 a1)), .v (.c (.int .i64 a2)), .v (.agg [.ints 2 .i64 a3])] => some ⟨(motion_May N a1 a2 a3).isSome = true, .v (.c (.bool ((motion_May N a1 a2 a3).getD default))), [], []⟩
  | _ => none
set_option maxRecDepth 100000 in
set_option maxHeartbeats 1000000 in
theorem ok_motion_May (N : Nat) : FnOK Tryd.prog gt0 130 (sp_motion_May N) := by
  refine fnOK_handed Tryd.func130 rfl (by kernel_rfl) tt_ok (ktCons (ok_motion_within N) (ktCons (ok_formats_Size N) (ktCons (ok_formats_Cells N) (ktNil)))) ?_
  intro args lk r h hp
  unfold sp_motion_May at h
  split at h
  · rename_i a1 a2 a3
    change (List Int) at a3
    cases h
    obtain ⟨x, hx⟩ := Option.isSome_iff_exists.1 hp
    simp only [hx, Option.getD_some]
    refine hand0 rfl rfl (fun w0 M ε0 hX => ?_)
    refine rCount (fun hε => ?_)
    have hT : motion_May N a1 a2 a3 = some x := hx; clear hx hp; unfold motion_May at hT
    refine rSeq ?_
    refine zReg md0 hX rfl rfl rfl ?_
    refine rThen ?_
    refine rSeq ?_
    let c1 := (formats_Cells N a1)
    replace hT := sIf hT; obtain ⟨o1, hT⟩ := hT
    refine zReg md0 hX rfl rfl rfl ?_
    refine rThen ?_
    refine rSeq ?_
    let c2 := (formats_Size N a1)
    replace hT := sIf hT; obtain ⟨o1, hT⟩ := hT
    refine zReg md0 hX rfl rfl rfl ?_
    refine rThen ?_
    refine rSeq ?_
    refine rSeq ?_
    let x1 := (bif (bif (!(c2.getD default).2.2) then true else (decide (a2 < 0))) then true else (decide (((c1.getD default).1 * (c1.getD default).2) ≤ a2)))
    replace hT := sIf hT; obtain ⟨o1, hT⟩ := hT
    refine rRegC md0 hX rfl rfl rfl (by (repeat' first | exact True.intro | with_reducible assumption | (with_reducible apply And.intro) | intro _) <;> first | assumption | exact o1 (by assumption) | exact rfl | omega | exact Nat.le_of_ble_eq_true rfl | exact selF (by assumption) | exact selT (by assumption) | exact And.intro rfl rfl | exact And.intro (by assumption) rfl | exact And.intro (by omega) rfl | (simp only [inK] at *; omega) | (simp_all [sel] <;> fail) | fail) ?_
    refine rThen ?_
    refine zCond rfl rfl (fun hc => ?_) (fun hc => ?_)
    · replace hT := sT hc hT
      refine rSeq ?_
      refine zReg md0 hX rfl rfl rfl ?_
      refine rThen ?_
      refine rRet ?_
      refine rThenRet ?_
      have hy := Option.some.inj hT; subst hy
      exact zEnd0 hX rfl
    · replace hT := sF hc hT
      refine rSkip ?_
      refine rThen ?_
      refine rSeq ?_
      refine rSeq ?_
      refine zReg md0 hX rfl rfl rfl ?_
      refine rThen ?_
      refine rBlock ?_
      replace hT := sBind hT; obtain ⟨w1, hl, hT⟩ := hT
      refine rJoinA (fun v1 => (Sum.inl v1) = w1) (fun v1 => ⟨[(6, .v (.c (.bool false)))], [], 1⟩) .ret (fun v1 hv => ?_) (fun hxs10 => ?_)
      · subst hv; clear hl; replace hT := (sElimL hT)
        refine rInRet ?_
        refine rThenRet ?_
        have hy := Option.some.inj hT; subst hy
        exact zEnd0 hX rfl
      refine rJoinA (fun v2 => (Sum.inr v2) = w1) (fun v2 => ⟨[(1, .v (.c (.int .i64 a2))), (5, .v (.c (.ptr 0 0 0 0 0 0))), (6, .v (.c (.bool false))), (7, .v (.c (.int .i64 (c1.getD default).1))), (9, .v (.c (.int .i64 (c2.getD default).1))), (10, .v (.c (.int .i64 (c2.getD default).2.1)))], [(0, .mem true 32 none (.flat [.ints 2 .i64 a3]))], 1⟩) (.exit 0) (fun v2 hv => ?_) (fun hxs11 => ?_)
      · subst hv; clear hl; replace hT := (sElimR hT)
        refine rInHit ?_
        refine rThen ?_
        refine rSeq ?_
        let c3 := (motion_within N (((32 : Int) * (a2 % (c1.getD default).1)) + (a3.getD 0 0)) 16 (c2.getD default).1)
        let c4 := (motion_within N (((32 : Int) * (a2 / (c1.getD default).1)) + (a3.getD 1 0)) 16 (c2.getD default).2.1)
        replace hT := sIf hT; obtain ⟨⟨o1, o2, o3, o4, o5, o6, o7, o8, o9, o10⟩, hT⟩ := hT
        refine rDrawM md0 0 [] hX mixed rfl rfl rfl rfl rfl (by (repeat' first | exact True.intro | with_reducible assumption | (with_reducible apply And.intro) | intro _) <;> first | assumption | exact o6 (by assumption) | exact o7 (by assumption) | exact o8 (by assumption) | exact o9 (by assumption) | exact o10 (by assumption) | exact rfl | omega | exact Nat.le_of_ble_eq_true rfl | exact selF (by assumption) | exact selT (by assumption) | exact And.intro rfl rfl | exact And.intro (by assumption) rfl | exact And.intro (by omega) rfl | (simp only [inK] at *; omega) | (simp_all [sel] <;> fail) | fail) ?_
        refine rThen ?_
        refine rRet ?_
        have hy := Option.some.inj hT; subst hy
        exact zEnd0 hX rfl
      refine rLoopM (motion_May_b1 N a3) (fun s1 => ⟨[(1, .v (.c (.int .i64 a2))), (5, .v (.c (.ptr 0 0 0 0 0 0))), (6, .v (.c (.bool false))), (7, .v (.c (.int .i64 (c1.getD default).1))), (9, .v (.c (.int .i64 (c2.getD default).1))), (10, .v (.c (.int .i64 (c2.getD default).2.1))), (38, .v (.agg [.ints 2 .i64 a3])), (39, .v (.c (.int .i64 s1)))], [(0, .mem true 32 none (.flat [.ints 2 .i64 a3]))], 1⟩) hl (To.mk' [] 0 hε rfl (by repeat' first | exact True.intro | exact rfl | apply And.intro) (by repeat' first | exact True.intro | exact rfl | apply And.intro)) (fun s1 zs1 NNs1 hz hnexts1 houts1 => ?_)
      clear hl hT
      have hT := hz; clear hz
      refine rSeq ?_
      refine zReg md0 hX rfl rfl rfl ?_
      refine rThen ?_
      refine rSeq ?_
      refine zCond rfl rfl (fun hc => ?_) (fun hc => ?_)
      · replace hT := sT hc hT
        refine rSkip ?_
        refine rThen ?_
        refine rSeq ?_
        refine rBlock ?_
        refine rSeq ?_
        replace hT := sIf hT; obtain ⟨⟨o1, o2, o3⟩, hT⟩ := hT
        refine zReg md0 hX rfl rfl rfl ?_
        refine rThen ?_
        refine rSeq ?_
        let x2 := (bif (decide ((a3.getD (s1).toNat 0) < (-32))) then true else (decide ((31 : Int) < (a3.getD (s1).toNat 0))))
        refine zReg md0 hX rfl rfl rfl ?_
        refine rThen ?_
        refine zCond rfl rfl (fun hc => ?_) (fun hc => ?_)
        · replace hT := sT hc hT
          refine rSeq ?_
          refine zReg md0 hX rfl rfl rfl ?_
          refine rThen ?_
          refine rRet ?_
          refine rInRet ?_
          refine rThenRet ?_
          refine rThenRet ?_
          exact zTo [] 0 hε (hxs10 _ (houts1 _ (Option.some.inj hT).symm))
        · replace hT := sF hc hT
          refine rSkip ?_
          refine rInNormal ?_
          refine rThen ?_
          replace hT := sIf hT; obtain ⟨o1, hT⟩ := hT
          refine zReg md0 hX rfl rfl rfl ?_
          exact hnexts1 _ (Option.some.inj hT).symm _ (To.mk' [] 0 hε rfl (by repeat' first | exact True.intro | exact rfl | apply And.intro) (by repeat' first | exact True.intro | exact rfl | apply And.intro))
      · replace hT := sF hc hT
        refine rExit ?_
        refine rThenExit ?_
        refine rThenExit ?_
        exact zTo [] 0 hε (hxs11 _ (houts1 _ (Option.some.inj hT).symm))
  · cases h
def motion_halves (N : Nat) (a1 : (List Int)) (a2 : Int) : Option ((List Int) × Int) :=
  some (a1, a2)
def sp_motion_halves (N : Nat) : X.Spec := fun args lk => match args with
  | [.v (.c (.fz (.int .u8) a1)), .v (.c (.int .i64 a2))] => some ⟨(motion_halves N a1 a2).isSome = true, .v (.c (.clo 154 [0])), [.mem true 90 none (.flat [.cs [.clo 153 [1, 2]]]), .mem true 59 none (.flat [.cs [.fz (.int .u8) ((motion_halves N a1 a2).getD default).1]]), .mem true 3 none (.flat [.cs [.int .i64 ((motion_halves N a1 a2).getD default).2]])], []⟩
  | _ => none
set_option maxRecDepth 100000 in
set_option maxHeartbeats 1000000 in
theorem ok_motion_halves (N : Nat) : FnOK Tryd.prog gt0 131 (sp_motion_halves N) := by
  refine fnOK_handed Tryd.func131 rfl (by kernel_rfl) tt_ok (ktNil) ?_
  intro args lk r h hp
  unfold sp_motion_halves at h
  split at h
  · rename_i a1 a2
    change (List Int) at a1
    cases h
    obtain ⟨x, hx⟩ := Option.isSome_iff_exists.1 hp
    simp only [hx, Option.getD_some]
    refine hand0 rfl rfl (fun w0 M ε0 hX => ?_)
    refine rCount (fun hε => ?_)
    have hT : motion_halves N a1 a2 = some x := hx; clear hx hp; unfold motion_halves at hT
    refine rSeq ?_
    refine zReg md0 hX rfl rfl rfl ?_
    refine rThen ?_
    refine rSeq ?_
    refine zReg md0 hX rfl rfl rfl ?_
    refine rThen ?_
    refine rSeq ?_
    refine zReg md0 hX rfl rfl rfl ?_
    refine rThen ?_
    refine rRet ?_
    have hy := Option.some.inj hT; subst hy
    exact rEndA [2, 0, 1] [.mem true 90 none (.flat [.cs [.clo 153 [0, 1]]]), .mem true 59 none (.flat [.cs [.fz (.int .u8) a1]]), .mem true 3 none (.flat [.cs [.int .i64 a2]])] [] (.v (.c (.clo 154 [2]))) hX rfl (by repeat' first | exact True.intro | exact rfl | apply And.intro | omega | exact Nat.le_of_ble_eq_true rfl) (by repeat' first | exact True.intro | exact rfl | apply And.intro) rfl rfl rfl (by repeat' first | exact True.intro | exact rfl | exact ⟨_, rfl, rfl⟩ | apply And.intro | exact Or.inl rfl) rfl rfl (by repeat' first | exact True.intro | exact rfl | exact ⟨_, rfl, rfl⟩ | apply And.intro | exact Or.inl rfl) rfl rfl
  · cases h
def motion_halves_1 (N : Nat) (a1 : Int) (a2 : Int) (a3 : (List Int)) (a4 : Int) : Option Int :=
  if inK .i64 (a2 * a4) ∧ inK .i64 ((a2 * a4) + a1) ∧ (0 : Int) ≤ ((a2 * a4) + a1) ∧ ((a2 * a4) + a1) < (a3.length : Int) ∧ inK .i64 (a3.getD ((a2 * a4) + a1).toNat 0) then
    some (a3.getD ((a2 * a4) + a1).toNat 0)
  else none
def sp_motion_halves_1 (N : Nat) : X.Spec := fun args lk => match args with
  | [.v (.c (.int .i64 a1)), .v (.c (.int .i64 a2)), .v (.c (.ptr i0 0 0 0 0 0)), .v (.c (.ptr i1 0 0 0 0 0))] => (match lk i0 with
    | some (.mem _ _ _ (.flat [.cs [.fz (.int .u8) a3]])) => (match lk i1 with
    | some (.mem _ _ _ (.flat [.cs [.int .i64 a4]])) => some ⟨(motion_halves_1 N a1 a2 a3 a4).isSome = true, .v (.c (.int .i64 ((motion_halves_1 N a1 a2 a3 a4).getD default))), [], []⟩
    | _ => none)
    | _ => none)
  | _ => none
set_option maxRecDepth 100000 in
set_option maxHeartbeats 1000000 in
theorem ok_motion_halves_1 (N : Nat) : FnOK Tryd.prog gt0 153 (sp_motion_halves_1 N) := by
  refine fnOK_handed Tryd.func153 rfl (by kernel_rfl) tt_ok (ktNil) ?_
  intro args lk r h hp
  unfold sp_motion_halves_1 at h
  split at h
  · rename_i a1 a2 i0 i1
    split at h
    · rename_i _ _ _ a3 hl0
      split at h
      · rename_i _ _ _ a4 hl1
        change (List Int) at a3
        cases h
        obtain ⟨x, hx⟩ := Option.isSome_iff_exists.1 hp
        simp only [hx, Option.getD_some]
        refine handL [i0, i1] 2 [(0, .mem false 59 none (.flat [.cs [.fz (.int .u8) a3]])), (1, .mem false 3 none (.flat [.cs [.int .i64 a4]]))] [.v (.c (.int .i64 a1)), .v (.c (.int .i64 a2)), .v (.c (.ptr 0 0 0 0 0 0)), .v (.c (.ptr 1 0 0 0 0 0))] rfl rfl rfl ⟨isSome_of hl1, isSome_of hl0, trivial⟩ ⟨⟨rfl, (by repeat' first | exact True.intro | exact rfl | exact ⟨_, rfl, rfl⟩ | apply And.intro | exact Or.inl rfl), _, hl0, sub_ro⟩, ⟨rfl, (by repeat' first | exact True.intro | exact rfl | exact ⟨_, rfl, rfl⟩ | apply And.intro | exact Or.inl rfl), _, hl1, sub_ro⟩, trivial⟩ rfl (fun w0 M ε0 hX => ?_)
        refine rCount (fun hε => ?_)
        have hT : motion_halves_1 N a1 a2 a3 a4 = some x := hx; clear hx hp; unfold motion_halves_1 at hT
        refine rSeq ?_
        refine zReg md0 hX rfl rfl rfl ?_
        refine rThen ?_
        refine rSeq ?_
        replace hT := sIf hT; obtain ⟨⟨o1, o2, o3, o4, o5⟩, hT⟩ := hT
        refine zReg md0 hX rfl rfl rfl ?_
        refine rThen ?_
        refine rRet ?_
        have hy := Option.some.inj hT; subst hy
        exact zEnd0 hX rfl
      · cases h
    · cases h
  · cases h
def motion_halves_2 (N : Nat) (a1 : Int) (a2 : Int) (a3 : (List Int)) (a4 : Int) : Option Int :=
  if (0 : Int) ≤ a1 ∧ (0 : Int) ≤ a2 then
    if (0 : Int) ≤ a1 ∧ ((decide ((a1 % 2) = 0)) = true → (0 : Int) ≤ a2) then
      bif (bif (decide ((a1 % 2) = 0)) then (decide ((a2 % 2) = 0)) else false) then
        let c1 := (motion_halves_1 N (a1 / 2) (a2 / 2) a3 a4)
        if c1.isSome = true then
          some (c1.getD default)
        else none
      else
        if (0 : Int) ≤ a2 then
          bif (decide ((a2 % 2) = 0)) then
            let c2 := (motion_halves_1 N (a1 / 2) (a2 / 2) a3 a4)
            let c3 := (motion_halves_1 N ((a1 / 2) + 1) (a2 / 2) a3 a4)
            if c2.isSome = true ∧ inK .i64 ((a1 / 2) + 1) ∧ c3.isSome = true ∧ inK .i64 ((c2.getD default) + (c3.getD default)) ∧ inK .i64 (((c2.getD default) + (c3.getD default)) + 1) ∧ (0 : Int) ≤ (((c2.getD default) + (c3.getD default)) + 1) then
              some ((((c2.getD default) + (c3.getD default)) + 1) / 2)
            else none
          else
            if (0 : Int) ≤ a1 then
              bif (decide ((a1 % 2) = 0)) then
                let c4 := (motion_halves_1 N (a1 / 2) (a2 / 2) a3 a4)
                let c5 := (motion_halves_1 N (a1 / 2) ((a2 / 2) + 1) a3 a4)
                if c4.isSome = true ∧ inK .i64 ((a2 / 2) + 1) ∧ c5.isSome = true ∧ inK .i64 ((c4.getD default) + (c5.getD default)) ∧ inK .i64 (((c4.getD default) + (c5.getD default)) + 1) ∧ (0 : Int) ≤ (((c4.getD default) + (c5.getD default)) + 1) then
                  some ((((c4.getD default) + (c5.getD default)) + 1) / 2)
                else none
              else
                let c6 := (motion_halves_1 N (a1 / 2) (a2 / 2) a3 a4)
                let c7 := (motion_halves_1 N ((a1 / 2) + 1) (a2 / 2) a3 a4)
                let c8 := (motion_halves_1 N (a1 / 2) ((a2 / 2) + 1) a3 a4)
                let c9 := (motion_halves_1 N ((a1 / 2) + 1) ((a2 / 2) + 1) a3 a4)
                let x1 := ((((((c6.getD default) + (c7.getD default)) + (c8.getD default)) + (c9.getD default)) + 2) / 4)
                if c6.isSome = true ∧ inK .i64 ((a1 / 2) + 1) ∧ c7.isSome = true ∧ inK .i64 ((c6.getD default) + (c7.getD default)) ∧ inK .i64 ((a2 / 2) + 1) ∧ c8.isSome = true ∧ inK .i64 (((c6.getD default) + (c7.getD default)) + (c8.getD default)) ∧ c9.isSome = true ∧ inK .i64 ((((c6.getD default) + (c7.getD default)) + (c8.getD default)) + (c9.getD default)) ∧ inK .i64 (((((c6.getD default) + (c7.getD default)) + (c8.getD default)) + (c9.getD default)) + 2) ∧ (0 : Int) ≤ (((((c6.getD default) + (c7.getD default)) + (c8.getD default)) + (c9.getD default)) + 2) then
                  some x1
                else none
            else none
        else none
    else none
  else none
def sp_motion_halves_2 (N : Nat) : X.Spec := fun args lk => match args with
  | [.v (.c (.int .i64 a1)), .v (.c (.int .i64 a2)), .v (.c (.ptr i0 0 0 0 0 0))] => (match lk i0 with
    | some (.mem _ _ _ (.flat [.cs [.clo 153 [i1, i2]]])) => (match lk i1 with
    | some (.mem _ _ _ (.flat [.cs [.fz (.int .u8) a3]])) => (match lk i2 with
    | some (.mem _ _ _ (.flat [.cs [.int .i64 a4]])) => some ⟨(motion_halves_2 N a1 a2 a3 a4).isSome = true, .v (.c (.int .i64 ((motion_halves_2 N a1 a2 a3 a4).getD default))), [], []⟩
    | _ => none)
    | _ => none)
    | _ => none)
  | _ => none
set_option maxRecDepth 100000 in
set_option maxHeartbeats 1000000 in
theorem ok_motion_halves_2 (N : Nat) : FnOK Tryd.prog gt0 154 (sp_motion_halves_2 N) := by
  refine fnOK_handed Tryd.func154 rfl (by kernel_rfl) tt_ok (ktCons (ok_motion_halves_1 N) (ktNil)) ?_
  intro args lk r h hp
  unfold sp_motion_halves_2 at h
  split at h
  · rename_i a1 a2 i0
    split at h
    · rename_i _ _ _ i1 i2 hl0
      split at h
      · rename_i _ _ _ a3 hl1
        split at h
        · rename_i _ _ _ a4 hl2
          change (List Int) at a3
          cases h
          obtain ⟨x, hx⟩ := Option.isSome_iff_exists.1 hp
          simp only [hx, Option.getD_some]
          refine handL [i0, i1, i2] 3 [(0, .mem false 90 none (.flat [.cs [.clo 153 [1, 2]]])), (1, .mem false 59 none (.flat [.cs [.fz (.int .u8) a3]])), (2, .mem false 3 none (.flat [.cs [.int .i64 a4]]))] [.v (.c (.int .i64 a1)), .v (.c (.int .i64 a2)), .v (.c (.ptr 0 0 0 0 0 0))] rfl rfl rfl ⟨isSome_of hl2, isSome_of hl1, isSome_of hl0, trivial⟩ ⟨⟨rfl, (by repeat' first | exact True.intro | exact rfl | exact ⟨_, rfl, rfl⟩ | apply And.intro | exact Or.inl rfl), _, hl0, sub_ro⟩, ⟨rfl, (by repeat' first | exact True.intro | exact rfl | exact ⟨_, rfl, rfl⟩ | apply And.intro | exact Or.inl rfl), _, hl1, sub_ro⟩, ⟨rfl, (by repeat' first | exact True.intro | exact rfl | exact ⟨_, rfl, rfl⟩ | apply And.intro | exact Or.inl rfl), _, hl2, sub_ro⟩, trivial⟩ rfl (fun w0 M ε0 hX => ?_)
          refine rCount (fun hε => ?_)
          have hT : motion_halves_2 N a1 a2 a3 a4 = some x := hx; clear hx hp; unfold motion_halves_2 at hT
          refine rSeq ?_
          refine zReg md0 hX rfl rfl rfl ?_
          refine rThen ?_
          refine rSeq ?_
          replace hT := sIf hT; obtain ⟨⟨o1, o2⟩, hT⟩ := hT
          refine zReg md0 hX rfl rfl rfl ?_
          refine rThen ?_
          refine rSeq ?_
          refine rBlock ?_
          refine rSeq ?_
          replace hT := sIf hT; obtain ⟨⟨o1, o2⟩, hT⟩ := hT
          refine rRegC md0 hX rfl rfl rfl (by (repeat' first | exact True.intro | with_reducible assumption | (with_reducible apply And.intro) | intro _) <;> first | assumption | exact o2 (by assumption) | exact rfl | omega | exact Nat.le_of_ble_eq_true rfl | exact selF (by assumption) | exact selT (by assumption) | exact And.intro rfl rfl | exact And.intro (by assumption) rfl | exact And.intro (by omega) rfl | (simp only [inK] at *; omega) | (simp_all [sel] <;> fail) | fail) ?_
          refine rThen ?_
          refine zCond rfl rfl (fun hc => ?_) (fun hc => ?_)
          · replace hT := sT hc hT
            refine rSeq ?_
            let c1 := (motion_halves_1 N (a1 / 2) (a2 / 2) a3 a4)
            replace hT := sIf hT; obtain ⟨o1, hT⟩ := hT
            refine zReg md0 hX rfl rfl rfl ?_
            refine rThen ?_
            refine rRet ?_
            refine rInRet ?_
            refine rThenRet ?_
            have hy := Option.some.inj hT; subst hy
            exact zEnd0 hX rfl
          · replace hT := sF hc hT
            refine rSeq ?_
            replace hT := sIf hT; obtain ⟨o1, hT⟩ := hT
            refine zReg md0 hX rfl rfl rfl ?_
            refine rThen ?_
            refine zCond rfl rfl (fun hc => ?_) (fun hc => ?_)
            · replace hT := sT hc hT
              refine rSeq ?_
              let c2 := (motion_halves_1 N (a1 / 2) (a2 / 2) a3 a4)
              let c3 := (motion_halves_1 N ((a1 / 2) + 1) (a2 / 2) a3 a4)
              replace hT := sIf hT; obtain ⟨⟨o1, o2, o3, o4, o5, o6⟩, hT⟩ := hT
              refine zDraw md0 0 [] hX mixed rfl rfl rfl rfl rfl ?_
              refine rThen ?_
              refine rRet ?_
              refine rInRet ?_
              refine rThenRet ?_
              have hy := Option.some.inj hT; subst hy
              exact zEnd0 hX rfl
            · replace hT := sF hc hT
              refine rSeq ?_
              replace hT := sIf hT; obtain ⟨o1, hT⟩ := hT
              refine zReg md0 hX rfl rfl rfl ?_
              refine rThen ?_
              refine zCond rfl rfl (fun hc => ?_) (fun hc => ?_)
              · replace hT := sT hc hT
                refine rSeq ?_
                let c4 := (motion_halves_1 N (a1 / 2) (a2 / 2) a3 a4)
                let c5 := (motion_halves_1 N (a1 / 2) ((a2 / 2) + 1) a3 a4)
                replace hT := sIf hT; obtain ⟨⟨o1, o2, o3, o4, o5, o6⟩, hT⟩ := hT
                refine zDraw md0 0 [] hX mixed rfl rfl rfl rfl rfl ?_
                refine rThen ?_
                refine rRet ?_
                refine rInRet ?_
                refine rThenRet ?_
                have hy := Option.some.inj hT; subst hy
                exact zEnd0 hX rfl
              · replace hT := sF hc hT
                refine rSkip ?_
                refine rInNormal ?_
                refine rThen ?_
                refine rSeq ?_
                let c6 := (motion_halves_1 N (a1 / 2) (a2 / 2) a3 a4)
                let c7 := (motion_halves_1 N ((a1 / 2) + 1) (a2 / 2) a3 a4)
                let c8 := (motion_halves_1 N (a1 / 2) ((a2 / 2) + 1) a3 a4)
                let c9 := (motion_halves_1 N ((a1 / 2) + 1) ((a2 / 2) + 1) a3 a4)
                let x1 := ((((((c6.getD default) + (c7.getD default)) + (c8.getD default)) + (c9.getD default)) + 2) / 4)
                replace hT := sIf hT; obtain ⟨⟨o1, o2, o3, o4, o5, o6, o7, o8, o9, o10, o11⟩, hT⟩ := hT
                refine zDraw md0 0 [] hX mixed rfl rfl rfl rfl rfl ?_
                refine rThen ?_
                refine rRet ?_
                have hy := Option.some.inj hT; subst hy
                exact zEnd0 hX rfl
        · cases h
      · cases h
    · cases h
  · cases h
def motion_laid_halves_2_b1 (N : Nat) (a1 : Int) (a2 : Int) (a3 : (List Int)) (a4 : Int) (s1 : (Int × (List Int))) : Option ((Int × (List Int)) ⊕ (List Int)) :=
  bif (decide (s1.1 < 64)) then
    let c1 := (motion_halves_2 N (a1 + ((2 : Int) * (s1.1 % 8))) (a2 + ((2 : Int) * (s1.1 / 8))) a3 a4)
    if (0 : Int) ≤ s1.1 ∧ inK .i64 ((2 : Int) * (s1.1 % 8)) ∧ inK .i64 (a1 + ((2 : Int) * (s1.1 % 8))) ∧ inK .i64 ((2 : Int) * (s1.1 / 8)) ∧ inK .i64 (a2 + ((2 : Int) * (s1.1 / 8))) ∧ c1.isSome = true ∧ s1.1 < 64 ∧ (s1.1).toNat < 64 then
      if inK .i64 (s1.1 + 1) then
        some (.inl ((s1.1 + 1), (s1.2.set (s1.1).toNat (c1.getD default))))
      else none
    else none
  else
    some (.inr s1.2)
def motion_laid_halves_2 (N : Nat) (a1 : Int) (a2 : Int) (a3 : (List Int)) (a4 : Int) : Option (List Int) :=
  (iter (motion_laid_halves_2_b1 N a1 a2 a3 a4) N (0, (List.replicate 64 0))).bind fun v1 =>
    some v1
def sp_motion_laid_halves_2 (N : Nat) : X.Spec := fun args lk => match args with
  | [.v (.c (.clo 154 [i0])), .v (.c (.int .i64 a1)), .v (.c (.int .i64 a2))] => (match lk i0 with
    | some (.mem _ _ _ (.flat [.cs [.clo 153 [i1, i2]]])) => (match lk i1 with
    | some (.mem _ _ _ (.flat [.cs [.fz (.int .u8) a3]])) => (match lk i2 with
    | some (.mem _ _ _ (.flat [.cs [.int .i64 a4]])) => some ⟨(motion_laid_halves_2 N a1 a2 a3 a4).isSome = true, .v (.agg [.ints 64 .i64 ((motion_laid_halves_2 N a1 a2 a3 a4).getD default)]), [], []⟩
    | _ => none)
    | _ => none)
    | _ => none)
  | _ => none
set_option maxRecDepth 100000 in
set_option maxHeartbeats 1000000 in
theorem ok_motion_laid_halves_2 (N : Nat) : FnOK Tryd.prog gt0 132 (sp_motion_laid_halves_2 N) := by
  refine fnOK_handed Tryd.func132 rfl (by kernel_rfl) tt_ok (ktCons (ok_motion_halves_2 N) (ktNil)) ?_
  intro args lk r h hp
  unfold sp_motion_laid_halves_2 at h
  split at h
  · rename_i i0 a1 a2
    split at h
    · rename_i _ _ _ i1 i2 hl0
      split at h
      · rename_i _ _ _ a3 hl1
        split at h
        · rename_i _ _ _ a4 hl2
          change (List Int) at a3
          cases h
          obtain ⟨x, hx⟩ := Option.isSome_iff_exists.1 hp
          simp only [hx, Option.getD_some]
          refine handL [i0, i1, i2] 3 [(0, .mem false 90 none (.flat [.cs [.clo 153 [1, 2]]])), (1, .mem false 59 none (.flat [.cs [.fz (.int .u8) a3]])), (2, .mem false 3 none (.flat [.cs [.int .i64 a4]]))] [.v (.c (.clo 154 [0])), .v (.c (.int .i64 a1)), .v (.c (.int .i64 a2))] rfl rfl rfl ⟨isSome_of hl2, isSome_of hl1, isSome_of hl0, trivial⟩ ⟨⟨rfl, (by repeat' first | exact True.intro | exact rfl | exact ⟨_, rfl, rfl⟩ | apply And.intro | exact Or.inl rfl), _, hl0, sub_ro⟩, ⟨rfl, (by repeat' first | exact True.intro | exact rfl | exact ⟨_, rfl, rfl⟩ | apply And.intro | exact Or.inl rfl), _, hl1, sub_ro⟩, ⟨rfl, (by repeat' first | exact True.intro | exact rfl | exact ⟨_, rfl, rfl⟩ | apply And.intro | exact Or.inl rfl), _, hl2, sub_ro⟩, trivial⟩ rfl (fun w0 M ε0 hX => ?_)
          refine rCount (fun hε => ?_)
          have hT : motion_laid_halves_2 N a1 a2 a3 a4 = some x := hx; clear hx hp; unfold motion_laid_halves_2 at hT
          refine rSeq ?_
          refine zReg md0 hX rfl rfl rfl ?_
          refine rThen ?_
          refine rSeq ?_
          refine zReg md0 hX rfl rfl rfl ?_
          refine rThen ?_
          refine rSeq ?_
          refine rSeq ?_
          refine zReg md0 hX rfl rfl rfl ?_
          refine rThen ?_
          refine rBlock ?_
          replace hT := sBind hT; obtain ⟨w1, hl, hT⟩ := hT
          refine rJoinA (fun v1 => v1 = w1) (fun v1 => ⟨[(6, .v (.c (.ptr 3 0 0 0 0 0))), (7, .v (.c (.ptr 4 0 0 0 0 0)))], [(0, .mem false 90 none (.flat [.cs [.clo 153 [1, 2]]])), (1, .mem false 59 none (.flat [.cs [.fz (.int .u8) a3]])), (2, .mem false 3 none (.flat [.cs [.int .i64 a4]])), (3, .mem true 22 none (.flat [.ints 64 .i64 (List.replicate 64 0)])), (4, .mem true 22 none (.flat [.ints 64 .i64 v1]))], 5⟩) (.exit 0) (fun v1 hv => ?_) (fun hxs10 => ?_)
          · subst hv; clear hl
            refine rInHit ?_
            refine rThen ?_
            refine rSeq ?_
            refine zReg md0 hX rfl rfl rfl ?_
            refine rThen ?_
            refine rRet ?_
            have hy := Option.some.inj hT; subst hy
            exact zEnd0 hX rfl
          refine rLoopM (motion_laid_halves_2_b1 N a1 a2 a3 a4) (fun s1 => ⟨[(0, .v (.c (.clo 154 [0]))), (1, .v (.c (.int .i64 a1))), (2, .v (.c (.int .i64 a2))), (6, .v (.c (.ptr 3 0 0 0 0 0))), (7, .v (.c (.ptr 4 0 0 0 0 0))), (9, .v (.c (.int .i64 s1.1)))], [(0, .mem false 90 none (.flat [.cs [.clo 153 [1, 2]]])), (1, .mem false 59 none (.flat [.cs [.fz (.int .u8) a3]])), (2, .mem false 3 none (.flat [.cs [.int .i64 a4]])), (3, .mem true 22 none (.flat [.ints 64 .i64 (List.replicate 64 0)])), (4, .mem true 22 none (.flat [.ints 64 .i64 s1.2]))], 5⟩) hl (To.mk' [] 3 hε rfl (by repeat' first | exact True.intro | exact rfl | apply And.intro) (by repeat' first | exact True.intro | exact rfl | apply And.intro)) (fun s1 zs1 NNs1 hz hnexts1 houts1 => ?_)
          clear hl hT
          have hT := hz; clear hz
          refine rSeq ?_
          refine zReg md0 hX rfl rfl rfl ?_
          refine rThen ?_
          refine rSeq ?_
          refine zCond rfl rfl (fun hc => ?_) (fun hc => ?_)
          · replace hT := sT hc hT
            refine rSkip ?_
            refine rThen ?_
            refine rSeq ?_
            refine rBlock ?_
            refine rSeq ?_
            refine zReg md0 hX rfl rfl rfl ?_
            refine rThen ?_
            let c1 := (motion_halves_2 N (a1 + ((2 : Int) * (s1.1 % 8))) (a2 + ((2 : Int) * (s1.1 / 8))) a3 a4)
            replace hT := sIf hT; obtain ⟨⟨o1, o2, o3, o4, o5, o6, o7, o8⟩, hT⟩ := hT
            refine zReg md0 hX rfl rfl rfl ?_
            refine rInNormal ?_
            refine rThen ?_
            replace hT := sIf hT; obtain ⟨o1, hT⟩ := hT
            refine zReg md0 hX rfl rfl rfl ?_
            exact hnexts1 _ (Option.some.inj hT).symm _ (To.mk' [] 3 hε rfl (by repeat' first | exact True.intro | exact rfl | apply And.intro) (by repeat' first | exact True.intro | exact rfl | apply And.intro))
          · replace hT := sF hc hT
            refine rExit ?_
            refine rThenExit ?_
            refine rThenExit ?_
            exact zTo [] 3 hε (hxs10 _ (houts1 _ (Option.some.inj hT).symm))
        · cases h
      · cases h
    · cases h
  · cases h
def motion_Chroma (N : Nat) (a1 : Int) : Option Int :=
  let c1 := (whole_Clip N a1 (-64) 64)
  if c1.isSome = true then
    if inK .i64 (-(c1.getD default)) then
      if (0 : Int) ≤ (max (c1.getD default) (-(c1.getD default))) ∧ inK .i64 ((2 : Int) * ((max (c1.getD default) (-(c1.getD default))) / 4)) then
        if (0 : Int) ≤ (max (c1.getD default) (-(c1.getD default))) then
          if ((decide (((max (c1.getD default) (-(c1.getD default))) % 4) ≠ 0)) = true → inK .i64 (((2 : Int) * ((max (c1.getD default) (-(c1.getD default))) / 4)) + 1)) then
            let x1 := (bif (decide (((max (c1.getD default) (-(c1.getD default))) % 4) ≠ 0)) then (((2 : Int) * ((max (c1.getD default) (-(c1.getD default))) / 4)) + 1) else ((2 : Int) * ((max (c1.getD default) (-(c1.getD default))) / 4)))
            bif (decide ((c1.getD default) < 0)) then
              if inK .i64 (-x1) then
                some (-x1)
              else none
            else
              some x1
          else none
        else none
      else none
    else none
  else none
def sp_motion_Chroma (N : Nat) : X.Spec := fun args lk => match args with
  | [.v (.c (.int .i64 a1))] => some ⟨(motion_Chroma N a1).isSome = true, .v (.c (.int .i64 ((motion_Chroma N a1).getD default))), [], []⟩
  | _ => none
set_option maxRecDepth 100000 in
set_option maxHeartbeats 1000000 in
theorem ok_motion_Chroma (N : Nat) : FnOK Tryd.prog gt0 133 (sp_motion_Chroma N) := by
  refine fnOK_handed Tryd.func133 rfl (by kernel_rfl) tt_ok (ktCons (ok_whole_Clip N) (ktNil)) ?_
  intro args lk r h hp
  unfold sp_motion_Chroma at h
  split at h
  · rename_i a1
    cases h
    obtain ⟨x, hx⟩ := Option.isSome_iff_exists.1 hp
    simp only [hx, Option.getD_some]
    refine hand0 rfl rfl (fun w0 M ε0 hX => ?_)
    refine rCount (fun hε => ?_)
    have hT : motion_Chroma N a1 = some x := hx; clear hx hp; unfold motion_Chroma at hT
    refine rSeq ?_
    refine zReg md0 hX rfl rfl rfl ?_
    refine rThen ?_
    refine rSeq ?_
    let c1 := (whole_Clip N a1 (-64) 64)
    replace hT := sIf hT; obtain ⟨o1, hT⟩ := hT
    refine zReg md0 hX rfl rfl rfl ?_
    refine rThen ?_
    refine rSeq ?_
    replace hT := sIf hT; obtain ⟨o1, hT⟩ := hT
    refine zReg md0 hX rfl rfl rfl ?_
    refine rThen ?_
    refine rSeq ?_
    replace hT := sIf hT; obtain ⟨⟨o1, o2⟩, hT⟩ := hT
    refine zReg md0 hX rfl rfl rfl ?_
    refine rThen ?_
    refine rSeq ?_
    refine rSeq ?_
    replace hT := sIf hT; obtain ⟨o1, hT⟩ := hT
    refine zReg md0 hX rfl rfl rfl ?_
    refine rThen ?_
    replace hT := sIf hT; obtain ⟨q1, hT⟩ := hT
    refine rJoin ⟨[(0, .v (.c (.int .i64 (c1.getD default)))), (2, .v (.c (.int .i64 0))), (4, .v (.c (.int .i64 (bif (decide (((max (c1.getD default) (-(c1.getD default))) % 4) ≠ 0)) then (((2 : Int) * ((max (c1.getD default) (-(c1.getD default))) / 4)) + 1) else ((2 : Int) * ((max (c1.getD default) (-(c1.getD default))) / 4))))))], [], 0⟩ ?_ (fun hj => ?_)
    · skip
      let x1 := (bif (decide (((max (c1.getD default) (-(c1.getD default))) % 4) ≠ 0)) then (((2 : Int) * ((max (c1.getD default) (-(c1.getD default))) / 4)) + 1) else ((2 : Int) * ((max (c1.getD default) (-(c1.getD default))) / 4)))
      refine rThen ?_
      refine rSeq ?_
      refine rSeq ?_
      refine zReg md0 hX rfl rfl rfl ?_
      refine rThen ?_
      refine zCond rfl rfl (fun hc => ?_) (fun hc => ?_)
      · replace hT := sT hc hT
        refine rSeq ?_
        replace hT := sIf hT; obtain ⟨o1, hT⟩ := hT
        refine zReg md0 hX rfl rfl rfl ?_
        refine rThen ?_
        refine rRet ?_
        refine rThenRet ?_
        have hy := Option.some.inj hT; subst hy
        exact zEnd0 hX rfl
      · replace hT := sF hc hT
        refine rSkip ?_
        refine rThen ?_
        refine rSeq ?_
        refine zReg md0 hX rfl rfl rfl ?_
        refine rThen ?_
        refine rRet ?_
        have hy := Option.some.inj hT; subst hy
        exact zEnd0 hX rfl
    · clear hT
      refine zCond rfl rfl (fun hc => ?_) (fun hc => ?_)
      · skip
        have q1 := q1 hc
        refine zReg md0 hX rfl rfl rfl ?_
        exact rTo (To.mk' [] 0 hε rfl (by (repeat' first | exact True.intro | exact rfl | apply And.intro) <;> (repeat' first | exact rfl | refine Eq.trans ?_ (cTr (by assumption)) | refine Eq.trans ?_ (cFr (by assumption)) | refine Eq.trans (cTl (by assumption)) ?_ | refine Eq.trans (cFl (by assumption)) ?_)) (by (repeat' first | exact True.intro | exact rfl | apply And.intro) <;> (repeat' first | exact rfl | refine Eq.trans ?_ (cTr (by assumption)) | refine Eq.trans ?_ (cFr (by assumption)) | refine Eq.trans (cTl (by assumption)) ?_ | refine Eq.trans (cFl (by assumption)) ?_))) hj
      · skip
        refine rSkip ?_
        exact rTo (To.mk' [] 0 hε rfl (by (repeat' first | exact True.intro | exact rfl | apply And.intro) <;> (repeat' first | exact rfl | refine Eq.trans ?_ (cTr (by assumption)) | refine Eq.trans ?_ (cFr (by assumption)) | refine Eq.trans (cTl (by assumption)) ?_ | refine Eq.trans (cFl (by assumption)) ?_)) (by (repeat' first | exact True.intro | exact rfl | apply And.intro) <;> (repeat' first | exact rfl | refine Eq.trans ?_ (cTr (by assumption)) | refine Eq.trans ?_ (cFr (by assumption)) | refine Eq.trans (cTl (by assumption)) ?_ | refine Eq.trans (cFl (by assumption)) ?_))) hj
  · cases h
def motion_Predict_b1 (N : Nat) (a1 : Int) (a2 : (List (List Int))) (a3 : Int) (a4 : (List Int)) (c1 : (Option (Int × Int))) (s1 : (Int × (List Int))) : Option ((Int × (List Int)) ⊕ (List Int)) :=
  bif (decide (s1.1 < 6)) then
    if inK .i64 (s1.1 - 4) ∧ inK .i64 ((s1.1 - 4) + 1) then
      let c4 := (formats_Plane N a1 (max (0 : Int) ((s1.1 - 4) + 1)))
      if c4.isSome = true then
        let c5 := (motion_halves N (a2.getD (max (0 : Int) ((s1.1 - 4) + 1)).toNat []) (c4.getD default).1)
        if (0 : Int) ≤ (max (0 : Int) ((s1.1 - 4) + 1)) ∧ (max (0 : Int) ((s1.1 - 4) + 1)) < 3 ∧ (max (0 : Int) ((s1.1 - 4) + 1)).toNat < 3 ∧ c5.isSome = true then
          bif (decide ((max (0 : Int) ((s1.1 - 4) + 1)) = 0)) then
            let c6 := (motion_laid_halves_2 N (((2 : Int) * (((16 : Int) * (a3 % (c1.getD default).1)) + ((s1.1 % 2) * 8))) + (a4.getD 0 0)) (((2 : Int) * (((16 : Int) * (a3 / (c1.getD default).1)) + ((s1.1 / 2) * 8))) + (a4.getD 1 0)) (c5.getD default).1 (c5.getD default).2)
            if inK .i64 ((16 : Int) * (a3 % (c1.getD default).1)) ∧ (0 : Int) ≤ s1.1 ∧ inK .i64 ((s1.1 % 2) * 8) ∧ inK .i64 (((16 : Int) * (a3 % (c1.getD default).1)) + ((s1.1 % 2) * 8)) ∧ inK .i64 ((2 : Int) * (((16 : Int) * (a3 % (c1.getD default).1)) + ((s1.1 % 2) * 8))) ∧ inK .i64 (((2 : Int) * (((16 : Int) * (a3 % (c1.getD default).1)) + ((s1.1 % 2) * 8))) + (a4.getD 0 0)) ∧ inK .i64 ((16 : Int) * (a3 / (c1.getD default).1)) ∧ inK .i64 ((s1.1 / 2) * 8) ∧ inK .i64 (((16 : Int) * (a3 / (c1.getD default).1)) + ((s1.1 / 2) * 8)) ∧ inK .i64 ((2 : Int) * (((16 : Int) * (a3 / (c1.getD default).1)) + ((s1.1 / 2) * 8))) ∧ inK .i64 (((2 : Int) * (((16 : Int) * (a3 / (c1.getD default).1)) + ((s1.1 / 2) * 8))) + (a4.getD 1 0)) ∧ c6.isSome = true ∧ s1.1 < 6 ∧ (64 * (s1.1).toNat) + 64 ≤ 384 then
              if inK .i64 (s1.1 + 1) then
                some (.inl ((s1.1 + 1), (layL s1.2 (64 * (s1.1).toNat) (c6.getD default) 64)))
              else none
            else none
          else
            let c7 := (motion_Chroma N (a4.getD 0 0))
            let c8 := (motion_Chroma N (a4.getD 1 0))
            let c9 := (motion_laid_halves_2 N (((16 : Int) * (a3 % (c1.getD default).1)) + (c7.getD default)) (((16 : Int) * (a3 / (c1.getD default).1)) + (c8.getD default)) (c5.getD default).1 (c5.getD default).2)
            if inK .i64 ((16 : Int) * (a3 % (c1.getD default).1)) ∧ c7.isSome = true ∧ inK .i64 (((16 : Int) * (a3 % (c1.getD default).1)) + (c7.getD default)) ∧ inK .i64 ((16 : Int) * (a3 / (c1.getD default).1)) ∧ c8.isSome = true ∧ inK .i64 (((16 : Int) * (a3 / (c1.getD default).1)) + (c8.getD default)) ∧ c9.isSome = true ∧ (0 : Int) ≤ s1.1 ∧ s1.1 < 6 ∧ (64 * (s1.1).toNat) + 64 ≤ 384 then
              if inK .i64 (s1.1 + 1) then
                some (.inl ((s1.1 + 1), (layL s1.2 (64 * (s1.1).toNat) (c9.getD default) 64)))
              else none
            else none
        else none
      else none
    else none
  else
    some (.inr s1.2)
def motion_Predict (N : Nat) (a1 : Int) (a2 : (List (List Int))) (a3 : Int) (a4 : (List Int)) : Option ((List Int) × Int) :=
  let c1 := (formats_Cells N a1)
  if c1.isSome = true then
    let c2 := (planes_Right N a1 a2)
    if c2.isSome = true then
      if ((!(c2.getD default)) = false → ((decide (a3 < 0)) = false → inK .i64 ((c1.getD default).1 * (c1.getD default).2))) then
        let x1 := (bif (!(c2.getD default)) then (!(c2.getD default)) else (bif (decide (a3 < 0)) then (decide (a3 < 0)) else (decide (((c1.getD default).1 * (c1.getD default).2) ≤ a3))))
        bif x1 then
          some ((List.replicate 384 0), 1)
        else
          let c3 := (motion_May N a1 a3 a4)
          if c3.isSome = true then
            bif (!(c3.getD default)) then
              some ((List.replicate 384 0), 8)
            else
              if (0 : Int) ≤ a3 ∧ (0 : Int) < (c1.getD default).1 then
                (iter (motion_Predict_b1 N a1 a2 a3 a4 c1) N (0, (List.replicate 384 0))).bind fun v1 =>
                  some (v1, 0)
              else none
          else none
      else none
    else none
  else none
def sp_motion_Predict (N : Nat) : X.Spec := fun args lk => match args with
  | [.v (.agg [.cs [.int .i64 a1], .fzs 3 (.int .u8) a2]), .v (.c (.int .i64 a3)), .v (.agg [.ints 2 .i64 a4])] => some ⟨(motion_Predict N a1 a2 a3 a4).isSome = true, .tup [.agg [.ints 384 .i64 ((motion_Predict N a1 a2 a3 a4).getD default).1], .c (.int .i64 ((motion_Predict N a1 a2 a3 a4).getD default).2)], [], []⟩
  | _ => none
set_option maxRecDepth 100000 in
set_option maxHeartbeats 1000000 in
theorem ok_motion_Predict (N : Nat) : FnOK Tryd.prog gt0 82 (sp_motion_Predict N) := by
  refine fnOK_handed Tryd.func82 rfl (by kernel_rfl) tt_ok (ktCons (ok_motion_Chroma N) (ktCons (ok_motion_laid_halves_2 N) (ktCons (ok_motion_halves N) (ktCons (ok_formats_Plane N) (ktCons (ok_motion_May N) (ktCons (ok_planes_Right N) (ktCons (ok_formats_Cells N) (ktNil)))))))) ?_
  intro args lk r h hp
  unfold sp_motion_Predict at h
  split at h
  · rename_i a1 a2 a3 a4
    change (List (List Int)) at a2
    change (List Int) at a4
    cases h
    obtain ⟨x, hx⟩ := Option.isSome_iff_exists.1 hp
    simp only [hx, Option.getD_some]
    refine hand0 rfl rfl (fun w0 M ε0 hX => ?_)
    refine rCount (fun hε => ?_)
    have hT : motion_Predict N a1 a2 a3 a4 = some x := hx; clear hx hp; unfold motion_Predict at hT
    refine rSeq ?_
    refine zReg md0 hX rfl rfl rfl ?_
    refine rThen ?_
    refine rSeq ?_
    let c1 := (formats_Cells N a1)
    replace hT := sIf hT; obtain ⟨o1, hT⟩ := hT
    refine zReg md0 hX rfl rfl rfl ?_
    refine rThen ?_
    refine rSeq ?_
    refine rBlock ?_
    refine rSeq ?_
    refine rSeq ?_
    let c2 := (planes_Right N a1 a2)
    replace hT := sIf hT; obtain ⟨o1, hT⟩ := hT
    refine zReg md0 hX rfl rfl rfl ?_
    refine rThen ?_
    replace hT := sIf hT; obtain ⟨q1, hT⟩ := hT
    refine rJoin ⟨[(1, .v (.c (.int .i64 a3))), (3, .v (.c (.ptr 0 0 0 0 0 0))), (5, .v (.c (.ptr 1 0 0 0 0 0))), (6, .v (.c (.ptr 2 0 0 0 0 0))), (7, .v (.c (.int .i64 0))), (8, .v (.c (.int .i64 (c1.getD default).1))), (24, .v (.c (.bool (bif (!(c2.getD default)) then (!(c2.getD default)) else (bif (decide (a3 < 0)) then (decide (a3 < 0)) else (decide (((c1.getD default).1 * (c1.getD default).2) ≤ a3)))))))], [(0, .mem true 62 none (.flat [.cs [.int .i64 a1], .fzs 3 (.int .u8) a2])), (1, .mem true 32 none (.flat [.ints 2 .i64 a4])), (2, .mem true 39 none (.flat [.ints 384 .i64 (List.replicate 384 0)]))], 3⟩ ?_ (fun hj => ?_)
    · skip
      let x1 := (bif (!(c2.getD default)) then (!(c2.getD default)) else (bif (decide (a3 < 0)) then (decide (a3 < 0)) else (decide (((c1.getD default).1 * (c1.getD default).2) ≤ a3))))
      refine rThen ?_
      refine zCond rfl rfl (fun hc => ?_) (fun hc => ?_)
      · replace hT := sT hc hT
        refine rSeq ?_
        refine zReg md0 hX rfl rfl rfl ?_
        refine rThen ?_
        refine rRet ?_
        refine rInRet ?_
        refine rThenRet ?_
        have hy := Option.some.inj hT; subst hy
        exact zEnd0 hX rfl
      · replace hT := sF hc hT
        refine rSeq ?_
        let c3 := (motion_May N a1 a3 a4)
        replace hT := sIf hT; obtain ⟨o1, hT⟩ := hT
        refine zReg md0 hX rfl rfl rfl ?_
        refine rThen ?_
        refine zCond rfl rfl (fun hc => ?_) (fun hc => ?_)
        · replace hT := sT hc hT
          refine rSeq ?_
          refine zReg md0 hX rfl rfl rfl ?_
          refine rThen ?_
          refine rRet ?_
          refine rInRet ?_
          refine rThenRet ?_
          have hy := Option.some.inj hT; subst hy
          exact zEnd0 hX rfl
        · replace hT := sF hc hT
          refine rSkip ?_
          refine rInNormal ?_
          refine rThen ?_
          refine rSeq ?_
          refine zReg md0 hX rfl rfl rfl ?_
          refine rThen ?_
          refine rSeq ?_
          replace hT := sIf hT; obtain ⟨⟨o1, o2⟩, hT⟩ := hT
          refine zDraw md0 0 [] hX mixed rfl rfl rfl rfl rfl ?_
          refine rThen ?_
          refine rSeq ?_
          refine rSeq ?_
          refine zReg md0 hX rfl rfl rfl ?_
          refine rThen ?_
          refine rBlock ?_
          replace hT := sBind hT; obtain ⟨w1, hl, hT⟩ := hT
          refine rJoinA (fun v1 => v1 = w1) (fun v1 => ⟨[(6, .v (.c (.ptr 2 0 0 0 0 0))), (7, .v (.c (.int .i64 0))), (10, .v (.c (.ptr 3 0 0 0 0 0)))], [(2, .mem true 39 none (.flat [.ints 384 .i64 (List.replicate 384 0)])), (3, .mem true 39 none (.flat [.ints 384 .i64 v1]))], 4⟩) (.exit 1) (fun v1 hv => ?_) (fun hxs10 => ?_)
          · subst hv; clear hl
            refine rInHit ?_
            refine rThen ?_
            refine rSeq ?_
            refine zReg md0 hX rfl rfl rfl ?_
            refine rThen ?_
            refine rRet ?_
            have hy := Option.some.inj hT; subst hy
            exact zEnd0 hX rfl
          refine rLoopM (motion_Predict_b1 N a1 a2 a3 a4 c1) (fun s1 => ⟨[(3, .v (.c (.ptr 0 0 0 0 0 0))), (5, .v (.c (.ptr 1 0 0 0 0 0))), (6, .v (.c (.ptr 2 0 0 0 0 0))), (7, .v (.c (.int .i64 0))), (10, .v (.c (.ptr 3 0 0 0 0 0))), (11, .v (.c (.int .i64 (a3 % (c1.getD default).1)))), (12, .v (.c (.int .i64 (a3 / (c1.getD default).1)))), (50, .v (.c (.int .i64 s1.1)))], [(0, .mem true 62 none (.flat [.cs [.int .i64 a1], .fzs 3 (.int .u8) a2])), (1, .mem true 32 none (.flat [.ints 2 .i64 a4])), (2, .mem true 39 none (.flat [.ints 384 .i64 (List.replicate 384 0)])), (3, .mem true 39 none (.flat [.ints 384 .i64 s1.2]))], 4⟩) hl (To.mk' [] 0 hε rfl (by repeat' first | exact True.intro | exact rfl | apply And.intro) (by repeat' first | exact True.intro | exact rfl | apply And.intro)) (fun s1 zs1 NNs1 hz hnexts1 houts1 => ?_)
          clear hl hT
          have hT := hz; clear hz
          refine rSeq ?_
          refine zReg md0 hX rfl rfl rfl ?_
          refine rThen ?_
          refine rSeq ?_
          refine zCond rfl rfl (fun hc => ?_) (fun hc => ?_)
          · replace hT := sT hc hT
            refine rSkip ?_
            refine rThen ?_
            refine rSeq ?_
            refine rBlock ?_
            refine rSeq ?_
            refine zReg md0 hX rfl rfl rfl ?_
            refine rThen ?_
            refine rSeq ?_
            replace hT := sIf hT; obtain ⟨⟨o1, o2⟩, hT⟩ := hT
            refine zReg md0 hX rfl rfl rfl ?_
            refine rThen ?_
            refine rSeq ?_
            let c4 := (formats_Plane N a1 (max (0 : Int) ((s1.1 - 4) + 1)))
            replace hT := sIf hT; obtain ⟨o1, hT⟩ := hT
            refine zReg md0 hX rfl rfl rfl ?_
            refine rThen ?_
            refine rSeq ?_
            let c5 := (motion_halves N (a2.getD (max (0 : Int) ((s1.1 - 4) + 1)).toNat []) (c4.getD default).1)
            replace hT := sIf hT; obtain ⟨⟨o1, o2, o3, o4⟩, hT⟩ := hT
            refine zReg md0 hX rfl rfl rfl ?_
            refine rThen ?_
            refine rSeq ?_
            refine rSeq ?_
            refine zReg md0 hX rfl rfl rfl ?_
            refine rThen ?_
            refine zCond rfl rfl (fun hc => ?_) (fun hc => ?_)
            · replace hT := sT hc hT
              refine rSeq ?_
              let c6 := (motion_laid_halves_2 N (((2 : Int) * (((16 : Int) * (a3 % (c1.getD default).1)) + ((s1.1 % 2) * 8))) + (a4.getD 0 0)) (((2 : Int) * (((16 : Int) * (a3 / (c1.getD default).1)) + ((s1.1 / 2) * 8))) + (a4.getD 1 0)) (c5.getD default).1 (c5.getD default).2)
              replace hT := sIf hT; obtain ⟨⟨o1, o2, o3, o4, o5, o6, o7, o8, o9, o10, o11, o12, o13, o14⟩, hT⟩ := hT
              refine zReg md0 hX rfl rfl rfl ?_
              refine rThen ?_
              refine rExit ?_
              refine rThenExit ?_
              refine rInHit ?_
              refine rThen ?_
              replace hT := sIf hT; obtain ⟨o1, hT⟩ := hT
              refine zReg md0 hX rfl rfl rfl ?_
              exact hnexts1 _ (Option.some.inj hT).symm _ (To.mk' [] 0 hε rfl (by repeat' first | exact True.intro | exact rfl | apply And.intro) (by repeat' first | exact True.intro | exact rfl | apply And.intro))
            · replace hT := sF hc hT
              refine rSkip ?_
              refine rThen ?_
              let c7 := (motion_Chroma N (a4.getD 0 0))
              let c8 := (motion_Chroma N (a4.getD 1 0))
              let c9 := (motion_laid_halves_2 N (((16 : Int) * (a3 % (c1.getD default).1)) + (c7.getD default)) (((16 : Int) * (a3 / (c1.getD default).1)) + (c8.getD default)) (c5.getD default).1 (c5.getD default).2)
              replace hT := sIf hT; obtain ⟨⟨o1, o2, o3, o4, o5, o6, o7, o8, o9, o10⟩, hT⟩ := hT
              refine zDraw md0 1 [16] hX mixed rfl rfl rfl rfl rfl ?_
              refine rInNormal ?_
              refine rThen ?_
              replace hT := sIf hT; obtain ⟨o1, hT⟩ := hT
              refine zReg md0 hX rfl rfl rfl ?_
              exact hnexts1 _ (Option.some.inj hT).symm _ (To.mk' [] 0 hε rfl (by repeat' first | exact True.intro | exact rfl | apply And.intro) (by repeat' first | exact True.intro | exact rfl | apply And.intro))
          · replace hT := sF hc hT
            refine rExit ?_
            refine rThenExit ?_
            refine rThenExit ?_
            exact zTo [] 0 hε (hxs10 _ (houts1 _ (Option.some.inj hT).symm))
    · clear hT
      refine zCond rfl rfl (fun hc => ?_) (fun hc => ?_)
      · skip
        refine rSkip ?_
        exact rTo (To.mk' [] 0 hε rfl (by (repeat' first | exact True.intro | exact rfl | apply And.intro) <;> (repeat' first | exact rfl | refine Eq.trans ?_ (cTr (by assumption)) | refine Eq.trans ?_ (cFr (by assumption)) | refine Eq.trans (cTl (by assumption)) ?_ | refine Eq.trans (cFl (by assumption)) ?_)) (by (repeat' first | exact True.intro | exact rfl | apply And.intro) <;> (repeat' first | exact rfl | refine Eq.trans ?_ (cTr (by assumption)) | refine Eq.trans ?_ (cFr (by assumption)) | refine Eq.trans (cTl (by assumption)) ?_ | refine Eq.trans (cFl (by assumption)) ?_))) hj
      · skip
        have q1 := q1 hc
        refine rSeq ?_
        refine zReg md0 hX rfl rfl rfl ?_
        refine rThen ?_
        refine zCond rfl rfl (fun hc => ?_) (fun hc => ?_)
        · skip
          refine rSkip ?_
          exact rTo (To.mk' [] 0 hε rfl (by (repeat' first | exact True.intro | exact rfl | apply And.intro) <;> (repeat' first | exact rfl | refine Eq.trans ?_ (cTr (by assumption)) | refine Eq.trans ?_ (cFr (by assumption)) | refine Eq.trans (cTl (by assumption)) ?_ | refine Eq.trans (cFl (by assumption)) ?_)) (by (repeat' first | exact True.intro | exact rfl | apply And.intro) <;> (repeat' first | exact rfl | refine Eq.trans ?_ (cTr (by assumption)) | refine Eq.trans ?_ (cFr (by assumption)) | refine Eq.trans (cTl (by assumption)) ?_ | refine Eq.trans (cFl (by assumption)) ?_))) hj
        · skip
          have q1 := q1 hc
          refine zReg md0 hX rfl rfl rfl ?_
          exact rTo (To.mk' [] 0 hε rfl (by (repeat' first | exact True.intro | exact rfl | apply And.intro) <;> (repeat' first | exact rfl | refine Eq.trans ?_ (cTr (by assumption)) | refine Eq.trans ?_ (cFr (by assumption)) | refine Eq.trans (cTl (by assumption)) ?_ | refine Eq.trans (cFl (by assumption)) ?_)) (by (repeat' first | exact True.intro | exact rfl | apply And.intro) <;> (repeat' first | exact rfl | refine Eq.trans ?_ (cTr (by assumption)) | refine Eq.trans ?_ (cFr (by assumption)) | refine Eq.trans (cTl (by assumption)) ?_ | refine Eq.trans (cFl (by assumption)) ?_))) hj
  · cases h
def rebuild_Sum_b2 (N : Nat) (a1 : (List Int)) (a2 : (List Int)) (s1 : (Int × (List Int))) (s2 : (Int × (List Int))) : Option ((Int × (List Int)) ⊕ (Int × Bool × (List Int))) :=
  bif (decide (s2.1 < 64)) then
    let c1 := (whole_Clip N (a1.getD ((s1.1).toNat * 64 + (s2.1).toNat) 0) (-1024) 1024)
    let c2 := (whole_Clip N (a2.getD ((s1.1).toNat * 64 + (s2.1).toNat) 0) (-1024) 1024)
    let c3 := (whole_Clip N ((c1.getD default) + (c2.getD default)) 0 255)
    if (0 : Int) ≤ s1.1 ∧ s1.1 < 6 ∧ (0 : Int) ≤ s2.1 ∧ s2.1 < 64 ∧ ((s1.1).toNat * 64 + (s2.1).toNat) < 384 ∧ c1.isSome = true ∧ c2.isSome = true ∧ inK .i64 ((c1.getD default) + (c2.getD default)) ∧ c3.isSome = true then
      if inK .i64 (s2.1 + 1) then
        some (.inl ((s2.1 + 1), (s2.2.set ((s1.1).toNat * 64 + (s2.1).toNat) (c3.getD default))))
      else none
    else none
  else
    some (.inr (s2.1, (decide (s2.1 < 64)), s2.2))
def rebuild_Sum_b1 (N : Nat) (a1 : (List Int)) (a2 : (List Int)) (s1 : (Int × (List Int))) : Option ((Int × (List Int)) ⊕ (List Int)) :=
  bif (decide (s1.1 < 6)) then
    (iter (rebuild_Sum_b2 N a1 a2 s1) N (0, s1.2)).bind fun v2 =>
      if inK .i64 (s1.1 + 1) then
        some (.inl ((s1.1 + 1), v2.2.2))
      else none
  else
    some (.inr s1.2)
def rebuild_Sum (N : Nat) (a1 : (List Int)) (a2 : (List Int)) : Option (List Int) :=
  (iter (rebuild_Sum_b1 N a1 a2) N (0, (List.replicate 384 0))).bind fun v1 =>
    some v1
def sp_rebuild_Sum (N : Nat) : X.Spec := fun args lk => match args with
  | [.v (.agg [.ints 384 .i64 a1]), .v (.agg [.ints 384 .i64 a2])] => some ⟨(rebuild_Sum N a1 a2).isSome = true, .v (.agg [.ints 384 .i64 ((rebuild_Sum N a1 a2).getD default)]), [], []⟩
  | _ => none
set_option maxRecDepth 100000 in
set_option maxHeartbeats 1000000 in
theorem ok_rebuild_Sum (N : Nat) : FnOK Tryd.prog gt0 83 (sp_rebuild_Sum N) := by
  refine fnOK_handed Tryd.func83 rfl (by kernel_rfl) tt_ok (ktCons (ok_whole_Clip N) (ktNil)) ?_
  intro args lk r h hp
  unfold sp_rebuild_Sum at h
  split at h
  · rename_i a1 a2
    change (List Int) at a1
    change (List Int) at a2
    cases h
    obtain ⟨x, hx⟩ := Option.isSome_iff_exists.1 hp
    simp only [hx, Option.getD_some]
    refine hand0 rfl rfl (fun w0 M ε0 hX => ?_)
    refine rCount (fun hε => ?_)
    have hT : rebuild_Sum N a1 a2 = some x := hx; clear hx hp; unfold rebuild_Sum at hT
    refine rSeq ?_
    refine zReg md0 hX rfl rfl rfl ?_
    refine rThen ?_
    refine rSeq ?_
    refine zReg md0 hX rfl rfl rfl ?_
    refine rThen ?_
    refine rSeq ?_
    refine rSeq ?_
    refine zReg md0 hX rfl rfl rfl ?_
    refine rThen ?_
    refine rBlock ?_
    replace hT := sBind hT; obtain ⟨w1, hl, hT⟩ := hT
    refine rJoinA (fun v1 => v1 = w1) (fun v1 => ⟨[(4, .v (.c (.ptr 2 0 0 0 0 0))), (5, .v (.c (.ptr 3 0 0 0 0 0)))], [(2, .mem true 39 none (.flat [.ints 384 .i64 (List.replicate 384 0)])), (3, .mem true 39 none (.flat [.ints 384 .i64 v1]))], 4⟩) (.exit 0) (fun v1 hv => ?_) (fun hxs10 => ?_)
    · subst hv; clear hl
      refine rInHit ?_
      refine rThen ?_
      refine rSeq ?_
      refine zReg md0 hX rfl rfl rfl ?_
      refine rThen ?_
      refine rRet ?_
      have hy := Option.some.inj hT; subst hy
      exact zEnd0 hX rfl
    refine rLoopM (rebuild_Sum_b1 N a1 a2) (fun s1 => ⟨[(2, .v (.c (.ptr 0 0 0 0 0 0))), (3, .v (.c (.ptr 1 0 0 0 0 0))), (4, .v (.c (.ptr 2 0 0 0 0 0))), (5, .v (.c (.ptr 3 0 0 0 0 0))), (8, .v (.c (.int .i64 s1.1)))], [(0, .mem true 39 none (.flat [.ints 384 .i64 a1])), (1, .mem true 39 none (.flat [.ints 384 .i64 a2])), (2, .mem true 39 none (.flat [.ints 384 .i64 (List.replicate 384 0)])), (3, .mem true 39 none (.flat [.ints 384 .i64 s1.2]))], 4⟩) hl (To.mk' [] 0 hε rfl (by repeat' first | exact True.intro | exact rfl | apply And.intro) (by repeat' first | exact True.intro | exact rfl | apply And.intro)) (fun s1 zs1 NNs1 hz hnexts1 houts1 => ?_)
    clear hl hT
    have hT := hz; clear hz
    refine rSeq ?_
    refine zReg md0 hX rfl rfl rfl ?_
    refine rThen ?_
    refine rSeq ?_
    refine zCond rfl rfl (fun hc => ?_) (fun hc => ?_)
    · replace hT := sT hc hT
      refine rSkip ?_
      refine rThen ?_
      refine rSeq ?_
      refine rBlock ?_
      refine rSeq ?_
      refine zReg md0 hX rfl rfl rfl ?_
      refine rThen ?_
      refine rSeq ?_
      refine zReg md0 hX rfl rfl rfl ?_
      refine rThen ?_
      refine rBlock ?_
      replace hT := sBind hT; obtain ⟨w2, hl, hT⟩ := hT
      refine rJoinA (fun v2 => v2 = w2) (fun v2 => ⟨[(2, .v (.c (.ptr 0 0 0 0 0 0))), (3, .v (.c (.ptr 1 0 0 0 0 0))), (4, .v (.c (.ptr 2 0 0 0 0 0))), (5, .v (.c (.ptr 3 0 0 0 0 0))), (6, .v (.c (.int .i64 s1.1))), (8, .v (.c (.int .i64 s1.1))), (9, .v (.c (.bool (decide (s1.1 < 6))))), (10, .v (.c (.int .i64 s1.1))), (11, .v (.c (.int .i64 v2.1))), (12, .v (.c (.bool v2.2.1)))], [(0, .mem true 39 none (.flat [.ints 384 .i64 a1])), (1, .mem true 39 none (.flat [.ints 384 .i64 a2])), (2, .mem true 39 none (.flat [.ints 384 .i64 (List.replicate 384 0)])), (3, .mem true 39 none (.flat [.ints 384 .i64 v2.2.2]))], 4⟩) (.exit 2) (fun v2 hv => ?_) (fun hxs20 => ?_)
      · subst hv; clear hl
        refine rInHit ?_
        refine rInNormal ?_
        refine rThen ?_
        replace hT := sIf hT; obtain ⟨o1, hT⟩ := hT
        refine zReg md0 hX rfl rfl rfl ?_
        exact hnexts1 _ (Option.some.inj hT).symm _ (To.mk' [] 0 hε rfl (by repeat' first | exact True.intro | exact rfl | apply And.intro) (by repeat' first | exact True.intro | exact rfl | apply And.intro))
      refine rLoopM (rebuild_Sum_b2 N a1 a2 s1) (fun s2 => ⟨[(2, .v (.c (.ptr 0 0 0 0 0 0))), (3, .v (.c (.ptr 1 0 0 0 0 0))), (4, .v (.c (.ptr 2 0 0 0 0 0))), (5, .v (.c (.ptr 3 0 0 0 0 0))), (6, .v (.c (.int .i64 s1.1))), (8, .v (.c (.int .i64 s1.1))), (9, .v (.c (.bool (decide (s1.1 < 6))))), (10, .v (.c (.int .i64 s1.1))), (11, .v (.c (.int .i64 s2.1)))], [(0, .mem true 39 none (.flat [.ints 384 .i64 a1])), (1, .mem true 39 none (.flat [.ints 384 .i64 a2])), (2, .mem true 39 none (.flat [.ints 384 .i64 (List.replicate 384 0)])), (3, .mem true 39 none (.flat [.ints 384 .i64 s2.2]))], 4⟩) hl (To.mk' [] 0 hε rfl (by repeat' first | exact True.intro | exact rfl | apply And.intro) (by repeat' first | exact True.intro | exact rfl | apply And.intro)) (fun s2 zs2 NNs2 hz hnexts2 houts2 => ?_)
      clear hl hT
      have hT := hz; clear hz
      refine rSeq ?_
      refine zReg md0 hX rfl rfl rfl ?_
      refine rThen ?_
      refine rSeq ?_
      refine zCond rfl rfl (fun hc => ?_) (fun hc => ?_)
      · replace hT := sT hc hT
        refine rSkip ?_
        refine rThen ?_
        refine rSeq ?_
        refine rBlock ?_
        refine rSeq ?_
        refine zReg md0 hX rfl rfl rfl ?_
        refine rThen ?_
        let c1 := (whole_Clip N (a1.getD ((s1.1).toNat * 64 + (s2.1).toNat) 0) (-1024) 1024)
        let c2 := (whole_Clip N (a2.getD ((s1.1).toNat * 64 + (s2.1).toNat) 0) (-1024) 1024)
        let c3 := (whole_Clip N ((c1.getD default) + (c2.getD default)) 0 255)
        replace hT := sIf hT; obtain ⟨⟨o1, o2, o3, o4, o5, o6, o7, o8, o9⟩, hT⟩ := hT
        refine zDraw md0 1 [18] hX mixed rfl rfl rfl rfl rfl ?_
        refine rInNormal ?_
        refine rThen ?_
        replace hT := sIf hT; obtain ⟨o1, hT⟩ := hT
        refine zReg md0 hX rfl rfl rfl ?_
        exact hnexts2 _ (Option.some.inj hT).symm _ (To.mk' [] 0 hε rfl (by repeat' first | exact True.intro | exact rfl | apply And.intro) (by repeat' first | exact True.intro | exact rfl | apply And.intro))
      · replace hT := sF hc hT
        refine rExit ?_
        refine rThenExit ?_
        refine rThenExit ?_
        exact zTo [] 0 hε (hxs20 _ (houts2 _ (Option.some.inj hT).symm))
    · replace hT := sF hc hT
      refine rExit ?_
      refine rThenExit ?_
      refine rThenExit ?_
      exact zTo [] 0 hε (hxs10 _ (houts1 _ (Option.some.inj hT).symm))
  · cases h
def rebuild_Cell (N : Nat) (a1 : Int) (a2 : (List (List Int))) (a3 : Int) (a4 : Int) (a5 : Bool) (a6 : Int) (a7 : Int) (a8 : (List Int)) (a9 : (List Int)) (a10 : (List (List (Bool × (Int × Int))))) (a11 : Int) : Option ((List Int) × Int) :=
  let c1 := (residue_Of N a4 a5 a6 a7 a8 a9 a10 a11)
  if c1.isSome = true then
    bif (decide ((c1.getD default).2 ≠ 0)) then
      some ((List.replicate 384 0), (c1.getD default).2)
    else
      let c2 := (motion_Predict N a1 a2 a3 a8)
      if ((bif (decide (a6 ≠ 3)) then (decide (a6 ≠ 4)) else false) = true → c2.isSome = true) then
        let x1 := (bif (bif (decide (a6 ≠ 3)) then (decide (a6 ≠ 4)) else false) then (c2.getD default).2 else (c1.getD default).2)
        let x2 := (bif (bif (decide (a6 ≠ 3)) then (decide (a6 ≠ 4)) else false) then (c2.getD default).1 else (List.replicate 384 0))
        bif (decide (x1 ≠ 0)) then
          some ((List.replicate 384 0), x1)
        else
          let c3 := (rebuild_Sum N x2 (c1.getD default).1)
          if c3.isSome = true then
            some ((c3.getD default), 0)
          else none
      else none
  else none
def sp_rebuild_Cell (N : Nat) : X.Spec := fun args lk => match args with
  | [.v (.agg [.cs [.int .i64 a1], .fzs 3 (.int .u8) a2]), .v (.c (.int .i64 a3)), .v (.agg [.cs [.int .i64 a4, .bool a5, .int .i64 a6, .int .i64 a7], .ints 2 .i64 a8, .ints 6 .i64 a9, .fzs 6 (.pair .bool (.pair (.int .i64) (.int .i64))) a10]), .v (.c (.int .i64 a11))] => some ⟨(rebuild_Cell N a1 a2 a3 a4 a5 a6 a7 a8 a9 a10 a11).isSome = true, .tup [.agg [.ints 384 .i64 ((rebuild_Cell N a1 a2 a3 a4 a5 a6 a7 a8 a9 a10 a11).getD default).1], .c (.int .i64 ((rebuild_Cell N a1 a2 a3 a4 a5 a6 a7 a8 a9 a10 a11).getD default).2)], [], []⟩
  | _ => none
set_option maxRecDepth 100000 in
set_option maxHeartbeats 1000000 in
theorem ok_rebuild_Cell (N : Nat) : FnOK Tryd.prog gt0 37 (sp_rebuild_Cell N) := by
  refine fnOK_handed Tryd.func37 rfl (by kernel_rfl) tt_ok (ktCons (ok_rebuild_Sum N) (ktCons (ok_motion_Predict N) (ktCons (ok_residue_Of N) (ktNil)))) ?_
  intro args lk r h hp
  unfold sp_rebuild_Cell at h
  split at h
  · rename_i a1 a2 a3 a4 a5 a6 a7 a8 a9 a10 a11
    change (List (List Int)) at a2
    change (List Int) at a8
    change (List Int) at a9
    change (List (List (Bool × (Int × Int)))) at a10
    cases h
    obtain ⟨x, hx⟩ := Option.isSome_iff_exists.1 hp
    simp only [hx, Option.getD_some]
    refine hand0 rfl rfl (fun w0 M ε0 hX => ?_)
    refine rCount (fun hε => ?_)
    have hT : rebuild_Cell N a1 a2 a3 a4 a5 a6 a7 a8 a9 a10 a11 = some x := hx; clear hx hp; unfold rebuild_Cell at hT
    refine rSeq ?_
    refine zReg md0 hX rfl rfl rfl ?_
    refine rThen ?_
    refine rSeq ?_
    let c1 := (residue_Of N a4 a5 a6 a7 a8 a9 a10 a11)
    replace hT := sIf hT; obtain ⟨o1, hT⟩ := hT
    refine zReg md0 hX rfl rfl rfl ?_
    refine rThen ?_
    refine rSeq ?_
    refine zReg md0 hX rfl rfl rfl ?_
    refine rThen ?_
    refine rSeq ?_
    refine rBlock ?_
    refine rSeq ?_
    refine zReg md0 hX rfl rfl rfl ?_
    refine rThen ?_
    refine zCond rfl rfl (fun hc => ?_) (fun hc => ?_)
    · replace hT := sT hc hT
      refine rSeq ?_
      refine zReg md0 hX rfl rfl rfl ?_
      refine rThen ?_
      refine rRet ?_
      refine rInRet ?_
      refine rThenRet ?_
      have hy := Option.some.inj hT; subst hy
      exact zEnd0 hX rfl
    · replace hT := sF hc hT
      refine rSeq ?_
      refine zReg md0 hX rfl rfl rfl ?_
      refine rThen ?_
      let c2 := (motion_Predict N a1 a2 a3 a8)
      replace hT := sIf hT; obtain ⟨q1, hT⟩ := hT
      refine rJoin ⟨[(8, .v (.c (.ptr 2 0 0 0 0 0))), (9, .v (.c (.int .i64 0))), (10, .v (.c (.ptr 3 0 0 0 0 0))), (11, .v (.c (.int .i64 (bif (bif (decide (a6 ≠ 3)) then (decide (a6 ≠ 4)) else false) then (c2.getD default).2 else (c1.getD default).2)))), (12, .v (.c (.ptr 4 0 0 0 0 0)))], [(2, .mem true 39 none (.flat [.ints 384 .i64 (List.replicate 384 0)])), (3, .mem true 39 none (.flat [.ints 384 .i64 (c1.getD default).1])), (4, .mem true 39 none (.flat [.ints 384 .i64 (bif (bif (decide (a6 ≠ 3)) then (decide (a6 ≠ 4)) else false) then (c2.getD default).1 else (List.replicate 384 0))]))], 5⟩ ?_ (fun hj => ?_)
      · skip
        let x1 := (bif (bif (decide (a6 ≠ 3)) then (decide (a6 ≠ 4)) else false) then (c2.getD default).2 else (c1.getD default).2)
        let x2 := (bif (bif (decide (a6 ≠ 3)) then (decide (a6 ≠ 4)) else false) then (c2.getD default).1 else (List.replicate 384 0))
        refine rInNormal ?_
        refine rThen ?_
        refine rSeq ?_
        refine rSeq ?_
        refine zReg md0 hX rfl rfl rfl ?_
        refine rThen ?_
        refine zCond rfl rfl (fun hc => ?_) (fun hc => ?_)
        · replace hT := sT hc hT
          refine rSeq ?_
          refine zReg md0 hX rfl rfl rfl ?_
          refine rThen ?_
          refine rRet ?_
          refine rThenRet ?_
          have hy := Option.some.inj hT; subst hy
          exact zEnd0 hX rfl
        · replace hT := sF hc hT
          refine rSkip ?_
          refine rThen ?_
          refine rSeq ?_
          let c3 := (rebuild_Sum N x2 (c1.getD default).1)
          replace hT := sIf hT; obtain ⟨o1, hT⟩ := hT
          refine zReg md0 hX rfl rfl rfl ?_
          refine rThen ?_
          refine rRet ?_
          have hy := Option.some.inj hT; subst hy
          exact zEnd0 hX rfl
      · clear hT
        refine zCond rfl rfl (fun hc => ?_) (fun hc => ?_)
        · skip
          have q1 := q1 hc
          refine zReg md0 hX rfl rfl rfl ?_
          exact rTo (To.mk' [] 0 hε rfl (by (repeat' first | exact True.intro | exact rfl | apply And.intro) <;> (repeat' first | exact rfl | refine Eq.trans ?_ (cTr (by assumption)) | refine Eq.trans ?_ (cFr (by assumption)) | refine Eq.trans (cTl (by assumption)) ?_ | refine Eq.trans (cFl (by assumption)) ?_)) (by (repeat' first | exact True.intro | exact rfl | apply And.intro) <;> (repeat' first | exact rfl | refine Eq.trans ?_ (cTr (by assumption)) | refine Eq.trans ?_ (cFr (by assumption)) | refine Eq.trans (cTl (by assumption)) ?_ | refine Eq.trans (cFl (by assumption)) ?_))) hj
        · skip
          refine rSkip ?_
          exact rTo (To.mk' [] 0 hε rfl (by (repeat' first | exact True.intro | exact rfl | apply And.intro) <;> (repeat' first | exact rfl | refine Eq.trans ?_ (cTr (by assumption)) | refine Eq.trans ?_ (cFr (by assumption)) | refine Eq.trans (cTl (by assumption)) ?_ | refine Eq.trans (cFl (by assumption)) ?_)) (by (repeat' first | exact True.intro | exact rfl | apply And.intro) <;> (repeat' first | exact rfl | refine Eq.trans ?_ (cTr (by assumption)) | refine Eq.trans ?_ (cFr (by assumption)) | refine Eq.trans (cTl (by assumption)) ?_ | refine Eq.trans (cFl (by assumption)) ?_))) hj
  · cases h
def law31_lives (N : Nat) : Option Bool :=
  let c1 := (rebuild_Cell N 0 (List.replicate 3 []) 0 0 false 3 0 (List.replicate 2 0) (((((((List.replicate 6 0).set 0 10).set 1 10).set 2 10).set 3 10).set 4 10).set 5 10) (List.replicate 6 []) 3)
  if c1.isSome = true then
    let x1 := (bif (bif (decide ((c1.getD default).2 = 0)) then (decide (((c1.getD default).1.getD 0 0) = 10)) else false) then (decide (((c1.getD default).1.getD 383 0) = 10)) else false)
    some x1
  else none
def sp_law31_lives (N : Nat) : X.Spec := fun args lk => match args with
  | [] => some ⟨(law31_lives N).isSome = true, .v (.c (.bool ((law31_lives N).getD default))), [], []⟩
  | _ => none
set_option maxRecDepth 100000 in
set_option maxHeartbeats 1000000 in
theorem ok_law31_lives (N : Nat) : FnOK Tryd.prog gt0 35 (sp_law31_lives N) := by
  refine fnOK_handed Tryd.func35 rfl (by kernel_rfl) tt_ok (ktCons (ok_rebuild_Cell N) (ktNil)) ?_
  intro args lk r h hp
  unfold sp_law31_lives at h
  split at h
  · skip
    cases h
    obtain ⟨x, hx⟩ := Option.isSome_iff_exists.1 hp
    simp only [hx, Option.getD_some]
    refine hand0 rfl rfl (fun w0 M ε0 hX => ?_)
    refine rCount (fun hε => ?_)
    have hT : law31_lives N = some x := hx; clear hx hp; unfold law31_lives at hT
    refine rSeq ?_
    refine zReg md0 hX rfl rfl rfl ?_
    refine rThen ?_
    refine rSeq ?_
    let c1 := (rebuild_Cell N 0 (List.replicate 3 []) 0 0 false 3 0 (List.replicate 2 0) (((((((List.replicate 6 0).set 0 10).set 1 10).set 2 10).set 3 10).set 4 10).set 5 10) (List.replicate 6 []) 3)
    replace hT := sIf hT; obtain ⟨o1, hT⟩ := hT
    refine zReg md0 hX rfl rfl rfl ?_
    refine rThen ?_
    refine rSeq ?_
    let x1 := (bif (bif (decide ((c1.getD default).2 = 0)) then (decide (((c1.getD default).1.getD 0 0) = 10)) else false) then (decide (((c1.getD default).1.getD 383 0) = 10)) else false)
    refine zReg md0 hX rfl rfl rfl ?_
    refine rThen ?_
    refine rRet ?_
    have hy := Option.some.inj hT; subst hy
    exact zEnd0 hX rfl
  · cases h
def law17_Light (N : Nat) (a1 : Int) (a2 : (List (List Int))) : Option Bool :=
  let x1 := (bif (bif (decide (((a2.getD 0 []).length : Int) ≤ 30000)) then (decide (((a2.getD 1 []).length : Int) ≤ 30000)) else false) then (decide (((a2.getD 2 []).length : Int) ≤ 30000)) else false)
  some x1
def sp_law17_Light (N : Nat) : X.Spec := fun args lk => match args with
  | [.v (.agg [.cs [.int .i64 a1], .fzs 3 (.int .u8) a2])] => some ⟨(law17_Light N a1 a2).isSome = true, .v (.c (.bool ((law17_Light N a1 a2).getD default))), [], []⟩
  | _ => none
set_option maxRecDepth 100000 in
set_option maxHeartbeats 1000000 in
theorem ok_law17_Light (N : Nat) : FnOK Tryd.prog gt0 36 (sp_law17_Light N) := by
  refine fnOK_handed Tryd.func36 rfl (by kernel_rfl) tt_ok (ktNil) ?_
  intro args lk r h hp
  unfold sp_law17_Light at h
  split at h
  · rename_i a1 a2
    change (List (List Int)) at a2
    cases h
    obtain ⟨x, hx⟩ := Option.isSome_iff_exists.1 hp
    simp only [hx, Option.getD_some]
    refine hand0 rfl rfl (fun w0 M ε0 hX => ?_)
    refine rCount (fun hε => ?_)
    have hT : law17_Light N a1 a2 = some x := hx; clear hx hp; unfold law17_Light at hT
    refine rSeq ?_
    refine zReg md0 hX rfl rfl rfl ?_
    refine rThen ?_
    refine rSeq ?_
    let x1 := (bif (bif (decide (((a2.getD 0 []).length : Int) ≤ 30000)) then (decide (((a2.getD 1 []).length : Int) ≤ 30000)) else false) then (decide (((a2.getD 2 []).length : Int) ≤ 30000)) else false)
    refine zReg md0 hX rfl rfl rfl ?_
    refine rThen ?_
    refine rRet ?_
    have hy := Option.some.inj hT; subst hy
    exact zEnd0 hX rfl
  · cases h
def ref22_zero_b1 (N : Nat) (a6 : (List Int)) (a7 : (List (List (Bool × (Int × Int))))) (s1 : Int) : Option (Int ⊕ (Unit ⊕ Unit)) :=
  bif (decide (s1 < 6)) then
    let x3 := (bif (decide ((0 : Int) < ((a7.getD (s1).toNat []).length : Int))) then true else (decide ((a6.getD (s1).toNat 0) ≠ 0)))
    if (0 : Int) ≤ s1 ∧ s1 < 6 ∧ (s1).toNat < 6 ∧ ((!(decide ((0 : Int) < ((a7.getD (s1).toNat []).length : Int)))) = true → (0 : Int) ≤ s1) ∧ ((!(decide ((0 : Int) < ((a7.getD (s1).toNat []).length : Int)))) = true → s1 < 6) ∧ ((!(decide ((0 : Int) < ((a7.getD (s1).toNat []).length : Int)))) = true → (s1).toNat < 6) then
      bif x3 then
        some (.inr (Sum.inl ()))
      else
        if inK .i64 (s1 + 1) then
          some (.inl (s1 + 1))
        else none
    else none
  else
    some (.inr (Sum.inr ()))
def ref22_zero (N : Nat) (a1 : Int) (a2 : Bool) (a3 : Int) (a4 : Int) (a5 : (List Int)) (a6 : (List Int)) (a7 : (List (List (Bool × (Int × Int))))) : Option Bool :=
  (iter (ref22_zero_b1 N a6 a7) N 0).bind fun w1 =>
    (Sum.elim (fun v1 =>
      some false
    )
      (fun v2 =>
        let x1 := (bif (bif (bif (decide (a3 = 0)) then (decide (a4 = 0)) else false) then (decide ((a5.getD 0 0) = 0)) else false) then (decide ((a5.getD 1 0) = 0)) else false)
        some x1
      )
    ) w1
def sp_ref22_zero (N : Nat) : X.Spec := fun args lk => match args with
  | [.v (.agg [.cs [.int .i64 a1, .bool a2, .int .i64 a3, .int .i64 a4], .ints 2 .i64 a5, .ints 6 .i64 a6, .fzs 6 (.pair .bool (.pair (.int .i64) (.int .i64))) a7])] => some ⟨(ref22_zero N a1 a2 a3 a4 a5 a6 a7).isSome = true, .v (.c (.bool ((ref22_zero N a1 a2 a3 a4 a5 a6 a7).getD default))), [], []⟩
  | _ => none
set_option maxRecDepth 100000 in
set_option maxHeartbeats 1000000 in
theorem ok_ref22_zero (N : Nat) : FnOK Tryd.prog gt0 62 (sp_ref22_zero N) := by
  refine fnOK_handed Tryd.func62 rfl (by kernel_rfl) tt_ok (ktNil) ?_
  intro args lk r h hp
  unfold sp_ref22_zero at h
  split at h
  · rename_i a1 a2 a3 a4 a5 a6 a7
    change (List Int) at a5
    change (List Int) at a6
    change (List (List (Bool × (Int × Int)))) at a7
    cases h
    obtain ⟨x, hx⟩ := Option.isSome_iff_exists.1 hp
    simp only [hx, Option.getD_some]
    refine hand0 rfl rfl (fun w0 M ε0 hX => ?_)
    refine rCount (fun hε => ?_)
    have hT : ref22_zero N a1 a2 a3 a4 a5 a6 a7 = some x := hx; clear hx hp; unfold ref22_zero at hT
    refine rSeq ?_
    refine zReg md0 hX rfl rfl rfl ?_
    refine rThen ?_
    refine rSeq ?_
    refine rSeq ?_
    refine zReg md0 hX rfl rfl rfl ?_
    refine rThen ?_
    refine rBlock ?_
    replace hT := sBind hT; obtain ⟨w1, hl, hT⟩ := hT
    refine rJoinA (fun v1 => (Sum.inl v1) = w1) (fun v1 => ⟨[(2, .v (.c (.bool false)))], [], 1⟩) .ret (fun v1 hv => ?_) (fun hxs10 => ?_)
    · subst hv; clear hl; replace hT := (sElimL hT)
      refine rInRet ?_
      refine rThenRet ?_
      have hy := Option.some.inj hT; subst hy
      exact zEnd0 hX rfl
    refine rJoinA (fun v2 => (Sum.inr v2) = w1) (fun v2 => ⟨[(1, .v (.c (.ptr 0 0 0 0 0 0))), (2, .v (.c (.bool false)))], [(0, .mem true 37 none (.flat [.cs [.int .i64 a1, .bool a2, .int .i64 a3, .int .i64 a4], .ints 2 .i64 a5, .ints 6 .i64 a6, .fzs 6 (.pair .bool (.pair (.int .i64) (.int .i64))) a7]))], 1⟩) (.exit 0) (fun v2 hv => ?_) (fun hxs11 => ?_)
    · subst hv; clear hl; replace hT := (sElimR hT)
      refine rInHit ?_
      refine rThen ?_
      refine rSeq ?_
      let x1 := (bif (bif (bif (decide (a3 = 0)) then (decide (a4 = 0)) else false) then (decide ((a5.getD 0 0) = 0)) else false) then (decide ((a5.getD 1 0) = 0)) else false)
      refine zReg md0 hX rfl rfl rfl ?_
      refine rThen ?_
      refine rRet ?_
      have hy := Option.some.inj hT; subst hy
      exact zEnd0 hX rfl
    refine rLoopM (ref22_zero_b1 N a6 a7) (fun s1 => ⟨[(1, .v (.c (.ptr 0 0 0 0 0 0))), (2, .v (.c (.bool false))), (3, .v (.c (.int .i64 s1)))], [(0, .mem true 37 none (.flat [.cs [.int .i64 a1, .bool a2, .int .i64 a3, .int .i64 a4], .ints 2 .i64 a5, .ints 6 .i64 a6, .fzs 6 (.pair .bool (.pair (.int .i64) (.int .i64))) a7]))], 1⟩) hl (To.mk' [] 0 hε rfl (by repeat' first | exact True.intro | exact rfl | apply And.intro) (by repeat' first | exact True.intro | exact rfl | apply And.intro)) (fun s1 zs1 NNs1 hz hnexts1 houts1 => ?_)
    clear hl hT
    have hT := hz; clear hz
    refine rSeq ?_
    refine rSeq ?_
    refine zReg md0 hX rfl rfl rfl ?_
    refine rThen ?_
    refine zCond rfl rfl (fun hc => ?_) (fun hc => ?_)
    · replace hT := sT hc hT
      refine rSkip ?_
      refine rThen ?_
      refine rSeq ?_
      refine rBlock ?_
      refine rSeq ?_
      let x3 := (bif (decide ((0 : Int) < ((a7.getD (s1).toNat []).length : Int))) then true else (decide ((a6.getD (s1).toNat 0) ≠ 0)))
      replace hT := sIf hT; obtain ⟨⟨o1, o2, o3, o4, o5, o6⟩, hT⟩ := hT
      refine rRegC md0 hX rfl rfl rfl (by (repeat' first | exact True.intro | with_reducible assumption | (with_reducible apply And.intro) | intro _) <;> first | assumption | exact o4 (by assumption) | exact o5 (by assumption) | exact o6 (by assumption) | exact rfl | omega | exact Nat.le_of_ble_eq_true rfl | exact selF (by assumption) | exact selT (by assumption) | exact And.intro rfl rfl | exact And.intro (by assumption) rfl | exact And.intro (by omega) rfl | (simp only [inK] at *; omega) | (simp_all [sel] <;> fail) | fail) ?_
      refine rThen ?_
      refine zCond rfl rfl (fun hc => ?_) (fun hc => ?_)
      · replace hT := sT hc hT
        refine rSeq ?_
        refine zReg md0 hX rfl rfl rfl ?_
        refine rThen ?_
        refine rRet ?_
        refine rInRet ?_
        refine rThenRet ?_
        refine rThenRet ?_
        exact zTo [] 0 hε (hxs10 _ (houts1 _ (Option.some.inj hT).symm))
      · replace hT := sF hc hT
        refine rSkip ?_
        refine rInNormal ?_
        refine rThen ?_
        replace hT := sIf hT; obtain ⟨o1, hT⟩ := hT
        refine zReg md0 hX rfl rfl rfl ?_
        exact hnexts1 _ (Option.some.inj hT).symm _ (To.mk' [] 0 hε rfl (by repeat' first | exact True.intro | exact rfl | apply And.intro) (by repeat' first | exact True.intro | exact rfl | apply And.intro))
    · replace hT := sF hc hT
      refine rExit ?_
      refine rThenExit ?_
      refine rThenExit ?_
      exact zTo [] 0 hε (hxs11 _ (houts1 _ (Option.some.inj hT).symm))
  · cases h
def ref20_Row (N : Nat) (a1 : Int) : Option ByteArray :=
  let x1 := (bif (bif (decide (a1 < (-2))) then true else (decide ((2 : Int) < a1))) then true else (decide (a1 = 0)))
  bif x1 then
    some ⟨#[]⟩
  else
    if inK .i64 (a1 + 2) ∧ (0 : Int) ≤ (a1 + 2) ∧ (a1 + 2) < 5 then
      if (a1 + 2).toNat < ([⟨#[48, 49]⟩, ⟨#[48, 48]⟩, ⟨#[]⟩, ⟨#[49, 48]⟩, ⟨#[49, 49]⟩] : List ByteArray).length then
        let x2 := (([⟨#[48, 49]⟩, ⟨#[48, 48]⟩, ⟨#[]⟩, ⟨#[49, 48]⟩, ⟨#[49, 49]⟩] : List ByteArray).getD (a1 + 2).toNat ⟨#[]⟩)
        some x2
      else none
    else none
def sp_ref20_Row (N : Nat) : X.Spec := fun args lk => match args with
  | [.v (.c (.int .i64 a1))] => some ⟨(ref20_Row N a1).isSome = true, .v (.c (.str ((ref20_Row N a1).getD default))), [], []⟩
  | _ => none
set_option maxRecDepth 100000 in
set_option maxHeartbeats 1000000 in
theorem ok_ref20_Row (N : Nat) : FnOK Tryd.prog gt0 63 (sp_ref20_Row N) := by
  refine fnOK_handed Tryd.func63 rfl (by kernel_rfl) tt_ok (ktNil) ?_
  intro args lk r h hp
  unfold sp_ref20_Row at h
  split at h
  · rename_i a1
    cases h
    obtain ⟨x, hx⟩ := Option.isSome_iff_exists.1 hp
    simp only [hx, Option.getD_some]
    refine hand0 rfl rfl (fun w0 M ε0 hX => ?_)
    refine rCount (fun hε => ?_)
    have hT : ref20_Row N a1 = some x := hx; clear hx hp; unfold ref20_Row at hT
    refine rSeq ?_
    refine zReg md0 hX rfl rfl rfl ?_
    refine rThen ?_
    refine rSeq ?_
    refine rSeq ?_
    let x1 := (bif (bif (decide (a1 < (-2))) then true else (decide ((2 : Int) < a1))) then true else (decide (a1 = 0)))
    refine zReg md0 hX rfl rfl rfl ?_
    refine rThen ?_
    refine zCond rfl rfl (fun hc => ?_) (fun hc => ?_)
    · replace hT := sT hc hT
      refine rSeq ?_
      refine zReg md0 hX rfl rfl rfl ?_
      refine rThen ?_
      refine rRet ?_
      refine rThenRet ?_
      have hy := Option.some.inj hT; subst hy
      exact zEnd0 hX rfl
    · replace hT := sF hc hT
      refine rSkip ?_
      refine rThen ?_
      refine rSeq ?_
      refine rRegSL ?_
      replace hT := sIf hT; obtain ⟨⟨o1, o2, o3⟩, hT⟩ := hT
      refine rSLCut md0 4 hX rfl rfl rfl (by (repeat' first | exact True.intro | with_reducible assumption | (with_reducible apply And.intro) | intro _) <;> first | assumption | exact rfl | omega | exact Nat.le_of_ble_eq_true rfl | exact selF (by assumption) | exact selT (by assumption) | exact And.intro rfl rfl | exact And.intro (by assumption) rfl | exact And.intro (by omega) rfl | (simp only [inK] at *; omega) | (simp_all [sel] <;> fail) | fail) ?_
      refine rLstL 0 .str [⟨#[48, 49]⟩, ⟨#[48, 48]⟩, ⟨#[]⟩, ⟨#[49, 48]⟩, ⟨#[49, 49]⟩] rfl rfl rfl ?_
      replace hT := sIf hT; obtain ⟨o1, hT⟩ := hT
      let x2 := (([⟨#[48, 49]⟩, ⟨#[48, 48]⟩, ⟨#[]⟩, ⟨#[49, 48]⟩, ⟨#[49, 49]⟩] : List ByteArray).getD (a1 + 2).toNat ⟨#[]⟩)
      refine rSLDone md0 hX rfl rfl rfl (by (repeat' first | exact True.intro | with_reducible assumption | (with_reducible apply And.intro) | intro _) <;> first | assumption | exact rfl | omega | exact Nat.le_of_ble_eq_true rfl | exact selF (by assumption) | exact selT (by assumption) | exact And.intro rfl rfl | exact And.intro (by assumption) rfl | exact And.intro (by omega) rfl | (simp only [inK] at *; omega) | (simp_all [sel] <;> fail) | fail) ?_
      refine rThen ?_
      refine rRet ?_
      have hy := Option.some.inj hT; subst hy
      exact zEnd0 hX rfl
  · cases h
def ref21_Intra (N : Nat) (a1 : Int) : Option Bool :=
  some (bif (decide (a1 = 3)) then true else (decide (a1 = 4)))
def sp_ref21_Intra (N : Nat) : X.Spec := fun args lk => match args with
  | [.v (.c (.int .i64 a1))] => some ⟨(ref21_Intra N a1).isSome = true, .v (.c (.bool ((ref21_Intra N a1).getD default))), [], []⟩
  | _ => none
set_option maxRecDepth 100000 in
set_option maxHeartbeats 1000000 in
theorem ok_ref21_Intra (N : Nat) : FnOK Tryd.prog gt0 38 (sp_ref21_Intra N) := by
  refine fnOK_handed Tryd.func38 rfl (by kernel_rfl) tt_ok (ktNil) ?_
  intro args lk r h hp
  unfold sp_ref21_Intra at h
  split at h
  · rename_i a1
    cases h
    obtain ⟨x, hx⟩ := Option.isSome_iff_exists.1 hp
    simp only [hx, Option.getD_some]
    refine hand0 rfl rfl (fun w0 M ε0 hX => ?_)
    refine rCount (fun hε => ?_)
    have hT : ref21_Intra N a1 = some x := hx; clear hx hp; unfold ref21_Intra at hT
    refine rSeq ?_
    refine zReg md0 hX rfl rfl rfl ?_
    refine rThen ?_
    refine rSeq ?_
    refine zReg md0 hX rfl rfl rfl ?_
    refine rThen ?_
    refine rRet ?_
    have hy := Option.some.inj hT; subst hy
    exact zEnd0 hX rfl
  · cases h
def ref15_from (N : Nat) (a1 : Bool) : Option Int :=
  bif a1 then
    some 1
  else
    some 0
def sp_ref15_from (N : Nat) : X.Spec := fun args lk => match args with
  | [.v (.c (.bool a1))] => some ⟨(ref15_from N a1).isSome = true, .v (.c (.int .i64 ((ref15_from N a1).getD default))), [], []⟩
  | _ => none
set_option maxRecDepth 100000 in
set_option maxHeartbeats 1000000 in
theorem ok_ref15_from (N : Nat) : FnOK Tryd.prog gt0 116 (sp_ref15_from N) := by
  refine fnOK_handed Tryd.func116 rfl (by kernel_rfl) tt_ok (ktNil) ?_
  intro args lk r h hp
  unfold sp_ref15_from at h
  split at h
  · rename_i a1
    cases h
    obtain ⟨x, hx⟩ := Option.isSome_iff_exists.1 hp
    simp only [hx, Option.getD_some]
    refine hand0 rfl rfl (fun w0 M ε0 hX => ?_)
    refine rCount (fun hε => ?_)
    have hT : ref15_from N a1 = some x := hx; clear hx hp; unfold ref15_from at hT
    refine rSeq ?_
    refine zReg md0 hX rfl rfl rfl ?_
    refine rThen ?_
    refine rSeq ?_
    refine rSeq ?_
    refine zReg md0 hX rfl rfl rfl ?_
    refine rThen ?_
    refine zCond rfl rfl (fun hc => ?_) (fun hc => ?_)
    · replace hT := sT hc hT
      refine rSeq ?_
      refine zReg md0 hX rfl rfl rfl ?_
      refine rThen ?_
      refine rRet ?_
      refine rThenRet ?_
      have hy := Option.some.inj hT; subst hy
      exact zEnd0 hX rfl
    · replace hT := sF hc hT
      refine rSkip ?_
      refine rThen ?_
      refine rSeq ?_
      refine zReg md0 hX rfl rfl rfl ?_
      refine rThen ?_
      refine rRet ?_
      have hy := Option.some.inj hT; subst hy
      exact zEnd0 hX rfl
  · cases h
def ref09_Right (N : Nat) (a1 : Bool) (a2 : Int) (a3 : Int) : Option Bool :=
  let x1 := (bif (bif (bif (bif (decide ((0 : Int) ≤ a2)) then (decide (a2 ≤ 63)) else false) then (decide (((-127) : Int) ≤ a3)) else false) then (decide (a3 ≤ 127)) else false) then (decide (a3 ≠ 0)) else false)
  some x1
def sp_ref09_Right (N : Nat) : X.Spec := fun args lk => match args with
  | [.v (.agg [.cs [.bool a1, .int .i64 a2, .int .i64 a3]])] => some ⟨(ref09_Right N a1 a2 a3).isSome = true, .v (.c (.bool ((ref09_Right N a1 a2 a3).getD default))), [], []⟩
  | _ => none
set_option maxRecDepth 100000 in
set_option maxHeartbeats 1000000 in
theorem ok_ref09_Right (N : Nat) : FnOK Tryd.prog gt0 127 (sp_ref09_Right N) := by
  refine fnOK_handed Tryd.func127 rfl (by kernel_rfl) tt_ok (ktNil) ?_
  intro args lk r h hp
  unfold sp_ref09_Right at h
  split at h
  · rename_i a1 a2 a3
    cases h
    obtain ⟨x, hx⟩ := Option.isSome_iff_exists.1 hp
    simp only [hx, Option.getD_some]
    refine hand0 rfl rfl (fun w0 M ε0 hX => ?_)
    refine rCount (fun hε => ?_)
    have hT : ref09_Right N a1 a2 a3 = some x := hx; clear hx hp; unfold ref09_Right at hT
    refine rSeq ?_
    refine zReg md0 hX rfl rfl rfl ?_
    refine rThen ?_
    refine rSeq ?_
    let x1 := (bif (bif (bif (bif (decide ((0 : Int) ≤ a2)) then (decide (a2 ≤ 63)) else false) then (decide (((-127) : Int) ≤ a3)) else false) then (decide (a3 ≤ 127)) else false) then (decide (a3 ≠ 0)) else false)
    refine zReg md0 hX rfl rfl rfl ?_
    refine rThen ?_
    refine rRet ?_
    have hy := Option.some.inj hT; subst hy
    exact zEnd0 hX rfl
  · cases h
def ref10_Levels_b1 (N : Nat) (a1 : (List (Bool × (Int × Int)))) (s1 : (Int × Int × (List Int))) : Option ((Int × Int × (List Int)) ⊕ (Unit ⊕ (List Int))) :=
  bif (decide (s1.2.1 < (a1.length : Int))) then
    let c1 := (ref09_Right N (a1.getD (s1.2.1).toNat (false, ((0 : Int), (0 : Int)))).1 (a1.getD (s1.2.1).toNat (false, ((0 : Int), (0 : Int)))).2.1 (a1.getD (s1.2.1).toNat (false, ((0 : Int), (0 : Int)))).2.2)
    let x2 := (bif (!(c1.getD default)) then true else (!((a1.getD (s1.2.1).toNat (false, ((0 : Int), (0 : Int)))).1 == (decide ((s1.2.1 + 1) = (a1.length : Int))))))
    if (0 : Int) ≤ s1.2.1 ∧ s1.2.1 < (a1.length : Int) ∧ c1.isSome = true ∧ ((!(!(c1.getD default))) = true → (0 : Int) ≤ s1.2.1) ∧ ((!(!(c1.getD default))) = true → s1.2.1 < (a1.length : Int)) ∧ ((!(!(c1.getD default))) = true → inK .i64 (s1.2.1 + 1)) then
      bif x2 then
        some (.inr (Sum.inl ()))
      else
        if (0 : Int) ≤ s1.2.1 ∧ s1.2.1 < (a1.length : Int) ∧ inK .i64 (s1.1 + (a1.getD (s1.2.1).toNat (false, ((0 : Int), (0 : Int)))).2.1) ∧ inK .i64 ((s1.1 + (a1.getD (s1.2.1).toNat (false, ((0 : Int), (0 : Int)))).2.1) + 1) then
          let x3 := (decide ((63 : Int) < ((s1.1 + (a1.getD (s1.2.1).toNat (false, ((0 : Int), (0 : Int)))).2.1) + 1)))
          bif x3 then
            some (.inr (Sum.inl ()))
          else
            let x4 := (s1.2.2.set ((s1.1 + (a1.getD (s1.2.1).toNat (false, ((0 : Int), (0 : Int)))).2.1) + 1).toNat (a1.getD (s1.2.1).toNat (false, ((0 : Int), (0 : Int)))).2.2)
            if (0 : Int) ≤ s1.2.1 ∧ s1.2.1 < (a1.length : Int) ∧ (0 : Int) ≤ ((s1.1 + (a1.getD (s1.2.1).toNat (false, ((0 : Int), (0 : Int)))).2.1) + 1) ∧ ((s1.1 + (a1.getD (s1.2.1).toNat (false, ((0 : Int), (0 : Int)))).2.1) + 1) < 64 ∧ ((s1.1 + (a1.getD (s1.2.1).toNat (false, ((0 : Int), (0 : Int)))).2.1) + 1).toNat < 64 then
              if inK .i64 (s1.2.1 + 1) then
                some (.inl (((s1.1 + (a1.getD (s1.2.1).toNat (false, ((0 : Int), (0 : Int)))).2.1) + 1), (s1.2.1 + 1), x4))
              else none
            else none
        else none
    else none
  else
    some (.inr (Sum.inr s1.2.2))
def ref10_Levels (N : Nat) (a1 : (List (Bool × (Int × Int)))) (a2 : Int) : Option ((List Int) × Int) :=
  bif (bif (decide (a2 < 0)) then true else (decide ((1 : Int) < a2))) then
    some ((List.replicate 64 0), 1)
  else
    if inK .i64 (a2 - 1) then
      (iter (ref10_Levels_b1 N a1) N ((a2 - 1), 0, (List.replicate 64 0))).bind fun w1 =>
        (Sum.elim (fun v1 =>
          some ((List.replicate 64 0), 7)
        )
          (fun v2 =>
            some (v2, 0)
          )
        ) w1
    else none
def sp_ref10_Levels (N : Nat) : X.Spec := fun args lk => match args with
  | [.v (.c (.fz (.pair .bool (.pair (.int .i64) (.int .i64))) a1)), .v (.c (.int .i64 a2))] => some ⟨(ref10_Levels N a1 a2).isSome = true, .tup [.agg [.ints 64 .i64 ((ref10_Levels N a1 a2).getD default).1], .c (.int .i64 ((ref10_Levels N a1 a2).getD default).2)], [], []⟩
  | _ => none
set_option maxRecDepth 100000 in
set_option maxHeartbeats 1000000 in
theorem ok_ref10_Levels (N : Nat) : FnOK Tryd.prog gt0 79 (sp_ref10_Levels N) := by
  refine fnOK_handed Tryd.func79 rfl (by kernel_rfl) tt_ok (ktCons (ok_ref09_Right N) (ktNil)) ?_
  intro args lk r h hp
  unfold sp_ref10_Levels at h
  split at h
  · rename_i a1 a2
    change (List (Bool × (Int × Int))) at a1
    cases h
    obtain ⟨x, hx⟩ := Option.isSome_iff_exists.1 hp
    simp only [hx, Option.getD_some]
    refine hand0 rfl rfl (fun w0 M ε0 hX => ?_)
    refine rCount (fun hε => ?_)
    have hT : ref10_Levels N a1 a2 = some x := hx; clear hx hp; unfold ref10_Levels at hT
    refine rSeq ?_
    refine zReg md0 hX rfl rfl rfl ?_
    refine rThen ?_
    refine rSeq ?_
    refine zReg md0 hX rfl rfl rfl ?_
    refine rThen ?_
    refine rSeq ?_
    refine rSeq ?_
    refine zReg md0 hX rfl rfl rfl ?_
    refine rThen ?_
    refine zCond rfl rfl (fun hc => ?_) (fun hc => ?_)
    · replace hT := sT hc hT
      refine rSeq ?_
      refine zReg md0 hX rfl rfl rfl ?_
      refine rThen ?_
      refine rRet ?_
      refine rThenRet ?_
      have hy := Option.some.inj hT; subst hy
      exact zEnd0 hX rfl
    · replace hT := sF hc hT
      refine rSkip ?_
      refine rThen ?_
      refine rSeq ?_
      replace hT := sIf hT; obtain ⟨o1, hT⟩ := hT
      refine zReg md0 hX rfl rfl rfl ?_
      refine rThen ?_
      refine rSeq ?_
      refine rSeq ?_
      refine zReg md0 hX rfl rfl rfl ?_
      refine rThen ?_
      refine rBlock ?_
      replace hT := sBind hT; obtain ⟨w1, hl, hT⟩ := hT
      refine rJoinA (fun v1 => (Sum.inl v1) = w1) (fun v1 => ⟨[(4, .v (.c (.ptr 0 0 0 0 0 0))), (5, .v (.c (.int .i64 7)))], [(0, .mem true 22 none (.flat [.ints 64 .i64 (List.replicate 64 0)]))], 2⟩) .ret (fun v1 hv => ?_) (fun hxs10 => ?_)
      · subst hv; clear hl; replace hT := (sElimL hT)
        refine rInRet ?_
        refine rThenRet ?_
        have hy := Option.some.inj hT; subst hy
        exact zEnd0 hX rfl
      refine rJoinA (fun v2 => (Sum.inr v2) = w1) (fun v2 => ⟨[(4, .v (.c (.ptr 0 0 0 0 0 0))), (5, .v (.c (.int .i64 0))), (6, .v (.c (.ptr 1 0 0 0 0 0)))], [(0, .mem true 22 none (.flat [.ints 64 .i64 (List.replicate 64 0)])), (1, .mem true 22 none (.flat [.ints 64 .i64 v2]))], 2⟩) (.exit 0) (fun v2 hv => ?_) (fun hxs11 => ?_)
      · subst hv; clear hl; replace hT := (sElimR hT)
        refine rInHit ?_
        refine rThen ?_
        refine rSeq ?_
        refine zReg md0 hX rfl rfl rfl ?_
        refine rThen ?_
        refine rRet ?_
        have hy := Option.some.inj hT; subst hy
        exact zEnd0 hX rfl
      refine rLoopM (ref10_Levels_b1 N a1) (fun s1 => ⟨[(0, .v (.c (.fz (.pair .bool (.pair (.int .i64) (.int .i64))) a1))), (4, .v (.c (.ptr 0 0 0 0 0 0))), (5, .v (.c (.int .i64 0))), (6, .v (.c (.ptr 1 0 0 0 0 0))), (7, .v (.c (.int .i64 s1.1))), (8, .v (.c (.int .i64 s1.2.1)))], [(0, .mem true 22 none (.flat [.ints 64 .i64 (List.replicate 64 0)])), (1, .mem true 22 none (.flat [.ints 64 .i64 s1.2.2]))], 2⟩) hl (To.mk' [] 0 hε rfl (by repeat' first | exact True.intro | exact rfl | apply And.intro) (by repeat' first | exact True.intro | exact rfl | apply And.intro)) (fun s1 zs1 NNs1 hz hnexts1 houts1 => ?_)
      clear hl hT
      have hT := hz; clear hz
      refine rSeq ?_
      refine rSeq ?_
      refine zReg md0 hX rfl rfl rfl ?_
      refine rThen ?_
      refine zCond rfl rfl (fun hc => ?_) (fun hc => ?_)
      · replace hT := sT hc hT
        refine rSkip ?_
        refine rThen ?_
        refine rSeq ?_
        refine rBlock ?_
        refine rSeq ?_
        refine rSeq ?_
        let c1 := (ref09_Right N (a1.getD (s1.2.1).toNat (false, ((0 : Int), (0 : Int)))).1 (a1.getD (s1.2.1).toNat (false, ((0 : Int), (0 : Int)))).2.1 (a1.getD (s1.2.1).toNat (false, ((0 : Int), (0 : Int)))).2.2)
        let x2 := (bif (!(c1.getD default)) then true else (!((a1.getD (s1.2.1).toNat (false, ((0 : Int), (0 : Int)))).1 == (decide ((s1.2.1 + 1) = (a1.length : Int))))))
        replace hT := sIf hT; obtain ⟨⟨o1, o2, o3, o4, o5, o6⟩, hT⟩ := hT
        refine rRegC md0 hX rfl rfl rfl (by (repeat' first | exact True.intro | with_reducible assumption | (with_reducible apply And.intro) | intro _) <;> first | assumption | exact o4 (by assumption) | exact o5 (by assumption) | exact o6 (by assumption) | exact rfl | omega | exact Nat.le_of_ble_eq_true rfl | exact selF (by assumption) | exact selT (by assumption) | exact And.intro rfl rfl | exact And.intro (by assumption) rfl | exact And.intro (by omega) rfl | (simp only [inK] at *; omega) | (simp_all [sel] <;> fail) | fail) ?_
        refine rThen ?_
        refine zCond rfl rfl (fun hc => ?_) (fun hc => ?_)
        · replace hT := sT hc hT
          refine rSeq ?_
          refine zReg md0 hX rfl rfl rfl ?_
          refine rThen ?_
          refine rRet ?_
          refine rThenRet ?_
          refine rInRet ?_
          refine rThenRet ?_
          refine rThenRet ?_
          exact zTo [] 0 hε (hxs10 _ (houts1 _ (Option.some.inj hT).symm))
        · replace hT := sF hc hT
          refine rSkip ?_
          refine rThen ?_
          refine rSeq ?_
          replace hT := sIf hT; obtain ⟨⟨o1, o2, o3, o4⟩, hT⟩ := hT
          refine zReg md0 hX rfl rfl rfl ?_
          refine rThen ?_
          refine rSeq ?_
          refine rSeq ?_
          let x3 := (decide ((63 : Int) < ((s1.1 + (a1.getD (s1.2.1).toNat (false, ((0 : Int), (0 : Int)))).2.1) + 1)))
          refine zReg md0 hX rfl rfl rfl ?_
          refine rThen ?_
          refine zCond rfl rfl (fun hc => ?_) (fun hc => ?_)
          · replace hT := sT hc hT
            refine rSeq ?_
            refine zReg md0 hX rfl rfl rfl ?_
            refine rThen ?_
            refine rRet ?_
            refine rThenRet ?_
            refine rInRet ?_
            refine rThenRet ?_
            refine rThenRet ?_
            exact zTo [] 0 hε (hxs10 _ (houts1 _ (Option.some.inj hT).symm))
          · replace hT := sF hc hT
            refine rSkip ?_
            refine rThen ?_
            let x4 := (s1.2.2.set ((s1.1 + (a1.getD (s1.2.1).toNat (false, ((0 : Int), (0 : Int)))).2.1) + 1).toNat (a1.getD (s1.2.1).toNat (false, ((0 : Int), (0 : Int)))).2.2)
            replace hT := sIf hT; obtain ⟨⟨o1, o2, o3, o4, o5⟩, hT⟩ := hT
            refine zReg md0 hX rfl rfl rfl ?_
            refine rInNormal ?_
            refine rThen ?_
            replace hT := sIf hT; obtain ⟨o1, hT⟩ := hT
            refine zReg md0 hX rfl rfl rfl ?_
            exact hnexts1 _ (Option.some.inj hT).symm _ (To.mk' [] 0 hε rfl (by repeat' first | exact True.intro | exact rfl | apply And.intro) (by repeat' first | exact True.intro | exact rfl | apply And.intro))
      · replace hT := sF hc hT
        refine rExit ?_
        refine rThenExit ?_
        refine rThenExit ?_
        exact zTo [] 0 hε (hxs11 _ (houts1 _ (Option.some.inj hT).symm))
  · cases h
def ref15_May (N : Nat) (a1 : Bool) (a2 : Int) (a3 : (List (Bool × (Int × Int)))) : Option Bool :=
  let c1 := (ref15_from N a1)
  let c2 := (ref10_Levels N a3 (c1.getD default))
  if c1.isSome = true ∧ c2.isSome = true then
    bif a1 then
      let x1 := (bif (bif (decide ((c2.getD default).2 = 0)) then (decide ((1 : Int) ≤ a2)) else false) then (decide (a2 ≤ 254)) else false)
      some x1
    else
      some (bif (decide ((c2.getD default).2 = 0)) then (decide (a2 = 0)) else false)
  else none
def sp_ref15_May (N : Nat) : X.Spec := fun args lk => match args with
  | [.v (.c (.bool a1)), .v (.c (.int .i64 a2)), .v (.c (.fz (.pair .bool (.pair (.int .i64) (.int .i64))) a3))] => some ⟨(ref15_May N a1 a2 a3).isSome = true, .v (.c (.bool ((ref15_May N a1 a2 a3).getD default))), [], []⟩
  | _ => none
set_option maxRecDepth 100000 in
set_option maxHeartbeats 1000000 in
theorem ok_ref15_May (N : Nat) : FnOK Tryd.prog gt0 64 (sp_ref15_May N) := by
  refine fnOK_handed Tryd.func64 rfl (by kernel_rfl) tt_ok (ktCons (ok_ref10_Levels N) (ktCons (ok_ref15_from N) (ktNil))) ?_
  intro args lk r h hp
  unfold sp_ref15_May at h
  split at h
  · rename_i a1 a2 a3
    change (List (Bool × (Int × Int))) at a3
    cases h
    obtain ⟨x, hx⟩ := Option.isSome_iff_exists.1 hp
    simp only [hx, Option.getD_some]
    refine hand0 rfl rfl (fun w0 M ε0 hX => ?_)
    refine rCount (fun hε => ?_)
    have hT : ref15_May N a1 a2 a3 = some x := hx; clear hx hp; unfold ref15_May at hT
    refine rSeq ?_
    refine zReg md0 hX rfl rfl rfl ?_
    refine rThen ?_
    refine rSeq ?_
    let c1 := (ref15_from N a1)
    let c2 := (ref10_Levels N a3 (c1.getD default))
    replace hT := sIf hT; obtain ⟨⟨o1, o2⟩, hT⟩ := hT
    refine zReg md0 hX rfl rfl rfl ?_
    refine rThen ?_
    refine rSeq ?_
    refine rSeq ?_
    refine zReg md0 hX rfl rfl rfl ?_
    refine rThen ?_
    refine zCond rfl rfl (fun hc => ?_) (fun hc => ?_)
    · replace hT := sT hc hT
      refine rSeq ?_
      let x1 := (bif (bif (decide ((c2.getD default).2 = 0)) then (decide ((1 : Int) ≤ a2)) else false) then (decide (a2 ≤ 254)) else false)
      refine zReg md0 hX rfl rfl rfl ?_
      refine rThen ?_
      refine rRet ?_
      refine rThenRet ?_
      have hy := Option.some.inj hT; subst hy
      exact zEnd0 hX rfl
    · replace hT := sF hc hT
      refine rSkip ?_
      refine rThen ?_
      refine rSeq ?_
      refine zReg md0 hX rfl rfl rfl ?_
      refine rThen ?_
      refine rRet ?_
      have hy := Option.some.inj hT; subst hy
      exact zEnd0 hX rfl
  · cases h
def ref22_Right_b1 (N : Nat) (a4 : Int) (a7 : (List Int)) (a8 : (List (List (Bool × (Int × Int))))) (s2 : Int) : Option (Int ⊕ (Unit ⊕ Unit)) :=
  bif (decide (s2 < 6)) then
    let c2 := (ref21_Intra N a4)
    let c3 := (ref15_May N (c2.getD default) (a7.getD (s2).toNat 0) (a8.getD (s2).toNat []))
    if c2.isSome = true ∧ (0 : Int) ≤ s2 ∧ s2 < 6 ∧ (s2).toNat < 6 ∧ c3.isSome = true then
      bif (!(c3.getD default)) then
        some (.inr (Sum.inl ()))
      else
        if inK .i64 (s2 + 1) then
          some (.inl (s2 + 1))
        else none
    else none
  else
    some (.inr (Sum.inr ()))
def ref22_Right_b2 (N : Nat) (a4 : Int) (a6 : (List Int)) (s1 : Int) : Option (Int ⊕ (Unit ⊕ Unit)) :=
  bif (decide (s1 < 2)) then
    let x8 := (bif (bif (decide ((a6.getD (s1).toNat 0) < (-32))) then true else (decide ((31 : Int) < (a6.getD (s1).toNat 0)))) then true else (bif (decide ((2 : Int) < a4)) then (decide ((a6.getD (s1).toNat 0) ≠ 0)) else false))
    if (0 : Int) ≤ s1 ∧ s1 < 2 ∧ (s1).toNat < 2 ∧ ((!(decide ((a6.getD (s1).toNat 0) < (-32)))) = true → (0 : Int) ≤ s1) ∧ ((!(decide ((a6.getD (s1).toNat 0) < (-32)))) = true → s1 < 2) ∧ ((!(decide ((a6.getD (s1).toNat 0) < (-32)))) = true → (s1).toNat < 2) ∧ (((!(bif (decide ((a6.getD (s1).toNat 0) < (-32))) then true else (decide ((31 : Int) < (a6.getD (s1).toNat 0))))) && (decide ((2 : Int) < a4))) = true → (0 : Int) ≤ s1) ∧ (((!(bif (decide ((a6.getD (s1).toNat 0) < (-32))) then true else (decide ((31 : Int) < (a6.getD (s1).toNat 0))))) && (decide ((2 : Int) < a4))) = true → s1 < 2) ∧ (((!(bif (decide ((a6.getD (s1).toNat 0) < (-32))) then true else (decide ((31 : Int) < (a6.getD (s1).toNat 0))))) && (decide ((2 : Int) < a4))) = true → (s1).toNat < 2) ∧ ((!(bif (decide ((a6.getD (s1).toNat 0) < (-32))) then true else (decide ((31 : Int) < (a6.getD (s1).toNat 0))))) = true → ((decide ((2 : Int) < a4)) = true → ((!(bif (decide ((a6.getD (s1).toNat 0) < (-32))) then true else (decide ((31 : Int) < (a6.getD (s1).toNat 0))))) && (decide ((2 : Int) < a4))) = true)) then
      bif x8 then
        some (.inr (Sum.inl ()))
      else
        if inK .i64 (s1 + 1) then
          some (.inl (s1 + 1))
        else none
    else none
  else
    some (.inr (Sum.inr ()))
def ref22_Right (N : Nat) (a1 : Bool) (a2 : Int) (a3 : Bool) (a4 : Int) (a5 : Int) (a6 : (List Int)) (a7 : (List Int)) (a8 : (List (List (Bool × (Int × Int))))) : Option Bool :=
  bif (bif (decide (a2 < 0)) then true else (decide ((64 : Int) < a2))) then
    some false
  else
    bif a3 then
      let c1 := (ref22_zero N a2 a3 a4 a5 a6 a7 a8)
      if (a1 = true → c1.isSome = true) then
        some (bif a1 then (c1.getD default) else false)
      else none
    else
      let x4 := (bif (bif (bif (decide (a4 < 0)) then true else (decide ((4 : Int) < a4))) then true else (decide (a4 = 2))) then true else (bif (decide (a4 < 2)) then (!a1) else false))
      if ((!(bif (bif (decide (a4 < 0)) then true else (decide ((4 : Int) < a4))) then true else (decide (a4 = 2)))) = true → ((decide (a4 < 2)) = true → ((!(bif (bif (decide (a4 < 0)) then true else (decide ((4 : Int) < a4))) then true else (decide (a4 = 2)))) && (decide (a4 < 2))) = true)) then
        bif x4 then
          some false
        else
          joinK (fun (v1 : Unit) =>
            (iter (ref22_Right_b2 N a4 a6) N 0).bind fun w1 =>
              (Sum.elim (fun v2 =>
                some false
              )
                (fun v3 =>
                  (iter (ref22_Right_b1 N a4 a7 a8) N 0).bind fun w2 =>
                    (Sum.elim (fun v4 =>
                      some false
                    )
                      (fun v5 =>
                        some true
                      )
                    ) w2
                )
              ) w1
          ) fun k1 =>
            bif (bif (decide (a4 = 1)) then true else (decide (a4 = 4))) then
              let c4 := (ref20_Row N a5)
              if c4.isSome = true then
                bif (decide (ByteArray.toList (c4.getD default) = ByteArray.toList ⟨#[]⟩)) then
                  some false
                else
                  k1 ()
              else none
            else
              bif (decide (a5 ≠ 0)) then
                some false
              else
                k1 ()
      else none
def sp_ref22_Right (N : Nat) : X.Spec := fun args lk => match args with
  | [.v (.c (.bool a1)), .v (.agg [.cs [.int .i64 a2, .bool a3, .int .i64 a4, .int .i64 a5], .ints 2 .i64 a6, .ints 6 .i64 a7, .fzs 6 (.pair .bool (.pair (.int .i64) (.int .i64))) a8])] => some ⟨(ref22_Right N a1 a2 a3 a4 a5 a6 a7 a8).isSome = true, .v (.c (.bool ((ref22_Right N a1 a2 a3 a4 a5 a6 a7 a8).getD default))), [], []⟩
  | _ => none
set_option maxRecDepth 100000 in
set_option maxHeartbeats 1000000 in
theorem ok_ref22_Right (N : Nat) : FnOK Tryd.prog gt0 21 (sp_ref22_Right N) := by
  refine fnOK_handed Tryd.func21 rfl (by kernel_rfl) tt_ok (ktCons (ok_ref20_Row N) (ktCons (ok_ref15_May N) (ktCons (ok_ref21_Intra N) (ktCons (ok_ref22_zero N) (ktNil))))) ?_
  intro args lk r h hp
  unfold sp_ref22_Right at h
  split at h
  · rename_i a1 a2 a3 a4 a5 a6 a7 a8
    change (List Int) at a6
    change (List Int) at a7
    change (List (List (Bool × (Int × Int)))) at a8
    cases h
    obtain ⟨x, hx⟩ := Option.isSome_iff_exists.1 hp
    simp only [hx, Option.getD_some]
    refine hand0 rfl rfl (fun w0 M ε0 hX => ?_)
    refine rCount (fun hε => ?_)
    have hT : ref22_Right N a1 a2 a3 a4 a5 a6 a7 a8 = some x := hx; clear hx hp; unfold ref22_Right at hT
    refine rSeq ?_
    refine zReg md0 hX rfl rfl rfl ?_
    refine rThen ?_
    refine rSeq ?_
    refine rSeq ?_
    refine zReg md0 hX rfl rfl rfl ?_
    refine rThen ?_
    refine zCond rfl rfl (fun hc => ?_) (fun hc => ?_)
    · replace hT := sT hc hT
      refine rSeq ?_
      refine zReg md0 hX rfl rfl rfl ?_
      refine rThen ?_
      refine rRet ?_
      refine rThenRet ?_
      have hy := Option.some.inj hT; subst hy
      exact zEnd0 hX rfl
    · replace hT := sF hc hT
      refine rSkip ?_
      refine rThen ?_
      refine rSeq ?_
      refine rSeq ?_
      refine zReg md0 hX rfl rfl rfl ?_
      refine rThen ?_
      refine zCond rfl rfl (fun hc => ?_) (fun hc => ?_)
      · replace hT := sT hc hT
        refine rSeq ?_
        let c1 := (ref22_zero N a2 a3 a4 a5 a6 a7 a8)
        replace hT := sIf hT; obtain ⟨o1, hT⟩ := hT
        refine rRegC md0 hX rfl rfl rfl (by (repeat' first | exact True.intro | with_reducible assumption | (with_reducible apply And.intro) | intro _) <;> first | assumption | exact o1 (by assumption) | exact rfl | omega | exact Nat.le_of_ble_eq_true rfl | exact selF (by assumption) | exact selT (by assumption) | exact And.intro rfl rfl | exact And.intro (by assumption) rfl | exact And.intro (by omega) rfl | (simp only [inK] at *; omega) | (simp_all [sel] <;> fail) | fail) ?_
        refine rThen ?_
        refine rRet ?_
        refine rThenRet ?_
        have hy := Option.some.inj hT; subst hy
        exact zEnd0 hX rfl
      · replace hT := sF hc hT
        refine rSkip ?_
        refine rThen ?_
        refine rSeq ?_
        refine rSeq ?_
        let x4 := (bif (bif (bif (decide (a4 < 0)) then true else (decide ((4 : Int) < a4))) then true else (decide (a4 = 2))) then true else (bif (decide (a4 < 2)) then (!a1) else false))
        replace hT := sIf hT; obtain ⟨o1, hT⟩ := hT
        refine rRegC md0 hX rfl rfl rfl (by (repeat' first | exact True.intro | with_reducible assumption | (with_reducible apply And.intro) | intro _) <;> first | assumption | exact o1 (by assumption) | exact rfl | omega | exact Nat.le_of_ble_eq_true rfl | exact selF (by assumption) | exact selT (by assumption) | exact And.intro rfl rfl | exact And.intro (by assumption) rfl | exact And.intro (by omega) rfl | (simp only [inK] at *; omega) | (simp_all [sel] <;> fail) | fail) ?_
        refine rThen ?_
        refine zCond rfl rfl (fun hc => ?_) (fun hc => ?_)
        · replace hT := sT hc hT
          refine rSeq ?_
          refine zReg md0 hX rfl rfl rfl ?_
          refine rThen ?_
          refine rRet ?_
          refine rThenRet ?_
          have hy := Option.some.inj hT; subst hy
          exact zEnd0 hX rfl
        · replace hT := sF hc hT
          refine rSkip ?_
          refine rThen ?_
          refine rSeq ?_
          refine rSeq ?_
          refine zReg md0 hX rfl rfl rfl ?_
          refine rThen ?_
          refine rJoinK hT (fun v1 => ⟨[(3, .v (.c (.ptr 0 0 0 0 0 0))), (4, .v (.c (.bool false)))], [(0, .mem true 37 none (.flat [.cs [.int .i64 a2, .bool a3, .int .i64 a4, .int .i64 a5], .ints 2 .i64 a6, .ints 6 .i64 a7, .fzs 6 (.pair .bool (.pair (.int .i64) (.int .i64))) a8]))], 1⟩) (fun v1 hT => ?_) (fun k1 hjk1 hT => ?_)
          · skip
            refine rThen ?_
            refine rSeq ?_
            refine rSeq ?_
            refine zReg md0 hX rfl rfl rfl ?_
            refine rThen ?_
            refine rBlock ?_
            replace hT := sBind hT; obtain ⟨w1, hl, hT⟩ := hT
            refine rJoinA (fun v2 => (Sum.inl v2) = w1) (fun v2 => ⟨[(4, .v (.c (.bool false)))], [], 1⟩) .ret (fun v2 hv => ?_) (fun hxs10 => ?_)
            · subst hv; clear hl; replace hT := (sElimL hT)
              refine rInRet ?_
              refine rThenRet ?_
              have hy := Option.some.inj hT; subst hy
              exact zEnd0 hX rfl
            refine rJoinA (fun v3 => (Sum.inr v3) = w1) (fun v3 => ⟨[(3, .v (.c (.ptr 0 0 0 0 0 0))), (4, .v (.c (.bool false)))], [(0, .mem true 37 none (.flat [.cs [.int .i64 a2, .bool a3, .int .i64 a4, .int .i64 a5], .ints 2 .i64 a6, .ints 6 .i64 a7, .fzs 6 (.pair .bool (.pair (.int .i64) (.int .i64))) a8]))], 1⟩) (.exit 0) (fun v3 hv => ?_) (fun hxs11 => ?_)
            · subst hv; clear hl; replace hT := (sElimR hT)
              refine rInHit ?_
              refine rThen ?_
              refine rSeq ?_
              refine rSeq ?_
              refine zReg md0 hX rfl rfl rfl ?_
              refine rThen ?_
              refine rBlock ?_
              replace hT := sBind hT; obtain ⟨w2, hl, hT⟩ := hT
              refine rJoinA (fun v4 => (Sum.inl v4) = w2) (fun v4 => ⟨[(4, .v (.c (.bool false)))], [], 1⟩) .ret (fun v4 hv => ?_) (fun hxs20 => ?_)
              · subst hv; clear hl; replace hT := (sElimL hT)
                refine rInRet ?_
                refine rThenRet ?_
                have hy := Option.some.inj hT; subst hy
                exact zEnd0 hX rfl
              refine rJoinA (fun v5 => (Sum.inr v5) = w2) (fun v5 => ⟨[(4, .v (.c (.bool false)))], [], 1⟩) (.exit 2) (fun v5 hv => ?_) (fun hxs21 => ?_)
              · subst hv; clear hl; replace hT := (sElimR hT)
                refine rInHit ?_
                refine rThen ?_
                refine rSeq ?_
                refine zReg md0 hX rfl rfl rfl ?_
                refine rThen ?_
                refine rRet ?_
                have hy := Option.some.inj hT; subst hy
                exact zEnd0 hX rfl
              refine rLoopM (ref22_Right_b1 N a4 a7 a8) (fun s2 => ⟨[(3, .v (.c (.ptr 0 0 0 0 0 0))), (4, .v (.c (.bool false))), (6, .v (.c (.int .i64 s2)))], [(0, .mem true 37 none (.flat [.cs [.int .i64 a2, .bool a3, .int .i64 a4, .int .i64 a5], .ints 2 .i64 a6, .ints 6 .i64 a7, .fzs 6 (.pair .bool (.pair (.int .i64) (.int .i64))) a8]))], 1⟩) hl (To.mk' [] 0 hε rfl (by repeat' first | exact True.intro | exact rfl | apply And.intro) (by repeat' first | exact True.intro | exact rfl | apply And.intro)) (fun s2 zs2 NNs2 hz hnexts2 houts2 => ?_)
              clear hl hT
              have hT := hz; clear hz
              refine rSeq ?_
              refine rSeq ?_
              refine zReg md0 hX rfl rfl rfl ?_
              refine rThen ?_
              refine zCond rfl rfl (fun hc => ?_) (fun hc => ?_)
              · replace hT := sT hc hT
                refine rSkip ?_
                refine rThen ?_
                refine rSeq ?_
                refine rBlock ?_
                refine rSeq ?_
                let c2 := (ref21_Intra N a4)
                let c3 := (ref15_May N (c2.getD default) (a7.getD (s2).toNat 0) (a8.getD (s2).toNat []))
                replace hT := sIf hT; obtain ⟨⟨o1, o2, o3, o4, o5⟩, hT⟩ := hT
                refine zDraw md0 0 [] hX mixed rfl rfl rfl rfl rfl ?_
                refine rThen ?_
                refine zCond rfl rfl (fun hc => ?_) (fun hc => ?_)
                · replace hT := sT hc hT
                  refine rSeq ?_
                  refine zReg md0 hX rfl rfl rfl ?_
                  refine rThen ?_
                  refine rRet ?_
                  refine rInRet ?_
                  refine rThenRet ?_
                  refine rThenRet ?_
                  exact zTo [] 0 hε (hxs20 _ (houts2 _ (Option.some.inj hT).symm))
                · replace hT := sF hc hT
                  refine rSkip ?_
                  refine rInNormal ?_
                  refine rThen ?_
                  replace hT := sIf hT; obtain ⟨o1, hT⟩ := hT
                  refine zReg md0 hX rfl rfl rfl ?_
                  exact hnexts2 _ (Option.some.inj hT).symm _ (To.mk' [] 0 hε rfl (by repeat' first | exact True.intro | exact rfl | apply And.intro) (by repeat' first | exact True.intro | exact rfl | apply And.intro))
              · replace hT := sF hc hT
                refine rExit ?_
                refine rThenExit ?_
                refine rThenExit ?_
                exact zTo [] 0 hε (hxs21 _ (houts2 _ (Option.some.inj hT).symm))
            refine rLoopM (ref22_Right_b2 N a4 a6) (fun s1 => ⟨[(3, .v (.c (.ptr 0 0 0 0 0 0))), (4, .v (.c (.bool false))), (5, .v (.c (.int .i64 s1)))], [(0, .mem true 37 none (.flat [.cs [.int .i64 a2, .bool a3, .int .i64 a4, .int .i64 a5], .ints 2 .i64 a6, .ints 6 .i64 a7, .fzs 6 (.pair .bool (.pair (.int .i64) (.int .i64))) a8]))], 1⟩) hl (To.mk' [] 0 hε rfl (by repeat' first | exact True.intro | exact rfl | apply And.intro) (by repeat' first | exact True.intro | exact rfl | apply And.intro)) (fun s1 zs1 NNs1 hz hnexts1 houts1 => ?_)
            clear hl hT
            have hT := hz; clear hz
            refine rSeq ?_
            refine rSeq ?_
            refine zReg md0 hX rfl rfl rfl ?_
            refine rThen ?_
            refine zCond rfl rfl (fun hc => ?_) (fun hc => ?_)
            · replace hT := sT hc hT
              refine rSkip ?_
              refine rThen ?_
              refine rSeq ?_
              refine rBlock ?_
              refine rSeq ?_
              let x8 := (bif (bif (decide ((a6.getD (s1).toNat 0) < (-32))) then true else (decide ((31 : Int) < (a6.getD (s1).toNat 0)))) then true else (bif (decide ((2 : Int) < a4)) then (decide ((a6.getD (s1).toNat 0) ≠ 0)) else false))
              replace hT := sIf hT; obtain ⟨⟨o1, o2, o3, o4, o5, o6, o7, o8, o9, o10⟩, hT⟩ := hT
              refine rRegC md0 hX rfl rfl rfl (by (repeat' first | exact True.intro | with_reducible assumption | (with_reducible apply And.intro) | intro _) <;> first | assumption | exact o4 (by assumption) | exact o5 (by assumption) | exact o6 (by assumption) | exact o7 (by assumption) | exact o8 (by assumption) | exact o9 (by assumption) | exact o10 (by assumption) | exact rfl | omega | exact Nat.le_of_ble_eq_true rfl | exact selF (by assumption) | exact selT (by assumption) | exact And.intro rfl rfl | exact And.intro (by assumption) rfl | exact And.intro (by omega) rfl | (simp only [inK] at *; omega) | (simp_all [sel] <;> fail) | fail) ?_
              refine rThen ?_
              refine zCond rfl rfl (fun hc => ?_) (fun hc => ?_)
              · replace hT := sT hc hT
                refine rSeq ?_
                refine zReg md0 hX rfl rfl rfl ?_
                refine rThen ?_
                refine rRet ?_
                refine rInRet ?_
                refine rThenRet ?_
                refine rThenRet ?_
                exact zTo [] 0 hε (hxs10 _ (houts1 _ (Option.some.inj hT).symm))
              · replace hT := sF hc hT
                refine rSkip ?_
                refine rInNormal ?_
                refine rThen ?_
                replace hT := sIf hT; obtain ⟨o1, hT⟩ := hT
                refine zReg md0 hX rfl rfl rfl ?_
                exact hnexts1 _ (Option.some.inj hT).symm _ (To.mk' [] 0 hε rfl (by repeat' first | exact True.intro | exact rfl | apply And.intro) (by repeat' first | exact True.intro | exact rfl | apply And.intro))
            · replace hT := sF hc hT
              refine rExit ?_
              refine rThenExit ?_
              refine rThenExit ?_
              exact zTo [] 0 hε (hxs11 _ (houts1 _ (Option.some.inj hT).symm))
          · skip
            refine zCond rfl rfl (fun hc => ?_) (fun hc => ?_)
            · replace hT := sT hc hT
              refine rSeq ?_
              let c4 := (ref20_Row N a5)
              replace hT := sIf hT; obtain ⟨o1, hT⟩ := hT
              refine zReg md0 hX rfl rfl rfl ?_
              refine rThen ?_
              refine zCond rfl rfl (fun hc => ?_) (fun hc => ?_)
              · replace hT := sT hc hT
                refine rSeq ?_
                refine zReg md0 hX rfl rfl rfl ?_
                refine rThen ?_
                refine rRet ?_
                refine rThenRet ?_
                have hy := Option.some.inj hT; subst hy
                exact zEnd0 hX rfl
              · replace hT := sF hc hT
                refine rSkip ?_
                exact zTo [] 0 hε (hjk1 _ hT)
            · replace hT := sF hc hT
              refine rSeq ?_
              refine zReg md0 hX rfl rfl rfl ?_
              refine rThen ?_
              refine zCond rfl rfl (fun hc => ?_) (fun hc => ?_)
              · replace hT := sT hc hT
                refine rSeq ?_
                refine zReg md0 hX rfl rfl rfl ?_
                refine rThen ?_
                refine rRet ?_
                refine rThenRet ?_
                have hy := Option.some.inj hT; subst hy
                exact zEnd0 hX rfl
              · replace hT := sF hc hT
                refine rSkip ?_
                exact zTo [] 0 hε (hjk1 _ hT)
  · cases h
def ref16_Size (N : Nat) (a1 : Int) : Option (List Int) :=
  let x1 := [(List.replicate 4 0), (((((List.replicate 4 0).set 0 128).set 1 96).set 2 6).set 3 1), (((((List.replicate 4 0).set 0 176).set 1 144).set 2 9).set 3 1), (((((List.replicate 4 0).set 0 352).set 1 288).set 2 18).set 3 1), (((((List.replicate 4 0).set 0 704).set 1 576).set 2 18).set 3 2), (((((List.replicate 4 0).set 0 1408).set 1 1152).set 2 18).set 3 4), (((((List.replicate 4 0).set 0 32).set 1 32).set 2 2).set 3 1)]
  bif (bif (decide (a1 < 0)) then true else (decide ((7 : Int) ≤ a1))) then
    some (List.replicate 4 0)
  else
    if (0 : Int) ≤ a1 ∧ a1 < 7 ∧ (a1).toNat < x1.length then
      some (x1.getD (a1).toNat (List.replicate 4 (0 : Int)))
    else none
def sp_ref16_Size (N : Nat) : X.Spec := fun args lk => match args with
  | [.v (.c (.int .i64 a1))] => some ⟨(ref16_Size N a1).isSome = true, .v (.agg [.ints 4 .i64 ((ref16_Size N a1).getD default)]), [], []⟩
  | _ => none
set_option maxRecDepth 100000 in
set_option maxHeartbeats 1000000 in
theorem ok_ref16_Size (N : Nat) : FnOK Tryd.prog gt0 84 (sp_ref16_Size N) := by
  refine fnOK_handed Tryd.func84 rfl (by kernel_rfl) tt_ok (ktNil) ?_
  intro args lk r h hp
  unfold sp_ref16_Size at h
  split at h
  · rename_i a1
    cases h
    obtain ⟨x, hx⟩ := Option.isSome_iff_exists.1 hp
    simp only [hx, Option.getD_some]
    refine hand0 rfl rfl (fun w0 M ε0 hX => ?_)
    refine rCount (fun hε => ?_)
    have hT : ref16_Size N a1 = some x := hx; clear hx hp; unfold ref16_Size at hT
    refine rSeq ?_
    refine zReg md0 hX rfl rfl rfl ?_
    refine rThen ?_
    refine rSeq ?_
    refine zReg md0 hX rfl rfl rfl ?_
    refine rLstQ 1 (.arr 4 .i64) [(List.replicate 4 0), (((((List.replicate 4 0).set 0 128).set 1 96).set 2 6).set 3 1), (((((List.replicate 4 0).set 0 176).set 1 144).set 2 9).set 3 1), (((((List.replicate 4 0).set 0 352).set 1 288).set 2 18).set 3 1), (((((List.replicate 4 0).set 0 704).set 1 576).set 2 18).set 3 2), (((((List.replicate 4 0).set 0 1408).set 1 1152).set 2 18).set 3 4), (((((List.replicate 4 0).set 0 32).set 1 32).set 2 2).set 3 1)] rfl rfl rfl ?_
    refine rThen ?_
    refine rSeq ?_
    refine rSeq ?_
    let x1 := [(List.replicate 4 0), (((((List.replicate 4 0).set 0 128).set 1 96).set 2 6).set 3 1), (((((List.replicate 4 0).set 0 176).set 1 144).set 2 9).set 3 1), (((((List.replicate 4 0).set 0 352).set 1 288).set 2 18).set 3 1), (((((List.replicate 4 0).set 0 704).set 1 576).set 2 18).set 3 2), (((((List.replicate 4 0).set 0 1408).set 1 1152).set 2 18).set 3 4), (((((List.replicate 4 0).set 0 32).set 1 32).set 2 2).set 3 1)]
    refine zReg md0 hX rfl rfl rfl ?_
    refine rThen ?_
    refine zCond rfl rfl (fun hc => ?_) (fun hc => ?_)
    · replace hT := sT hc hT
      refine rSeq ?_
      refine zReg md0 hX rfl rfl rfl ?_
      refine rThen ?_
      refine rRet ?_
      refine rThenRet ?_
      have hy := Option.some.inj hT; subst hy
      exact zEnd0 hX rfl
    · replace hT := sF hc hT
      refine rSkip ?_
      refine rThen ?_
      refine rSeq ?_
      replace hT := sIf hT; obtain ⟨⟨o1, o2, o3⟩, hT⟩ := hT
      refine zReg md0 hX rfl rfl rfl ?_
      refine rThen ?_
      refine rRet ?_
      have hy := Option.some.inj hT; subst hy
      exact zEnd0 hX rfl
  · cases h
def ref17_Wide (N : Nat) (a1 : Int) (a2 : Int) : Option Int :=
  bif (decide (a2 = 0)) then
    let c1 := (ref16_Size N a1)
    if c1.isSome = true then
      some ((c1.getD default).getD 0 0)
    else none
  else
    let c2 := (ref16_Size N a1)
    if c2.isSome = true ∧ (0 : Int) ≤ ((c2.getD default).getD 0 0) then
      some (((c2.getD default).getD 0 0) / 2)
    else none
def sp_ref17_Wide (N : Nat) : X.Spec := fun args lk => match args with
  | [.v (.c (.int .i64 a1)), .v (.c (.int .i64 a2))] => some ⟨(ref17_Wide N a1 a2).isSome = true, .v (.c (.int .i64 ((ref17_Wide N a1 a2).getD default))), [], []⟩
  | _ => none
set_option maxRecDepth 100000 in
set_option maxHeartbeats 1000000 in
theorem ok_ref17_Wide (N : Nat) : FnOK Tryd.prog gt0 85 (sp_ref17_Wide N) := by
  refine fnOK_handed Tryd.func85 rfl (by kernel_rfl) tt_ok (ktCons (ok_ref16_Size N) (ktNil)) ?_
  intro args lk r h hp
  unfold sp_ref17_Wide at h
  split at h
  · rename_i a1 a2
    cases h
    obtain ⟨x, hx⟩ := Option.isSome_iff_exists.1 hp
    simp only [hx, Option.getD_some]
    refine hand0 rfl rfl (fun w0 M ε0 hX => ?_)
    refine rCount (fun hε => ?_)
    have hT : ref17_Wide N a1 a2 = some x := hx; clear hx hp; unfold ref17_Wide at hT
    refine rSeq ?_
    refine zReg md0 hX rfl rfl rfl ?_
    refine rThen ?_
    refine rSeq ?_
    refine rSeq ?_
    refine zReg md0 hX rfl rfl rfl ?_
    refine rThen ?_
    refine zCond rfl rfl (fun hc => ?_) (fun hc => ?_)
    · replace hT := sT hc hT
      refine rSeq ?_
      let c1 := (ref16_Size N a1)
      replace hT := sIf hT; obtain ⟨o1, hT⟩ := hT
      refine zReg md0 hX rfl rfl rfl ?_
      refine rThen ?_
      refine rRet ?_
      refine rThenRet ?_
      have hy := Option.some.inj hT; subst hy
      exact zEnd0 hX rfl
    · replace hT := sF hc hT
      refine rSkip ?_
      refine rThen ?_
      refine rSeq ?_
      let c2 := (ref16_Size N a1)
      replace hT := sIf hT; obtain ⟨⟨o1, o2⟩, hT⟩ := hT
      refine zReg md0 hX rfl rfl rfl ?_
      refine rThen ?_
      refine rRet ?_
      have hy := Option.some.inj hT; subst hy
      exact zEnd0 hX rfl
  · cases h
def ref17_High (N : Nat) (a1 : Int) (a2 : Int) : Option Int :=
  bif (decide (a2 = 0)) then
    let c1 := (ref16_Size N a1)
    if c1.isSome = true then
      some ((c1.getD default).getD 1 0)
    else none
  else
    let c2 := (ref16_Size N a1)
    if c2.isSome = true ∧ (0 : Int) ≤ ((c2.getD default).getD 1 0) then
      some (((c2.getD default).getD 1 0) / 2)
    else none
def sp_ref17_High (N : Nat) : X.Spec := fun args lk => match args with
  | [.v (.c (.int .i64 a1)), .v (.c (.int .i64 a2))] => some ⟨(ref17_High N a1 a2).isSome = true, .v (.c (.int .i64 ((ref17_High N a1 a2).getD default))), [], []⟩
  | _ => none
set_option maxRecDepth 100000 in
set_option maxHeartbeats 1000000 in
theorem ok_ref17_High (N : Nat) : FnOK Tryd.prog gt0 86 (sp_ref17_High N) := by
  refine fnOK_handed Tryd.func86 rfl (by kernel_rfl) tt_ok (ktCons (ok_ref16_Size N) (ktNil)) ?_
  intro args lk r h hp
  unfold sp_ref17_High at h
  split at h
  · rename_i a1 a2
    cases h
    obtain ⟨x, hx⟩ := Option.isSome_iff_exists.1 hp
    simp only [hx, Option.getD_some]
    refine hand0 rfl rfl (fun w0 M ε0 hX => ?_)
    refine rCount (fun hε => ?_)
    have hT : ref17_High N a1 a2 = some x := hx; clear hx hp; unfold ref17_High at hT
    refine rSeq ?_
    refine zReg md0 hX rfl rfl rfl ?_
    refine rThen ?_
    refine rSeq ?_
    refine rSeq ?_
    refine zReg md0 hX rfl rfl rfl ?_
    refine rThen ?_
    refine zCond rfl rfl (fun hc => ?_) (fun hc => ?_)
    · replace hT := sT hc hT
      refine rSeq ?_
      let c1 := (ref16_Size N a1)
      replace hT := sIf hT; obtain ⟨o1, hT⟩ := hT
      refine zReg md0 hX rfl rfl rfl ?_
      refine rThen ?_
      refine rRet ?_
      refine rThenRet ?_
      have hy := Option.some.inj hT; subst hy
      exact zEnd0 hX rfl
    · replace hT := sF hc hT
      refine rSkip ?_
      refine rThen ?_
      refine rSeq ?_
      let c2 := (ref16_Size N a1)
      replace hT := sIf hT; obtain ⟨⟨o1, o2⟩, hT⟩ := hT
      refine zReg md0 hX rfl rfl rfl ?_
      refine rThen ?_
      refine rRet ?_
      have hy := Option.some.inj hT; subst hy
      exact zEnd0 hX rfl
  · cases h
def ref17_Right_b1 (N : Nat) (a1 : Int) (a2 : (List (List Int))) (s1 : Int) : Option (Int ⊕ (Unit ⊕ Unit)) :=
  bif (decide (s1 < 3)) then
    let c2 := (ref17_Wide N a1 s1)
    let c3 := (ref17_High N a1 s1)
    let x1 := (decide (((a2.getD (s1).toNat []).length : Int) ≠ ((c2.getD default) * (c3.getD default))))
    if (0 : Int) ≤ s1 ∧ s1 < 3 ∧ (s1).toNat < 3 ∧ c2.isSome = true ∧ c3.isSome = true ∧ inK .i64 ((c2.getD default) * (c3.getD default)) then
      bif x1 then
        some (.inr (Sum.inl ()))
      else
        if inK .i64 (s1 + 1) then
          some (.inl (s1 + 1))
        else none
    else none
  else
    some (.inr (Sum.inr ()))
def ref17_Right (N : Nat) (a1 : Int) (a2 : (List (List Int))) : Option Bool :=
  let c1 := (ref16_Size N a1)
  if c1.isSome = true then
    bif (decide (((c1.getD default).getD 0 0) = 0)) then
      some false
    else
      (iter (ref17_Right_b1 N a1 a2) N 0).bind fun w1 =>
        (Sum.elim (fun v1 =>
          some false
        )
          (fun v2 =>
            some true
          )
        ) w1
  else none
def sp_ref17_Right (N : Nat) : X.Spec := fun args lk => match args with
  | [.v (.agg [.cs [.int .i64 a1], .fzs 3 (.int .u8) a2])] => some ⟨(ref17_Right N a1 a2).isSome = true, .v (.c (.bool ((ref17_Right N a1 a2).getD default))), [], []⟩
  | _ => none
set_option maxRecDepth 100000 in
set_option maxHeartbeats 1000000 in
theorem ok_ref17_Right (N : Nat) : FnOK Tryd.prog gt0 39 (sp_ref17_Right N) := by
  refine fnOK_handed Tryd.func39 rfl (by kernel_rfl) tt_ok (ktCons (ok_ref17_High N) (ktCons (ok_ref17_Wide N) (ktCons (ok_ref16_Size N) (ktNil)))) ?_
  intro args lk r h hp
  unfold sp_ref17_Right at h
  split at h
  · rename_i a1 a2
    change (List (List Int)) at a2
    cases h
    obtain ⟨x, hx⟩ := Option.isSome_iff_exists.1 hp
    simp only [hx, Option.getD_some]
    refine hand0 rfl rfl (fun w0 M ε0 hX => ?_)
    refine rCount (fun hε => ?_)
    have hT : ref17_Right N a1 a2 = some x := hx; clear hx hp; unfold ref17_Right at hT
    refine rSeq ?_
    refine zReg md0 hX rfl rfl rfl ?_
    refine rThen ?_
    refine rSeq ?_
    refine rSeq ?_
    let c1 := (ref16_Size N a1)
    replace hT := sIf hT; obtain ⟨o1, hT⟩ := hT
    refine zReg md0 hX rfl rfl rfl ?_
    refine rThen ?_
    refine zCond rfl rfl (fun hc => ?_) (fun hc => ?_)
    · replace hT := sT hc hT
      refine rSeq ?_
      refine zReg md0 hX rfl rfl rfl ?_
      refine rThen ?_
      refine rRet ?_
      refine rThenRet ?_
      have hy := Option.some.inj hT; subst hy
      exact zEnd0 hX rfl
    · replace hT := sF hc hT
      refine rSkip ?_
      refine rThen ?_
      refine rSeq ?_
      refine rSeq ?_
      refine zReg md0 hX rfl rfl rfl ?_
      refine rThen ?_
      refine rBlock ?_
      replace hT := sBind hT; obtain ⟨w1, hl, hT⟩ := hT
      refine rJoinA (fun v1 => (Sum.inl v1) = w1) (fun v1 => ⟨[(2, .v (.c (.bool false)))], [], 1⟩) .ret (fun v1 hv => ?_) (fun hxs10 => ?_)
      · subst hv; clear hl; replace hT := (sElimL hT)
        refine rInRet ?_
        refine rThenRet ?_
        have hy := Option.some.inj hT; subst hy
        exact zEnd0 hX rfl
      refine rJoinA (fun v2 => (Sum.inr v2) = w1) (fun v2 => ⟨[(2, .v (.c (.bool false)))], [], 1⟩) (.exit 0) (fun v2 hv => ?_) (fun hxs11 => ?_)
      · subst hv; clear hl; replace hT := (sElimR hT)
        refine rInHit ?_
        refine rThen ?_
        refine rSeq ?_
        refine zReg md0 hX rfl rfl rfl ?_
        refine rThen ?_
        refine rRet ?_
        have hy := Option.some.inj hT; subst hy
        exact zEnd0 hX rfl
      refine rLoopM (ref17_Right_b1 N a1 a2) (fun s1 => ⟨[(1, .v (.c (.ptr 0 0 0 0 0 0))), (2, .v (.c (.bool false))), (3, .v (.c (.int .i64 s1)))], [(0, .mem true 62 none (.flat [.cs [.int .i64 a1], .fzs 3 (.int .u8) a2]))], 1⟩) hl (To.mk' [] 0 hε rfl (by repeat' first | exact True.intro | exact rfl | apply And.intro) (by repeat' first | exact True.intro | exact rfl | apply And.intro)) (fun s1 zs1 NNs1 hz hnexts1 houts1 => ?_)
      clear hl hT
      have hT := hz; clear hz
      refine rSeq ?_
      refine rSeq ?_
      refine zReg md0 hX rfl rfl rfl ?_
      refine rThen ?_
      refine zCond rfl rfl (fun hc => ?_) (fun hc => ?_)
      · replace hT := sT hc hT
        refine rSkip ?_
        refine rThen ?_
        refine rSeq ?_
        refine rBlock ?_
        refine rSeq ?_
        let c2 := (ref17_Wide N a1 s1)
        let c3 := (ref17_High N a1 s1)
        let x1 := (decide (((a2.getD (s1).toNat []).length : Int) ≠ ((c2.getD default) * (c3.getD default))))
        replace hT := sIf hT; obtain ⟨⟨o1, o2, o3, o4, o5, o6⟩, hT⟩ := hT
        refine zDraw md0 0 [] hX mixed rfl rfl rfl rfl rfl ?_
        refine rThen ?_
        refine zCond rfl rfl (fun hc => ?_) (fun hc => ?_)
        · replace hT := sT hc hT
          refine rSeq ?_
          refine zReg md0 hX rfl rfl rfl ?_
          refine rThen ?_
          refine rRet ?_
          refine rInRet ?_
          refine rThenRet ?_
          refine rThenRet ?_
          exact zTo [] 0 hε (hxs10 _ (houts1 _ (Option.some.inj hT).symm))
        · replace hT := sF hc hT
          refine rSkip ?_
          refine rInNormal ?_
          refine rThen ?_
          replace hT := sIf hT; obtain ⟨o1, hT⟩ := hT
          refine zReg md0 hX rfl rfl rfl ?_
          exact hnexts1 _ (Option.some.inj hT).symm _ (To.mk' [] 0 hε rfl (by repeat' first | exact True.intro | exact rfl | apply And.intro) (by repeat' first | exact True.intro | exact rfl | apply And.intro))
      · replace hT := sF hc hT
        refine rExit ?_
        refine rThenExit ?_
        refine rThenExit ?_
        exact zTo [] 0 hε (hxs11 _ (houts1 _ (Option.some.inj hT).symm))
  · cases h
def ref16_Many (N : Nat) (a1 : Int) : Option Int :=
  let c1 := (ref16_Size N a1)
  let c2 := (ref16_Size N a1)
  if c1.isSome = true ∧ (0 : Int) ≤ ((c1.getD default).getD 0 0) ∧ c2.isSome = true ∧ (0 : Int) ≤ ((c2.getD default).getD 1 0) ∧ inK .i64 ((((c1.getD default).getD 0 0) / 16) * (((c2.getD default).getD 1 0) / 16)) then
    some ((((c1.getD default).getD 0 0) / 16) * (((c2.getD default).getD 1 0) / 16))
  else none
def sp_ref16_Many (N : Nat) : X.Spec := fun args lk => match args with
  | [.v (.c (.int .i64 a1))] => some ⟨(ref16_Many N a1).isSome = true, .v (.c (.int .i64 ((ref16_Many N a1).getD default))), [], []⟩
  | _ => none
set_option maxRecDepth 100000 in
set_option maxHeartbeats 1000000 in
theorem ok_ref16_Many (N : Nat) : FnOK Tryd.prog gt0 40 (sp_ref16_Many N) := by
  refine fnOK_handed Tryd.func40 rfl (by kernel_rfl) tt_ok (ktCons (ok_ref16_Size N) (ktNil)) ?_
  intro args lk r h hp
  unfold sp_ref16_Many at h
  split at h
  · rename_i a1
    cases h
    obtain ⟨x, hx⟩ := Option.isSome_iff_exists.1 hp
    simp only [hx, Option.getD_some]
    refine hand0 rfl rfl (fun w0 M ε0 hX => ?_)
    refine rCount (fun hε => ?_)
    have hT : ref16_Many N a1 = some x := hx; clear hx hp; unfold ref16_Many at hT
    refine rSeq ?_
    refine zReg md0 hX rfl rfl rfl ?_
    refine rThen ?_
    refine rSeq ?_
    let c1 := (ref16_Size N a1)
    let c2 := (ref16_Size N a1)
    replace hT := sIf hT; obtain ⟨⟨o1, o2, o3, o4, o5⟩, hT⟩ := hT
    refine zReg md0 hX rfl rfl rfl ?_
    refine rThen ?_
    refine rRet ?_
    have hy := Option.some.inj hT; subst hy
    exact zEnd0 hX rfl
  · cases h
def ref16_Across (N : Nat) (a1 : Int) : Option Int :=
  let c1 := (ref16_Size N a1)
  if c1.isSome = true ∧ (0 : Int) ≤ ((c1.getD default).getD 0 0) then
    some (((c1.getD default).getD 0 0) / 16)
  else none
def sp_ref16_Across (N : Nat) : X.Spec := fun args lk => match args with
  | [.v (.c (.int .i64 a1))] => some ⟨(ref16_Across N a1).isSome = true, .v (.c (.int .i64 ((ref16_Across N a1).getD default))), [], []⟩
  | _ => none
set_option maxRecDepth 100000 in
set_option maxHeartbeats 1000000 in
theorem ok_ref16_Across (N : Nat) : FnOK Tryd.prog gt0 87 (sp_ref16_Across N) := by
  refine fnOK_handed Tryd.func87 rfl (by kernel_rfl) tt_ok (ktCons (ok_ref16_Size N) (ktNil)) ?_
  intro args lk r h hp
  unfold sp_ref16_Across at h
  split at h
  · rename_i a1
    cases h
    obtain ⟨x, hx⟩ := Option.isSome_iff_exists.1 hp
    simp only [hx, Option.getD_some]
    refine hand0 rfl rfl (fun w0 M ε0 hX => ?_)
    refine rCount (fun hε => ?_)
    have hT : ref16_Across N a1 = some x := hx; clear hx hp; unfold ref16_Across at hT
    refine rSeq ?_
    refine zReg md0 hX rfl rfl rfl ?_
    refine rThen ?_
    refine rSeq ?_
    let c1 := (ref16_Size N a1)
    replace hT := sIf hT; obtain ⟨⟨o1, o2⟩, hT⟩ := hT
    refine zReg md0 hX rfl rfl rfl ?_
    refine rThen ?_
    refine rRet ?_
    have hy := Option.some.inj hT; subst hy
    exact zEnd0 hX rfl
  · cases h
def ref18_inside (N : Nat) (a1 : Int) (a2 : Int) : Option Bool :=
  if inK .i64 (a1 + 30) then
    let x1 := (bif (decide ((0 : Int) ≤ a1)) then (decide ((((a1 + 30) / 2) + ((a1 + 30) % 2)) < a2)) else false)
    if ((decide ((0 : Int) ≤ a1)) = true → (0 : Int) ≤ (a1 + 30)) ∧ ((decide ((0 : Int) ≤ a1)) = true → inK .i64 (((a1 + 30) / 2) + ((a1 + 30) % 2))) then
      some x1
    else none
  else none
def sp_ref18_inside (N : Nat) : X.Spec := fun args lk => match args with
  | [.v (.c (.int .i64 a1)), .v (.c (.int .i64 a2))] => some ⟨(ref18_inside N a1 a2).isSome = true, .v (.c (.bool ((ref18_inside N a1 a2).getD default))), [], []⟩
  | _ => none
set_option maxRecDepth 100000 in
set_option maxHeartbeats 1000000 in
theorem ok_ref18_inside (N : Nat) : FnOK Tryd.prog gt0 88 (sp_ref18_inside N) := by
  refine fnOK_handed Tryd.func88 rfl (by kernel_rfl) tt_ok (ktNil) ?_
  intro args lk r h hp
  unfold sp_ref18_inside at h
  split at h
  · rename_i a1 a2
    cases h
    obtain ⟨x, hx⟩ := Option.isSome_iff_exists.1 hp
    simp only [hx, Option.getD_some]
    refine hand0 rfl rfl (fun w0 M ε0 hX => ?_)
    refine rCount (fun hε => ?_)
    have hT : ref18_inside N a1 a2 = some x := hx; clear hx hp; unfold ref18_inside at hT
    refine rSeq ?_
    refine zReg md0 hX rfl rfl rfl ?_
    refine rThen ?_
    refine rSeq ?_
    replace hT := sIf hT; obtain ⟨o1, hT⟩ := hT
    refine zReg md0 hX rfl rfl rfl ?_
    refine rThen ?_
    refine rSeq ?_
    let x1 := (bif (decide ((0 : Int) ≤ a1)) then (decide ((((a1 + 30) / 2) + ((a1 + 30) % 2)) < a2)) else false)
    replace hT := sIf hT; obtain ⟨⟨o1, o2⟩, hT⟩ := hT
    refine rRegC md0 hX rfl rfl rfl (by (repeat' first | exact True.intro | with_reducible assumption | (with_reducible apply And.intro) | intro _) <;> first | assumption | exact o1 (by assumption) | exact o2 (by assumption) | exact rfl | omega | exact Nat.le_of_ble_eq_true rfl | exact selF (by assumption) | exact selT (by assumption) | exact And.intro rfl rfl | exact And.intro (by assumption) rfl | exact And.intro (by omega) rfl | (simp only [inK] at *; omega) | (simp_all [sel] <;> fail) | fail) ?_
    refine rThen ?_
    refine rRet ?_
    have hy := Option.some.inj hT; subst hy
    exact zEnd0 hX rfl
  · cases h
def ref18_May_b1 (N : Nat) (a3 : (List Int)) (s1 : Int) : Option (Int ⊕ (Unit ⊕ Unit)) :=
  bif (decide (s1 < 2)) then
    let x1 := (bif (decide ((a3.getD (s1).toNat 0) < (-32))) then true else (decide ((31 : Int) < (a3.getD (s1).toNat 0))))
    if (0 : Int) ≤ s1 ∧ s1 < 2 ∧ (s1).toNat < 2 ∧ ((!(decide ((a3.getD (s1).toNat 0) < (-32)))) = true → (0 : Int) ≤ s1) ∧ ((!(decide ((a3.getD (s1).toNat 0) < (-32)))) = true → s1 < 2) ∧ ((!(decide ((a3.getD (s1).toNat 0) < (-32)))) = true → (s1).toNat < 2) then
      bif x1 then
        some (.inr (Sum.inl ()))
      else
        if inK .i64 (s1 + 1) then
          some (.inl (s1 + 1))
        else none
    else none
  else
    some (.inr (Sum.inr ()))
def ref18_May (N : Nat) (a1 : Int) (a2 : Int) (a3 : (List Int)) : Option Bool :=
  let c1 := (ref16_Many N a1)
  if ((!(decide (a2 < 0))) = true → c1.isSome = true) then
    bif (bif (decide (a2 < 0)) then true else (decide ((c1.getD default) ≤ a2))) then
      some false
    else
      let c2 := (ref16_Across N a1)
      if c2.isSome = true ∧ (0 : Int) ≤ a2 ∧ (0 : Int) < (c2.getD default) then
        let c3 := (ref16_Across N a1)
        if c3.isSome = true ∧ (0 : Int) ≤ a2 ∧ (0 : Int) < (c3.getD default) then
          (iter (ref18_May_b1 N a3) N 0).bind fun w1 =>
            (Sum.elim (fun v1 =>
              some false
            )
              (fun v2 =>
                let c4 := (ref16_Size N a1)
                let c5 := (ref18_inside N (((32 : Int) * (a2 % (c2.getD default))) + (a3.getD 0 0)) ((c4.getD default).getD 0 0))
                let c6 := (ref16_Size N a1)
                let c7 := (ref18_inside N (((32 : Int) * (a2 / (c3.getD default))) + (a3.getD 1 0)) ((c6.getD default).getD 1 0))
                if inK .i64 ((32 : Int) * (a2 % (c2.getD default))) ∧ inK .i64 (((32 : Int) * (a2 % (c2.getD default))) + (a3.getD 0 0)) ∧ c4.isSome = true ∧ c5.isSome = true ∧ ((c5.getD default) = true → inK .i64 ((32 : Int) * (a2 / (c3.getD default)))) ∧ ((c5.getD default) = true → inK .i64 (((32 : Int) * (a2 / (c3.getD default))) + (a3.getD 1 0))) ∧ ((c5.getD default) = true → c6.isSome = true) ∧ ((c5.getD default) = true → c7.isSome = true) then
                  some (bif (c5.getD default) then (c7.getD default) else false)
                else none
              )
            ) w1
        else none
      else none
  else none
def sp_ref18_May (N : Nat) : X.Spec := fun args lk => match args with
  | [.v (.c (.int .i64 a1)), .v (.c (.int .i64 a2)), .v (.agg [.ints 2 .i64 a3])] => some ⟨(ref18_May N a1 a2 a3).isSome = true, .v (.c (.bool ((ref18_May N a1 a2 a3).getD default))), [], []⟩
  | _ => none
set_option maxRecDepth 100000 in
set_option maxHeartbeats 1000000 in
theorem ok_ref18_May (N : Nat) : FnOK Tryd.prog gt0 41 (sp_ref18_May N) := by
  refine fnOK_handed Tryd.func41 rfl (by kernel_rfl) tt_ok (ktCons (ok_ref18_inside N) (ktCons (ok_ref16_Size N) (ktCons (ok_ref16_Across N) (ktCons (ok_ref16_Many N) (ktNil))))) ?_
  intro args lk r h hp
  unfold sp_ref18_May at h
  split at h
  · rename_i a1 a2 a3
    change (List Int) at a3
    cases h
    obtain ⟨x, hx⟩ := Option.isSome_iff_exists.1 hp
    simp only [hx, Option.getD_some]
    refine hand0 rfl rfl (fun w0 M ε0 hX => ?_)
    refine rCount (fun hε => ?_)
    have hT : ref18_May N a1 a2 a3 = some x := hx; clear hx hp; unfold ref18_May at hT
    refine rSeq ?_
    refine zReg md0 hX rfl rfl rfl ?_
    refine rThen ?_
    refine rSeq ?_
    refine rSeq ?_
    let c1 := (ref16_Many N a1)
    replace hT := sIf hT; obtain ⟨o1, hT⟩ := hT
    refine rRegC md0 hX rfl rfl rfl (by (repeat' first | exact True.intro | with_reducible assumption | (with_reducible apply And.intro) | intro _) <;> first | assumption | exact o1 (by assumption) | exact rfl | omega | exact Nat.le_of_ble_eq_true rfl | exact selF (by assumption) | exact selT (by assumption) | exact And.intro rfl rfl | exact And.intro (by assumption) rfl | exact And.intro (by omega) rfl | (simp only [inK] at *; omega) | (simp_all [sel] <;> fail) | fail) ?_
    refine rThen ?_
    refine zCond rfl rfl (fun hc => ?_) (fun hc => ?_)
    · replace hT := sT hc hT
      refine rSeq ?_
      refine zReg md0 hX rfl rfl rfl ?_
      refine rThen ?_
      refine rRet ?_
      refine rThenRet ?_
      have hy := Option.some.inj hT; subst hy
      exact zEnd0 hX rfl
    · replace hT := sF hc hT
      refine rSkip ?_
      refine rThen ?_
      refine rSeq ?_
      let c2 := (ref16_Across N a1)
      replace hT := sIf hT; obtain ⟨⟨o1, o2, o3⟩, hT⟩ := hT
      refine zReg md0 hX rfl rfl rfl ?_
      refine rThen ?_
      refine rSeq ?_
      let c3 := (ref16_Across N a1)
      replace hT := sIf hT; obtain ⟨⟨o1, o2, o3⟩, hT⟩ := hT
      refine zReg md0 hX rfl rfl rfl ?_
      refine rThen ?_
      refine rSeq ?_
      refine rSeq ?_
      refine zReg md0 hX rfl rfl rfl ?_
      refine rThen ?_
      refine rBlock ?_
      replace hT := sBind hT; obtain ⟨w1, hl, hT⟩ := hT
      refine rJoinA (fun v1 => (Sum.inl v1) = w1) (fun v1 => ⟨[(6, .v (.c (.bool false)))], [], 1⟩) .ret (fun v1 hv => ?_) (fun hxs10 => ?_)
      · subst hv; clear hl; replace hT := (sElimL hT)
        refine rInRet ?_
        refine rThenRet ?_
        have hy := Option.some.inj hT; subst hy
        exact zEnd0 hX rfl
      refine rJoinA (fun v2 => (Sum.inr v2) = w1) (fun v2 => ⟨[(0, .v (.c (.int .i64 a1))), (5, .v (.c (.ptr 0 0 0 0 0 0))), (6, .v (.c (.bool false))), (7, .v (.c (.int .i64 (a2 % (c2.getD default))))), (8, .v (.c (.int .i64 (a2 / (c3.getD default)))))], [(0, .mem true 32 none (.flat [.ints 2 .i64 a3]))], 1⟩) (.exit 0) (fun v2 hv => ?_) (fun hxs11 => ?_)
      · subst hv; clear hl; replace hT := (sElimR hT)
        refine rInHit ?_
        refine rThen ?_
        refine rSeq ?_
        let c4 := (ref16_Size N a1)
        let c5 := (ref18_inside N (((32 : Int) * (a2 % (c2.getD default))) + (a3.getD 0 0)) ((c4.getD default).getD 0 0))
        let c6 := (ref16_Size N a1)
        let c7 := (ref18_inside N (((32 : Int) * (a2 / (c3.getD default))) + (a3.getD 1 0)) ((c6.getD default).getD 1 0))
        replace hT := sIf hT; obtain ⟨⟨o1, o2, o3, o4, o5, o6, o7, o8⟩, hT⟩ := hT
        refine rDrawM md0 0 [] hX mixed rfl rfl rfl rfl rfl (by (repeat' first | exact True.intro | with_reducible assumption | (with_reducible apply And.intro) | intro _) <;> first | assumption | exact o5 (by assumption) | exact o6 (by assumption) | exact o7 (by assumption) | exact o8 (by assumption) | exact rfl | omega | exact Nat.le_of_ble_eq_true rfl | exact selF (by assumption) | exact selT (by assumption) | exact And.intro rfl rfl | exact And.intro (by assumption) rfl | exact And.intro (by omega) rfl | (simp only [inK] at *; omega) | (simp_all [sel] <;> fail) | fail) ?_
        refine rThen ?_
        refine rRet ?_
        have hy := Option.some.inj hT; subst hy
        exact zEnd0 hX rfl
      refine rLoopM (ref18_May_b1 N a3) (fun s1 => ⟨[(0, .v (.c (.int .i64 a1))), (5, .v (.c (.ptr 0 0 0 0 0 0))), (6, .v (.c (.bool false))), (7, .v (.c (.int .i64 (a2 % (c2.getD default))))), (8, .v (.c (.int .i64 (a2 / (c3.getD default))))), (9, .v (.c (.int .i64 s1)))], [(0, .mem true 32 none (.flat [.ints 2 .i64 a3]))], 1⟩) hl (To.mk' [] 0 hε rfl (by repeat' first | exact True.intro | exact rfl | apply And.intro) (by repeat' first | exact True.intro | exact rfl | apply And.intro)) (fun s1 zs1 NNs1 hz hnexts1 houts1 => ?_)
      clear hl hT
      have hT := hz; clear hz
      refine rSeq ?_
      refine rSeq ?_
      refine zReg md0 hX rfl rfl rfl ?_
      refine rThen ?_
      refine zCond rfl rfl (fun hc => ?_) (fun hc => ?_)
      · replace hT := sT hc hT
        refine rSkip ?_
        refine rThen ?_
        refine rSeq ?_
        refine rBlock ?_
        refine rSeq ?_
        let x1 := (bif (decide ((a3.getD (s1).toNat 0) < (-32))) then true else (decide ((31 : Int) < (a3.getD (s1).toNat 0))))
        replace hT := sIf hT; obtain ⟨⟨o1, o2, o3, o4, o5, o6⟩, hT⟩ := hT
        refine rRegC md0 hX rfl rfl rfl (by (repeat' first | exact True.intro | with_reducible assumption | (with_reducible apply And.intro) | intro _) <;> first | assumption | exact o4 (by assumption) | exact o5 (by assumption) | exact o6 (by assumption) | exact rfl | omega | exact Nat.le_of_ble_eq_true rfl | exact selF (by assumption) | exact selT (by assumption) | exact And.intro rfl rfl | exact And.intro (by assumption) rfl | exact And.intro (by omega) rfl | (simp only [inK] at *; omega) | (simp_all [sel] <;> fail) | fail) ?_
        refine rThen ?_
        refine zCond rfl rfl (fun hc => ?_) (fun hc => ?_)
        · replace hT := sT hc hT
          refine rSeq ?_
          refine zReg md0 hX rfl rfl rfl ?_
          refine rThen ?_
          refine rRet ?_
          refine rInRet ?_
          refine rThenRet ?_
          refine rThenRet ?_
          exact zTo [] 0 hε (hxs10 _ (houts1 _ (Option.some.inj hT).symm))
        · replace hT := sF hc hT
          refine rSkip ?_
          refine rInNormal ?_
          refine rThen ?_
          replace hT := sIf hT; obtain ⟨o1, hT⟩ := hT
          refine zReg md0 hX rfl rfl rfl ?_
          exact hnexts1 _ (Option.some.inj hT).symm _ (To.mk' [] 0 hε rfl (by repeat' first | exact True.intro | exact rfl | apply And.intro) (by repeat' first | exact True.intro | exact rfl | apply And.intro))
      · replace hT := sF hc hT
        refine rExit ?_
        refine rThenExit ?_
        refine rThenExit ?_
        exact zTo [] 0 hε (hxs11 _ (houts1 _ (Option.some.inj hT).symm))
  · cases h
def ref17_Place (N : Nat) (a1 : Int) (a2 : Int) (a3 : Int) (a4 : Int) : Option (Int × Int × Int) :=
  let c1 := (ref16_Across N a1)
  if c1.isSome = true ∧ (0 : Int) ≤ a2 ∧ (0 : Int) < (c1.getD default) then
    let c2 := (ref16_Across N a1)
    if c2.isSome = true ∧ (0 : Int) ≤ a2 ∧ (0 : Int) < (c2.getD default) then
      bif (decide (a3 < 4)) then
        if inK .i64 ((16 : Int) * (a2 % (c1.getD default))) ∧ (0 : Int) ≤ a3 ∧ inK .i64 ((8 : Int) * (a3 % 2)) ∧ inK .i64 (((16 : Int) * (a2 % (c1.getD default))) + ((8 : Int) * (a3 % 2))) ∧ (0 : Int) ≤ a4 ∧ inK .i64 ((((16 : Int) * (a2 % (c1.getD default))) + ((8 : Int) * (a3 % 2))) + (a4 % 8)) ∧ inK .i64 ((16 : Int) * (a2 / (c2.getD default))) ∧ inK .i64 ((8 : Int) * (a3 / 2)) ∧ inK .i64 (((16 : Int) * (a2 / (c2.getD default))) + ((8 : Int) * (a3 / 2))) ∧ inK .i64 ((((16 : Int) * (a2 / (c2.getD default))) + ((8 : Int) * (a3 / 2))) + (a4 / 8)) then
          some (0, ((((16 : Int) * (a2 % (c1.getD default))) + ((8 : Int) * (a3 % 2))) + (a4 % 8)), ((((16 : Int) * (a2 / (c2.getD default))) + ((8 : Int) * (a3 / 2))) + (a4 / 8)))
        else none
      else
        if inK .i64 (a3 - 3) ∧ inK .i64 ((8 : Int) * (a2 % (c1.getD default))) ∧ (0 : Int) ≤ a4 ∧ inK .i64 (((8 : Int) * (a2 % (c1.getD default))) + (a4 % 8)) ∧ inK .i64 ((8 : Int) * (a2 / (c2.getD default))) ∧ inK .i64 (((8 : Int) * (a2 / (c2.getD default))) + (a4 / 8)) then
          some ((a3 - 3), (((8 : Int) * (a2 % (c1.getD default))) + (a4 % 8)), (((8 : Int) * (a2 / (c2.getD default))) + (a4 / 8)))
        else none
    else none
  else none
def sp_ref17_Place (N : Nat) : X.Spec := fun args lk => match args with
  | [.v (.c (.int .i64 a1)), .v (.c (.int .i64 a2)), .v (.c (.int .i64 a3)), .v (.c (.int .i64 a4))] => some ⟨(ref17_Place N a1 a2 a3 a4).isSome = true, .tup [.c (.int .i64 ((ref17_Place N a1 a2 a3 a4).getD default).1), .c (.int .i64 ((ref17_Place N a1 a2 a3 a4).getD default).2.1), .c (.int .i64 ((ref17_Place N a1 a2 a3 a4).getD default).2.2)], [], []⟩
  | _ => none
set_option maxRecDepth 100000 in
set_option maxHeartbeats 1000000 in
theorem ok_ref17_Place (N : Nat) : FnOK Tryd.prog gt0 134 (sp_ref17_Place N) := by
  refine fnOK_handed Tryd.func134 rfl (by kernel_rfl) tt_ok (ktCons (ok_ref16_Across N) (ktNil)) ?_
  intro args lk r h hp
  unfold sp_ref17_Place at h
  split at h
  · rename_i a1 a2 a3 a4
    cases h
    obtain ⟨x, hx⟩ := Option.isSome_iff_exists.1 hp
    simp only [hx, Option.getD_some]
    refine hand0 rfl rfl (fun w0 M ε0 hX => ?_)
    refine rCount (fun hε => ?_)
    have hT : ref17_Place N a1 a2 a3 a4 = some x := hx; clear hx hp; unfold ref17_Place at hT
    refine rSeq ?_
    refine zReg md0 hX rfl rfl rfl ?_
    refine rThen ?_
    refine rSeq ?_
    let c1 := (ref16_Across N a1)
    replace hT := sIf hT; obtain ⟨⟨o1, o2, o3⟩, hT⟩ := hT
    refine zReg md0 hX rfl rfl rfl ?_
    refine rThen ?_
    refine rSeq ?_
    let c2 := (ref16_Across N a1)
    replace hT := sIf hT; obtain ⟨⟨o1, o2, o3⟩, hT⟩ := hT
    refine zReg md0 hX rfl rfl rfl ?_
    refine rThen ?_
    refine rSeq ?_
    refine rSeq ?_
    refine zReg md0 hX rfl rfl rfl ?_
    refine rThen ?_
    refine zCond rfl rfl (fun hc => ?_) (fun hc => ?_)
    · replace hT := sT hc hT
      refine rSeq ?_
      replace hT := sIf hT; obtain ⟨⟨o1, o2, o3, o4, o5, o6, o7, o8, o9, o10⟩, hT⟩ := hT
      refine zReg md0 hX rfl rfl rfl ?_
      refine rThen ?_
      refine rRet ?_
      refine rThenRet ?_
      have hy := Option.some.inj hT; subst hy
      exact zEnd0 hX rfl
    · replace hT := sF hc hT
      refine rSkip ?_
      refine rThen ?_
      refine rSeq ?_
      replace hT := sIf hT; obtain ⟨⟨o1, o2, o3, o4, o5, o6⟩, hT⟩ := hT
      refine zReg md0 hX rfl rfl rfl ?_
      refine rThen ?_
      refine rRet ?_
      have hy := Option.some.inj hT; subst hy
      exact zEnd0 hX rfl
  · cases h
def ref17_At (N : Nat) (a1 : Int) (a2 : (List (List Int))) (a3 : Int) (a4 : Int) (a5 : Int) : Option Int :=
  let c1 := (ref17_Wide N a1 a3)
  if (0 : Int) ≤ a3 ∧ a3 < 3 ∧ (a3).toNat < 3 ∧ c1.isSome = true ∧ inK .i64 (a5 * (c1.getD default)) ∧ inK .i64 ((a5 * (c1.getD default)) + a4) ∧ (0 : Int) ≤ ((a5 * (c1.getD default)) + a4) ∧ ((a5 * (c1.getD default)) + a4) < ((a2.getD (a3).toNat []).length : Int) ∧ inK .i64 ((a2.getD (a3).toNat []).getD ((a5 * (c1.getD default)) + a4).toNat 0) then
    some ((a2.getD (a3).toNat []).getD ((a5 * (c1.getD default)) + a4).toNat 0)
  else none
def sp_ref17_At (N : Nat) : X.Spec := fun args lk => match args with
  | [.v (.agg [.cs [.int .i64 a1], .fzs 3 (.int .u8) a2]), .v (.c (.int .i64 a3)), .v (.c (.int .i64 a4)), .v (.c (.int .i64 a5))] => some ⟨(ref17_At N a1 a2 a3 a4 a5).isSome = true, .v (.c (.int .i64 ((ref17_At N a1 a2 a3 a4 a5).getD default))), [], []⟩
  | _ => none
set_option maxRecDepth 100000 in
set_option maxHeartbeats 1000000 in
theorem ok_ref17_At (N : Nat) : FnOK Tryd.prog gt0 155 (sp_ref17_At N) := by
  refine fnOK_handed Tryd.func155 rfl (by kernel_rfl) tt_ok (ktCons (ok_ref17_Wide N) (ktNil)) ?_
  intro args lk r h hp
  unfold sp_ref17_At at h
  split at h
  · rename_i a1 a2 a3 a4 a5
    change (List (List Int)) at a2
    cases h
    obtain ⟨x, hx⟩ := Option.isSome_iff_exists.1 hp
    simp only [hx, Option.getD_some]
    refine hand0 rfl rfl (fun w0 M ε0 hX => ?_)
    refine rCount (fun hε => ?_)
    have hT : ref17_At N a1 a2 a3 a4 a5 = some x := hx; clear hx hp; unfold ref17_At at hT
    refine rSeq ?_
    refine zReg md0 hX rfl rfl rfl ?_
    refine rThen ?_
    refine rSeq ?_
    let c1 := (ref17_Wide N a1 a3)
    replace hT := sIf hT; obtain ⟨⟨o1, o2, o3, o4, o5, o6, o7, o8, o9⟩, hT⟩ := hT
    refine zDraw md0 0 [] hX mixed rfl rfl rfl rfl rfl ?_
    refine rThen ?_
    refine rRet ?_
    have hy := Option.some.inj hT; subst hy
    exact zEnd0 hX rfl
  · cases h
def ref18_At_b1 (N : Nat) (a1 : Int) (a2 : (List (List Int))) (a3 : Int) (a4 : Int) (a5 : Int) (s1 : (Int × Int)) : Option ((Int × Int) ⊕ Int) :=
  bif (decide (s1.2 < 4)) then
    let c1 := (ref17_At N a1 a2 a3 ((a4 / 2) + ((a4 % 2) * (s1.2 % 2))) ((a5 / 2) + ((a5 % 2) * (s1.2 / 2))))
    if (0 : Int) ≤ a4 ∧ (0 : Int) ≤ s1.2 ∧ inK .i64 ((a4 % 2) * (s1.2 % 2)) ∧ inK .i64 ((a4 / 2) + ((a4 % 2) * (s1.2 % 2))) ∧ (0 : Int) ≤ a5 ∧ inK .i64 ((a5 % 2) * (s1.2 / 2)) ∧ inK .i64 ((a5 / 2) + ((a5 % 2) * (s1.2 / 2))) ∧ c1.isSome = true ∧ inK .i64 (s1.1 + (c1.getD default)) then
      if inK .i64 (s1.2 + 1) then
        some (.inl ((s1.1 + (c1.getD default)), (s1.2 + 1)))
      else none
    else none
  else
    some (.inr s1.1)
def ref18_At (N : Nat) (a1 : Int) (a2 : (List (List Int))) (a3 : Int) (a4 : Int) (a5 : Int) : Option Int :=
  if (0 : Int) ≤ a4 then
    if (0 : Int) ≤ a5 then
      (iter (ref18_At_b1 N a1 a2 a3 a4 a5) N (0, 0)).bind fun v1 =>
        if inK .i64 (v1 + 2) ∧ (0 : Int) ≤ (v1 + 2) then
          some ((v1 + 2) / 4)
        else none
    else none
  else none
def sp_ref18_At (N : Nat) : X.Spec := fun args lk => match args with
  | [.v (.agg [.cs [.int .i64 a1], .fzs 3 (.int .u8) a2]), .v (.c (.int .i64 a3)), .v (.c (.int .i64 a4)), .v (.c (.int .i64 a5))] => some ⟨(ref18_At N a1 a2 a3 a4 a5).isSome = true, .v (.c (.int .i64 ((ref18_At N a1 a2 a3 a4 a5).getD default))), [], []⟩
  | _ => none
set_option maxRecDepth 100000 in
set_option maxHeartbeats 1000000 in
theorem ok_ref18_At (N : Nat) : FnOK Tryd.prog gt0 135 (sp_ref18_At N) := by
  refine fnOK_handed Tryd.func135 rfl (by kernel_rfl) tt_ok (ktCons (ok_ref17_At N) (ktNil)) ?_
  intro args lk r h hp
  unfold sp_ref18_At at h
  split at h
  · rename_i a1 a2 a3 a4 a5
    change (List (List Int)) at a2
    cases h
    obtain ⟨x, hx⟩ := Option.isSome_iff_exists.1 hp
    simp only [hx, Option.getD_some]
    refine hand0 rfl rfl (fun w0 M ε0 hX => ?_)
    refine rCount (fun hε => ?_)
    have hT : ref18_At N a1 a2 a3 a4 a5 = some x := hx; clear hx hp; unfold ref18_At at hT
    refine rSeq ?_
    refine zReg md0 hX rfl rfl rfl ?_
    refine rThen ?_
    refine rSeq ?_
    replace hT := sIf hT; obtain ⟨o1, hT⟩ := hT
    refine zReg md0 hX rfl rfl rfl ?_
    refine rThen ?_
    refine rSeq ?_
    replace hT := sIf hT; obtain ⟨o1, hT⟩ := hT
    refine zReg md0 hX rfl rfl rfl ?_
    refine rThen ?_
    refine rSeq ?_
    refine zReg md0 hX rfl rfl rfl ?_
    refine rThen ?_
    refine rSeq ?_
    refine rSeq ?_
    refine zReg md0 hX rfl rfl rfl ?_
    refine rThen ?_
    refine rBlock ?_
    replace hT := sBind hT; obtain ⟨w1, hl, hT⟩ := hT
    refine rJoinA (fun v1 => v1 = w1) (fun v1 => ⟨[(8, .v (.c (.int .i64 0))), (11, .v (.c (.int .i64 v1)))], [], 1⟩) (.exit 0) (fun v1 hv => ?_) (fun hxs10 => ?_)
    · subst hv; clear hl
      refine rInHit ?_
      refine rThen ?_
      refine rSeq ?_
      replace hT := sIf hT; obtain ⟨⟨o1, o2⟩, hT⟩ := hT
      refine zReg md0 hX rfl rfl rfl ?_
      refine rThen ?_
      refine rRet ?_
      have hy := Option.some.inj hT; subst hy
      exact zEnd0 hX rfl
    refine rLoopM (ref18_At_b1 N a1 a2 a3 a4 a5) (fun s1 => ⟨[(1, .v (.c (.int .i64 a3))), (2, .v (.c (.int .i64 a4))), (3, .v (.c (.int .i64 a5))), (4, .v (.c (.ptr 0 0 0 0 0 0))), (8, .v (.c (.int .i64 0))), (9, .v (.c (.int .i64 (a4 / 2)))), (10, .v (.c (.int .i64 (a5 / 2)))), (11, .v (.c (.int .i64 s1.1))), (12, .v (.c (.int .i64 s1.2)))], [(0, .mem true 62 none (.flat [.cs [.int .i64 a1], .fzs 3 (.int .u8) a2]))], 1⟩) hl (To.mk' [] 0 hε rfl (by repeat' first | exact True.intro | exact rfl | apply And.intro) (by repeat' first | exact True.intro | exact rfl | apply And.intro)) (fun s1 zs1 NNs1 hz hnexts1 houts1 => ?_)
    clear hl hT
    have hT := hz; clear hz
    refine rSeq ?_
    refine rSeq ?_
    refine zReg md0 hX rfl rfl rfl ?_
    refine rThen ?_
    refine zCond rfl rfl (fun hc => ?_) (fun hc => ?_)
    · replace hT := sT hc hT
      refine rSkip ?_
      refine rThen ?_
      refine rSeq ?_
      refine rBlock ?_
      let c1 := (ref17_At N a1 a2 a3 ((a4 / 2) + ((a4 % 2) * (s1.2 % 2))) ((a5 / 2) + ((a5 % 2) * (s1.2 / 2))))
      replace hT := sIf hT; obtain ⟨⟨o1, o2, o3, o4, o5, o6, o7, o8, o9⟩, hT⟩ := hT
      refine zReg md0 hX rfl rfl rfl ?_
      refine rInNormal ?_
      refine rThen ?_
      replace hT := sIf hT; obtain ⟨o1, hT⟩ := hT
      refine zReg md0 hX rfl rfl rfl ?_
      exact hnexts1 _ (Option.some.inj hT).symm _ (To.mk' [] 0 hε rfl (by repeat' first | exact True.intro | exact rfl | apply And.intro) (by repeat' first | exact True.intro | exact rfl | apply And.intro))
    · replace hT := sF hc hT
      refine rExit ?_
      refine rThenExit ?_
      refine rThenExit ?_
      exact zTo [] 0 hε (hxs10 _ (houts1 _ (Option.some.inj hT).symm))
  · cases h
def ref01_Clip (N : Nat) (a1 : Int) (a2 : Int) (a3 : Int) : Option Int :=
  bif (bif (decide (a3 < a2)) then true else (decide (a1 < a2))) then
    some a2
  else
    bif (decide (a3 < a1)) then
      some a3
    else
      some a1
def sp_ref01_Clip (N : Nat) : X.Spec := fun args lk => match args with
  | [.v (.c (.int .i64 a1)), .v (.c (.int .i64 a2)), .v (.c (.int .i64 a3))] => some ⟨(ref01_Clip N a1 a2 a3).isSome = true, .v (.c (.int .i64 ((ref01_Clip N a1 a2 a3).getD default))), [], []⟩
  | _ => none
set_option maxRecDepth 100000 in
set_option maxHeartbeats 1000000 in
theorem ok_ref01_Clip (N : Nat) : FnOK Tryd.prog gt0 53 (sp_ref01_Clip N) := by
  refine fnOK_handed Tryd.func53 rfl (by kernel_rfl) tt_ok (ktNil) ?_
  intro args lk r h hp
  unfold sp_ref01_Clip at h
  split at h
  · rename_i a1 a2 a3
    cases h
    obtain ⟨x, hx⟩ := Option.isSome_iff_exists.1 hp
    simp only [hx, Option.getD_some]
    refine hand0 rfl rfl (fun w0 M ε0 hX => ?_)
    refine rCount (fun hε => ?_)
    have hT : ref01_Clip N a1 a2 a3 = some x := hx; clear hx hp; unfold ref01_Clip at hT
    refine rSeq ?_
    refine zReg md0 hX rfl rfl rfl ?_
    refine rThen ?_
    refine rSeq ?_
    refine rSeq ?_
    refine zReg md0 hX rfl rfl rfl ?_
    refine rThen ?_
    refine zCond rfl rfl (fun hc => ?_) (fun hc => ?_)
    · replace hT := sT hc hT
      refine rSeq ?_
      refine zReg md0 hX rfl rfl rfl ?_
      refine rThen ?_
      refine rRet ?_
      refine rThenRet ?_
      have hy := Option.some.inj hT; subst hy
      exact zEnd0 hX rfl
    · replace hT := sF hc hT
      refine rSkip ?_
      refine rThen ?_
      refine rSeq ?_
      refine rSeq ?_
      refine zReg md0 hX rfl rfl rfl ?_
      refine rThen ?_
      refine zCond rfl rfl (fun hc => ?_) (fun hc => ?_)
      · replace hT := sT hc hT
        refine rSeq ?_
        refine zReg md0 hX rfl rfl rfl ?_
        refine rThen ?_
        refine rRet ?_
        refine rThenRet ?_
        have hy := Option.some.inj hT; subst hy
        exact zEnd0 hX rfl
      · replace hT := sF hc hT
        refine rSkip ?_
        refine rThen ?_
        refine rSeq ?_
        refine zReg md0 hX rfl rfl rfl ?_
        refine rThen ?_
        refine rRet ?_
        have hy := Option.some.inj hT; subst hy
        exact zEnd0 hX rfl
  · cases h
def ref18_Chroma_v1_b1 (N : Nat) (c1 : (Option Int)) (s1 : Int) : Option (Int ⊕ Int) :=
  if (0 : Int) ≤ s1 ∧ inK .i64 ((4 : Int) * (s1 / 2)) ∧ inK .i64 (((4 : Int) * (s1 / 2)) + 4) then
    bif (decide ((((4 : Int) * (s1 / 2)) + 4) ≤ (c1.getD default))) then
      if inK .i64 (s1 + 2) then
        some (.inl (s1 + 2))
      else none
    else
      some (.inr s1)
  else none
def ref18_Chroma_v1 (N : Nat) (a1 : Int) : Option Int :=
  let c1 := (ref01_Clip N a1 (-64) 64)
  if c1.isSome = true then
    bif (decide ((c1.getD default) < 0)) then
      none
    else
      (iter (ref18_Chroma_v1_b1 N c1) N 0).bind fun v1 =>
        if (0 : Int) ≤ (c1.getD default) then
          if ((decide (((c1.getD default) % 4) ≠ 0)) = true → inK .i64 (v1 + 1)) then
            some (bif (decide (((c1.getD default) % 4) ≠ 0)) then (v1 + 1) else v1)
          else none
        else none
  else none
def sp_ref18_Chroma_v1 (N : Nat) : X.Spec := fun args lk => match args with
  | [.v (.c (.int .i64 a1))] => some ⟨(ref18_Chroma_v1 N a1).isSome = true, .v (.c (.int .i64 ((ref18_Chroma_v1 N a1).getD default))), [], []⟩
  | _ => none
set_option maxRecDepth 100000 in
set_option maxHeartbeats 1000000 in
theorem ok_ref18_Chroma_v1 (N : Nat) : FnOK Tryd.prog gt0 136 (sp_ref18_Chroma_v1 N) := by
  refine fnOK_handed Tryd.func136 rfl (by kernel_rfl) tt_ok (ktCons (ok_ref01_Clip N) (ktNil)) ?_
  intro args lk r h hp
  unfold sp_ref18_Chroma_v1 at h
  split at h
  · rename_i a1
    cases h
    obtain ⟨x, hx⟩ := Option.isSome_iff_exists.1 hp
    simp only [hx, Option.getD_some]
    refine hand0 rfl rfl (fun w0 M ε0 hX => ?_)
    refine rCount (fun hε => ?_)
    have hT : ref18_Chroma_v1 N a1 = some x := hx; clear hx hp; unfold ref18_Chroma_v1 at hT
    refine rSeq ?_
    refine zReg md0 hX rfl rfl rfl ?_
    refine rThen ?_
    refine rSeq ?_
    let c1 := (ref01_Clip N a1 (-64) 64)
    replace hT := sIf hT; obtain ⟨o1, hT⟩ := hT
    refine zReg md0 hX rfl rfl rfl ?_
    refine rThen ?_
    refine rSeq ?_
    refine rSeq ?_
    refine zReg md0 hX rfl rfl rfl ?_
    refine rThen ?_
    refine zCond rfl rfl (fun hc => ?_) (fun hc => ?_)
    · replace hT := sT hc hT
      refine rSeq ?_
      cases hT
    · replace hT := sF hc hT
      refine rSkip ?_
      refine rThen ?_
      refine rSeq ?_
      refine zReg md0 hX rfl rfl rfl ?_
      refine rThen ?_
      refine rSeq ?_
      refine rBlock ?_
      replace hT := sBind hT; obtain ⟨w1, hl, hT⟩ := hT
      refine rJoinA (fun v1 => v1 = w1) (fun v1 => ⟨[(0, .v (.c (.int .i64 (c1.getD default)))), (2, .v (.c (.int .i64 0))), (3, .v (.c (.int .i64 v1)))], [], 0⟩) (.exit 0) (fun v1 hv => ?_) (fun hxs10 => ?_)
      · subst hv; clear hl
        refine rInHit ?_
        refine rThen ?_
        refine rSeq ?_
        refine rSeq ?_
        replace hT := sIf hT; obtain ⟨o1, hT⟩ := hT
        refine zReg md0 hX rfl rfl rfl ?_
        refine rThen ?_
        replace hT := sIf hT; obtain ⟨q1, hT⟩ := hT
        refine rJoin ⟨[(2, .v (.c (.int .i64 0))), (3, .v (.c (.int .i64 (bif (decide (((c1.getD default) % 4) ≠ 0)) then (v1 + 1) else v1))))], [], 0⟩ ?_ (fun hj => ?_)
        · skip
          refine rThen ?_
          refine rSeq ?_
          refine zReg md0 hX rfl rfl rfl ?_
          refine rThen ?_
          refine rRet ?_
          have hy := Option.some.inj hT; subst hy
          exact zEnd0 hX rfl
        · clear hT
          refine zCond rfl rfl (fun hc => ?_) (fun hc => ?_)
          · skip
            have q1 := q1 hc
            refine zReg md0 hX rfl rfl rfl ?_
            exact rTo (To.mk' [] 0 hε rfl (by (repeat' first | exact True.intro | exact rfl | apply And.intro) <;> (repeat' first | exact rfl | refine Eq.trans ?_ (cTr (by assumption)) | refine Eq.trans ?_ (cFr (by assumption)) | refine Eq.trans (cTl (by assumption)) ?_ | refine Eq.trans (cFl (by assumption)) ?_)) (by (repeat' first | exact True.intro | exact rfl | apply And.intro) <;> (repeat' first | exact rfl | refine Eq.trans ?_ (cTr (by assumption)) | refine Eq.trans ?_ (cFr (by assumption)) | refine Eq.trans (cTl (by assumption)) ?_ | refine Eq.trans (cFl (by assumption)) ?_))) hj
          · skip
            refine rSkip ?_
            exact rTo (To.mk' [] 0 hε rfl (by (repeat' first | exact True.intro | exact rfl | apply And.intro) <;> (repeat' first | exact rfl | refine Eq.trans ?_ (cTr (by assumption)) | refine Eq.trans ?_ (cFr (by assumption)) | refine Eq.trans (cTl (by assumption)) ?_ | refine Eq.trans (cFl (by assumption)) ?_)) (by (repeat' first | exact True.intro | exact rfl | apply And.intro) <;> (repeat' first | exact rfl | refine Eq.trans ?_ (cTr (by assumption)) | refine Eq.trans ?_ (cFr (by assumption)) | refine Eq.trans (cTl (by assumption)) ?_ | refine Eq.trans (cFl (by assumption)) ?_))) hj
      refine rLoopM (ref18_Chroma_v1_b1 N c1) (fun s1 => ⟨[(0, .v (.c (.int .i64 (c1.getD default)))), (2, .v (.c (.int .i64 0))), (3, .v (.c (.int .i64 s1)))], [], 0⟩) hl (To.mk' [] 0 hε rfl (by repeat' first | exact True.intro | exact rfl | apply And.intro) (by repeat' first | exact True.intro | exact rfl | apply And.intro)) (fun s1 zs1 NNs1 hz hnexts1 houts1 => ?_)
      clear hl hT
      have hT := hz; clear hz
      refine rSeq ?_
      refine rSeq ?_
      replace hT := sIf hT; obtain ⟨⟨o1, o2, o3⟩, hT⟩ := hT
      refine zReg md0 hX rfl rfl rfl ?_
      refine rThen ?_
      refine zCond rfl rfl (fun hc => ?_) (fun hc => ?_)
      · replace hT := sT hc hT
        refine rSkip ?_
        refine rThen ?_
        refine rBlock ?_
        replace hT := sIf hT; obtain ⟨o1, hT⟩ := hT
        refine zReg md0 hX rfl rfl rfl ?_
        refine rInNormal ?_
        exact hnexts1 _ (Option.some.inj hT).symm _ (To.mk' [] 0 hε rfl (by repeat' first | exact True.intro | exact rfl | apply And.intro) (by repeat' first | exact True.intro | exact rfl | apply And.intro))
      · replace hT := sF hc hT
        refine rExit ?_
        refine rThenExit ?_
        refine rThenExit ?_
        exact zTo [] 0 hε (hxs10 _ (houts1 _ (Option.some.inj hT).symm))
  · cases h
def ref18_Chroma_b1 (N : Nat) (c1 : (Option Int)) (s1 : Int) : Option (Int ⊕ Int) :=
  if (0 : Int) ≤ s1 ∧ inK .i64 ((4 : Int) * (s1 / 2)) ∧ inK .i64 (((4 : Int) * (s1 / 2)) + 4) then
    bif (decide ((((4 : Int) * (s1 / 2)) + 4) ≤ (c1.getD default))) then
      if inK .i64 (s1 + 2) then
        some (.inl (s1 + 2))
      else none
    else
      some (.inr s1)
  else none
def ref18_Chroma (N : Nat) (a1 : Int) : Option Int :=
  let c1 := (ref01_Clip N a1 (-64) 64)
  if c1.isSome = true then
    bif (decide ((c1.getD default) < 0)) then
      let c2 := (ref18_Chroma_v1 N (-(c1.getD default)))
      if inK .i64 (-(c1.getD default)) ∧ c2.isSome = true ∧ inK .i64 (-(c2.getD default)) then
        some (-(c2.getD default))
      else none
    else
      (iter (ref18_Chroma_b1 N c1) N 0).bind fun v1 =>
        if (0 : Int) ≤ (c1.getD default) then
          if ((decide (((c1.getD default) % 4) ≠ 0)) = true → inK .i64 (v1 + 1)) then
            some (bif (decide (((c1.getD default) % 4) ≠ 0)) then (v1 + 1) else v1)
          else none
        else none
  else none
def sp_ref18_Chroma (N : Nat) : X.Spec := fun args lk => match args with
  | [.v (.c (.int .i64 a1))] => some ⟨(ref18_Chroma N a1).isSome = true, .v (.c (.int .i64 ((ref18_Chroma N a1).getD default))), [], []⟩
  | _ => none
set_option maxRecDepth 100000 in
set_option maxHeartbeats 1000000 in
theorem ok_ref18_Chroma (N : Nat) : FnOK Tryd.prog gt0 136 (sp_ref18_Chroma N) := by
  refine fnOK_handed Tryd.func136 rfl (by kernel_rfl) tt_ok (ktCons (ok_ref18_Chroma_v1 N) (ktCons (ok_ref01_Clip N) (ktNil))) ?_
  intro args lk r h hp
  unfold sp_ref18_Chroma at h
  split at h
  · rename_i a1
    cases h
    obtain ⟨x, hx⟩ := Option.isSome_iff_exists.1 hp
    simp only [hx, Option.getD_some]
    refine hand0 rfl rfl (fun w0 M ε0 hX => ?_)
    refine rCount (fun hε => ?_)
    have hT : ref18_Chroma N a1 = some x := hx; clear hx hp; unfold ref18_Chroma at hT
    refine rSeq ?_
    refine zReg md0 hX rfl rfl rfl ?_
    refine rThen ?_
    refine rSeq ?_
    let c1 := (ref01_Clip N a1 (-64) 64)
    replace hT := sIf hT; obtain ⟨o1, hT⟩ := hT
    refine zReg md0 hX rfl rfl rfl ?_
    refine rThen ?_
    refine rSeq ?_
    refine rSeq ?_
    refine zReg md0 hX rfl rfl rfl ?_
    refine rThen ?_
    refine zCond rfl rfl (fun hc => ?_) (fun hc => ?_)
    · replace hT := sT hc hT
      refine rSeq ?_
      let c2 := (ref18_Chroma_v1 N (-(c1.getD default)))
      replace hT := sIf hT; obtain ⟨⟨o1, o2, o3⟩, hT⟩ := hT
      refine zReg md0 hX rfl rfl rfl ?_
      refine rThen ?_
      refine rRet ?_
      refine rThenRet ?_
      have hy := Option.some.inj hT; subst hy
      exact zEnd0 hX rfl
    · replace hT := sF hc hT
      refine rSkip ?_
      refine rThen ?_
      refine rSeq ?_
      refine zReg md0 hX rfl rfl rfl ?_
      refine rThen ?_
      refine rSeq ?_
      refine rBlock ?_
      replace hT := sBind hT; obtain ⟨w1, hl, hT⟩ := hT
      refine rJoinA (fun v1 => v1 = w1) (fun v1 => ⟨[(0, .v (.c (.int .i64 (c1.getD default)))), (2, .v (.c (.int .i64 0))), (3, .v (.c (.int .i64 v1)))], [], 0⟩) (.exit 0) (fun v1 hv => ?_) (fun hxs10 => ?_)
      · subst hv; clear hl
        refine rInHit ?_
        refine rThen ?_
        refine rSeq ?_
        refine rSeq ?_
        replace hT := sIf hT; obtain ⟨o1, hT⟩ := hT
        refine zReg md0 hX rfl rfl rfl ?_
        refine rThen ?_
        replace hT := sIf hT; obtain ⟨q1, hT⟩ := hT
        refine rJoin ⟨[(2, .v (.c (.int .i64 0))), (3, .v (.c (.int .i64 (bif (decide (((c1.getD default) % 4) ≠ 0)) then (v1 + 1) else v1))))], [], 0⟩ ?_ (fun hj => ?_)
        · skip
          refine rThen ?_
          refine rSeq ?_
          refine zReg md0 hX rfl rfl rfl ?_
          refine rThen ?_
          refine rRet ?_
          have hy := Option.some.inj hT; subst hy
          exact zEnd0 hX rfl
        · clear hT
          refine zCond rfl rfl (fun hc => ?_) (fun hc => ?_)
          · skip
            have q1 := q1 hc
            refine zReg md0 hX rfl rfl rfl ?_
            exact rTo (To.mk' [] 0 hε rfl (by (repeat' first | exact True.intro | exact rfl | apply And.intro) <;> (repeat' first | exact rfl | refine Eq.trans ?_ (cTr (by assumption)) | refine Eq.trans ?_ (cFr (by assumption)) | refine Eq.trans (cTl (by assumption)) ?_ | refine Eq.trans (cFl (by assumption)) ?_)) (by (repeat' first | exact True.intro | exact rfl | apply And.intro) <;> (repeat' first | exact rfl | refine Eq.trans ?_ (cTr (by assumption)) | refine Eq.trans ?_ (cFr (by assumption)) | refine Eq.trans (cTl (by assumption)) ?_ | refine Eq.trans (cFl (by assumption)) ?_))) hj
          · skip
            refine rSkip ?_
            exact rTo (To.mk' [] 0 hε rfl (by (repeat' first | exact True.intro | exact rfl | apply And.intro) <;> (repeat' first | exact rfl | refine Eq.trans ?_ (cTr (by assumption)) | refine Eq.trans ?_ (cFr (by assumption)) | refine Eq.trans (cTl (by assumption)) ?_ | refine Eq.trans (cFl (by assumption)) ?_)) (by (repeat' first | exact True.intro | exact rfl | apply And.intro) <;> (repeat' first | exact rfl | refine Eq.trans ?_ (cTr (by assumption)) | refine Eq.trans ?_ (cFr (by assumption)) | refine Eq.trans (cTl (by assumption)) ?_ | refine Eq.trans (cFl (by assumption)) ?_))) hj
      refine rLoopM (ref18_Chroma_b1 N c1) (fun s1 => ⟨[(0, .v (.c (.int .i64 (c1.getD default)))), (2, .v (.c (.int .i64 0))), (3, .v (.c (.int .i64 s1)))], [], 0⟩) hl (To.mk' [] 0 hε rfl (by repeat' first | exact True.intro | exact rfl | apply And.intro) (by repeat' first | exact True.intro | exact rfl | apply And.intro)) (fun s1 zs1 NNs1 hz hnexts1 houts1 => ?_)
      clear hl hT
      have hT := hz; clear hz
      refine rSeq ?_
      refine rSeq ?_
      replace hT := sIf hT; obtain ⟨⟨o1, o2, o3⟩, hT⟩ := hT
      refine zReg md0 hX rfl rfl rfl ?_
      refine rThen ?_
      refine zCond rfl rfl (fun hc => ?_) (fun hc => ?_)
      · replace hT := sT hc hT
        refine rSkip ?_
        refine rThen ?_
        refine rBlock ?_
        replace hT := sIf hT; obtain ⟨o1, hT⟩ := hT
        refine zReg md0 hX rfl rfl rfl ?_
        refine rInNormal ?_
        exact hnexts1 _ (Option.some.inj hT).symm _ (To.mk' [] 0 hε rfl (by repeat' first | exact True.intro | exact rfl | apply And.intro) (by repeat' first | exact True.intro | exact rfl | apply And.intro))
      · replace hT := sF hc hT
        refine rExit ?_
        refine rThenExit ?_
        refine rThenExit ?_
        exact zTo [] 0 hε (hxs10 _ (houts1 _ (Option.some.inj hT).symm))
  · cases h
def ref18_Predict_b2 (N : Nat) (a1 : Int) (a2 : (List (List Int))) (a3 : Int) (a4 : (List Int)) (s1 : (Int × (List Int))) (s2 : (Int × (List Int))) : Option ((Int × (List Int)) ⊕ (Int × Int × Bool × (List Int))) :=
  bif (decide (s2.1 < 64)) then
    let c1 := (ref17_Place N a1 a3 s1.1 s2.1)
    if c1.isSome = true then
      let c2 := (ref18_At N a1 a2 (c1.getD default).1 (((2 : Int) * (c1.getD default).2.1) + (a4.getD 0 0)) (((2 : Int) * (c1.getD default).2.2) + (a4.getD 1 0)))
      let c3 := (ref18_Chroma N (a4.getD 0 0))
      let c4 := (ref18_Chroma N (a4.getD 1 0))
      let c5 := (ref18_At N a1 a2 (c1.getD default).1 (((2 : Int) * (c1.getD default).2.1) + (c3.getD default)) (((2 : Int) * (c1.getD default).2.2) + (c4.getD default)))
      if ((decide ((c1.getD default).1 = 0)) = true → inK .i64 ((2 : Int) * (c1.getD default).2.1)) ∧ ((decide ((c1.getD default).1 = 0)) = true → inK .i64 (((2 : Int) * (c1.getD default).2.1) + (a4.getD 0 0))) ∧ ((decide ((c1.getD default).1 = 0)) = true → inK .i64 ((2 : Int) * (c1.getD default).2.2)) ∧ ((decide ((c1.getD default).1 = 0)) = true → inK .i64 (((2 : Int) * (c1.getD default).2.2) + (a4.getD 1 0))) ∧ ((decide ((c1.getD default).1 = 0)) = true → c2.isSome = true) ∧ ((decide ((c1.getD default).1 = 0)) = true → (0 : Int) ≤ s1.1) ∧ ((decide ((c1.getD default).1 = 0)) = true → s1.1 < 6) ∧ ((decide ((c1.getD default).1 = 0)) = true → (0 : Int) ≤ s2.1) ∧ ((decide ((c1.getD default).1 = 0)) = true → s2.1 < 64) ∧ ((decide ((c1.getD default).1 = 0)) = true → ((s1.1).toNat * 64 + (s2.1).toNat) < 384) ∧ ((decide ((c1.getD default).1 = 0)) = false → inK .i64 ((2 : Int) * (c1.getD default).2.1)) ∧ ((decide ((c1.getD default).1 = 0)) = false → c3.isSome = true) ∧ ((decide ((c1.getD default).1 = 0)) = false → inK .i64 (((2 : Int) * (c1.getD default).2.1) + (c3.getD default))) ∧ ((decide ((c1.getD default).1 = 0)) = false → inK .i64 ((2 : Int) * (c1.getD default).2.2)) ∧ ((decide ((c1.getD default).1 = 0)) = false → c4.isSome = true) ∧ ((decide ((c1.getD default).1 = 0)) = false → inK .i64 (((2 : Int) * (c1.getD default).2.2) + (c4.getD default))) ∧ ((decide ((c1.getD default).1 = 0)) = false → c5.isSome = true) ∧ ((decide ((c1.getD default).1 = 0)) = false → (0 : Int) ≤ s1.1) ∧ ((decide ((c1.getD default).1 = 0)) = false → s1.1 < 6) ∧ ((decide ((c1.getD default).1 = 0)) = false → (0 : Int) ≤ s2.1) ∧ ((decide ((c1.getD default).1 = 0)) = false → s2.1 < 64) ∧ ((decide ((c1.getD default).1 = 0)) = false → ((s1.1).toNat * 64 + (s2.1).toNat) < 384) then
        let x1 := (bif (decide ((c1.getD default).1 = 0)) then (s2.2.set ((s1.1).toNat * 64 + (s2.1).toNat) (c2.getD default)) else (s2.2.set ((s1.1).toNat * 64 + (s2.1).toNat) (c5.getD default)))
        if inK .i64 (s2.1 + 1) then
          some (.inl ((s2.1 + 1), x1))
        else none
      else none
    else none
  else
    some (.inr (s2.1, s2.1, (decide (s2.1 < 64)), s2.2))
def ref18_Predict_b1 (N : Nat) (a1 : Int) (a2 : (List (List Int))) (a3 : Int) (a4 : (List Int)) (s1 : (Int × (List Int))) : Option ((Int × (List Int)) ⊕ (List Int)) :=
  bif (decide (s1.1 < 6)) then
    (iter (ref18_Predict_b2 N a1 a2 a3 a4 s1) N (0, s1.2)).bind fun v2 =>
      if inK .i64 (s1.1 + 1) then
        some (.inl ((s1.1 + 1), v2.2.2.2))
      else none
  else
    some (.inr s1.2)
def ref18_Predict (N : Nat) (a1 : Int) (a2 : (List (List Int))) (a3 : Int) (a4 : (List Int)) : Option (List Int) :=
  (iter (ref18_Predict_b1 N a1 a2 a3 a4) N (0, (List.replicate 384 0))).bind fun v1 =>
    some v1
def sp_ref18_Predict (N : Nat) : X.Spec := fun args lk => match args with
  | [.v (.agg [.cs [.int .i64 a1], .fzs 3 (.int .u8) a2]), .v (.c (.int .i64 a3)), .v (.agg [.ints 2 .i64 a4])] => some ⟨(ref18_Predict N a1 a2 a3 a4).isSome = true, .v (.agg [.ints 384 .i64 ((ref18_Predict N a1 a2 a3 a4).getD default)]), [], []⟩
  | _ => none
set_option maxRecDepth 100000 in
set_option maxHeartbeats 1000000 in
theorem ok_ref18_Predict (N : Nat) : FnOK Tryd.prog gt0 89 (sp_ref18_Predict N) := by
  refine fnOK_handed Tryd.func89 rfl (by kernel_rfl) tt_ok (ktCons (ok_ref18_Chroma N) (ktCons (ok_ref18_At N) (ktCons (ok_ref17_Place N) (ktNil)))) ?_
  intro args lk r h hp
  unfold sp_ref18_Predict at h
  split at h
  · rename_i a1 a2 a3 a4
    change (List (List Int)) at a2
    change (List Int) at a4
    cases h
    obtain ⟨x, hx⟩ := Option.isSome_iff_exists.1 hp
    simp only [hx, Option.getD_some]
    refine hand0 rfl rfl (fun w0 M ε0 hX => ?_)
    refine rCount (fun hε => ?_)
    have hT : ref18_Predict N a1 a2 a3 a4 = some x := hx; clear hx hp; unfold ref18_Predict at hT
    refine rSeq ?_
    refine zReg md0 hX rfl rfl rfl ?_
    refine rThen ?_
    refine rSeq ?_
    refine zReg md0 hX rfl rfl rfl ?_
    refine rThen ?_
    refine rSeq ?_
    refine rSeq ?_
    refine zReg md0 hX rfl rfl rfl ?_
    refine rThen ?_
    refine rBlock ?_
    replace hT := sBind hT; obtain ⟨w1, hl, hT⟩ := hT
    refine rJoinA (fun v1 => v1 = w1) (fun v1 => ⟨[(6, .v (.c (.ptr 2 0 0 0 0 0))), (7, .v (.c (.ptr 3 0 0 0 0 0)))], [(2, .mem true 39 none (.flat [.ints 384 .i64 (List.replicate 384 0)])), (3, .mem true 39 none (.flat [.ints 384 .i64 v1]))], 4⟩) (.exit 0) (fun v1 hv => ?_) (fun hxs10 => ?_)
    · subst hv; clear hl
      refine rInHit ?_
      refine rThen ?_
      refine rSeq ?_
      refine zReg md0 hX rfl rfl rfl ?_
      refine rThen ?_
      refine rRet ?_
      have hy := Option.some.inj hT; subst hy
      exact zEnd0 hX rfl
    refine rLoopM (ref18_Predict_b1 N a1 a2 a3 a4) (fun s1 => ⟨[(1, .v (.c (.int .i64 a3))), (3, .v (.c (.ptr 0 0 0 0 0 0))), (5, .v (.c (.ptr 1 0 0 0 0 0))), (6, .v (.c (.ptr 2 0 0 0 0 0))), (7, .v (.c (.ptr 3 0 0 0 0 0))), (8, .v (.c (.int .i64 s1.1)))], [(0, .mem true 62 none (.flat [.cs [.int .i64 a1], .fzs 3 (.int .u8) a2])), (1, .mem true 32 none (.flat [.ints 2 .i64 a4])), (2, .mem true 39 none (.flat [.ints 384 .i64 (List.replicate 384 0)])), (3, .mem true 39 none (.flat [.ints 384 .i64 s1.2]))], 4⟩) hl (To.mk' [] 0 hε rfl (by repeat' first | exact True.intro | exact rfl | apply And.intro) (by repeat' first | exact True.intro | exact rfl | apply And.intro)) (fun s1 zs1 NNs1 hz hnexts1 houts1 => ?_)
    clear hl hT
    have hT := hz; clear hz
    refine rSeq ?_
    refine rSeq ?_
    refine zReg md0 hX rfl rfl rfl ?_
    refine rThen ?_
    refine zCond rfl rfl (fun hc => ?_) (fun hc => ?_)
    · replace hT := sT hc hT
      refine rSkip ?_
      refine rThen ?_
      refine rSeq ?_
      refine rBlock ?_
      refine rSeq ?_
      refine zReg md0 hX rfl rfl rfl ?_
      refine rThen ?_
      refine rBlock ?_
      replace hT := sBind hT; obtain ⟨w2, hl, hT⟩ := hT
      refine rJoinA (fun v2 => v2 = w2) (fun v2 => ⟨[(1, .v (.c (.int .i64 a3))), (3, .v (.c (.ptr 0 0 0 0 0 0))), (5, .v (.c (.ptr 1 0 0 0 0 0))), (6, .v (.c (.ptr 2 0 0 0 0 0))), (7, .v (.c (.ptr 3 0 0 0 0 0))), (8, .v (.c (.int .i64 s1.1))), (9, .v (.c (.int .i64 v2.1))), (13, .v (.c (.int .i64 s1.1))), (14, .v (.c (.bool (decide (s1.1 < 6))))), (17, .v (.c (.int .i64 v2.2.1))), (18, .v (.c (.bool v2.2.2.1)))], [(0, .mem true 62 none (.flat [.cs [.int .i64 a1], .fzs 3 (.int .u8) a2])), (1, .mem true 32 none (.flat [.ints 2 .i64 a4])), (2, .mem true 39 none (.flat [.ints 384 .i64 (List.replicate 384 0)])), (3, .mem true 39 none (.flat [.ints 384 .i64 v2.2.2.2]))], 4⟩) (.exit 2) (fun v2 hv => ?_) (fun hxs20 => ?_)
      · subst hv; clear hl
        refine rInHit ?_
        refine rInNormal ?_
        refine rThen ?_
        replace hT := sIf hT; obtain ⟨o1, hT⟩ := hT
        refine zReg md0 hX rfl rfl rfl ?_
        exact hnexts1 _ (Option.some.inj hT).symm _ (To.mk' [] 0 hε rfl (by repeat' first | exact True.intro | exact rfl | apply And.intro) (by repeat' first | exact True.intro | exact rfl | apply And.intro))
      refine rLoopM (ref18_Predict_b2 N a1 a2 a3 a4 s1) (fun s2 => ⟨[(1, .v (.c (.int .i64 a3))), (3, .v (.c (.ptr 0 0 0 0 0 0))), (5, .v (.c (.ptr 1 0 0 0 0 0))), (6, .v (.c (.ptr 2 0 0 0 0 0))), (7, .v (.c (.ptr 3 0 0 0 0 0))), (8, .v (.c (.int .i64 s1.1))), (9, .v (.c (.int .i64 s2.1))), (13, .v (.c (.int .i64 s1.1))), (14, .v (.c (.bool (decide (s1.1 < 6)))))], [(0, .mem true 62 none (.flat [.cs [.int .i64 a1], .fzs 3 (.int .u8) a2])), (1, .mem true 32 none (.flat [.ints 2 .i64 a4])), (2, .mem true 39 none (.flat [.ints 384 .i64 (List.replicate 384 0)])), (3, .mem true 39 none (.flat [.ints 384 .i64 s2.2]))], 4⟩) hl (To.mk' [] 0 hε rfl (by repeat' first | exact True.intro | exact rfl | apply And.intro) (by repeat' first | exact True.intro | exact rfl | apply And.intro)) (fun s2 zs2 NNs2 hz hnexts2 houts2 => ?_)
      clear hl hT
      have hT := hz; clear hz
      refine rSeq ?_
      refine rSeq ?_
      refine zReg md0 hX rfl rfl rfl ?_
      refine rThen ?_
      refine zCond rfl rfl (fun hc => ?_) (fun hc => ?_)
      · replace hT := sT hc hT
        refine rSkip ?_
        refine rThen ?_
        refine rSeq ?_
        refine rBlock ?_
        refine rSeq ?_
        let c1 := (ref17_Place N a1 a3 s1.1 s2.1)
        replace hT := sIf hT; obtain ⟨o1, hT⟩ := hT
        refine zReg md0 hX rfl rfl rfl ?_
        refine rThen ?_
        refine rSeq ?_
        refine zReg md0 hX rfl rfl rfl ?_
        refine rThen ?_
        let c2 := (ref18_At N a1 a2 (c1.getD default).1 (((2 : Int) * (c1.getD default).2.1) + (a4.getD 0 0)) (((2 : Int) * (c1.getD default).2.2) + (a4.getD 1 0)))
        let c3 := (ref18_Chroma N (a4.getD 0 0))
        let c4 := (ref18_Chroma N (a4.getD 1 0))
        let c5 := (ref18_At N a1 a2 (c1.getD default).1 (((2 : Int) * (c1.getD default).2.1) + (c3.getD default)) (((2 : Int) * (c1.getD default).2.2) + (c4.getD default)))
        replace hT := sIf hT; obtain ⟨⟨q1, q2, q3, q4, q5, q6, q7, q8, q9, q10, q11, q12, q13, q14, q15, q16, q17, q18, q19, q20, q21, q22⟩, hT⟩ := hT
        refine rJoin ⟨[(1, .v (.c (.int .i64 a3))), (3, .v (.c (.ptr 0 0 0 0 0 0))), (5, .v (.c (.ptr 1 0 0 0 0 0))), (6, .v (.c (.ptr 2 0 0 0 0 0))), (7, .v (.c (.ptr 3 0 0 0 0 0))), (8, .v (.c (.int .i64 s1.1))), (9, .v (.c (.int .i64 s2.1))), (10, .v (.c (.int .i64 (c1.getD default).1))), (11, .v (.c (.int .i64 (c1.getD default).2.1))), (12, .v (.c (.int .i64 (c1.getD default).2.2))), (13, .v (.c (.int .i64 s1.1))), (14, .v (.c (.bool (decide (s1.1 < 6))))), (17, .v (.c (.int .i64 s2.1))), (18, .v (.c (.bool (decide (s2.1 < 64))))), (21, .tup [.c (.int .i64 (c1.getD default).1), .c (.int .i64 (c1.getD default).2.1), .c (.int .i64 (c1.getD default).2.2)]), (22, .v (.c (.ptr 0 0 0 0 0 0))), (23, .v (.c (.int .i64 a1))), (24, .v (.c (.int .i64 a3))), (25, .v (.c (.int .i64 s1.1))), (26, .v (.c (.int .i64 s2.1))), (27, .tup [.c (.int .i64 (c1.getD default).1), .c (.int .i64 (c1.getD default).2.1), .c (.int .i64 (c1.getD default).2.2)]), (28, .v (.c (.int .i64 (c1.getD default).1))), (29, .v (.c (.int .i64 (c1.getD default).2.1))), (30, .v (.c (.int .i64 (c1.getD default).2.2))), (31, .v (.c (.int .i64 (c1.getD default).1))), (32, .v (.c (.bool (decide ((c1.getD default).1 = 0)))))], [(0, .mem true 62 none (.flat [.cs [.int .i64 a1], .fzs 3 (.int .u8) a2])), (1, .mem true 32 none (.flat [.ints 2 .i64 a4])), (2, .mem true 39 none (.flat [.ints 384 .i64 (List.replicate 384 0)])), (3, .mem true 39 none (.flat [.ints 384 .i64 (bif (decide ((c1.getD default).1 = 0)) then (s2.2.set ((s1.1).toNat * 64 + (s2.1).toNat) (c2.getD default)) else (s2.2.set ((s1.1).toNat * 64 + (s2.1).toNat) (c5.getD default)))]))], 4⟩ ?_ (fun hj => ?_)
        · skip
          let x1 := (bif (decide ((c1.getD default).1 = 0)) then (s2.2.set ((s1.1).toNat * 64 + (s2.1).toNat) (c2.getD default)) else (s2.2.set ((s1.1).toNat * 64 + (s2.1).toNat) (c5.getD default)))
          refine rInNormal ?_
          refine rThen ?_
          replace hT := sIf hT; obtain ⟨o1, hT⟩ := hT
          refine zReg md0 hX rfl rfl rfl ?_
          exact hnexts2 _ (Option.some.inj hT).symm _ (To.mk' [] 0 hε rfl (by repeat' first | exact True.intro | exact rfl | apply And.intro) (by repeat' first | exact True.intro | exact rfl | apply And.intro))
        · clear hT
          refine zCond rfl rfl (fun hc => ?_) (fun hc => ?_)
          · skip
            have q1 := q1 hc
            have q2 := q2 hc
            have q3 := q3 hc
            have q4 := q4 hc
            have q5 := q5 hc
            have q6 := q6 hc
            have q7 := q7 hc
            have q8 := q8 hc
            have q9 := q9 hc
            have q10 := q10 hc
            refine zDraw md0 1 [17] hX mixed rfl rfl rfl rfl rfl ?_
            exact rTo (To.mk' [] 0 hε rfl (by (repeat' first | exact True.intro | exact rfl | apply And.intro) <;> (repeat' first | exact rfl | refine Eq.trans ?_ (cTr (by assumption)) | refine Eq.trans ?_ (cFr (by assumption)) | refine Eq.trans (cTl (by assumption)) ?_ | refine Eq.trans (cFl (by assumption)) ?_)) (by (repeat' first | exact True.intro | exact rfl | apply And.intro) <;> (repeat' first | exact rfl | refine Eq.trans ?_ (cTr (by assumption)) | refine Eq.trans ?_ (cFr (by assumption)) | refine Eq.trans (cTl (by assumption)) ?_ | refine Eq.trans (cFl (by assumption)) ?_))) hj
          · skip
            have q11 := q11 hc
            have q12 := q12 hc
            have q13 := q13 hc
            have q14 := q14 hc
            have q15 := q15 hc
            have q16 := q16 hc
            have q17 := q17 hc
            have q18 := q18 hc
            have q19 := q19 hc
            have q20 := q20 hc
            have q21 := q21 hc
            have q22 := q22 hc
            refine zDraw md0 1 [19] hX mixed rfl rfl rfl rfl rfl ?_
            exact rTo (To.mk' [] 0 hε rfl (by (repeat' first | exact True.intro | exact rfl | apply And.intro) <;> (repeat' first | exact rfl | refine Eq.trans ?_ (cTr (by assumption)) | refine Eq.trans ?_ (cFr (by assumption)) | refine Eq.trans (cTl (by assumption)) ?_ | refine Eq.trans (cFl (by assumption)) ?_)) (by (repeat' first | exact True.intro | exact rfl | apply And.intro) <;> (repeat' first | exact rfl | refine Eq.trans ?_ (cTr (by assumption)) | refine Eq.trans ?_ (cFr (by assumption)) | refine Eq.trans (cTl (by assumption)) ?_ | refine Eq.trans (cFl (by assumption)) ?_))) hj
      · replace hT := sF hc hT
        refine rExit ?_
        refine rThenExit ?_
        refine rThenExit ?_
        exact zTo [] 0 hε (hxs20 _ (houts2 _ (Option.some.inj hT).symm))
    · replace hT := sF hc hT
      refine rExit ?_
      refine rThenExit ?_
      refine rThenExit ?_
      exact zTo [] 0 hε (hxs10 _ (houts1 _ (Option.some.inj hT).symm))
  · cases h

end Go.Proofs.YtkfaebbbjahcpaaDoor
