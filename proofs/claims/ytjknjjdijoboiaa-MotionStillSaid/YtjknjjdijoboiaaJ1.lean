/- Models of functions, and that the program does what they tell. -/
import Derived.Test.YtjknjjdijoboiaaJ0
set_option linter.unusedVariables false
set_option linter.unusedSimpArgs false
namespace Go.Proofs.Ytjknjjdijoboiaa
open Go.X

def law17_Light (N : Nat) (a1 : Int) (a2 : (List (List Int))) : Option Bool :=
  let x1 := (bif (bif (decide (((a2.getD 0 []).length : Int) ≤ 30000)) then (decide (((a2.getD 1 []).length : Int) ≤ 30000)) else false) then (decide (((a2.getD 2 []).length : Int) ≤ 30000)) else false)
  some x1
def sp_law17_Light (N : Nat) : X.Spec := fun args lk => match args with
  | [.v (.agg [.cs [.int .i64 a1], .fzs 3 (.int .u8) a2])] => some ⟨(law17_Light N a1 a2).isSome = true, .v (.c (.bool ((law17_Light N a1 a2).getD default))), [], []⟩
  | _ => none
set_option maxRecDepth 100000 in
set_option maxHeartbeats 1000000 in
theorem ok_law17_Light (N : Nat) : FnOK Try.prog gt0 12 (sp_law17_Light N) := by
  refine fnOK_handed Try.func12 rfl (by kernel_rfl) tt_ok (ktNil) ?_
  intro args lk r h hp
  unfold sp_law17_Light at h
  split at h
  · rename_i a1 a2
    change (List (List Int)) at a2
    cases h
    obtain ⟨x, hx⟩ := Option.isSome_iff_exists.1 hp
    simp only [hx, Option.getD_some]
    refine hand0 rfl rfl (fun w0 M ε0 hX => ?_)
    refine rCount (fun hε => ?_)
    have hT : law17_Light N a1 a2 = some x := hx; clear hx hp; unfold law17_Light at hT
    refine rSeq ?_
    refine zReg md0 hX rfl rfl rfl ?_
    refine rThen ?_
    refine rSeq ?_
    let x1 := (bif (bif (decide (((a2.getD 0 []).length : Int) ≤ 30000)) then (decide (((a2.getD 1 []).length : Int) ≤ 30000)) else false) then (decide (((a2.getD 2 []).length : Int) ≤ 30000)) else false)
    refine zReg md0 hX rfl rfl rfl ?_
    refine rThen ?_
    refine rRet ?_
    have hy := Option.some.inj hT; subst hy
    exact zEnd0 hX rfl
  · cases h
def formats_Size (N : Nat) (a1 : Int) : Option (Int × Int × Bool) :=
  bif (decide (a1 = 1)) then
    some (128, 96, true)
  else
    bif (decide (a1 = 2)) then
      some (176, 144, true)
    else
      bif (decide (a1 = 3)) then
        some (352, 288, true)
      else
        bif (decide (a1 = 4)) then
          some (704, 576, true)
        else
          bif (decide (a1 = 5)) then
            some (1408, 1152, true)
          else
            bif (decide (a1 = 6)) then
              some (32, 32, true)
            else
              some (0, 0, false)
def sp_formats_Size (N : Nat) : X.Spec := fun args lk => match args with
  | [.v (.c (.int .i64 a1))] => some ⟨(formats_Size N a1).isSome = true, .tup [.c (.int .i64 ((formats_Size N a1).getD default).1), .c (.int .i64 ((formats_Size N a1).getD default).2.1), .c (.bool ((formats_Size N a1).getD default).2.2)], [], []⟩
  | _ => none
set_option maxRecDepth 100000 in
set_option maxHeartbeats 1000000 in
theorem ok_formats_Size (N : Nat) : FnOK Try.prog gt0 62 (sp_formats_Size N) := by
  refine fnOK_handed Try.func62 rfl (by kernel_rfl) tt_ok (ktNil) ?_
  intro args lk r h hp
  unfold sp_formats_Size at h
  split at h
  · rename_i a1
    cases h
    obtain ⟨x, hx⟩ := Option.isSome_iff_exists.1 hp
    simp only [hx, Option.getD_some]
    refine hand0 rfl rfl (fun w0 M ε0 hX => ?_)
    refine rCount (fun hε => ?_)
    have hT : formats_Size N a1 = some x := hx; clear hx hp; unfold formats_Size at hT
    refine rSeq ?_
    refine zReg md0 hX rfl rfl rfl ?_
    refine rThen ?_
    refine rSeq ?_
    refine rSeq ?_
    refine zReg md0 hX rfl rfl rfl ?_
    refine rThen ?_
    refine rBlock ?_
    refine rSeq ?_
    refine zReg md0 hX rfl rfl rfl ?_
    refine rThen ?_
    refine zCond rfl rfl (fun hc => ?_) (fun hc => ?_)
    · replace hT := sT hc hT
      refine rSeq ?_
      refine zReg md0 hX rfl rfl rfl ?_
      refine rThen ?_
      refine rRet ?_
      refine rInRet ?_
      refine rThenRet ?_
      have hy := Option.some.inj hT; subst hy
      exact zEnd0 hX rfl
    · replace hT := sF hc hT
      refine rSeq ?_
      refine zReg md0 hX rfl rfl rfl ?_
      refine rThen ?_
      refine zCond rfl rfl (fun hc => ?_) (fun hc => ?_)
      · replace hT := sT hc hT
        refine rSeq ?_
        refine zReg md0 hX rfl rfl rfl ?_
        refine rThen ?_
        refine rRet ?_
        refine rInRet ?_
        refine rThenRet ?_
        have hy := Option.some.inj hT; subst hy
        exact zEnd0 hX rfl
      · replace hT := sF hc hT
        refine rSeq ?_
        refine zReg md0 hX rfl rfl rfl ?_
        refine rThen ?_
        refine zCond rfl rfl (fun hc => ?_) (fun hc => ?_)
        · replace hT := sT hc hT
          refine rSeq ?_
          refine zReg md0 hX rfl rfl rfl ?_
          refine rThen ?_
          refine rRet ?_
          refine rInRet ?_
          refine rThenRet ?_
          have hy := Option.some.inj hT; subst hy
          exact zEnd0 hX rfl
        · replace hT := sF hc hT
          refine rSeq ?_
          refine zReg md0 hX rfl rfl rfl ?_
          refine rThen ?_
          refine zCond rfl rfl (fun hc => ?_) (fun hc => ?_)
          · replace hT := sT hc hT
            refine rSeq ?_
            refine zReg md0 hX rfl rfl rfl ?_
            refine rThen ?_
            refine rRet ?_
            refine rInRet ?_
            refine rThenRet ?_
            have hy := Option.some.inj hT; subst hy
            exact zEnd0 hX rfl
          · replace hT := sF hc hT
            refine rSeq ?_
            refine zReg md0 hX rfl rfl rfl ?_
            refine rThen ?_
            refine zCond rfl rfl (fun hc => ?_) (fun hc => ?_)
            · replace hT := sT hc hT
              refine rSeq ?_
              refine zReg md0 hX rfl rfl rfl ?_
              refine rThen ?_
              refine rRet ?_
              refine rInRet ?_
              refine rThenRet ?_
              have hy := Option.some.inj hT; subst hy
              exact zEnd0 hX rfl
            · replace hT := sF hc hT
              refine rSeq ?_
              refine zReg md0 hX rfl rfl rfl ?_
              refine rThen ?_
              refine zCond rfl rfl (fun hc => ?_) (fun hc => ?_)
              · replace hT := sT hc hT
                refine rSeq ?_
                refine zReg md0 hX rfl rfl rfl ?_
                refine rThen ?_
                refine rRet ?_
                refine rInRet ?_
                refine rThenRet ?_
                have hy := Option.some.inj hT; subst hy
                exact zEnd0 hX rfl
              · replace hT := sF hc hT
                refine rSkip ?_
                refine rInNormal ?_
                refine rThen ?_
                refine rSeq ?_
                refine zReg md0 hX rfl rfl rfl ?_
                refine rThen ?_
                refine rRet ?_
                have hy := Option.some.inj hT; subst hy
                exact zEnd0 hX rfl
  · cases h
def formats_Plane (N : Nat) (a1 : Int) (a2 : Int) : Option (Int × Int) :=
  let c1 := (formats_Size N a1)
  if c1.isSome = true then
    bif (decide (a2 = 0)) then
      some ((c1.getD default).1, (c1.getD default).2.1)
    else
      bif (bif (decide (a2 = 1)) then (decide (a2 = 1)) else (decide (a2 = 2))) then
        if (0 : Int) ≤ (c1.getD default).1 ∧ (0 : Int) ≤ (c1.getD default).2.1 then
          some (((c1.getD default).1 / 2), ((c1.getD default).2.1 / 2))
        else none
      else
        some (0, 0)
  else none
def sp_formats_Plane (N : Nat) : X.Spec := fun args lk => match args with
  | [.v (.c (.int .i64 a1)), .v (.c (.int .i64 a2))] => some ⟨(formats_Plane N a1 a2).isSome = true, .tup [.c (.int .i64 ((formats_Plane N a1 a2).getD default).1), .c (.int .i64 ((formats_Plane N a1 a2).getD default).2)], [], []⟩
  | _ => none
set_option maxRecDepth 100000 in
set_option maxHeartbeats 1000000 in
theorem ok_formats_Plane (N : Nat) : FnOK Try.prog gt0 51 (sp_formats_Plane N) := by
  refine fnOK_handed Try.func51 rfl (by kernel_rfl) tt_ok (ktCons (ok_formats_Size N) (ktNil)) ?_
  intro args lk r h hp
  unfold sp_formats_Plane at h
  split at h
  · rename_i a1 a2
    cases h
    obtain ⟨x, hx⟩ := Option.isSome_iff_exists.1 hp
    simp only [hx, Option.getD_some]
    refine hand0 rfl rfl (fun w0 M ε0 hX => ?_)
    refine rCount (fun hε => ?_)
    have hT : formats_Plane N a1 a2 = some x := hx; clear hx hp; unfold formats_Plane at hT
    refine rSeq ?_
    refine zReg md0 hX rfl rfl rfl ?_
    refine rThen ?_
    refine rSeq ?_
    let c1 := (formats_Size N a1)
    replace hT := sIf hT; obtain ⟨o1, hT⟩ := hT
    refine zReg md0 hX rfl rfl rfl ?_
    refine rThen ?_
    refine rSeq ?_
    refine rSeq ?_
    refine zReg md0 hX rfl rfl rfl ?_
    refine rThen ?_
    refine rBlock ?_
    refine rSeq ?_
    refine zReg md0 hX rfl rfl rfl ?_
    refine rThen ?_
    refine zCond rfl rfl (fun hc => ?_) (fun hc => ?_)
    · replace hT := sT hc hT
      refine rSeq ?_
      refine zReg md0 hX rfl rfl rfl ?_
      refine rThen ?_
      refine rRet ?_
      refine rInRet ?_
      refine rThenRet ?_
      have hy := Option.some.inj hT; subst hy
      exact zEnd0 hX rfl
    · replace hT := sF hc hT
      refine rSeq ?_
      refine rSeq ?_
      refine zReg md0 hX rfl rfl rfl ?_
      refine rThen ?_
      refine rJoin ⟨[(4, .v (.c (.int .i64 0))), (5, .v (.c (.int .i64 0))), (6, .v (.c (.int .i64 (c1.getD default).1))), (7, .v (.c (.int .i64 (c1.getD default).2.1))), (20, .v (.c (.bool (bif (decide (a2 = 1)) then (decide (a2 = 1)) else (decide (a2 = 2))))))], [], 0⟩ ?_ (fun hj => ?_)
      · skip
        refine rThen ?_
        refine zCond rfl rfl (fun hc => ?_) (fun hc => ?_)
        · replace hT := sT hc hT
          refine rSeq ?_
          replace hT := sIf hT; obtain ⟨⟨o1, o2⟩, hT⟩ := hT
          refine zReg md0 hX rfl rfl rfl ?_
          refine rThen ?_
          refine rRet ?_
          refine rInRet ?_
          refine rThenRet ?_
          have hy := Option.some.inj hT; subst hy
          exact zEnd0 hX rfl
        · replace hT := sF hc hT
          refine rSkip ?_
          refine rInNormal ?_
          refine rThen ?_
          refine rSeq ?_
          refine zReg md0 hX rfl rfl rfl ?_
          refine rThen ?_
          refine rRet ?_
          have hy := Option.some.inj hT; subst hy
          exact zEnd0 hX rfl
      · clear hT
        refine zCond rfl rfl (fun hc => ?_) (fun hc => ?_)
        · skip
          refine rSkip ?_
          exact rTo (To.mk' [] 0 hε rfl (by (repeat' first | exact True.intro | exact rfl | apply And.intro) <;> (repeat' first | exact rfl | refine Eq.trans ?_ (cTr (by assumption)) | refine Eq.trans ?_ (cFr (by assumption)) | refine Eq.trans (cTl (by assumption)) ?_ | refine Eq.trans (cFl (by assumption)) ?_)) (by (repeat' first | exact True.intro | exact rfl | apply And.intro) <;> (repeat' first | exact rfl | refine Eq.trans ?_ (cTr (by assumption)) | refine Eq.trans ?_ (cFr (by assumption)) | refine Eq.trans (cTl (by assumption)) ?_ | refine Eq.trans (cFl (by assumption)) ?_))) hj
        · skip
          refine zReg md0 hX rfl rfl rfl ?_
          exact rTo (To.mk' [] 0 hε rfl (by (repeat' first | exact True.intro | exact rfl | apply And.intro) <;> (repeat' first | exact rfl | refine Eq.trans ?_ (cTr (by assumption)) | refine Eq.trans ?_ (cFr (by assumption)) | refine Eq.trans (cTl (by assumption)) ?_ | refine Eq.trans (cFl (by assumption)) ?_)) (by (repeat' first | exact True.intro | exact rfl | apply And.intro) <;> (repeat' first | exact rfl | refine Eq.trans ?_ (cTr (by assumption)) | refine Eq.trans ?_ (cFr (by assumption)) | refine Eq.trans (cTl (by assumption)) ?_ | refine Eq.trans (cFl (by assumption)) ?_))) hj
  · cases h
def planes_Right_b1 (N : Nat) (a1 : Int) (a2 : (List (List Int))) (s1 : (Bool × Int)) : Option ((Bool × Int) ⊕ Bool) :=
  bif (decide (s1.2 < 3)) then
    if (0 : Int) ≤ s1.2 ∧ s1.2 < 3 ∧ (s1.2).toNat < 3 then
      let c2 := (formats_Plane N a1 s1.2)
      if c2.isSome = true then
        let x1 := (bif s1.1 then (decide (((a2.getD (s1.2).toNat []).length : Int) = ((c2.getD default).1 * (c2.getD default).2))) else false)
        if (s1.1 = true → inK .i64 ((c2.getD default).1 * (c2.getD default).2)) then
          if inK .i64 (s1.2 + 1) then
            some (.inl (x1, (s1.2 + 1)))
          else none
        else none
      else none
    else none
  else
    some (.inr s1.1)
def planes_Right (N : Nat) (a1 : Int) (a2 : (List (List Int))) : Option Bool :=
  let c1 := (formats_Size N a1)
  if c1.isSome = true then
    (iter (planes_Right_b1 N a1 a2) N ((c1.getD default).2.2, 0)).bind fun v1 =>
      some v1
  else none
def sp_planes_Right (N : Nat) : X.Spec := fun args lk => match args with
  | [.v (.agg [.cs [.int .i64 a1], .fzs 3 (.int .u8) a2])] => some ⟨(planes_Right N a1 a2).isSome = true, .v (.c (.bool ((planes_Right N a1 a2).getD default))), [], []⟩
  | _ => none
set_option maxRecDepth 100000 in
set_option maxHeartbeats 1000000 in
theorem ok_planes_Right (N : Nat) : FnOK Try.prog gt0 20 (sp_planes_Right N) := by
  refine fnOK_handed Try.func20 rfl (by kernel_rfl) tt_ok (ktCons (ok_formats_Plane N) (ktCons (ok_formats_Size N) (ktNil))) ?_
  intro args lk r h hp
  unfold sp_planes_Right at h
  split at h
  · rename_i a1 a2
    change (List (List Int)) at a2
    cases h
    obtain ⟨x, hx⟩ := Option.isSome_iff_exists.1 hp
    simp only [hx, Option.getD_some]
    refine hand0 rfl rfl (fun w0 M ε0 hX => ?_)
    refine rCount (fun hε => ?_)
    have hT : planes_Right N a1 a2 = some x := hx; clear hx hp; unfold planes_Right at hT
    refine rSeq ?_
    refine zReg md0 hX rfl rfl rfl ?_
    refine rThen ?_
    refine rSeq ?_
    let c1 := (formats_Size N a1)
    replace hT := sIf hT; obtain ⟨o1, hT⟩ := hT
    refine zReg md0 hX rfl rfl rfl ?_
    refine rThen ?_
    refine rSeq ?_
    refine rSeq ?_
    refine zReg md0 hX rfl rfl rfl ?_
    refine rThen ?_
    refine rBlock ?_
    replace hT := sBind hT; obtain ⟨w1, hl, hT⟩ := hT
    refine rJoinA (fun v1 => v1 = w1) (fun v1 => ⟨[(2, .v (.c (.bool false))), (5, .v (.c (.bool v1)))], [], 1⟩) (.exit 0) (fun v1 hv => ?_) (fun hxs10 => ?_)
    · subst hv; clear hl
      refine rInHit ?_
      refine rThen ?_
      refine rSeq ?_
      refine zReg md0 hX rfl rfl rfl ?_
      refine rThen ?_
      refine rRet ?_
      have hy := Option.some.inj hT; subst hy
      exact zEnd0 hX rfl
    refine rLoopM (planes_Right_b1 N a1 a2) (fun s1 => ⟨[(1, .v (.c (.ptr 0 0 0 0 0 0))), (2, .v (.c (.bool false))), (5, .v (.c (.bool s1.1))), (18, .v (.agg [.fzs 3 (.int .u8) a2])), (19, .v (.c (.int .i64 s1.2)))], [(0, .mem true 25 none (.flat [.cs [.int .i64 a1], .fzs 3 (.int .u8) a2]))], 1⟩) hl (To.mk' [] 0 hε rfl (by repeat' first | exact True.intro | exact rfl | apply And.intro) (by repeat' first | exact True.intro | exact rfl | apply And.intro)) (fun s1 zs1 NNs1 hz hnexts1 houts1 => ?_)
    clear hl hT
    have hT := hz; clear hz
    refine rSeq ?_
    refine zReg md0 hX rfl rfl rfl ?_
    refine rThen ?_
    refine rSeq ?_
    refine zCond rfl rfl (fun hc => ?_) (fun hc => ?_)
    · replace hT := sT hc hT
      refine rSkip ?_
      refine rThen ?_
      refine rSeq ?_
      refine rBlock ?_
      refine rSeq ?_
      replace hT := sIf hT; obtain ⟨⟨o1, o2, o3⟩, hT⟩ := hT
      refine zReg md0 hX rfl rfl rfl ?_
      refine rThen ?_
      refine rSeq ?_
      let c2 := (formats_Plane N a1 s1.2)
      replace hT := sIf hT; obtain ⟨o1, hT⟩ := hT
      refine zReg md0 hX rfl rfl rfl ?_
      refine rThen ?_
      let x1 := (bif s1.1 then (decide (((a2.getD (s1.2).toNat []).length : Int) = ((c2.getD default).1 * (c2.getD default).2))) else false)
      replace hT := sIf hT; obtain ⟨o1, hT⟩ := hT
      refine rRegC md0 hX rfl rfl rfl (by (repeat' first | exact True.intro | with_reducible assumption | (with_reducible apply And.intro) | intro _) <;> first | assumption | exact o1 (by assumption) | exact rfl | omega | exact Nat.le_of_ble_eq_true rfl | exact selF (by assumption) | exact selT (by assumption) | exact And.intro rfl rfl | exact And.intro (by assumption) rfl | exact And.intro (by omega) rfl | (simp only [inK] at *; omega) | (simp_all [sel] <;> fail) | fail) ?_
      refine rInNormal ?_
      refine rThen ?_
      replace hT := sIf hT; obtain ⟨o1, hT⟩ := hT
      refine zReg md0 hX rfl rfl rfl ?_
      exact hnexts1 _ (Option.some.inj hT).symm _ (To.mk' [] 0 hε rfl (by repeat' first | exact True.intro | exact rfl | apply And.intro) (by repeat' first | exact True.intro | exact rfl | apply And.intro))
    · replace hT := sF hc hT
      refine rExit ?_
      refine rThenExit ?_
      refine rThenExit ?_
      exact zTo [] 0 hε (hxs10 _ (houts1 _ (Option.some.inj hT).symm))
  · cases h
def whole_Clip (N : Nat) (a1 : Int) (a2 : Int) (a3 : Int) : Option Int :=
  bif (bif (decide (a3 < a2)) then (decide (a3 < a2)) else (decide (a1 < a2))) then
    some a2
  else
    bif (decide (a3 < a1)) then
      some a3
    else
      some a1
def sp_whole_Clip (N : Nat) : X.Spec := fun args lk => match args with
  | [.v (.c (.int .i64 a1)), .v (.c (.int .i64 a2)), .v (.c (.int .i64 a3))] => some ⟨(whole_Clip N a1 a2 a3).isSome = true, .v (.c (.int .i64 ((whole_Clip N a1 a2 a3).getD default))), [], []⟩
  | _ => none
set_option maxRecDepth 100000 in
set_option maxHeartbeats 1000000 in
theorem ok_whole_Clip (N : Nat) : FnOK Try.prog gt0 65 (sp_whole_Clip N) := by
  refine fnOK_handed Try.func65 rfl (by kernel_rfl) tt_ok (ktNil) ?_
  intro args lk r h hp
  unfold sp_whole_Clip at h
  split at h
  · rename_i a1 a2 a3
    cases h
    obtain ⟨x, hx⟩ := Option.isSome_iff_exists.1 hp
    simp only [hx, Option.getD_some]
    refine hand0 rfl rfl (fun w0 M ε0 hX => ?_)
    refine rCount (fun hε => ?_)
    have hT : whole_Clip N a1 a2 a3 = some x := hx; clear hx hp; unfold whole_Clip at hT
    refine rSeq ?_
    refine zReg md0 hX rfl rfl rfl ?_
    refine rThen ?_
    refine rSeq ?_
    refine rBlock ?_
    refine rSeq ?_
    refine rSeq ?_
    refine zReg md0 hX rfl rfl rfl ?_
    refine rThen ?_
    refine rJoin ⟨[(0, .v (.c (.int .i64 a1))), (1, .v (.c (.int .i64 a2))), (2, .v (.c (.int .i64 a3))), (6, .v (.c (.int .i64 0))), (7, .v (.c (.bool (bif (decide (a3 < a2)) then (decide (a3 < a2)) else (decide (a1 < a2))))))], [], 0⟩ ?_ (fun hj => ?_)
    · skip
      refine rThen ?_
      refine zCond rfl rfl (fun hc => ?_) (fun hc => ?_)
      · replace hT := sT hc hT
        refine rSeq ?_
        refine zReg md0 hX rfl rfl rfl ?_
        refine rThen ?_
        refine rRet ?_
        refine rInRet ?_
        refine rThenRet ?_
        have hy := Option.some.inj hT; subst hy
        exact zEnd0 hX rfl
      · replace hT := sF hc hT
        refine rSeq ?_
        refine zReg md0 hX rfl rfl rfl ?_
        refine rThen ?_
        refine zCond rfl rfl (fun hc => ?_) (fun hc => ?_)
        · replace hT := sT hc hT
          refine rSeq ?_
          refine zReg md0 hX rfl rfl rfl ?_
          refine rThen ?_
          refine rRet ?_
          refine rInRet ?_
          refine rThenRet ?_
          have hy := Option.some.inj hT; subst hy
          exact zEnd0 hX rfl
        · replace hT := sF hc hT
          refine rSkip ?_
          refine rInNormal ?_
          refine rThen ?_
          refine rSeq ?_
          refine zReg md0 hX rfl rfl rfl ?_
          refine rThen ?_
          refine rRet ?_
          have hy := Option.some.inj hT; subst hy
          exact zEnd0 hX rfl
    · clear hT
      refine zCond rfl rfl (fun hc => ?_) (fun hc => ?_)
      · skip
        refine rSkip ?_
        exact rTo (To.mk' [] 0 hε rfl (by (repeat' first | exact True.intro | exact rfl | apply And.intro) <;> (repeat' first | exact rfl | refine Eq.trans ?_ (cTr (by assumption)) | refine Eq.trans ?_ (cFr (by assumption)) | refine Eq.trans (cTl (by assumption)) ?_ | refine Eq.trans (cFl (by assumption)) ?_)) (by (repeat' first | exact True.intro | exact rfl | apply And.intro) <;> (repeat' first | exact rfl | refine Eq.trans ?_ (cTr (by assumption)) | refine Eq.trans ?_ (cFr (by assumption)) | refine Eq.trans (cTl (by assumption)) ?_ | refine Eq.trans (cFl (by assumption)) ?_))) hj
      · skip
        refine zReg md0 hX rfl rfl rfl ?_
        exact rTo (To.mk' [] 0 hε rfl (by (repeat' first | exact True.intro | exact rfl | apply And.intro) <;> (repeat' first | exact rfl | refine Eq.trans ?_ (cTr (by assumption)) | refine Eq.trans ?_ (cFr (by assumption)) | refine Eq.trans (cTl (by assumption)) ?_ | refine Eq.trans (cFl (by assumption)) ?_)) (by (repeat' first | exact True.intro | exact rfl | apply And.intro) <;> (repeat' first | exact rfl | refine Eq.trans ?_ (cTr (by assumption)) | refine Eq.trans ?_ (cFr (by assumption)) | refine Eq.trans (cTl (by assumption)) ?_ | refine Eq.trans (cFl (by assumption)) ?_))) hj
  · cases h
def motion_Chroma (N : Nat) (a1 : Int) : Option Int :=
  let c1 := (whole_Clip N a1 (-64) 64)
  if c1.isSome = true then
    if inK .i64 (-(c1.getD default)) then
      if (0 : Int) ≤ (max (c1.getD default) (-(c1.getD default))) ∧ inK .i64 ((2 : Int) * ((max (c1.getD default) (-(c1.getD default))) / 4)) then
        if (0 : Int) ≤ (max (c1.getD default) (-(c1.getD default))) then
          if ((decide (((max (c1.getD default) (-(c1.getD default))) % 4) ≠ 0)) = true → inK .i64 (((2 : Int) * ((max (c1.getD default) (-(c1.getD default))) / 4)) + 1)) then
            let x1 := (bif (decide (((max (c1.getD default) (-(c1.getD default))) % 4) ≠ 0)) then (((2 : Int) * ((max (c1.getD default) (-(c1.getD default))) / 4)) + 1) else ((2 : Int) * ((max (c1.getD default) (-(c1.getD default))) / 4)))
            bif (decide ((c1.getD default) < 0)) then
              if inK .i64 (-x1) then
                some (-x1)
              else none
            else
              some x1
          else none
        else none
      else none
    else none
  else none
def sp_motion_Chroma (N : Nat) : X.Spec := fun args lk => match args with
  | [.v (.c (.int .i64 a1))] => some ⟨(motion_Chroma N a1).isSome = true, .v (.c (.int .i64 ((motion_Chroma N a1).getD default))), [], []⟩
  | _ => none
set_option maxRecDepth 100000 in
set_option maxHeartbeats 1000000 in
theorem ok_motion_Chroma (N : Nat) : FnOK Try.prog gt0 48 (sp_motion_Chroma N) := by
  refine fnOK_handed Try.func48 rfl (by kernel_rfl) tt_ok (ktCons (ok_whole_Clip N) (ktNil)) ?_
  intro args lk r h hp
  unfold sp_motion_Chroma at h
  split at h
  · rename_i a1
    cases h
    obtain ⟨x, hx⟩ := Option.isSome_iff_exists.1 hp
    simp only [hx, Option.getD_some]
    refine hand0 rfl rfl (fun w0 M ε0 hX => ?_)
    refine rCount (fun hε => ?_)
    have hT : motion_Chroma N a1 = some x := hx; clear hx hp; unfold motion_Chroma at hT
    refine rSeq ?_
    refine zReg md0 hX rfl rfl rfl ?_
    refine rThen ?_
    refine rSeq ?_
    let c1 := (whole_Clip N a1 (-64) 64)
    replace hT := sIf hT; obtain ⟨o1, hT⟩ := hT
    refine zReg md0 hX rfl rfl rfl ?_
    refine rThen ?_
    refine rSeq ?_
    replace hT := sIf hT; obtain ⟨o1, hT⟩ := hT
    refine zReg md0 hX rfl rfl rfl ?_
    refine rThen ?_
    refine rSeq ?_
    replace hT := sIf hT; obtain ⟨⟨o1, o2⟩, hT⟩ := hT
    refine zReg md0 hX rfl rfl rfl ?_
    refine rThen ?_
    refine rSeq ?_
    refine rSeq ?_
    replace hT := sIf hT; obtain ⟨o1, hT⟩ := hT
    refine zReg md0 hX rfl rfl rfl ?_
    refine rThen ?_
    replace hT := sIf hT; obtain ⟨q1, hT⟩ := hT
    refine rJoin ⟨[(0, .v (.c (.int .i64 (c1.getD default)))), (2, .v (.c (.int .i64 0))), (4, .v (.c (.int .i64 (bif (decide (((max (c1.getD default) (-(c1.getD default))) % 4) ≠ 0)) then (((2 : Int) * ((max (c1.getD default) (-(c1.getD default))) / 4)) + 1) else ((2 : Int) * ((max (c1.getD default) (-(c1.getD default))) / 4))))))], [], 0⟩ ?_ (fun hj => ?_)
    · skip
      let x1 := (bif (decide (((max (c1.getD default) (-(c1.getD default))) % 4) ≠ 0)) then (((2 : Int) * ((max (c1.getD default) (-(c1.getD default))) / 4)) + 1) else ((2 : Int) * ((max (c1.getD default) (-(c1.getD default))) / 4)))
      refine rThen ?_
      refine rSeq ?_
      refine rSeq ?_
      refine zReg md0 hX rfl rfl rfl ?_
      refine rThen ?_
      refine zCond rfl rfl (fun hc => ?_) (fun hc => ?_)
      · replace hT := sT hc hT
        refine rSeq ?_
        replace hT := sIf hT; obtain ⟨o1, hT⟩ := hT
        refine zReg md0 hX rfl rfl rfl ?_
        refine rThen ?_
        refine rRet ?_
        refine rThenRet ?_
        have hy := Option.some.inj hT; subst hy
        exact zEnd0 hX rfl
      · replace hT := sF hc hT
        refine rSkip ?_
        refine rThen ?_
        refine rSeq ?_
        refine zReg md0 hX rfl rfl rfl ?_
        refine rThen ?_
        refine rRet ?_
        have hy := Option.some.inj hT; subst hy
        exact zEnd0 hX rfl
    · clear hT
      refine zCond rfl rfl (fun hc => ?_) (fun hc => ?_)
      · skip
        have q1 := q1 hc
        refine zReg md0 hX rfl rfl rfl ?_
        exact rTo (To.mk' [] 0 hε rfl (by (repeat' first | exact True.intro | exact rfl | apply And.intro) <;> (repeat' first | exact rfl | refine Eq.trans ?_ (cTr (by assumption)) | refine Eq.trans ?_ (cFr (by assumption)) | refine Eq.trans (cTl (by assumption)) ?_ | refine Eq.trans (cFl (by assumption)) ?_)) (by (repeat' first | exact True.intro | exact rfl | apply And.intro) <;> (repeat' first | exact rfl | refine Eq.trans ?_ (cTr (by assumption)) | refine Eq.trans ?_ (cFr (by assumption)) | refine Eq.trans (cTl (by assumption)) ?_ | refine Eq.trans (cFl (by assumption)) ?_))) hj
      · skip
        refine rSkip ?_
        exact rTo (To.mk' [] 0 hε rfl (by (repeat' first | exact True.intro | exact rfl | apply And.intro) <;> (repeat' first | exact rfl | refine Eq.trans ?_ (cTr (by assumption)) | refine Eq.trans ?_ (cFr (by assumption)) | refine Eq.trans (cTl (by assumption)) ?_ | refine Eq.trans (cFl (by assumption)) ?_)) (by (repeat' first | exact True.intro | exact rfl | apply And.intro) <;> (repeat' first | exact rfl | refine Eq.trans ?_ (cTr (by assumption)) | refine Eq.trans ?_ (cFr (by assumption)) | refine Eq.trans (cTl (by assumption)) ?_ | refine Eq.trans (cFl (by assumption)) ?_))) hj
  · cases h
def formats_Cells (N : Nat) (a1 : Int) : Option (Int × Int) :=
  let c1 := (formats_Size N a1)
  if c1.isSome = true then
    if (0 : Int) ≤ (c1.getD default).1 ∧ (0 : Int) ≤ (c1.getD default).2.1 then
      some (((c1.getD default).1 / 16), ((c1.getD default).2.1 / 16))
    else none
  else none
def sp_formats_Cells (N : Nat) : X.Spec := fun args lk => match args with
  | [.v (.c (.int .i64 a1))] => some ⟨(formats_Cells N a1).isSome = true, .tup [.c (.int .i64 ((formats_Cells N a1).getD default).1), .c (.int .i64 ((formats_Cells N a1).getD default).2)], [], []⟩
  | _ => none
set_option maxRecDepth 100000 in
set_option maxHeartbeats 1000000 in
theorem ok_formats_Cells (N : Nat) : FnOK Try.prog gt0 50 (sp_formats_Cells N) := by
  refine fnOK_handed Try.func50 rfl (by kernel_rfl) tt_ok (ktCons (ok_formats_Size N) (ktNil)) ?_
  intro args lk r h hp
  unfold sp_formats_Cells at h
  split at h
  · rename_i a1
    cases h
    obtain ⟨x, hx⟩ := Option.isSome_iff_exists.1 hp
    simp only [hx, Option.getD_some]
    refine hand0 rfl rfl (fun w0 M ε0 hX => ?_)
    refine rCount (fun hε => ?_)
    have hT : formats_Cells N a1 = some x := hx; clear hx hp; unfold formats_Cells at hT
    refine rSeq ?_
    refine zReg md0 hX rfl rfl rfl ?_
    refine rThen ?_
    refine rSeq ?_
    let c1 := (formats_Size N a1)
    replace hT := sIf hT; obtain ⟨o1, hT⟩ := hT
    refine zReg md0 hX rfl rfl rfl ?_
    refine rThen ?_
    refine rSeq ?_
    replace hT := sIf hT; obtain ⟨⟨o1, o2⟩, hT⟩ := hT
    refine zReg md0 hX rfl rfl rfl ?_
    refine rThen ?_
    refine rRet ?_
    have hy := Option.some.inj hT; subst hy
    exact zEnd0 hX rfl
  · cases h
def motion_within (N : Nat) (a1 : Int) (a2 : Int) (a3 : Int) : Option Bool :=
  if ((decide ((0 : Int) ≤ a1)) = true → inK .i64 (a1 + 1)) ∧ ((decide ((0 : Int) ≤ a1)) = true → (0 : Int) ≤ (a1 + 1)) ∧ ((decide ((0 : Int) ≤ a1)) = true → inK .i64 (((a1 + 1) / 2) + a2)) then
    some (bif (decide ((0 : Int) ≤ a1)) then (decide ((((a1 + 1) / 2) + a2) ≤ a3)) else false)
  else none
def sp_motion_within (N : Nat) : X.Spec := fun args lk => match args with
  | [.v (.c (.int .i64 a1)), .v (.c (.int .i64 a2)), .v (.c (.int .i64 a3))] => some ⟨(motion_within N a1 a2 a3).isSome = true, .v (.c (.bool ((motion_within N a1 a2 a3).getD default))), [], []⟩
  | _ => none
set_option maxRecDepth 100000 in
set_option maxHeartbeats 1000000 in
theorem ok_motion_within (N : Nat) : FnOK Try.prog gt0 71 (sp_motion_within N) := by
  refine fnOK_handed Try.func71 rfl (by kernel_rfl) tt_ok (ktNil) ?_
  intro args lk r h hp
  unfold sp_motion_within at h
  split at h
  · rename_i a1 a2 a3
    cases h
    obtain ⟨x, hx⟩ := Option.isSome_iff_exists.1 hp
    simp only [hx, Option.getD_some]
    refine hand0 rfl rfl (fun w0 M ε0 hX => ?_)
    refine rCount (fun hε => ?_)
    have hT : motion_within N a1 a2 a3 = some x := hx; clear hx hp; unfold motion_within at hT
    refine rSeq ?_
    refine zReg md0 hX rfl rfl rfl ?_
    refine rThen ?_
    refine rSeq ?_
    replace hT := sIf hT; obtain ⟨⟨o1, o2, o3⟩, hT⟩ := hT
    refine rRegC md0 hX rfl rfl rfl (by (repeat' first | exact True.intro | with_reducible assumption | (with_reducible apply And.intro) | intro _) <;> first | assumption | exact o1 (by assumption) | exact o2 (by assumption) | exact o3 (by assumption) | exact rfl | omega | exact Nat.le_of_ble_eq_true rfl | exact selF (by assumption) | exact selT (by assumption) | exact And.intro rfl rfl | exact And.intro (by assumption) rfl | exact And.intro (by omega) rfl | (simp only [inK] at *; omega) | (simp_all [sel] <;> fail) | fail) ?_
    refine rThen ?_
    refine rRet ?_
    have hy := Option.some.inj hT; subst hy
    exact zEnd0 hX rfl
  · cases h
def motion_May_b1 (N : Nat) (a3 : (List Int)) (s1 : Int) : Option (Int ⊕ (Unit ⊕ Unit)) :=
  bif (decide (s1 < 2)) then
    if (0 : Int) ≤ s1 ∧ s1 < 2 ∧ (s1).toNat < 2 then
      let x2 := (bif (decide ((a3.getD (s1).toNat 0) < (-32))) then true else (decide ((31 : Int) < (a3.getD (s1).toNat 0))))
      bif x2 then
        some (.inr (Sum.inl ()))
      else
        if inK .i64 (s1 + 1) then
          some (.inl (s1 + 1))
        else none
    else none
  else
    some (.inr (Sum.inr ()))
def motion_May (N : Nat) (a1 : Int) (a2 : Int) (a3 : (List Int)) : Option Bool :=
  let c1 := (formats_Cells N a1)
  if c1.isSome = true then
    let c2 := (formats_Size N a1)
    if c2.isSome = true then
      let x1 := (bif (bif (!(c2.getD default).2.2) then true else (decide (a2 < 0))) then true else (decide (((c1.getD default).1 * (c1.getD default).2) ≤ a2)))
      if ((!(bif (!(c2.getD default).2.2) then true else (decide (a2 < 0)))) = true → inK .i64 ((c1.getD default).1 * (c1.getD default).2)) then
        bif x1 then
          some false
        else
          (iter (motion_May_b1 N a3) N 0).bind fun w1 =>
            (Sum.elim (fun v1 =>
              some false
            )
              (fun v2 =>
                let c3 := (motion_within N (((32 : Int) * (a2 % (c1.getD default).1)) + (a3.getD 0 0)) 16 (c2.getD default).1)
                let c4 := (motion_within N (((32 : Int) * (a2 / (c1.getD default).1)) + (a3.getD 1 0)) 16 (c2.getD default).2.1)
                if (0 : Int) ≤ a2 ∧ (0 : Int) < (c1.getD default).1 ∧ inK .i64 ((32 : Int) * (a2 % (c1.getD default).1)) ∧ inK .i64 (((32 : Int) * (a2 % (c1.getD default).1)) + (a3.getD 0 0)) ∧ c3.isSome = true ∧ ((c3.getD default) = true → (0 : Int) ≤ a2) ∧ ((c3.getD default) = true → (0 : Int) < (c1.getD default).1) ∧ ((c3.getD default) = true → inK .i64 ((32 : Int) * (a2 / (c1.getD default).1))) ∧ ((c3.getD default) = true → inK .i64 (((32 : Int) * (a2 / (c1.getD default).1)) + (a3.getD 1 0))) ∧ ((c3.getD default) = true → c4.isSome = true) then
                  some (bif (c3.getD default) then (c4.getD default) else false)
                else none
              )
            ) w1
      else none
    else none
  else none
def sp_motion_May (N : Nat) : X.Spec := fun args lk => match args with
  | [.v (.c (.int .i64 a1)), .v (.c (.int .i64 a2)), .v (.agg [.ints 2 .i64 a3])] => some ⟨(motion_May N a1 a2 a3).isSome = true, .v (.c (.bool ((motion_May N a1 a2 a3).getD default))), [], []⟩
  | _ => none
set_option maxRecDepth 100000 in
set_option maxHeartbeats 1000000 in
theorem ok_motion_May (N : Nat) : FnOK Try.prog gt0 49 (sp_motion_May N) := by
  refine fnOK_handed Try.func49 rfl (by kernel_rfl) tt_ok (ktCons (ok_motion_within N) (ktCons (ok_formats_Size N) (ktCons (ok_formats_Cells N) (ktNil)))) ?_
  intro args lk r h hp
  unfold sp_motion_May at h
  split at h
  · rename_i a1 a2 a3
    change (List Int) at a3
    cases h
    obtain ⟨x, hx⟩ := Option.isSome_iff_exists.1 hp
    simp only [hx, Option.getD_some]
    refine hand0 rfl rfl (fun w0 M ε0 hX => ?_)
    refine rCount (fun hε => ?_)
    have hT : motion_May N a1 a2 a3 = some x := hx; clear hx hp; unfold motion_May at hT
    refine rSeq ?_
    refine zReg md0 hX rfl rfl rfl ?_
    refine rThen ?_
    refine rSeq ?_
    let c1 := (formats_Cells N a1)
    replace hT := sIf hT; obtain ⟨o1, hT⟩ := hT
    refine zReg md0 hX rfl rfl rfl ?_
    refine rThen ?_
    refine rSeq ?_
    let c2 := (formats_Size N a1)
    replace hT := sIf hT; obtain ⟨o1, hT⟩ := hT
    refine zReg md0 hX rfl rfl rfl ?_
    refine rThen ?_
    refine rSeq ?_
    refine rSeq ?_
    let x1 := (bif (bif (!(c2.getD default).2.2) then true else (decide (a2 < 0))) then true else (decide (((c1.getD default).1 * (c1.getD default).2) ≤ a2)))
    replace hT := sIf hT; obtain ⟨o1, hT⟩ := hT
    refine rRegC md0 hX rfl rfl rfl (by (repeat' first | exact True.intro | with_reducible assumption | (with_reducible apply And.intro) | intro _) <;> first | assumption | exact o1 (by assumption) | exact rfl | omega | exact Nat.le_of_ble_eq_true rfl | exact selF (by assumption) | exact selT (by assumption) | exact And.intro rfl rfl | exact And.intro (by assumption) rfl | exact And.intro (by omega) rfl | (simp only [inK] at *; omega) | (simp_all [sel] <;> fail) | fail) ?_
    refine rThen ?_
    refine zCond rfl rfl (fun hc => ?_) (fun hc => ?_)
    · replace hT := sT hc hT
      refine rSeq ?_
      refine zReg md0 hX rfl rfl rfl ?_
      refine rThen ?_
      refine rRet ?_
      refine rThenRet ?_
      have hy := Option.some.inj hT; subst hy
      exact zEnd0 hX rfl
    · replace hT := sF hc hT
      refine rSkip ?_
      refine rThen ?_
      refine rSeq ?_
      refine rSeq ?_
      refine zReg md0 hX rfl rfl rfl ?_
      refine rThen ?_
      refine rBlock ?_
      replace hT := sBind hT; obtain ⟨w1, hl, hT⟩ := hT
      refine rJoinA (fun v1 => (Sum.inl v1) = w1) (fun v1 => ⟨[(6, .v (.c (.bool false)))], [], 1⟩) .ret (fun v1 hv => ?_) (fun hxs10 => ?_)
      · subst hv; clear hl; replace hT := (sElimL hT)
        refine rInRet ?_
        refine rThenRet ?_
        have hy := Option.some.inj hT; subst hy
        exact zEnd0 hX rfl
      refine rJoinA (fun v2 => (Sum.inr v2) = w1) (fun v2 => ⟨[(1, .v (.c (.int .i64 a2))), (5, .v (.c (.ptr 0 0 0 0 0 0))), (6, .v (.c (.bool false))), (7, .v (.c (.int .i64 (c1.getD default).1))), (9, .v (.c (.int .i64 (c2.getD default).1))), (10, .v (.c (.int .i64 (c2.getD default).2.1)))], [(0, .mem true 26 none (.flat [.ints 2 .i64 a3]))], 1⟩) (.exit 0) (fun v2 hv => ?_) (fun hxs11 => ?_)
      · subst hv; clear hl; replace hT := (sElimR hT)
        refine rInHit ?_
        refine rThen ?_
        refine rSeq ?_
        let c3 := (motion_within N (((32 : Int) * (a2 % (c1.getD default).1)) + (a3.getD 0 0)) 16 (c2.getD default).1)
        let c4 := (motion_within N (((32 : Int) * (a2 / (c1.getD default).1)) + (a3.getD 1 0)) 16 (c2.getD default).2.1)
        replace hT := sIf hT; obtain ⟨⟨o1, o2, o3, o4, o5, o6, o7, o8, o9, o10⟩, hT⟩ := hT
        refine rDrawM md0 0 [] hX mixed rfl rfl rfl rfl rfl (by (repeat' first | exact True.intro | with_reducible assumption | (with_reducible apply And.intro) | intro _) <;> first | assumption | exact o6 (by assumption) | exact o7 (by assumption) | exact o8 (by assumption) | exact o9 (by assumption) | exact o10 (by assumption) | exact rfl | omega | exact Nat.le_of_ble_eq_true rfl | exact selF (by assumption) | exact selT (by assumption) | exact And.intro rfl rfl | exact And.intro (by assumption) rfl | exact And.intro (by omega) rfl | (simp only [inK] at *; omega) | (simp_all [sel] <;> fail) | fail) ?_
        refine rThen ?_
        refine rRet ?_
        have hy := Option.some.inj hT; subst hy
        exact zEnd0 hX rfl
      refine rLoopM (motion_May_b1 N a3) (fun s1 => ⟨[(1, .v (.c (.int .i64 a2))), (5, .v (.c (.ptr 0 0 0 0 0 0))), (6, .v (.c (.bool false))), (7, .v (.c (.int .i64 (c1.getD default).1))), (9, .v (.c (.int .i64 (c2.getD default).1))), (10, .v (.c (.int .i64 (c2.getD default).2.1))), (38, .v (.agg [.ints 2 .i64 a3])), (39, .v (.c (.int .i64 s1)))], [(0, .mem true 26 none (.flat [.ints 2 .i64 a3]))], 1⟩) hl (To.mk' [] 0 hε rfl (by repeat' first | exact True.intro | exact rfl | apply And.intro) (by repeat' first | exact True.intro | exact rfl | apply And.intro)) (fun s1 zs1 NNs1 hz hnexts1 houts1 => ?_)
      clear hl hT
      have hT := hz; clear hz
      refine rSeq ?_
      refine zReg md0 hX rfl rfl rfl ?_
      refine rThen ?_
      refine rSeq ?_
      refine zCond rfl rfl (fun hc => ?_) (fun hc => ?_)
      · replace hT := sT hc hT
        refine rSkip ?_
        refine rThen ?_
        refine rSeq ?_
        refine rBlock ?_
        refine rSeq ?_
        replace hT := sIf hT; obtain ⟨⟨o1, o2, o3⟩, hT⟩ := hT
        refine zReg md0 hX rfl rfl rfl ?_
        refine rThen ?_
        refine rSeq ?_
        let x2 := (bif (decide ((a3.getD (s1).toNat 0) < (-32))) then true else (decide ((31 : Int) < (a3.getD (s1).toNat 0))))
        refine zReg md0 hX rfl rfl rfl ?_
        refine rThen ?_
        refine zCond rfl rfl (fun hc => ?_) (fun hc => ?_)
        · replace hT := sT hc hT
          refine rSeq ?_
          refine zReg md0 hX rfl rfl rfl ?_
          refine rThen ?_
          refine rRet ?_
          refine rInRet ?_
          refine rThenRet ?_
          refine rThenRet ?_
          exact zTo [] 0 hε (hxs10 _ (houts1 _ (Option.some.inj hT).symm))
        · replace hT := sF hc hT
          refine rSkip ?_
          refine rInNormal ?_
          refine rThen ?_
          replace hT := sIf hT; obtain ⟨o1, hT⟩ := hT
          refine zReg md0 hX rfl rfl rfl ?_
          exact hnexts1 _ (Option.some.inj hT).symm _ (To.mk' [] 0 hε rfl (by repeat' first | exact True.intro | exact rfl | apply And.intro) (by repeat' first | exact True.intro | exact rfl | apply And.intro))
      · replace hT := sF hc hT
        refine rExit ?_
        refine rThenExit ?_
        refine rThenExit ?_
        exact zTo [] 0 hε (hxs11 _ (houts1 _ (Option.some.inj hT).symm))
  · cases h
def law18_lives (N : Nat) : Option Bool :=
  let c1 := (motion_Chroma N 3)
  let c2 := (motion_Chroma N (-5))
  let c3 := (motion_May N 6 0 (((List.replicate 2 0).set 0 (-1)).set 1 0))
  let c4 := (motion_May N 6 0 (((List.replicate 2 0).set 0 31).set 1 0))
  let x1 := (bif (bif (bif (decide ((c1.getD default) = 1)) then (decide ((c2.getD default) = (-3))) else false) then (!(c3.getD default)) else false) then (c4.getD default) else false)
  if c1.isSome = true ∧ ((decide ((c1.getD default) = 1)) = true → c2.isSome = true) ∧ ((bif (decide ((c1.getD default) = 1)) then (decide ((c2.getD default) = (-3))) else false) = true → c3.isSome = true) ∧ ((bif (bif (decide ((c1.getD default) = 1)) then (decide ((c2.getD default) = (-3))) else false) then (!(c3.getD default)) else false) = true → c4.isSome = true) then
    some x1
  else none
def sp_law18_lives (N : Nat) : X.Spec := fun args lk => match args with
  | [] => some ⟨(law18_lives N).isSome = true, .v (.c (.bool ((law18_lives N).getD default))), [], []⟩
  | _ => none
set_option maxRecDepth 100000 in
set_option maxHeartbeats 1000000 in
theorem ok_law18_lives (N : Nat) : FnOK Try.prog gt0 13 (sp_law18_lives N) := by
  refine fnOK_handed Try.func13 rfl (by kernel_rfl) tt_ok (ktCons (ok_motion_May N) (ktCons (ok_motion_Chroma N) (ktNil))) ?_
  intro args lk r h hp
  unfold sp_law18_lives at h
  split at h
  · skip
    cases h
    obtain ⟨x, hx⟩ := Option.isSome_iff_exists.1 hp
    simp only [hx, Option.getD_some]
    refine hand0 rfl rfl (fun w0 M ε0 hX => ?_)
    refine rCount (fun hε => ?_)
    have hT : law18_lives N = some x := hx; clear hx hp; unfold law18_lives at hT
    refine rSeq ?_
    refine zReg md0 hX rfl rfl rfl ?_
    refine rThen ?_
    refine rSeq ?_
    let c1 := (motion_Chroma N 3)
    let c2 := (motion_Chroma N (-5))
    let c3 := (motion_May N 6 0 (((List.replicate 2 0).set 0 (-1)).set 1 0))
    let c4 := (motion_May N 6 0 (((List.replicate 2 0).set 0 31).set 1 0))
    let x1 := (bif (bif (bif (decide ((c1.getD default) = 1)) then (decide ((c2.getD default) = (-3))) else false) then (!(c3.getD default)) else false) then (c4.getD default) else false)
    replace hT := sIf hT; obtain ⟨⟨o1, o2, o3, o4⟩, hT⟩ := hT
    refine rRegC md0 hX rfl rfl rfl (by (repeat' first | exact True.intro | with_reducible assumption | (with_reducible apply And.intro) | intro _) <;> first | assumption | exact o2 (by assumption) | exact o3 (by assumption) | exact o4 (by assumption) | exact rfl | omega | exact Nat.le_of_ble_eq_true rfl | exact selF (by assumption) | exact selT (by assumption) | exact And.intro rfl rfl | exact And.intro (by assumption) rfl | exact And.intro (by omega) rfl | (simp only [inK] at *; omega) | (simp_all [sel] <;> fail) | fail) ?_
    refine rThen ?_
    refine rRet ?_
    have hy := Option.some.inj hT; subst hy
    exact zEnd0 hX rfl
  · cases h
def planes_has (N : Nat) (a1 : Int) (a2 : Int) : Option Bool :=
  let c1 := (formats_Cells N a1)
  if c1.isSome = true then
    let x1 := (bif (decide ((0 : Int) ≤ a2)) then (decide (a2 < ((c1.getD default).1 * (c1.getD default).2))) else false)
    if ((decide ((0 : Int) ≤ a2)) = true → inK .i64 ((c1.getD default).1 * (c1.getD default).2)) then
      some x1
    else none
  else none
def sp_planes_has (N : Nat) : X.Spec := fun args lk => match args with
  | [.v (.c (.int .i64 a1)), .v (.c (.int .i64 a2))] => some ⟨(planes_has N a1 a2).isSome = true, .v (.c (.bool ((planes_has N a1 a2).getD default))), [], []⟩
  | _ => none
set_option maxRecDepth 100000 in
set_option maxHeartbeats 1000000 in
theorem ok_planes_has (N : Nat) : FnOK Try.prog gt0 67 (sp_planes_has N) := by
  refine fnOK_handed Try.func67 rfl (by kernel_rfl) tt_ok (ktCons (ok_formats_Cells N) (ktNil)) ?_
  intro args lk r h hp
  unfold sp_planes_has at h
  split at h
  · rename_i a1 a2
    cases h
    obtain ⟨x, hx⟩ := Option.isSome_iff_exists.1 hp
    simp only [hx, Option.getD_some]
    refine hand0 rfl rfl (fun w0 M ε0 hX => ?_)
    refine rCount (fun hε => ?_)
    have hT : planes_has N a1 a2 = some x := hx; clear hx hp; unfold planes_has at hT
    refine rSeq ?_
    refine zReg md0 hX rfl rfl rfl ?_
    refine rThen ?_
    refine rSeq ?_
    let c1 := (formats_Cells N a1)
    replace hT := sIf hT; obtain ⟨o1, hT⟩ := hT
    refine zReg md0 hX rfl rfl rfl ?_
    refine rThen ?_
    refine rSeq ?_
    let x1 := (bif (decide ((0 : Int) ≤ a2)) then (decide (a2 < ((c1.getD default).1 * (c1.getD default).2))) else false)
    replace hT := sIf hT; obtain ⟨o1, hT⟩ := hT
    refine rRegC md0 hX rfl rfl rfl (by (repeat' first | exact True.intro | with_reducible assumption | (with_reducible apply And.intro) | intro _) <;> first | assumption | exact o1 (by assumption) | exact rfl | omega | exact Nat.le_of_ble_eq_true rfl | exact selF (by assumption) | exact selT (by assumption) | exact And.intro rfl rfl | exact And.intro (by assumption) rfl | exact And.intro (by omega) rfl | (simp only [inK] at *; omega) | (simp_all [sel] <;> fail) | fail) ?_
    refine rThen ?_
    refine rRet ?_
    have hy := Option.some.inj hT; subst hy
    exact zEnd0 hX rfl
  · cases h
def planes_place (N : Nat) (a1 : Int) (a2 : Int) (a3 : Int) : Option (Int × Int × Int) :=
  let c1 := (formats_Cells N a1)
  if c1.isSome = true then
    if (0 : Int) ≤ a2 ∧ (0 : Int) < (c1.getD default).1 ∧ inK .i64 ((a2 % (c1.getD default).1) * 8) ∧ inK .i64 ((a2 / (c1.getD default).1) * 8) then
      bif (decide (a3 < 4)) then
        let c2 := (formats_Plane N a1 0)
        if c2.isSome = true then
          let x1 := ((((((2 : Int) * ((a2 / (c1.getD default).1) * 8)) + ((a3 / 2) * 8)) * (c2.getD default).1) + ((2 : Int) * ((a2 % (c1.getD default).1) * 8))) + ((a3 % 2) * 8))
          if inK .i64 ((2 : Int) * ((a2 / (c1.getD default).1) * 8)) ∧ (0 : Int) ≤ a3 ∧ inK .i64 ((a3 / 2) * 8) ∧ inK .i64 (((2 : Int) * ((a2 / (c1.getD default).1) * 8)) + ((a3 / 2) * 8)) ∧ inK .i64 ((((2 : Int) * ((a2 / (c1.getD default).1) * 8)) + ((a3 / 2) * 8)) * (c2.getD default).1) ∧ inK .i64 ((2 : Int) * ((a2 % (c1.getD default).1) * 8)) ∧ inK .i64 (((((2 : Int) * ((a2 / (c1.getD default).1) * 8)) + ((a3 / 2) * 8)) * (c2.getD default).1) + ((2 : Int) * ((a2 % (c1.getD default).1) * 8))) ∧ inK .i64 ((a3 % 2) * 8) ∧ inK .i64 ((((((2 : Int) * ((a2 / (c1.getD default).1) * 8)) + ((a3 / 2) * 8)) * (c2.getD default).1) + ((2 : Int) * ((a2 % (c1.getD default).1) * 8))) + ((a3 % 2) * 8)) then
            some (0, x1, (c2.getD default).1)
          else none
        else none
      else
        if inK .i64 (a3 - 4) ∧ inK .i64 ((a3 - 4) + 1) then
          let c3 := (formats_Plane N a1 ((a3 - 4) + 1))
          if c3.isSome = true then
            let x3 := ((((a2 / (c1.getD default).1) * 8) * (c3.getD default).1) + ((a2 % (c1.getD default).1) * 8))
            if inK .i64 (((a2 / (c1.getD default).1) * 8) * (c3.getD default).1) ∧ inK .i64 ((((a2 / (c1.getD default).1) * 8) * (c3.getD default).1) + ((a2 % (c1.getD default).1) * 8)) then
              some (((a3 - 4) + 1), x3, (c3.getD default).1)
            else none
          else none
        else none
    else none
  else none
def sp_planes_place (N : Nat) : X.Spec := fun args lk => match args with
  | [.v (.c (.int .i64 a1)), .v (.c (.int .i64 a2)), .v (.c (.int .i64 a3))] => some ⟨(planes_place N a1 a2 a3).isSome = true, .tup [.c (.int .i64 ((planes_place N a1 a2 a3).getD default).1), .c (.int .i64 ((planes_place N a1 a2 a3).getD default).2.1), .c (.int .i64 ((planes_place N a1 a2 a3).getD default).2.2)], [], []⟩
  | _ => none
set_option maxRecDepth 100000 in
set_option maxHeartbeats 1000000 in
theorem ok_planes_place (N : Nat) : FnOK Try.prog gt0 68 (sp_planes_place N) := by
  refine fnOK_handed Try.func68 rfl (by kernel_rfl) tt_ok (ktCons (ok_formats_Plane N) (ktCons (ok_formats_Cells N) (ktNil))) ?_
  intro args lk r h hp
  unfold sp_planes_place at h
  split at h
  · rename_i a1 a2 a3
    cases h
    obtain ⟨x, hx⟩ := Option.isSome_iff_exists.1 hp
    simp only [hx, Option.getD_some]
    refine hand0 rfl rfl (fun w0 M ε0 hX => ?_)
    refine rCount (fun hε => ?_)
    have hT : planes_place N a1 a2 a3 = some x := hx; clear hx hp; unfold planes_place at hT
    refine rSeq ?_
    refine zReg md0 hX rfl rfl rfl ?_
    refine rThen ?_
    refine rSeq ?_
    let c1 := (formats_Cells N a1)
    replace hT := sIf hT; obtain ⟨o1, hT⟩ := hT
    refine zReg md0 hX rfl rfl rfl ?_
    refine rThen ?_
    refine rSeq ?_
    replace hT := sIf hT; obtain ⟨⟨o1, o2, o3, o4⟩, hT⟩ := hT
    refine zDraw md0 0 [] hX mixed rfl rfl rfl rfl rfl ?_
    refine rThen ?_
    refine rSeq ?_
    refine rSeq ?_
    refine zReg md0 hX rfl rfl rfl ?_
    refine rThen ?_
    refine zCond rfl rfl (fun hc => ?_) (fun hc => ?_)
    · replace hT := sT hc hT
      refine rSeq ?_
      let c2 := (formats_Plane N a1 0)
      replace hT := sIf hT; obtain ⟨o1, hT⟩ := hT
      refine zReg md0 hX rfl rfl rfl ?_
      refine rThen ?_
      refine rSeq ?_
      let x1 := ((((((2 : Int) * ((a2 / (c1.getD default).1) * 8)) + ((a3 / 2) * 8)) * (c2.getD default).1) + ((2 : Int) * ((a2 % (c1.getD default).1) * 8))) + ((a3 % 2) * 8))
      replace hT := sIf hT; obtain ⟨⟨o1, o2, o3, o4, o5, o6, o7, o8, o9⟩, hT⟩ := hT
      refine zReg md0 hX rfl rfl rfl ?_
      refine rThen ?_
      refine rRet ?_
      refine rThenRet ?_
      have hy := Option.some.inj hT; subst hy
      exact zEnd0 hX rfl
    · replace hT := sF hc hT
      refine rSkip ?_
      refine rThen ?_
      refine rSeq ?_
      replace hT := sIf hT; obtain ⟨⟨o1, o2⟩, hT⟩ := hT
      refine zReg md0 hX rfl rfl rfl ?_
      refine rThen ?_
      refine rSeq ?_
      let c3 := (formats_Plane N a1 ((a3 - 4) + 1))
      replace hT := sIf hT; obtain ⟨o1, hT⟩ := hT
      refine zReg md0 hX rfl rfl rfl ?_
      refine rThen ?_
      refine rSeq ?_
      let x3 := ((((a2 / (c1.getD default).1) * 8) * (c3.getD default).1) + ((a2 % (c1.getD default).1) * 8))
      replace hT := sIf hT; obtain ⟨⟨o1, o2⟩, hT⟩ := hT
      refine zReg md0 hX rfl rfl rfl ?_
      refine rThen ?_
      refine rRet ?_
      have hy := Option.some.inj hT; subst hy
      exact zEnd0 hX rfl
  · cases h
def planes_Cut_b2 (N : Nat) (a2 : (List (List Int))) (s1 : (Int × (List Int))) (c3 : (Option (Int × Int × Int))) (s2 : (Int × (List Int))) : Option ((Int × (List Int)) ⊕ (Int × Bool × (List Int))) :=
  bif (decide (s2.1 < 64)) then
    let x2 := (s2.2.set ((s1.1).toNat * 64 + (s2.1).toNat) ((a2.getD (c3.getD default).1.toNat []).getD (((c3.getD default).2.1 + ((s2.1 / 8) * (c3.getD default).2.2)) + (s2.1 % 8)).toNat 0))
    if (0 : Int) ≤ (c3.getD default).1 ∧ (c3.getD default).1 < 3 ∧ (c3.getD default).1.toNat < 3 ∧ (0 : Int) ≤ s2.1 ∧ inK .i64 ((s2.1 / 8) * (c3.getD default).2.2) ∧ inK .i64 ((c3.getD default).2.1 + ((s2.1 / 8) * (c3.getD default).2.2)) ∧ inK .i64 (((c3.getD default).2.1 + ((s2.1 / 8) * (c3.getD default).2.2)) + (s2.1 % 8)) ∧ (0 : Int) ≤ (((c3.getD default).2.1 + ((s2.1 / 8) * (c3.getD default).2.2)) + (s2.1 % 8)) ∧ (((c3.getD default).2.1 + ((s2.1 / 8) * (c3.getD default).2.2)) + (s2.1 % 8)) < ((a2.getD (c3.getD default).1.toNat []).length : Int) ∧ inK .i64 ((a2.getD (c3.getD default).1.toNat []).getD (((c3.getD default).2.1 + ((s2.1 / 8) * (c3.getD default).2.2)) + (s2.1 % 8)).toNat 0) ∧ (0 : Int) ≤ s1.1 ∧ s1.1 < 6 ∧ s2.1 < 64 ∧ ((s1.1).toNat * 64 + (s2.1).toNat) < 384 then
      if inK .i64 (s2.1 + 1) then
        some (.inl ((s2.1 + 1), x2))
      else none
    else none
  else
    some (.inr (s2.1, (decide (s2.1 < 64)), s2.2))
def planes_Cut_b1 (N : Nat) (a1 : Int) (a2 : (List (List Int))) (a3 : Int) (s1 : (Int × (List Int))) : Option ((Int × (List Int)) ⊕ (List Int)) :=
  bif (decide (s1.1 < 6)) then
    let c3 := (planes_place N a1 a3 s1.1)
    if c3.isSome = true then
      (iter (planes_Cut_b2 N a2 s1 c3) N (0, s1.2)).bind fun v2 =>
        if inK .i64 (s1.1 + 1) then
          some (.inl ((s1.1 + 1), v2.2.2))
        else none
    else none
  else
    some (.inr s1.2)
def planes_Cut (N : Nat) (a1 : Int) (a2 : (List (List Int))) (a3 : Int) : Option ((List Int) × Int) :=
  let c1 := (planes_Right N a1 a2)
  let c2 := (planes_has N a1 a3)
  if c1.isSome = true ∧ ((!(!(c1.getD default))) = true → c2.isSome = true) then
    bif (bif (!(c1.getD default)) then true else (!(c2.getD default))) then
      some ((List.replicate 384 0), 1)
    else
      (iter (planes_Cut_b1 N a1 a2 a3) N (0, (List.replicate 384 0))).bind fun v1 =>
        some (v1, 0)
  else none
def sp_planes_Cut (N : Nat) : X.Spec := fun args lk => match args with
  | [.v (.agg [.cs [.int .i64 a1], .fzs 3 (.int .u8) a2]), .v (.c (.int .i64 a3))] => some ⟨(planes_Cut N a1 a2 a3).isSome = true, .tup [.agg [.ints 384 .i64 ((planes_Cut N a1 a2 a3).getD default).1], .c (.int .i64 ((planes_Cut N a1 a2 a3).getD default).2)], [], []⟩
  | _ => none
set_option maxRecDepth 100000 in
set_option maxHeartbeats 1000000 in
theorem ok_planes_Cut (N : Nat) : FnOK Try.prog gt0 25 (sp_planes_Cut N) := by
  refine fnOK_handed Try.func25 rfl (by kernel_rfl) tt_ok (ktCons (ok_planes_place N) (ktCons (ok_planes_has N) (ktCons (ok_planes_Right N) (ktNil)))) ?_
  intro args lk r h hp
  unfold sp_planes_Cut at h
  split at h
  · rename_i a1 a2 a3
    change (List (List Int)) at a2
    cases h
    obtain ⟨x, hx⟩ := Option.isSome_iff_exists.1 hp
    simp only [hx, Option.getD_some]
    refine hand0 rfl rfl (fun w0 M ε0 hX => ?_)
    refine rCount (fun hε => ?_)
    have hT : planes_Cut N a1 a2 a3 = some x := hx; clear hx hp; unfold planes_Cut at hT
    refine rSeq ?_
    refine zReg md0 hX rfl rfl rfl ?_
    refine rThen ?_
    refine rSeq ?_
    refine rSeq ?_
    let c1 := (planes_Right N a1 a2)
    let c2 := (planes_has N a1 a3)
    replace hT := sIf hT; obtain ⟨⟨o1, o2⟩, hT⟩ := hT
    refine rRegC md0 hX rfl rfl rfl (by (repeat' first | exact True.intro | with_reducible assumption | (with_reducible apply And.intro) | intro _) <;> first | assumption | exact o2 (by assumption) | exact rfl | omega | exact Nat.le_of_ble_eq_true rfl | exact selF (by assumption) | exact selT (by assumption) | exact And.intro rfl rfl | exact And.intro (by assumption) rfl | exact And.intro (by omega) rfl | (simp only [inK] at *; omega) | (simp_all [sel] <;> fail) | fail) ?_
    refine rThen ?_
    refine zCond rfl rfl (fun hc => ?_) (fun hc => ?_)
    · replace hT := sT hc hT
      refine rSeq ?_
      refine zReg md0 hX rfl rfl rfl ?_
      refine rThen ?_
      refine rRet ?_
      refine rThenRet ?_
      have hy := Option.some.inj hT; subst hy
      exact zEnd0 hX rfl
    · replace hT := sF hc hT
      refine rSkip ?_
      refine rThen ?_
      refine rSeq ?_
      refine zReg md0 hX rfl rfl rfl ?_
      refine rThen ?_
      refine rSeq ?_
      refine rSeq ?_
      refine zReg md0 hX rfl rfl rfl ?_
      refine rThen ?_
      refine rBlock ?_
      replace hT := sBind hT; obtain ⟨w1, hl, hT⟩ := hT
      refine rJoinA (fun v1 => v1 = w1) (fun v1 => ⟨[(4, .v (.c (.ptr 1 0 0 0 0 0))), (5, .v (.c (.int .i64 0))), (6, .v (.c (.ptr 2 0 0 0 0 0)))], [(1, .mem true 31 none (.flat [.ints 384 .i64 (List.replicate 384 0)])), (2, .mem true 31 none (.flat [.ints 384 .i64 v1]))], 3⟩) (.exit 0) (fun v1 hv => ?_) (fun hxs10 => ?_)
      · subst hv; clear hl
        refine rInHit ?_
        refine rThen ?_
        refine rSeq ?_
        refine zReg md0 hX rfl rfl rfl ?_
        refine rThen ?_
        refine rRet ?_
        have hy := Option.some.inj hT; subst hy
        exact zEnd0 hX rfl
      refine rLoopM (planes_Cut_b1 N a1 a2 a3) (fun s1 => ⟨[(1, .v (.c (.int .i64 a3))), (2, .v (.c (.ptr 0 0 0 0 0 0))), (4, .v (.c (.ptr 1 0 0 0 0 0))), (5, .v (.c (.int .i64 0))), (6, .v (.c (.ptr 2 0 0 0 0 0))), (23, .v (.c (.int .i64 s1.1)))], [(0, .mem true 25 none (.flat [.cs [.int .i64 a1], .fzs 3 (.int .u8) a2])), (1, .mem true 31 none (.flat [.ints 384 .i64 (List.replicate 384 0)])), (2, .mem true 31 none (.flat [.ints 384 .i64 s1.2]))], 3⟩) hl (To.mk' [] 0 hε rfl (by repeat' first | exact True.intro | exact rfl | apply And.intro) (by repeat' first | exact True.intro | exact rfl | apply And.intro)) (fun s1 zs1 NNs1 hz hnexts1 houts1 => ?_)
      clear hl hT
      have hT := hz; clear hz
      refine rSeq ?_
      refine zReg md0 hX rfl rfl rfl ?_
      refine rThen ?_
      refine rSeq ?_
      refine zCond rfl rfl (fun hc => ?_) (fun hc => ?_)
      · replace hT := sT hc hT
        refine rSkip ?_
        refine rThen ?_
        refine rSeq ?_
        refine rBlock ?_
        refine rSeq ?_
        refine zReg md0 hX rfl rfl rfl ?_
        refine rThen ?_
        refine rSeq ?_
        let c3 := (planes_place N a1 a3 s1.1)
        replace hT := sIf hT; obtain ⟨o1, hT⟩ := hT
        refine zReg md0 hX rfl rfl rfl ?_
        refine rThen ?_
        refine rSeq ?_
        refine zReg md0 hX rfl rfl rfl ?_
        refine rThen ?_
        refine rBlock ?_
        replace hT := sBind hT; obtain ⟨w2, hl, hT⟩ := hT
        refine rJoinA (fun v2 => v2 = w2) (fun v2 => ⟨[(1, .v (.c (.int .i64 a3))), (2, .v (.c (.ptr 0 0 0 0 0 0))), (4, .v (.c (.ptr 1 0 0 0 0 0))), (5, .v (.c (.int .i64 0))), (6, .v (.c (.ptr 2 0 0 0 0 0))), (7, .v (.c (.int .i64 s1.1))), (8, .v (.c (.int .i64 (c3.getD default).1))), (9, .v (.c (.int .i64 (c3.getD default).2.1))), (10, .v (.c (.int .i64 (c3.getD default).2.2))), (23, .v (.c (.int .i64 s1.1))), (24, .v (.c (.bool (decide (s1.1 < 6))))), (25, .v (.c (.int .i64 s1.1))), (26, .tup [.c (.int .i64 (c3.getD default).1), .c (.int .i64 (c3.getD default).2.1), .c (.int .i64 (c3.getD default).2.2)]), (27, .v (.c (.ptr 0 0 0 0 0 0))), (28, .v (.c (.int .i64 a1))), (29, .v (.c (.int .i64 a3))), (30, .v (.c (.int .i64 s1.1))), (31, .tup [.c (.int .i64 (c3.getD default).1), .c (.int .i64 (c3.getD default).2.1), .c (.int .i64 (c3.getD default).2.2)]), (32, .v (.c (.int .i64 (c3.getD default).1))), (33, .v (.c (.int .i64 (c3.getD default).2.1))), (34, .v (.c (.int .i64 (c3.getD default).2.2))), (35, .v (.c (.int .i64 v2.1))), (36, .v (.c (.bool v2.2.1)))], [(0, .mem true 25 none (.flat [.cs [.int .i64 a1], .fzs 3 (.int .u8) a2])), (1, .mem true 31 none (.flat [.ints 384 .i64 (List.replicate 384 0)])), (2, .mem true 31 none (.flat [.ints 384 .i64 v2.2.2]))], 3⟩) (.exit 2) (fun v2 hv => ?_) (fun hxs20 => ?_)
        · subst hv; clear hl
          refine rInHit ?_
          refine rInNormal ?_
          refine rThen ?_
          replace hT := sIf hT; obtain ⟨o1, hT⟩ := hT
          refine zReg md0 hX rfl rfl rfl ?_
          exact hnexts1 _ (Option.some.inj hT).symm _ (To.mk' [] 0 hε rfl (by repeat' first | exact True.intro | exact rfl | apply And.intro) (by repeat' first | exact True.intro | exact rfl | apply And.intro))
        refine rLoopM (planes_Cut_b2 N a2 s1 c3) (fun s2 => ⟨[(1, .v (.c (.int .i64 a3))), (2, .v (.c (.ptr 0 0 0 0 0 0))), (4, .v (.c (.ptr 1 0 0 0 0 0))), (5, .v (.c (.int .i64 0))), (6, .v (.c (.ptr 2 0 0 0 0 0))), (7, .v (.c (.int .i64 s1.1))), (8, .v (.c (.int .i64 (c3.getD default).1))), (9, .v (.c (.int .i64 (c3.getD default).2.1))), (10, .v (.c (.int .i64 (c3.getD default).2.2))), (23, .v (.c (.int .i64 s1.1))), (24, .v (.c (.bool (decide (s1.1 < 6))))), (25, .v (.c (.int .i64 s1.1))), (26, .tup [.c (.int .i64 (c3.getD default).1), .c (.int .i64 (c3.getD default).2.1), .c (.int .i64 (c3.getD default).2.2)]), (27, .v (.c (.ptr 0 0 0 0 0 0))), (28, .v (.c (.int .i64 a1))), (29, .v (.c (.int .i64 a3))), (30, .v (.c (.int .i64 s1.1))), (31, .tup [.c (.int .i64 (c3.getD default).1), .c (.int .i64 (c3.getD default).2.1), .c (.int .i64 (c3.getD default).2.2)]), (32, .v (.c (.int .i64 (c3.getD default).1))), (33, .v (.c (.int .i64 (c3.getD default).2.1))), (34, .v (.c (.int .i64 (c3.getD default).2.2))), (35, .v (.c (.int .i64 s2.1)))], [(0, .mem true 25 none (.flat [.cs [.int .i64 a1], .fzs 3 (.int .u8) a2])), (1, .mem true 31 none (.flat [.ints 384 .i64 (List.replicate 384 0)])), (2, .mem true 31 none (.flat [.ints 384 .i64 s2.2]))], 3⟩) hl (To.mk' [] 0 hε rfl (by repeat' first | exact True.intro | exact rfl | apply And.intro) (by repeat' first | exact True.intro | exact rfl | apply And.intro)) (fun s2 zs2 NNs2 hz hnexts2 houts2 => ?_)
        clear hl hT
        have hT := hz; clear hz
        refine rSeq ?_
        refine zReg md0 hX rfl rfl rfl ?_
        refine rThen ?_
        refine rSeq ?_
        refine zCond rfl rfl (fun hc => ?_) (fun hc => ?_)
        · replace hT := sT hc hT
          refine rSkip ?_
          refine rThen ?_
          refine rSeq ?_
          refine rBlock ?_
          refine rSeq ?_
          refine zReg md0 hX rfl rfl rfl ?_
          refine rThen ?_
          let x2 := (s2.2.set ((s1.1).toNat * 64 + (s2.1).toNat) ((a2.getD (c3.getD default).1.toNat []).getD (((c3.getD default).2.1 + ((s2.1 / 8) * (c3.getD default).2.2)) + (s2.1 % 8)).toNat 0))
          replace hT := sIf hT; obtain ⟨⟨o1, o2, o3, o4, o5, o6, o7, o8, o9, o10, o11, o12, o13, o14⟩, hT⟩ := hT
          refine zDraw md0 1 [20] hX mixed rfl rfl rfl rfl rfl ?_
          refine rInNormal ?_
          refine rThen ?_
          replace hT := sIf hT; obtain ⟨o1, hT⟩ := hT
          refine zReg md0 hX rfl rfl rfl ?_
          exact hnexts2 _ (Option.some.inj hT).symm _ (To.mk' [] 0 hε rfl (by repeat' first | exact True.intro | exact rfl | apply And.intro) (by repeat' first | exact True.intro | exact rfl | apply And.intro))
        · replace hT := sF hc hT
          refine rExit ?_
          refine rThenExit ?_
          refine rThenExit ?_
          exact zTo [] 0 hε (hxs20 _ (houts2 _ (Option.some.inj hT).symm))
      · replace hT := sF hc hT
        refine rExit ?_
        refine rThenExit ?_
        refine rThenExit ?_
        exact zTo [] 0 hε (hxs10 _ (houts1 _ (Option.some.inj hT).symm))
  · cases h
def motion_halves (N : Nat) (a1 : (List Int)) (a2 : Int) : Option ((List Int) × Int) :=
  some (a1, a2)
def sp_motion_halves (N : Nat) : X.Spec := fun args lk => match args with
  | [.v (.c (.fz (.int .u8) a1)), .v (.c (.int .i64 a2))] => some ⟨(motion_halves N a1 a2).isSome = true, .v (.c (.clo 73 [0])), [.mem true 87 none (.flat [.cs [.clo 72 [1, 2]]]), .mem true 22 none (.flat [.cs [.fz (.int .u8) ((motion_halves N a1 a2).getD default).1]]), .mem true 3 none (.flat [.cs [.int .i64 ((motion_halves N a1 a2).getD default).2]])], []⟩
  | _ => none
set_option maxRecDepth 100000 in
set_option maxHeartbeats 1000000 in
theorem ok_motion_halves (N : Nat) : FnOK Try.prog gt0 52 (sp_motion_halves N) := by
  refine fnOK_handed Try.func52 rfl (by kernel_rfl) tt_ok (ktNil) ?_
  intro args lk r h hp
  unfold sp_motion_halves at h
  split at h
  · rename_i a1 a2
    change (List Int) at a1
    cases h
    obtain ⟨x, hx⟩ := Option.isSome_iff_exists.1 hp
    simp only [hx, Option.getD_some]
    refine hand0 rfl rfl (fun w0 M ε0 hX => ?_)
    refine rCount (fun hε => ?_)
    have hT : motion_halves N a1 a2 = some x := hx; clear hx hp; unfold motion_halves at hT
    refine rSeq ?_
    refine zReg md0 hX rfl rfl rfl ?_
    refine rThen ?_
    refine rSeq ?_
    refine zReg md0 hX rfl rfl rfl ?_
    refine rThen ?_
    refine rSeq ?_
    refine zReg md0 hX rfl rfl rfl ?_
    refine rThen ?_
    refine rRet ?_
    have hy := Option.some.inj hT; subst hy
    exact rEndA [2, 0, 1] [.mem true 87 none (.flat [.cs [.clo 72 [0, 1]]]), .mem true 22 none (.flat [.cs [.fz (.int .u8) a1]]), .mem true 3 none (.flat [.cs [.int .i64 a2]])] [] (.v (.c (.clo 73 [2]))) hX rfl (by repeat' first | exact True.intro | exact rfl | apply And.intro | omega | exact Nat.le_of_ble_eq_true rfl) (by repeat' first | exact True.intro | exact rfl | apply And.intro) rfl rfl rfl (by repeat' first | exact True.intro | exact rfl | exact ⟨_, rfl, rfl⟩ | apply And.intro | exact Or.inl rfl) rfl rfl (by repeat' first | exact True.intro | exact rfl | exact ⟨_, rfl, rfl⟩ | apply And.intro | exact Or.inl rfl) rfl rfl
  · cases h
def motion_halves_1 (N : Nat) (a1 : Int) (a2 : Int) (a3 : (List Int)) (a4 : Int) : Option Int :=
  if inK .i64 (a2 * a4) ∧ inK .i64 ((a2 * a4) + a1) ∧ (0 : Int) ≤ ((a2 * a4) + a1) ∧ ((a2 * a4) + a1) < (a3.length : Int) ∧ inK .i64 (a3.getD ((a2 * a4) + a1).toNat 0) then
    some (a3.getD ((a2 * a4) + a1).toNat 0)
  else none
def sp_motion_halves_1 (N : Nat) : X.Spec := fun args lk => match args with
  | [.v (.c (.int .i64 a1)), .v (.c (.int .i64 a2)), .v (.c (.ptr i0 0 0 0 0 0)), .v (.c (.ptr i1 0 0 0 0 0))] => (match lk i0 with
    | some (.mem _ _ _ (.flat [.cs [.fz (.int .u8) a3]])) => (match lk i1 with
    | some (.mem _ _ _ (.flat [.cs [.int .i64 a4]])) => some ⟨(motion_halves_1 N a1 a2 a3 a4).isSome = true, .v (.c (.int .i64 ((motion_halves_1 N a1 a2 a3 a4).getD default))), [], []⟩
    | _ => none)
    | _ => none)
  | _ => none
set_option maxRecDepth 100000 in
set_option maxHeartbeats 1000000 in
theorem ok_motion_halves_1 (N : Nat) : FnOK Try.prog gt0 72 (sp_motion_halves_1 N) := by
  refine fnOK_handed Try.func72 rfl (by kernel_rfl) tt_ok (ktNil) ?_
  intro args lk r h hp
  unfold sp_motion_halves_1 at h
  split at h
  · rename_i a1 a2 i0 i1
    split at h
    · rename_i _ _ _ a3 hl0
      split at h
      · rename_i _ _ _ a4 hl1
        change (List Int) at a3
        cases h
        obtain ⟨x, hx⟩ := Option.isSome_iff_exists.1 hp
        simp only [hx, Option.getD_some]
        refine handL [i0, i1] 2 [(0, .mem false 22 none (.flat [.cs [.fz (.int .u8) a3]])), (1, .mem false 3 none (.flat [.cs [.int .i64 a4]]))] [.v (.c (.int .i64 a1)), .v (.c (.int .i64 a2)), .v (.c (.ptr 0 0 0 0 0 0)), .v (.c (.ptr 1 0 0 0 0 0))] rfl rfl rfl ⟨isSome_of hl1, isSome_of hl0, trivial⟩ ⟨⟨rfl, (by repeat' first | exact True.intro | exact rfl | exact ⟨_, rfl, rfl⟩ | apply And.intro | exact Or.inl rfl), _, hl0, sub_ro⟩, ⟨rfl, (by repeat' first | exact True.intro | exact rfl | exact ⟨_, rfl, rfl⟩ | apply And.intro | exact Or.inl rfl), _, hl1, sub_ro⟩, trivial⟩ rfl (fun w0 M ε0 hX => ?_)
        refine rCount (fun hε => ?_)
        have hT : motion_halves_1 N a1 a2 a3 a4 = some x := hx; clear hx hp; unfold motion_halves_1 at hT
        refine rSeq ?_
        refine zReg md0 hX rfl rfl rfl ?_
        refine rThen ?_
        refine rSeq ?_
        replace hT := sIf hT; obtain ⟨⟨o1, o2, o3, o4, o5⟩, hT⟩ := hT
        refine zReg md0 hX rfl rfl rfl ?_
        refine rThen ?_
        refine rRet ?_
        have hy := Option.some.inj hT; subst hy
        exact zEnd0 hX rfl
      · cases h
    · cases h
  · cases h
def motion_halves_2 (N : Nat) (a1 : Int) (a2 : Int) (a3 : (List Int)) (a4 : Int) : Option Int :=
  if (0 : Int) ≤ a1 ∧ (0 : Int) ≤ a2 then
    if (0 : Int) ≤ a1 ∧ ((decide ((a1 % 2) = 0)) = true → (0 : Int) ≤ a2) then
      bif (bif (decide ((a1 % 2) = 0)) then (decide ((a2 % 2) = 0)) else false) then
        let c1 := (motion_halves_1 N (a1 / 2) (a2 / 2) a3 a4)
        if c1.isSome = true then
          some (c1.getD default)
        else none
      else
        if (0 : Int) ≤ a2 then
          bif (decide ((a2 % 2) = 0)) then
            let c2 := (motion_halves_1 N (a1 / 2) (a2 / 2) a3 a4)
            let c3 := (motion_halves_1 N ((a1 / 2) + 1) (a2 / 2) a3 a4)
            if c2.isSome = true ∧ inK .i64 ((a1 / 2) + 1) ∧ c3.isSome = true ∧ inK .i64 ((c2.getD default) + (c3.getD default)) ∧ inK .i64 (((c2.getD default) + (c3.getD default)) + 1) ∧ (0 : Int) ≤ (((c2.getD default) + (c3.getD default)) + 1) then
              some ((((c2.getD default) + (c3.getD default)) + 1) / 2)
            else none
          else
            if (0 : Int) ≤ a1 then
              bif (decide ((a1 % 2) = 0)) then
                let c4 := (motion_halves_1 N (a1 / 2) (a2 / 2) a3 a4)
                let c5 := (motion_halves_1 N (a1 / 2) ((a2 / 2) + 1) a3 a4)
                if c4.isSome = true ∧ inK .i64 ((a2 / 2) + 1) ∧ c5.isSome = true ∧ inK .i64 ((c4.getD default) + (c5.getD default)) ∧ inK .i64 (((c4.getD default) + (c5.getD default)) + 1) ∧ (0 : Int) ≤ (((c4.getD default) + (c5.getD default)) + 1) then
                  some ((((c4.getD default) + (c5.getD default)) + 1) / 2)
                else none
              else
                let c6 := (motion_halves_1 N (a1 / 2) (a2 / 2) a3 a4)
                let c7 := (motion_halves_1 N ((a1 / 2) + 1) (a2 / 2) a3 a4)
                let c8 := (motion_halves_1 N (a1 / 2) ((a2 / 2) + 1) a3 a4)
                let c9 := (motion_halves_1 N ((a1 / 2) + 1) ((a2 / 2) + 1) a3 a4)
                let x1 := ((((((c6.getD default) + (c7.getD default)) + (c8.getD default)) + (c9.getD default)) + 2) / 4)
                if c6.isSome = true ∧ inK .i64 ((a1 / 2) + 1) ∧ c7.isSome = true ∧ inK .i64 ((c6.getD default) + (c7.getD default)) ∧ inK .i64 ((a2 / 2) + 1) ∧ c8.isSome = true ∧ inK .i64 (((c6.getD default) + (c7.getD default)) + (c8.getD default)) ∧ c9.isSome = true ∧ inK .i64 ((((c6.getD default) + (c7.getD default)) + (c8.getD default)) + (c9.getD default)) ∧ inK .i64 (((((c6.getD default) + (c7.getD default)) + (c8.getD default)) + (c9.getD default)) + 2) ∧ (0 : Int) ≤ (((((c6.getD default) + (c7.getD default)) + (c8.getD default)) + (c9.getD default)) + 2) then
                  some x1
                else none
            else none
        else none
    else none
  else none
def sp_motion_halves_2 (N : Nat) : X.Spec := fun args lk => match args with
  | [.v (.c (.int .i64 a1)), .v (.c (.int .i64 a2)), .v (.c (.ptr i0 0 0 0 0 0))] => (match lk i0 with
    | some (.mem _ _ _ (.flat [.cs [.clo 72 [i1, i2]]])) => (match lk i1 with
    | some (.mem _ _ _ (.flat [.cs [.fz (.int .u8) a3]])) => (match lk i2 with
    | some (.mem _ _ _ (.flat [.cs [.int .i64 a4]])) => some ⟨(motion_halves_2 N a1 a2 a3 a4).isSome = true, .v (.c (.int .i64 ((motion_halves_2 N a1 a2 a3 a4).getD default))), [], []⟩
    | _ => none)
    | _ => none)
    | _ => none)
  | _ => none
set_option maxRecDepth 100000 in
set_option maxHeartbeats 1000000 in
theorem ok_motion_halves_2 (N : Nat) : FnOK Try.prog gt0 73 (sp_motion_halves_2 N) := by
  refine fnOK_handed Try.func73 rfl (by kernel_rfl) tt_ok (ktCons (ok_motion_halves_1 N) (ktNil)) ?_
  intro args lk r h hp
  unfold sp_motion_halves_2 at h
  split at h
  · rename_i a1 a2 i0
    split at h
    · rename_i _ _ _ i1 i2 hl0
      split at h
      · rename_i _ _ _ a3 hl1
        split at h
        · rename_i _ _ _ a4 hl2
          change (List Int) at a3
          cases h
          obtain ⟨x, hx⟩ := Option.isSome_iff_exists.1 hp
          simp only [hx, Option.getD_some]
          refine handL [i0, i1, i2] 3 [(0, .mem false 87 none (.flat [.cs [.clo 72 [1, 2]]])), (1, .mem false 22 none (.flat [.cs [.fz (.int .u8) a3]])), (2, .mem false 3 none (.flat [.cs [.int .i64 a4]]))] [.v (.c (.int .i64 a1)), .v (.c (.int .i64 a2)), .v (.c (.ptr 0 0 0 0 0 0))] rfl rfl rfl ⟨isSome_of hl2, isSome_of hl1, isSome_of hl0, trivial⟩ ⟨⟨rfl, (by repeat' first | exact True.intro | exact rfl | exact ⟨_, rfl, rfl⟩ | apply And.intro | exact Or.inl rfl), _, hl0, sub_ro⟩, ⟨rfl, (by repeat' first | exact True.intro | exact rfl | exact ⟨_, rfl, rfl⟩ | apply And.intro | exact Or.inl rfl), _, hl1, sub_ro⟩, ⟨rfl, (by repeat' first | exact True.intro | exact rfl | exact ⟨_, rfl, rfl⟩ | apply And.intro | exact Or.inl rfl), _, hl2, sub_ro⟩, trivial⟩ rfl (fun w0 M ε0 hX => ?_)
          refine rCount (fun hε => ?_)
          have hT : motion_halves_2 N a1 a2 a3 a4 = some x := hx; clear hx hp; unfold motion_halves_2 at hT
          refine rSeq ?_
          refine zReg md0 hX rfl rfl rfl ?_
          refine rThen ?_
          refine rSeq ?_
          replace hT := sIf hT; obtain ⟨⟨o1, o2⟩, hT⟩ := hT
          refine zReg md0 hX rfl rfl rfl ?_
          refine rThen ?_
          refine rSeq ?_
          refine rBlock ?_
          refine rSeq ?_
          replace hT := sIf hT; obtain ⟨⟨o1, o2⟩, hT⟩ := hT
          refine rRegC md0 hX rfl rfl rfl (by (repeat' first | exact True.intro | with_reducible assumption | (with_reducible apply And.intro) | intro _) <;> first | assumption | exact o2 (by assumption) | exact rfl | omega | exact Nat.le_of_ble_eq_true rfl | exact selF (by assumption) | exact selT (by assumption) | exact And.intro rfl rfl | exact And.intro (by assumption) rfl | exact And.intro (by omega) rfl | (simp only [inK] at *; omega) | (simp_all [sel] <;> fail) | fail) ?_
          refine rThen ?_
          refine zCond rfl rfl (fun hc => ?_) (fun hc => ?_)
          · replace hT := sT hc hT
            refine rSeq ?_
            let c1 := (motion_halves_1 N (a1 / 2) (a2 / 2) a3 a4)
            replace hT := sIf hT; obtain ⟨o1, hT⟩ := hT
            refine zReg md0 hX rfl rfl rfl ?_
            refine rThen ?_
            refine rRet ?_
            refine rInRet ?_
            refine rThenRet ?_
            have hy := Option.some.inj hT; subst hy
            exact zEnd0 hX rfl
          · replace hT := sF hc hT
            refine rSeq ?_
            replace hT := sIf hT; obtain ⟨o1, hT⟩ := hT
            refine zReg md0 hX rfl rfl rfl ?_
            refine rThen ?_
            refine zCond rfl rfl (fun hc => ?_) (fun hc => ?_)
            · replace hT := sT hc hT
              refine rSeq ?_
              let c2 := (motion_halves_1 N (a1 / 2) (a2 / 2) a3 a4)
              let c3 := (motion_halves_1 N ((a1 / 2) + 1) (a2 / 2) a3 a4)
              replace hT := sIf hT; obtain ⟨⟨o1, o2, o3, o4, o5, o6⟩, hT⟩ := hT
              refine zDraw md0 0 [] hX mixed rfl rfl rfl rfl rfl ?_
              refine rThen ?_
              refine rRet ?_
              refine rInRet ?_
              refine rThenRet ?_
              have hy := Option.some.inj hT; subst hy
              exact zEnd0 hX rfl
            · replace hT := sF hc hT
              refine rSeq ?_
              replace hT := sIf hT; obtain ⟨o1, hT⟩ := hT
              refine zReg md0 hX rfl rfl rfl ?_
              refine rThen ?_
              refine zCond rfl rfl (fun hc => ?_) (fun hc => ?_)
              · replace hT := sT hc hT
                refine rSeq ?_
                let c4 := (motion_halves_1 N (a1 / 2) (a2 / 2) a3 a4)
                let c5 := (motion_halves_1 N (a1 / 2) ((a2 / 2) + 1) a3 a4)
                replace hT := sIf hT; obtain ⟨⟨o1, o2, o3, o4, o5, o6⟩, hT⟩ := hT
                refine zDraw md0 0 [] hX mixed rfl rfl rfl rfl rfl ?_
                refine rThen ?_
                refine rRet ?_
                refine rInRet ?_
                refine rThenRet ?_
                have hy := Option.some.inj hT; subst hy
                exact zEnd0 hX rfl
              · replace hT := sF hc hT
                refine rSkip ?_
                refine rInNormal ?_
                refine rThen ?_
                refine rSeq ?_
                let c6 := (motion_halves_1 N (a1 / 2) (a2 / 2) a3 a4)
                let c7 := (motion_halves_1 N ((a1 / 2) + 1) (a2 / 2) a3 a4)
                let c8 := (motion_halves_1 N (a1 / 2) ((a2 / 2) + 1) a3 a4)
                let c9 := (motion_halves_1 N ((a1 / 2) + 1) ((a2 / 2) + 1) a3 a4)
                let x1 := ((((((c6.getD default) + (c7.getD default)) + (c8.getD default)) + (c9.getD default)) + 2) / 4)
                replace hT := sIf hT; obtain ⟨⟨o1, o2, o3, o4, o5, o6, o7, o8, o9, o10, o11⟩, hT⟩ := hT
                refine zDraw md0 0 [] hX mixed rfl rfl rfl rfl rfl ?_
                refine rThen ?_
                refine rRet ?_
                have hy := Option.some.inj hT; subst hy
                exact zEnd0 hX rfl
        · cases h
      · cases h
    · cases h
  · cases h
def motion_laid_halves_2_b1 (N : Nat) (a1 : Int) (a2 : Int) (a3 : (List Int)) (a4 : Int) (s1 : (Int × (List Int))) : Option ((Int × (List Int)) ⊕ (List Int)) :=
  bif (decide (s1.1 < 64)) then
    let c1 := (motion_halves_2 N (a1 + ((2 : Int) * (s1.1 % 8))) (a2 + ((2 : Int) * (s1.1 / 8))) a3 a4)
    if (0 : Int) ≤ s1.1 ∧ inK .i64 ((2 : Int) * (s1.1 % 8)) ∧ inK .i64 (a1 + ((2 : Int) * (s1.1 % 8))) ∧ inK .i64 ((2 : Int) * (s1.1 / 8)) ∧ inK .i64 (a2 + ((2 : Int) * (s1.1 / 8))) ∧ c1.isSome = true ∧ s1.1 < 64 ∧ (s1.1).toNat < 64 then
      if inK .i64 (s1.1 + 1) then
        some (.inl ((s1.1 + 1), (s1.2.set (s1.1).toNat (c1.getD default))))
      else none
    else none
  else
    some (.inr s1.2)
def motion_laid_halves_2 (N : Nat) (a1 : Int) (a2 : Int) (a3 : (List Int)) (a4 : Int) : Option (List Int) :=
  (iter (motion_laid_halves_2_b1 N a1 a2 a3 a4) N (0, (List.replicate 64 0))).bind fun v1 =>
    some v1
def sp_motion_laid_halves_2 (N : Nat) : X.Spec := fun args lk => match args with
  | [.v (.c (.clo 73 [i0])), .v (.c (.int .i64 a1)), .v (.c (.int .i64 a2))] => (match lk i0 with
    | some (.mem _ _ _ (.flat [.cs [.clo 72 [i1, i2]]])) => (match lk i1 with
    | some (.mem _ _ _ (.flat [.cs [.fz (.int .u8) a3]])) => (match lk i2 with
    | some (.mem _ _ _ (.flat [.cs [.int .i64 a4]])) => some ⟨(motion_laid_halves_2 N a1 a2 a3 a4).isSome = true, .v (.agg [.ints 64 .i64 ((motion_laid_halves_2 N a1 a2 a3 a4).getD default)]), [], []⟩
    | _ => none)
    | _ => none)
    | _ => none)
  | _ => none
set_option maxRecDepth 100000 in
set_option maxHeartbeats 1000000 in
theorem ok_motion_laid_halves_2 (N : Nat) : FnOK Try.prog gt0 53 (sp_motion_laid_halves_2 N) := by
  refine fnOK_handed Try.func53 rfl (by kernel_rfl) tt_ok (ktCons (ok_motion_halves_2 N) (ktNil)) ?_
  intro args lk r h hp
  unfold sp_motion_laid_halves_2 at h
  split at h
  · rename_i i0 a1 a2
    split at h
    · rename_i _ _ _ i1 i2 hl0
      split at h
      · rename_i _ _ _ a3 hl1
        split at h
        · rename_i _ _ _ a4 hl2
          change (List Int) at a3
          cases h
          obtain ⟨x, hx⟩ := Option.isSome_iff_exists.1 hp
          simp only [hx, Option.getD_some]
          refine handL [i0, i1, i2] 3 [(0, .mem false 87 none (.flat [.cs [.clo 72 [1, 2]]])), (1, .mem false 22 none (.flat [.cs [.fz (.int .u8) a3]])), (2, .mem false 3 none (.flat [.cs [.int .i64 a4]]))] [.v (.c (.clo 73 [0])), .v (.c (.int .i64 a1)), .v (.c (.int .i64 a2))] rfl rfl rfl ⟨isSome_of hl2, isSome_of hl1, isSome_of hl0, trivial⟩ ⟨⟨rfl, (by repeat' first | exact True.intro | exact rfl | exact ⟨_, rfl, rfl⟩ | apply And.intro | exact Or.inl rfl), _, hl0, sub_ro⟩, ⟨rfl, (by repeat' first | exact True.intro | exact rfl | exact ⟨_, rfl, rfl⟩ | apply And.intro | exact Or.inl rfl), _, hl1, sub_ro⟩, ⟨rfl, (by repeat' first | exact True.intro | exact rfl | exact ⟨_, rfl, rfl⟩ | apply And.intro | exact Or.inl rfl), _, hl2, sub_ro⟩, trivial⟩ rfl (fun w0 M ε0 hX => ?_)
          refine rCount (fun hε => ?_)
          have hT : motion_laid_halves_2 N a1 a2 a3 a4 = some x := hx; clear hx hp; unfold motion_laid_halves_2 at hT
          refine rSeq ?_
          refine zReg md0 hX rfl rfl rfl ?_
          refine rThen ?_
          refine rSeq ?_
          refine zReg md0 hX rfl rfl rfl ?_
          refine rThen ?_
          refine rSeq ?_
          refine rSeq ?_
          refine zReg md0 hX rfl rfl rfl ?_
          refine rThen ?_
          refine rBlock ?_
          replace hT := sBind hT; obtain ⟨w1, hl, hT⟩ := hT
          refine rJoinA (fun v1 => v1 = w1) (fun v1 => ⟨[(6, .v (.c (.ptr 3 0 0 0 0 0))), (7, .v (.c (.ptr 4 0 0 0 0 0)))], [(0, .mem false 87 none (.flat [.cs [.clo 72 [1, 2]]])), (1, .mem false 22 none (.flat [.cs [.fz (.int .u8) a3]])), (2, .mem false 3 none (.flat [.cs [.int .i64 a4]])), (3, .mem true 29 none (.flat [.ints 64 .i64 (List.replicate 64 0)])), (4, .mem true 29 none (.flat [.ints 64 .i64 v1]))], 5⟩) (.exit 0) (fun v1 hv => ?_) (fun hxs10 => ?_)
          · subst hv; clear hl
            refine rInHit ?_
            refine rThen ?_
            refine rSeq ?_
            refine zReg md0 hX rfl rfl rfl ?_
            refine rThen ?_
            refine rRet ?_
            have hy := Option.some.inj hT; subst hy
            exact zEnd0 hX rfl
          refine rLoopM (motion_laid_halves_2_b1 N a1 a2 a3 a4) (fun s1 => ⟨[(0, .v (.c (.clo 73 [0]))), (1, .v (.c (.int .i64 a1))), (2, .v (.c (.int .i64 a2))), (6, .v (.c (.ptr 3 0 0 0 0 0))), (7, .v (.c (.ptr 4 0 0 0 0 0))), (9, .v (.c (.int .i64 s1.1)))], [(0, .mem false 87 none (.flat [.cs [.clo 72 [1, 2]]])), (1, .mem false 22 none (.flat [.cs [.fz (.int .u8) a3]])), (2, .mem false 3 none (.flat [.cs [.int .i64 a4]])), (3, .mem true 29 none (.flat [.ints 64 .i64 (List.replicate 64 0)])), (4, .mem true 29 none (.flat [.ints 64 .i64 s1.2]))], 5⟩) hl (To.mk' [] 3 hε rfl (by repeat' first | exact True.intro | exact rfl | apply And.intro) (by repeat' first | exact True.intro | exact rfl | apply And.intro)) (fun s1 zs1 NNs1 hz hnexts1 houts1 => ?_)
          clear hl hT
          have hT := hz; clear hz
          refine rSeq ?_
          refine zReg md0 hX rfl rfl rfl ?_
          refine rThen ?_
          refine rSeq ?_
          refine zCond rfl rfl (fun hc => ?_) (fun hc => ?_)
          · replace hT := sT hc hT
            refine rSkip ?_
            refine rThen ?_
            refine rSeq ?_
            refine rBlock ?_
            refine rSeq ?_
            refine zReg md0 hX rfl rfl rfl ?_
            refine rThen ?_
            let c1 := (motion_halves_2 N (a1 + ((2 : Int) * (s1.1 % 8))) (a2 + ((2 : Int) * (s1.1 / 8))) a3 a4)
            replace hT := sIf hT; obtain ⟨⟨o1, o2, o3, o4, o5, o6, o7, o8⟩, hT⟩ := hT
            refine zReg md0 hX rfl rfl rfl ?_
            refine rInNormal ?_
            refine rThen ?_
            replace hT := sIf hT; obtain ⟨o1, hT⟩ := hT
            refine zReg md0 hX rfl rfl rfl ?_
            exact hnexts1 _ (Option.some.inj hT).symm _ (To.mk' [] 3 hε rfl (by repeat' first | exact True.intro | exact rfl | apply And.intro) (by repeat' first | exact True.intro | exact rfl | apply And.intro))
          · replace hT := sF hc hT
            refine rExit ?_
            refine rThenExit ?_
            refine rThenExit ?_
            exact zTo [] 3 hε (hxs10 _ (houts1 _ (Option.some.inj hT).symm))
        · cases h
      · cases h
    · cases h
  · cases h
def motion_Predict_b1 (N : Nat) (a1 : Int) (a2 : (List (List Int))) (a3 : Int) (a4 : (List Int)) (c1 : (Option (Int × Int))) (s1 : (Int × (List Int))) : Option ((Int × (List Int)) ⊕ (List Int)) :=
  bif (decide (s1.1 < 6)) then
    if inK .i64 (s1.1 - 4) ∧ inK .i64 ((s1.1 - 4) + 1) then
      let c4 := (formats_Plane N a1 (max (0 : Int) ((s1.1 - 4) + 1)))
      if c4.isSome = true then
        let c5 := (motion_halves N (a2.getD (max (0 : Int) ((s1.1 - 4) + 1)).toNat []) (c4.getD default).1)
        if (0 : Int) ≤ (max (0 : Int) ((s1.1 - 4) + 1)) ∧ (max (0 : Int) ((s1.1 - 4) + 1)) < 3 ∧ (max (0 : Int) ((s1.1 - 4) + 1)).toNat < 3 ∧ c5.isSome = true then
          bif (decide ((max (0 : Int) ((s1.1 - 4) + 1)) = 0)) then
            let c6 := (motion_laid_halves_2 N (((2 : Int) * (((16 : Int) * (a3 % (c1.getD default).1)) + ((s1.1 % 2) * 8))) + (a4.getD 0 0)) (((2 : Int) * (((16 : Int) * (a3 / (c1.getD default).1)) + ((s1.1 / 2) * 8))) + (a4.getD 1 0)) (c5.getD default).1 (c5.getD default).2)
            if inK .i64 ((16 : Int) * (a3 % (c1.getD default).1)) ∧ (0 : Int) ≤ s1.1 ∧ inK .i64 ((s1.1 % 2) * 8) ∧ inK .i64 (((16 : Int) * (a3 % (c1.getD default).1)) + ((s1.1 % 2) * 8)) ∧ inK .i64 ((2 : Int) * (((16 : Int) * (a3 % (c1.getD default).1)) + ((s1.1 % 2) * 8))) ∧ inK .i64 (((2 : Int) * (((16 : Int) * (a3 % (c1.getD default).1)) + ((s1.1 % 2) * 8))) + (a4.getD 0 0)) ∧ inK .i64 ((16 : Int) * (a3 / (c1.getD default).1)) ∧ inK .i64 ((s1.1 / 2) * 8) ∧ inK .i64 (((16 : Int) * (a3 / (c1.getD default).1)) + ((s1.1 / 2) * 8)) ∧ inK .i64 ((2 : Int) * (((16 : Int) * (a3 / (c1.getD default).1)) + ((s1.1 / 2) * 8))) ∧ inK .i64 (((2 : Int) * (((16 : Int) * (a3 / (c1.getD default).1)) + ((s1.1 / 2) * 8))) + (a4.getD 1 0)) ∧ c6.isSome = true ∧ s1.1 < 6 ∧ (64 * (s1.1).toNat) + 64 ≤ 384 then
              if inK .i64 (s1.1 + 1) then
                some (.inl ((s1.1 + 1), (layL s1.2 (64 * (s1.1).toNat) (c6.getD default) 64)))
              else none
            else none
          else
            let c7 := (motion_Chroma N (a4.getD 0 0))
            let c8 := (motion_Chroma N (a4.getD 1 0))
            let c9 := (motion_laid_halves_2 N (((16 : Int) * (a3 % (c1.getD default).1)) + (c7.getD default)) (((16 : Int) * (a3 / (c1.getD default).1)) + (c8.getD default)) (c5.getD default).1 (c5.getD default).2)
            if inK .i64 ((16 : Int) * (a3 % (c1.getD default).1)) ∧ c7.isSome = true ∧ inK .i64 (((16 : Int) * (a3 % (c1.getD default).1)) + (c7.getD default)) ∧ inK .i64 ((16 : Int) * (a3 / (c1.getD default).1)) ∧ c8.isSome = true ∧ inK .i64 (((16 : Int) * (a3 / (c1.getD default).1)) + (c8.getD default)) ∧ c9.isSome = true ∧ (0 : Int) ≤ s1.1 ∧ s1.1 < 6 ∧ (64 * (s1.1).toNat) + 64 ≤ 384 then
              if inK .i64 (s1.1 + 1) then
                some (.inl ((s1.1 + 1), (layL s1.2 (64 * (s1.1).toNat) (c9.getD default) 64)))
              else none
            else none
        else none
      else none
    else none
  else
    some (.inr s1.2)
def motion_Predict (N : Nat) (a1 : Int) (a2 : (List (List Int))) (a3 : Int) (a4 : (List Int)) : Option ((List Int) × Int) :=
  let c1 := (formats_Cells N a1)
  if c1.isSome = true then
    let c2 := (planes_Right N a1 a2)
    if c2.isSome = true then
      if ((!(c2.getD default)) = false → ((decide (a3 < 0)) = false → inK .i64 ((c1.getD default).1 * (c1.getD default).2))) then
        let x1 := (bif (!(c2.getD default)) then (!(c2.getD default)) else (bif (decide (a3 < 0)) then (decide (a3 < 0)) else (decide (((c1.getD default).1 * (c1.getD default).2) ≤ a3))))
        bif x1 then
          some ((List.replicate 384 0), 1)
        else
          let c3 := (motion_May N a1 a3 a4)
          if c3.isSome = true then
            bif (!(c3.getD default)) then
              some ((List.replicate 384 0), 8)
            else
              if (0 : Int) ≤ a3 ∧ (0 : Int) < (c1.getD default).1 then
                (iter (motion_Predict_b1 N a1 a2 a3 a4 c1) N (0, (List.replicate 384 0))).bind fun v1 =>
                  some (v1, 0)
              else none
          else none
      else none
    else none
  else none
def sp_motion_Predict (N : Nat) : X.Spec := fun args lk => match args with
  | [.v (.agg [.cs [.int .i64 a1], .fzs 3 (.int .u8) a2]), .v (.c (.int .i64 a3)), .v (.agg [.ints 2 .i64 a4])] => some ⟨(motion_Predict N a1 a2 a3 a4).isSome = true, .tup [.agg [.ints 384 .i64 ((motion_Predict N a1 a2 a3 a4).getD default).1], .c (.int .i64 ((motion_Predict N a1 a2 a3 a4).getD default).2)], [], []⟩
  | _ => none
set_option maxRecDepth 100000 in
set_option maxHeartbeats 1000000 in
theorem ok_motion_Predict (N : Nat) : FnOK Try.prog gt0 14 (sp_motion_Predict N) := by
  refine fnOK_handed Try.func14 rfl (by kernel_rfl) tt_ok (ktCons (ok_motion_Chroma N) (ktCons (ok_motion_laid_halves_2 N) (ktCons (ok_motion_halves N) (ktCons (ok_formats_Plane N) (ktCons (ok_motion_May N) (ktCons (ok_planes_Right N) (ktCons (ok_formats_Cells N) (ktNil)))))))) ?_
  intro args lk r h hp
  unfold sp_motion_Predict at h
  split at h
  · rename_i a1 a2 a3 a4
    change (List (List Int)) at a2
    change (List Int) at a4
    cases h
    obtain ⟨x, hx⟩ := Option.isSome_iff_exists.1 hp
    simp only [hx, Option.getD_some]
    refine hand0 rfl rfl (fun w0 M ε0 hX => ?_)
    refine rCount (fun hε => ?_)
    have hT : motion_Predict N a1 a2 a3 a4 = some x := hx; clear hx hp; unfold motion_Predict at hT
    refine rSeq ?_
    refine zReg md0 hX rfl rfl rfl ?_
    refine rThen ?_
    refine rSeq ?_
    let c1 := (formats_Cells N a1)
    replace hT := sIf hT; obtain ⟨o1, hT⟩ := hT
    refine zReg md0 hX rfl rfl rfl ?_
    refine rThen ?_
    refine rSeq ?_
    refine rBlock ?_
    refine rSeq ?_
    refine rSeq ?_
    let c2 := (planes_Right N a1 a2)
    replace hT := sIf hT; obtain ⟨o1, hT⟩ := hT
    refine zReg md0 hX rfl rfl rfl ?_
    refine rThen ?_
    replace hT := sIf hT; obtain ⟨q1, hT⟩ := hT
    refine rJoin ⟨[(1, .v (.c (.int .i64 a3))), (3, .v (.c (.ptr 0 0 0 0 0 0))), (5, .v (.c (.ptr 1 0 0 0 0 0))), (6, .v (.c (.ptr 2 0 0 0 0 0))), (7, .v (.c (.int .i64 0))), (8, .v (.c (.int .i64 (c1.getD default).1))), (24, .v (.c (.bool (bif (!(c2.getD default)) then (!(c2.getD default)) else (bif (decide (a3 < 0)) then (decide (a3 < 0)) else (decide (((c1.getD default).1 * (c1.getD default).2) ≤ a3)))))))], [(0, .mem true 25 none (.flat [.cs [.int .i64 a1], .fzs 3 (.int .u8) a2])), (1, .mem true 26 none (.flat [.ints 2 .i64 a4])), (2, .mem true 31 none (.flat [.ints 384 .i64 (List.replicate 384 0)]))], 3⟩ ?_ (fun hj => ?_)
    · skip
      let x1 := (bif (!(c2.getD default)) then (!(c2.getD default)) else (bif (decide (a3 < 0)) then (decide (a3 < 0)) else (decide (((c1.getD default).1 * (c1.getD default).2) ≤ a3))))
      refine rThen ?_
      refine zCond rfl rfl (fun hc => ?_) (fun hc => ?_)
      · replace hT := sT hc hT
        refine rSeq ?_
        refine zReg md0 hX rfl rfl rfl ?_
        refine rThen ?_
        refine rRet ?_
        refine rInRet ?_
        refine rThenRet ?_
        have hy := Option.some.inj hT; subst hy
        exact zEnd0 hX rfl
      · replace hT := sF hc hT
        refine rSeq ?_
        let c3 := (motion_May N a1 a3 a4)
        replace hT := sIf hT; obtain ⟨o1, hT⟩ := hT
        refine zReg md0 hX rfl rfl rfl ?_
        refine rThen ?_
        refine zCond rfl rfl (fun hc => ?_) (fun hc => ?_)
        · replace hT := sT hc hT
          refine rSeq ?_
          refine zReg md0 hX rfl rfl rfl ?_
          refine rThen ?_
          refine rRet ?_
          refine rInRet ?_
          refine rThenRet ?_
          have hy := Option.some.inj hT; subst hy
          exact zEnd0 hX rfl
        · replace hT := sF hc hT
          refine rSkip ?_
          refine rInNormal ?_
          refine rThen ?_
          refine rSeq ?_
          refine zReg md0 hX rfl rfl rfl ?_
          refine rThen ?_
          refine rSeq ?_
          replace hT := sIf hT; obtain ⟨⟨o1, o2⟩, hT⟩ := hT
          refine zDraw md0 0 [] hX mixed rfl rfl rfl rfl rfl ?_
          refine rThen ?_
          refine rSeq ?_
          refine rSeq ?_
          refine zReg md0 hX rfl rfl rfl ?_
          refine rThen ?_
          refine rBlock ?_
          replace hT := sBind hT; obtain ⟨w1, hl, hT⟩ := hT
          refine rJoinA (fun v1 => v1 = w1) (fun v1 => ⟨[(6, .v (.c (.ptr 2 0 0 0 0 0))), (7, .v (.c (.int .i64 0))), (10, .v (.c (.ptr 3 0 0 0 0 0)))], [(2, .mem true 31 none (.flat [.ints 384 .i64 (List.replicate 384 0)])), (3, .mem true 31 none (.flat [.ints 384 .i64 v1]))], 4⟩) (.exit 1) (fun v1 hv => ?_) (fun hxs10 => ?_)
          · subst hv; clear hl
            refine rInHit ?_
            refine rThen ?_
            refine rSeq ?_
            refine zReg md0 hX rfl rfl rfl ?_
            refine rThen ?_
            refine rRet ?_
            have hy := Option.some.inj hT; subst hy
            exact zEnd0 hX rfl
          refine rLoopM (motion_Predict_b1 N a1 a2 a3 a4 c1) (fun s1 => ⟨[(3, .v (.c (.ptr 0 0 0 0 0 0))), (5, .v (.c (.ptr 1 0 0 0 0 0))), (6, .v (.c (.ptr 2 0 0 0 0 0))), (7, .v (.c (.int .i64 0))), (10, .v (.c (.ptr 3 0 0 0 0 0))), (11, .v (.c (.int .i64 (a3 % (c1.getD default).1)))), (12, .v (.c (.int .i64 (a3 / (c1.getD default).1)))), (50, .v (.c (.int .i64 s1.1)))], [(0, .mem true 25 none (.flat [.cs [.int .i64 a1], .fzs 3 (.int .u8) a2])), (1, .mem true 26 none (.flat [.ints 2 .i64 a4])), (2, .mem true 31 none (.flat [.ints 384 .i64 (List.replicate 384 0)])), (3, .mem true 31 none (.flat [.ints 384 .i64 s1.2]))], 4⟩) hl (To.mk' [] 0 hε rfl (by repeat' first | exact True.intro | exact rfl | apply And.intro) (by repeat' first | exact True.intro | exact rfl | apply And.intro)) (fun s1 zs1 NNs1 hz hnexts1 houts1 => ?_)
          clear hl hT
          have hT := hz; clear hz
          refine rSeq ?_
          refine zReg md0 hX rfl rfl rfl ?_
          refine rThen ?_
          refine rSeq ?_
          refine zCond rfl rfl (fun hc => ?_) (fun hc => ?_)
          · replace hT := sT hc hT
            refine rSkip ?_
            refine rThen ?_
            refine rSeq ?_
            refine rBlock ?_
            refine rSeq ?_
            refine zReg md0 hX rfl rfl rfl ?_
            refine rThen ?_
            refine rSeq ?_
            replace hT := sIf hT; obtain ⟨⟨o1, o2⟩, hT⟩ := hT
            refine zReg md0 hX rfl rfl rfl ?_
            refine rThen ?_
            refine rSeq ?_
            let c4 := (formats_Plane N a1 (max (0 : Int) ((s1.1 - 4) + 1)))
            replace hT := sIf hT; obtain ⟨o1, hT⟩ := hT
            refine zReg md0 hX rfl rfl rfl ?_
            refine rThen ?_
            refine rSeq ?_
            let c5 := (motion_halves N (a2.getD (max (0 : Int) ((s1.1 - 4) + 1)).toNat []) (c4.getD default).1)
            replace hT := sIf hT; obtain ⟨⟨o1, o2, o3, o4⟩, hT⟩ := hT
            refine zReg md0 hX rfl rfl rfl ?_
            refine rThen ?_
            refine rSeq ?_
            refine rSeq ?_
            refine zReg md0 hX rfl rfl rfl ?_
            refine rThen ?_
            refine zCond rfl rfl (fun hc => ?_) (fun hc => ?_)
            · replace hT := sT hc hT
              refine rSeq ?_
              let c6 := (motion_laid_halves_2 N (((2 : Int) * (((16 : Int) * (a3 % (c1.getD default).1)) + ((s1.1 % 2) * 8))) + (a4.getD 0 0)) (((2 : Int) * (((16 : Int) * (a3 / (c1.getD default).1)) + ((s1.1 / 2) * 8))) + (a4.getD 1 0)) (c5.getD default).1 (c5.getD default).2)
              replace hT := sIf hT; obtain ⟨⟨o1, o2, o3, o4, o5, o6, o7, o8, o9, o10, o11, o12, o13, o14⟩, hT⟩ := hT
              refine zReg md0 hX rfl rfl rfl ?_
              refine rThen ?_
              refine rExit ?_
              refine rThenExit ?_
              refine rInHit ?_
              refine rThen ?_
              replace hT := sIf hT; obtain ⟨o1, hT⟩ := hT
              refine zReg md0 hX rfl rfl rfl ?_
              exact hnexts1 _ (Option.some.inj hT).symm _ (To.mk' [] 0 hε rfl (by repeat' first | exact True.intro | exact rfl | apply And.intro) (by repeat' first | exact True.intro | exact rfl | apply And.intro))
            · replace hT := sF hc hT
              refine rSkip ?_
              refine rThen ?_
              let c7 := (motion_Chroma N (a4.getD 0 0))
              let c8 := (motion_Chroma N (a4.getD 1 0))
              let c9 := (motion_laid_halves_2 N (((16 : Int) * (a3 % (c1.getD default).1)) + (c7.getD default)) (((16 : Int) * (a3 / (c1.getD default).1)) + (c8.getD default)) (c5.getD default).1 (c5.getD default).2)
              replace hT := sIf hT; obtain ⟨⟨o1, o2, o3, o4, o5, o6, o7, o8, o9, o10⟩, hT⟩ := hT
              refine zDraw md0 1 [16] hX mixed rfl rfl rfl rfl rfl ?_
              refine rInNormal ?_
              refine rThen ?_
              replace hT := sIf hT; obtain ⟨o1, hT⟩ := hT
              refine zReg md0 hX rfl rfl rfl ?_
              exact hnexts1 _ (Option.some.inj hT).symm _ (To.mk' [] 0 hε rfl (by repeat' first | exact True.intro | exact rfl | apply And.intro) (by repeat' first | exact True.intro | exact rfl | apply And.intro))
          · replace hT := sF hc hT
            refine rExit ?_
            refine rThenExit ?_
            refine rThenExit ?_
            exact zTo [] 0 hε (hxs10 _ (houts1 _ (Option.some.inj hT).symm))
    · clear hT
      refine zCond rfl rfl (fun hc => ?_) (fun hc => ?_)
      · skip
        refine rSkip ?_
        exact rTo (To.mk' [] 0 hε rfl (by (repeat' first | exact True.intro | exact rfl | apply And.intro) <;> (repeat' first | exact rfl | refine Eq.trans ?_ (cTr (by assumption)) | refine Eq.trans ?_ (cFr (by assumption)) | refine Eq.trans (cTl (by assumption)) ?_ | refine Eq.trans (cFl (by assumption)) ?_)) (by (repeat' first | exact True.intro | exact rfl | apply And.intro) <;> (repeat' first | exact rfl | refine Eq.trans ?_ (cTr (by assumption)) | refine Eq.trans ?_ (cFr (by assumption)) | refine Eq.trans (cTl (by assumption)) ?_ | refine Eq.trans (cFl (by assumption)) ?_))) hj
      · skip
        have q1 := q1 hc
        refine rSeq ?_
        refine zReg md0 hX rfl rfl rfl ?_
        refine rThen ?_
        refine zCond rfl rfl (fun hc => ?_) (fun hc => ?_)
        · skip
          refine rSkip ?_
          exact rTo (To.mk' [] 0 hε rfl (by (repeat' first | exact True.intro | exact rfl | apply And.intro) <;> (repeat' first | exact rfl | refine Eq.trans ?_ (cTr (by assumption)) | refine Eq.trans ?_ (cFr (by assumption)) | refine Eq.trans (cTl (by assumption)) ?_ | refine Eq.trans (cFl (by assumption)) ?_)) (by (repeat' first | exact True.intro | exact rfl | apply And.intro) <;> (repeat' first | exact rfl | refine Eq.trans ?_ (cTr (by assumption)) | refine Eq.trans ?_ (cFr (by assumption)) | refine Eq.trans (cTl (by assumption)) ?_ | refine Eq.trans (cFl (by assumption)) ?_))) hj
        · skip
          have q1 := q1 hc
          refine zReg md0 hX rfl rfl rfl ?_
          exact rTo (To.mk' [] 0 hε rfl (by (repeat' first | exact True.intro | exact rfl | apply And.intro) <;> (repeat' first | exact rfl | refine Eq.trans ?_ (cTr (by assumption)) | refine Eq.trans ?_ (cFr (by assumption)) | refine Eq.trans (cTl (by assumption)) ?_ | refine Eq.trans (cFl (by assumption)) ?_)) (by (repeat' first | exact True.intro | exact rfl | apply And.intro) <;> (repeat' first | exact rfl | refine Eq.trans ?_ (cTr (by assumption)) | refine Eq.trans ?_ (cFr (by assumption)) | refine Eq.trans (cTl (by assumption)) ?_ | refine Eq.trans (cFl (by assumption)) ?_))) hj
  · cases h
def math_bits_Mul64 (N : Nat) (a1 : Int) (a2 : Int) : Option (Int × Int) :=
  if (0 : Int) ≤ a1 then
    if (0 : Int) ≤ a2 then
      let x1 := (((Int.toNat a1 &&& Int.toNat 4294967295 : Nat) : Int) * ((Int.toNat a2 &&& Int.toNat 4294967295 : Nat) : Int))
      if inK .u64 (((Int.toNat a1 &&& Int.toNat 4294967295 : Nat) : Int) * ((Int.toNat a2 &&& Int.toNat 4294967295 : Nat) : Int)) then
        let x2 := (((a1 / 2 ^ (Int.toNat 32)) * ((Int.toNat a2 &&& Int.toNat 4294967295 : Nat) : Int)) + (x1 / 2 ^ (Int.toNat 32)))
        if inK .u64 ((a1 / 2 ^ (Int.toNat 32)) * ((Int.toNat a2 &&& Int.toNat 4294967295 : Nat) : Int)) ∧ inK .u64 (((a1 / 2 ^ (Int.toNat 32)) * ((Int.toNat a2 &&& Int.toNat 4294967295 : Nat) : Int)) + (x1 / 2 ^ (Int.toNat 32))) then
          if (0 : Int) ≤ x2 then
            let x3 := (((Int.toNat x2 &&& Int.toNat 4294967295 : Nat) : Int) + (((Int.toNat a1 &&& Int.toNat 4294967295 : Nat) : Int) * (a2 / 2 ^ (Int.toNat 32))))
            if inK .u64 (((Int.toNat a1 &&& Int.toNat 4294967295 : Nat) : Int) * (a2 / 2 ^ (Int.toNat 32))) ∧ inK .u64 (((Int.toNat x2 &&& Int.toNat 4294967295 : Nat) : Int) + (((Int.toNat a1 &&& Int.toNat 4294967295 : Nat) : Int) * (a2 / 2 ^ (Int.toNat 32)))) then
              let x4 := ((((a1 / 2 ^ (Int.toNat 32)) * (a2 / 2 ^ (Int.toNat 32))) + (x2 / 2 ^ (Int.toNat 32))) + (x3 / 2 ^ (Int.toNat 32)))
              if inK .u64 ((a1 / 2 ^ (Int.toNat 32)) * (a2 / 2 ^ (Int.toNat 32))) ∧ inK .u64 (((a1 / 2 ^ (Int.toNat 32)) * (a2 / 2 ^ (Int.toNat 32))) + (x2 / 2 ^ (Int.toNat 32))) ∧ inK .u64 ((((a1 / 2 ^ (Int.toNat 32)) * (a2 / 2 ^ (Int.toNat 32))) + (x2 / 2 ^ (Int.toNat 32))) + (x3 / 2 ^ (Int.toNat 32))) then
                if inK .u64 (a1 * a2) then
                  some (x4, (a1 * a2))
                else none
              else none
            else none
          else none
        else none
      else none
    else none
  else none
def sp_math_bits_Mul64 (N : Nat) : X.Spec := fun args lk => match args with
  | [.v (.c (.int .u64 a1)), .v (.c (.int .u64 a2))] => some ⟨(math_bits_Mul64 N a1 a2).isSome = true, .tup [.c (.int .u64 ((math_bits_Mul64 N a1 a2).getD default).1), .c (.int .u64 ((math_bits_Mul64 N a1 a2).getD default).2)], [], []⟩
  | _ => none
set_option maxRecDepth 100000 in
set_option maxHeartbeats 1000000 in
theorem ok_math_bits_Mul64 (N : Nat) : FnOK Try.prog gt0 77 (sp_math_bits_Mul64 N) := by
  refine fnOK_handed Try.func77 rfl (by kernel_rfl) tt_ok (ktNil) ?_
  intro args lk r h hp
  unfold sp_math_bits_Mul64 at h
  split at h
  · rename_i a1 a2
    cases h
    obtain ⟨x, hx⟩ := Option.isSome_iff_exists.1 hp
    simp only [hx, Option.getD_some]
    refine hand0 rfl rfl (fun w0 M ε0 hX => ?_)
    refine rCount (fun hε => ?_)
    have hT : math_bits_Mul64 N a1 a2 = some x := hx; clear hx hp; unfold math_bits_Mul64 at hT
    refine rSeq ?_
    refine zReg md0 hX rfl rfl rfl ?_
    refine rThen ?_
    refine rSeq ?_
    replace hT := sIf hT; obtain ⟨o1, hT⟩ := hT
    refine zReg md0 hX rfl rfl rfl ?_
    refine rThen ?_
    refine rSeq ?_
    refine zReg md0 hX rfl rfl rfl ?_
    refine rThen ?_
    refine rSeq ?_
    replace hT := sIf hT; obtain ⟨o1, hT⟩ := hT
    refine zReg md0 hX rfl rfl rfl ?_
    refine rThen ?_
    refine rSeq ?_
    refine zReg md0 hX rfl rfl rfl ?_
    refine rThen ?_
    refine rSeq ?_
    let x1 := (((Int.toNat a1 &&& Int.toNat 4294967295 : Nat) : Int) * ((Int.toNat a2 &&& Int.toNat 4294967295 : Nat) : Int))
    replace hT := sIf hT; obtain ⟨o1, hT⟩ := hT
    refine zReg md0 hX rfl rfl rfl ?_
    refine rThen ?_
    refine rSeq ?_
    let x2 := (((a1 / 2 ^ (Int.toNat 32)) * ((Int.toNat a2 &&& Int.toNat 4294967295 : Nat) : Int)) + (x1 / 2 ^ (Int.toNat 32)))
    replace hT := sIf hT; obtain ⟨⟨o1, o2⟩, hT⟩ := hT
    refine zReg md0 hX rfl rfl rfl ?_
    refine rThen ?_
    refine rSeq ?_
    replace hT := sIf hT; obtain ⟨o1, hT⟩ := hT
    refine zReg md0 hX rfl rfl rfl ?_
    refine rThen ?_
    refine rSeq ?_
    refine zReg md0 hX rfl rfl rfl ?_
    refine rThen ?_
    refine rSeq ?_
    let x3 := (((Int.toNat x2 &&& Int.toNat 4294967295 : Nat) : Int) + (((Int.toNat a1 &&& Int.toNat 4294967295 : Nat) : Int) * (a2 / 2 ^ (Int.toNat 32))))
    replace hT := sIf hT; obtain ⟨⟨o1, o2⟩, hT⟩ := hT
    refine zReg md0 hX rfl rfl rfl ?_
    refine rThen ?_
    refine rSeq ?_
    let x4 := ((((a1 / 2 ^ (Int.toNat 32)) * (a2 / 2 ^ (Int.toNat 32))) + (x2 / 2 ^ (Int.toNat 32))) + (x3 / 2 ^ (Int.toNat 32)))
    replace hT := sIf hT; obtain ⟨⟨o1, o2, o3⟩, hT⟩ := hT
    refine zReg md0 hX rfl rfl rfl ?_
    refine rThen ?_
    refine rSeq ?_
    replace hT := sIf hT; obtain ⟨o1, hT⟩ := hT
    refine zReg md0 hX rfl rfl rfl ?_
    refine rThen ?_
    refine rRet ?_
    have hy := Option.some.inj hT; subst hy
    exact zEnd0 hX rfl
  · cases h
def math_bits_Mul (N : Nat) (a1 : Int) (a2 : Int) : Option (Int × Int) :=
  let c1 := (math_bits_Mul64 N a1 a2)
  if c1.isSome = true then
    some ((c1.getD default).1, (c1.getD default).2)
  else none
def sp_math_bits_Mul (N : Nat) : X.Spec := fun args lk => match args with
  | [.v (.c (.int .u64 a1)), .v (.c (.int .u64 a2))] => some ⟨(math_bits_Mul N a1 a2).isSome = true, .tup [.c (.int .u64 ((math_bits_Mul N a1 a2).getD default).1), .c (.int .u64 ((math_bits_Mul N a1 a2).getD default).2)], [], []⟩
  | _ => none
set_option maxRecDepth 100000 in
set_option maxHeartbeats 1000000 in
theorem ok_math_bits_Mul (N : Nat) : FnOK Try.prog gt0 74 (sp_math_bits_Mul N) := by
  refine fnOK_handed Try.func74 rfl (by kernel_rfl) tt_ok (ktCons (ok_math_bits_Mul64 N) (ktNil)) ?_
  intro args lk r h hp
  unfold sp_math_bits_Mul at h
  split at h
  · rename_i a1 a2
    cases h
    obtain ⟨x, hx⟩ := Option.isSome_iff_exists.1 hp
    simp only [hx, Option.getD_some]
    refine hand0 rfl rfl (fun w0 M ε0 hX => ?_)
    refine rCount (fun hε => ?_)
    have hT : math_bits_Mul N a1 a2 = some x := hx; clear hx hp; unfold math_bits_Mul at hT
    refine rSeq ?_
    refine zReg md0 hX rfl rfl rfl ?_
    refine rThen ?_
    refine rSeq ?_
    refine rCondF rfl rfl (by (repeat' first | exact True.intro | with_reducible assumption | (with_reducible apply And.intro) | intro _) <;> first | assumption | exact rfl | omega | exact Nat.le_of_ble_eq_true rfl | exact selF (by assumption) | exact selT (by assumption) | exact And.intro rfl rfl | exact And.intro (by assumption) rfl | exact And.intro (by omega) rfl | (simp only [inK] at *; omega) | (simp_all [sel] <;> fail) | fail) rfl ?_
    refine rSkip ?_
    refine rThen ?_
    refine rSeq ?_
    let c1 := (math_bits_Mul64 N a1 a2)
    replace hT := sIf hT; obtain ⟨o1, hT⟩ := hT
    refine zReg md0 hX rfl rfl rfl ?_
    refine rThen ?_
    refine rSeq ?_
    refine zReg md0 hX rfl rfl rfl ?_
    refine rThen ?_
    refine rRet ?_
    have hy := Option.some.inj hT; subst hy
    exact zEnd0 hX rfl
  · cases h
/-- So many times the same byte. -/
def rep (N : Nat) (a1 : Nat) (a2 : Int) (a3 : List Int) : Option (Nat × Nat × List Int) :=
  if a1 = 1 ∧ a3.length = 1 ∧ 0 ≤ a2 ∧ a2 ≤ 281474976710656 ∧ inK .u8 (a3.getD 0 0) then some (a2.toNat, a2.toNat, List.replicate a2.toNat (a3.getD 0 0)) else none
def bytes_Repeat_own_b1 (N : Nat) (c1 : (Option (Int × Int))) (x2 : Int) (s1 : (Int × (List Int))) : Option ((Int × (List Int)) ⊕ (List Int)) :=
  bif (decide (s1.1 < (c1.getD default).2)) then
    let x4 := (s1.1 + (((min (min s1.1 x2).toNat (((c1.getD default).2.toNat : Int) - s1.1).toNat) : Nat) : Int))
    let x6 := (layL s1.2 (s1.1).toNat ((s1.2.take (min s1.1 x2).toNat).take (min (min s1.1 x2).toNat (((c1.getD default).2.toNat : Int) - s1.1).toNat)) (min (min s1.1 x2).toNat (((c1.getD default).2.toNat : Int) - s1.1).toNat))
    if (0 : Int) ≤ s1.1 ∧ s1.1 ≤ ((c1.getD default).2.toNat : Int) ∧ ((c1.getD default).2.toNat : Int) ≤ ((c1.getD default).2.toNat : Int) ∧ (0 : Int) ≤ (min s1.1 x2) ∧ (min s1.1 x2) ≤ ((c1.getD default).2.toNat : Int) ∧ (min s1.1 x2).toNat ≤ (c1.getD default).2.toNat ∧ (s1.1).toNat + (min (min s1.1 x2).toNat (((c1.getD default).2.toNat : Int) - s1.1).toNat) ≤ (c1.getD default).2.toNat ∧ inK .i64 (s1.1 + (((min (min s1.1 x2).toNat (((c1.getD default).2.toNat : Int) - s1.1).toNat) : Nat) : Int)) then
      some (.inl (x4, x6))
    else none
  else
    some (.inr s1.2)
def bytes_Repeat_own (hv : Nat → (List Int → Option (Nat × Nat × (List Int))) → Option (Nat × Nat × (List Int))) (N : Nat) (a1 : Nat) (a2 : Int) (a3 : (List Int)) : Option (Nat × Nat × (List Int)) :=
  bif (decide (a2 = 0)) then
    some (0, 0, (List.replicate 0 0))
  else
    bif (decide (a2 < 0)) then
      none
    else
      let c1 := (math_bits_Mul N (a1 : Int) a2)
      if inK .u64 (a1 : Int) ∧ inK .u64 a2 ∧ c1.isSome = true then
        let x1 := (bif (decide ((0 : Int) < (c1.getD default).1)) then true else (decide ((9223372036854775807 : Int) < (c1.getD default).2)))
        bif x1 then
          none
        else
          if inK .i64 (c1.getD default).2 then
            bif (decide ((a1 : Int) = 0)) then
              some (0, 0, (List.replicate 0 0))
            else
              if ((decide ((8192 : Int) < (c1.getD default).2)) = true → (0 : Int) < (a1 : Int)) ∧ ((decide ((8192 : Int) < (c1.getD default).2)) = true → inK .i64 (((8192 : Int) / (a1 : Int)) * (a1 : Int))) then
                let x2 := (bif (decide ((8192 : Int) < (c1.getD default).2)) then (bif (decide ((((8192 : Int) / (a1 : Int)) * (a1 : Int)) = 0)) then (a1 : Int) else (((8192 : Int) / (a1 : Int)) * (a1 : Int))) else (c1.getD default).2)
                if 0 ≤ (c1.getD default).2 ∧ (c1.getD default).2 ≤ 281474976710656 then
                  hv (c1.getD default).2.toNat fun (z1 : List Int) =>
                    let x3 := (layL z1 0 ((a3.take a1).take (min a1 (c1.getD default).2.toNat)) (min a1 (c1.getD default).2.toNat))
                    if a1 ≤ 1 ∧ 0 + (min a1 (c1.getD default).2.toNat) ≤ (c1.getD default).2.toNat then
                      (iter (bytes_Repeat_own_b1 N c1 x2) N ((((min a1 (c1.getD default).2.toNat) : Nat) : Int), x3)).bind fun v1 =>
                        some ((c1.getD default).2.toNat, (c1.getD default).2.toNat, v1)
                    else none
                else none
              else none
          else none
      else none
def sp_bytes_Repeat_own (hv : Nat → (List Int → Option (Nat × Nat × (List Int))) → Option (Nat × Nat × (List Int))) (N : Nat) : X.Spec := fun args lk => match args with
  | [.v (.c (.sl i0 0 a1 1)), .v (.c (.int .i64 a2))] => (match lk i0 with
    | some (.mem _ _ _ (.flat [.ints 1 .u8 a3])) => some ⟨(bytes_Repeat_own hv N a1 a2 a3).isSome = true, .v (.c (.sl 0 0 ((bytes_Repeat_own hv N a1 a2 a3).getD default).1 1)), [.mem true 5 (some 0) (.flat [.ints ((bytes_Repeat_own hv N a1 a2 a3).getD default).2.1 .u8 ((bytes_Repeat_own hv N a1 a2 a3).getD default).2.2])], []⟩
    | _ => none)
  | _ => none
def sp_rep (N : Nat) : X.Spec := fun args lk => match args with
  | [.v (.c (.sl i0 0 a1 1)), .v (.c (.int .i64 a2))] => (match lk i0 with
    | some (.mem _ _ _ (.flat [.ints 1 .u8 a3])) => some ⟨(rep N a1 a2 a3).isSome = true, .v (.c (.sl 0 0 ((rep N a1 a2 a3).getD default).1 1)), [.mem true 5 (some 0) (.flat [.ints ((rep N a1 a2 a3).getD default).2.1 .u8 ((rep N a1 a2 a3).getD default).2.2])], []⟩
    | _ => none)
  | _ => none
set_option maxRecDepth 100000 in
set_option maxHeartbeats 1000000 in
theorem ok_bytes_Repeat_own (hv : Nat → (List Int → Option (Nat × Nat × (List Int))) → Option (Nat × Nat × (List Int))) (hHv : ∀ n k x, hv n k = some x → ∀ zs : List Int, zs.length = n → (∀ x ∈ zs, inK .u8 x) → k zs = some x) (N : Nat) : FnOK Try.prog gt0 64 (sp_bytes_Repeat_own hv N) := by
  refine fnOK_handed Try.func64 rfl (by kernel_rfl) tt_ok (ktCons (ok_math_bits_Mul N) (ktNil)) ?_
  intro args lk r h hp
  unfold sp_bytes_Repeat_own at h
  split at h
  · rename_i i0 a1 a2
    split at h
    · rename_i _ _ _ a3 hl0
      change (List Int) at a3
      cases h
      obtain ⟨x, hx⟩ := Option.isSome_iff_exists.1 hp
      simp only [hx, Option.getD_some]
      refine handL [i0] 1 [(0, .mem false 5 none (.flat [.ints 1 .u8 a3]))] [.v (.c (.sl 0 0 a1 1)), .v (.c (.int .i64 a2))] rfl rfl rfl ⟨isSome_of hl0, trivial⟩ ⟨⟨rfl, (by repeat' first | exact True.intro | exact rfl | exact ⟨_, rfl, rfl⟩ | apply And.intro | exact Or.inl rfl), _, hl0, sub_ro⟩, trivial⟩ rfl (fun w0 M ε0 hX => ?_)
      refine rCount (fun hε => ?_)
      have hT : bytes_Repeat_own hv N a1 a2 a3 = some x := hx; clear hx hp; unfold bytes_Repeat_own at hT
      refine rSeq ?_
      refine zReg md0 hX rfl rfl rfl ?_
      refine rThen ?_
      refine rSeq ?_
      refine rSeq ?_
      refine zReg md0 hX rfl rfl rfl ?_
      refine rThen ?_
      refine zCond rfl rfl (fun hc => ?_) (fun hc => ?_)
      · replace hT := sT hc hT
        refine rSeq ?_
        refine zReg md0 hX rfl rfl rfl ?_
        refine rThen ?_
        refine rRet ?_
        refine rThenRet ?_
        refine rTail0Q 1 rfl rfl ?_
        have hy := Option.some.inj hT; subst hy
        exact rEndA [1] [.mem true 5 (some 0) (.flat [.ints 0 .u8 (List.replicate 0 0)])] [] (.v (.c (.sl 1 0 0 1))) hX rfl (by repeat' first | exact True.intro | exact rfl | apply And.intro | omega | exact Nat.le_of_ble_eq_true rfl) (by repeat' first | exact True.intro | exact rfl | apply And.intro) rfl rfl rfl (by repeat' first | exact True.intro | exact rfl | exact ⟨_, rfl, rfl⟩ | apply And.intro | exact Or.inl rfl) rfl rfl (by repeat' first | exact True.intro | exact rfl | exact ⟨_, rfl, rfl⟩ | apply And.intro | exact Or.inl rfl) rfl rfl
      · replace hT := sF hc hT
        refine rSkip ?_
        refine rThen ?_
        refine rSeq ?_
        refine rSeq ?_
        refine zReg md0 hX rfl rfl rfl ?_
        refine rThen ?_
        refine zCond rfl rfl (fun hc => ?_) (fun hc => ?_)
        · replace hT := sT hc hT
          cases hT
        · replace hT := sF hc hT
          refine rSkip ?_
          refine rThen ?_
          refine rSeq ?_
          let c1 := (math_bits_Mul N (a1 : Int) a2)
          replace hT := sIf hT; obtain ⟨⟨o1, o2, o3⟩, hT⟩ := hT
          refine zReg md0 hX rfl rfl rfl ?_
          refine rThen ?_
          refine rSeq ?_
          refine rSeq ?_
          let x1 := (bif (decide ((0 : Int) < (c1.getD default).1)) then true else (decide ((9223372036854775807 : Int) < (c1.getD default).2)))
          refine zReg md0 hX rfl rfl rfl ?_
          refine rThen ?_
          refine zCond rfl rfl (fun hc => ?_) (fun hc => ?_)
          · replace hT := sT hc hT
            cases hT
          · replace hT := sF hc hT
            refine rSkip ?_
            refine rThen ?_
            refine rSeq ?_
            replace hT := sIf hT; obtain ⟨o1, hT⟩ := hT
            refine zReg md0 hX rfl rfl rfl ?_
            refine rThen ?_
            refine rSeq ?_
            refine rSeq ?_
            refine zReg md0 hX rfl rfl rfl ?_
            refine rThen ?_
            refine zCond rfl rfl (fun hc => ?_) (fun hc => ?_)
            · replace hT := sT hc hT
              refine rSeq ?_
              refine zReg md0 hX rfl rfl rfl ?_
              refine rThen ?_
              refine rRet ?_
              refine rThenRet ?_
              refine rTail0Q 1 rfl rfl ?_
              have hy := Option.some.inj hT; subst hy
              exact rEndA [1] [.mem true 5 (some 0) (.flat [.ints 0 .u8 (List.replicate 0 0)])] [] (.v (.c (.sl 1 0 0 1))) hX rfl (by repeat' first | exact True.intro | exact rfl | apply And.intro | omega | exact Nat.le_of_ble_eq_true rfl) (by repeat' first | exact True.intro | exact rfl | apply And.intro) rfl rfl rfl (by repeat' first | exact True.intro | exact rfl | exact ⟨_, rfl, rfl⟩ | apply And.intro | exact Or.inl rfl) rfl rfl (by repeat' first | exact True.intro | exact rfl | exact ⟨_, rfl, rfl⟩ | apply And.intro | exact Or.inl rfl) rfl rfl
            · replace hT := sF hc hT
              refine rSkip ?_
              refine rThen ?_
              refine rSeq ?_
              refine zReg md0 hX rfl rfl rfl ?_
              refine rThen ?_
              refine rSeq ?_
              refine rSeq ?_
              refine zReg md0 hX rfl rfl rfl ?_
              refine rThen ?_
              replace hT := sIf hT; obtain ⟨⟨q1, q2⟩, hT⟩ := hT
              refine rJoin ⟨[(0, .v (.c (.sl 0 0 a1 1))), (4, .v (.c (.val (.slice none 0 0)))), (7, .v (.c (.int .i64 (c1.getD default).2))), (8, .v (.c (.int .i64 (bif (decide ((8192 : Int) < (c1.getD default).2)) then (bif (decide ((((8192 : Int) / (a1 : Int)) * (a1 : Int)) = 0)) then (a1 : Int) else (((8192 : Int) / (a1 : Int)) * (a1 : Int))) else (c1.getD default).2))))], [(0, .mem false 5 none (.flat [.ints 1 .u8 a3]))], 1⟩ ?_ (fun hj => ?_)
              · skip
                let x2 := (bif (decide ((8192 : Int) < (c1.getD default).2)) then (bif (decide ((((8192 : Int) / (a1 : Int)) * (a1 : Int)) = 0)) then (a1 : Int) else (((8192 : Int) / (a1 : Int)) * (a1 : Int))) else (c1.getD default).2)
                refine rThen ?_
                refine rSeq ?_
                refine rRegSL ?_
                replace hT := sIf hT; obtain ⟨⟨n1, n2⟩, hT⟩ := hT
                refine rSLCut md0 1 hX rfl rfl rfl (by (repeat' first | exact True.intro | with_reducible assumption | (with_reducible apply And.intro) | intro _) <;> first | assumption | exact rfl | omega | exact Nat.le_of_ble_eq_true rfl | exact selF (by assumption) | exact selT (by assumption) | exact And.intro rfl rfl | exact And.intro (by assumption) rfl | exact And.intro (by omega) rfl | (simp only [inK] at *; omega) | (simp_all [sel] <;> fail) | fail) ?_
                refine rNoZero (fn := Try.f75) (ps := #[3]) (t' := 22) hX rfl rfl rfl rfl rfl rfl rfl rfl rfl rfl rfl rfl rfl rfl rfl n1 n2 Try.func75 (by kernel_rfl) (by kernel_rfl) (by kernel_rfl) (by kernel_rfl) (by kernel_rfl) rfl rfl rfl rfl rfl rfl (fun z1 h1z1 h2z1 => ?_)
                replace hT := hHv _ _ _ hT z1 h1z1 h2z1
                refine rSLDone md0 hX rfl rfl rfl (by (repeat' first | exact True.intro | with_reducible assumption | (with_reducible apply And.intro) | intro _) <;> first | assumption | exact rfl | omega | exact Nat.le_of_ble_eq_true rfl | exact selF (by assumption) | exact selT (by assumption) | exact And.intro rfl rfl | exact And.intro (by assumption) rfl | exact And.intro (by omega) rfl | (simp only [inK] at *; omega) | (simp_all [sel] <;> fail) | fail) ?_
                refine rThen ?_
                refine rSeq ?_
                let x3 := (layL z1 0 ((a3.take a1).take (min a1 (c1.getD default).2.toNat)) (min a1 (c1.getD default).2.toNat))
                replace hT := sIf hT; obtain ⟨⟨o1, o2⟩, hT⟩ := hT
                refine zReg md0 hX rfl rfl rfl ?_
                refine rThen ?_
                refine rSeq ?_
                refine rBlock ?_
                replace hT := sBind hT; obtain ⟨w1, hl, hT⟩ := hT
                refine rJoinA (fun v1 => v1 = w1) (fun v1 => ⟨[(4, .v (.c (.val (.slice none 0 0)))), (9, .v (.c (.sl 1 0 (c1.getD default).2.toNat 1)))], [(0, .mem false 5 none (.flat [.ints 1 .u8 a3])), (1, .mem true 5 (some 0) (.flat [.ints (c1.getD default).2.toNat .u8 v1]))], 2⟩) (.exit 0) (fun v1 hv => ?_) (fun hxs10 => ?_)
                · subst hv; clear hl
                  refine rInHit ?_
                  refine rThen ?_
                  refine rSeq ?_
                  refine zReg md0 hX rfl rfl rfl ?_
                  refine rThen ?_
                  refine rRet ?_
                  have hy := Option.some.inj hT; subst hy
                  exact rEndA [1] [.mem true 5 (some 0) (.flat [.ints (c1.getD default).2.toNat .u8 v1])] [] (.v (.c (.sl 1 0 (c1.getD default).2.toNat 1))) hX rfl (by repeat' first | exact True.intro | exact rfl | apply And.intro | omega | exact Nat.le_of_ble_eq_true rfl) (by repeat' first | exact True.intro | exact rfl | apply And.intro) rfl rfl rfl (by repeat' first | exact True.intro | exact rfl | exact ⟨_, rfl, rfl⟩ | apply And.intro | exact Or.inl rfl) rfl rfl (by repeat' first | exact True.intro | exact rfl | exact ⟨_, rfl, rfl⟩ | apply And.intro | exact Or.inl rfl) rfl rfl
                refine rLoopM (bytes_Repeat_own_b1 N c1 x2) (fun s1 => ⟨[(4, .v (.c (.val (.slice none 0 0)))), (7, .v (.c (.int .i64 (c1.getD default).2))), (8, .v (.c (.int .i64 x2))), (9, .v (.c (.sl 1 0 (c1.getD default).2.toNat 1))), (10, .v (.c (.int .i64 s1.1)))], [(0, .mem false 5 none (.flat [.ints 1 .u8 a3])), (1, .mem true 5 (some 0) (.flat [.ints (c1.getD default).2.toNat .u8 s1.2]))], 2⟩) hl (To.mk' [] 1 hε rfl (by repeat' first | exact True.intro | exact rfl | apply And.intro) (by repeat' first | exact True.intro | exact rfl | apply And.intro)) (fun s1 zs1 NNs1 hz hnexts1 houts1 => ?_)
                clear hl hT
                have hT := hz; clear hz
                refine rSeq ?_
                refine rSeq ?_
                refine zReg md0 hX rfl rfl rfl ?_
                refine rThen ?_
                refine zCond rfl rfl (fun hc => ?_) (fun hc => ?_)
                · replace hT := sT hc hT
                  refine rSkip ?_
                  refine rThen ?_
                  refine rBlock ?_
                  refine rSeq ?_
                  refine zReg md0 hX rfl rfl rfl ?_
                  refine rThen ?_
                  let x4 := (s1.1 + (((min (min s1.1 x2).toNat (((c1.getD default).2.toNat : Int) - s1.1).toNat) : Nat) : Int))
                  let x6 := (layL s1.2 (s1.1).toNat ((s1.2.take (min s1.1 x2).toNat).take (min (min s1.1 x2).toNat (((c1.getD default).2.toNat : Int) - s1.1).toNat)) (min (min s1.1 x2).toNat (((c1.getD default).2.toNat : Int) - s1.1).toNat))
                  replace hT := sIf hT; obtain ⟨⟨o1, o2, o3, o4, o5, o6, o7, o8⟩, hT⟩ := hT
                  refine rDrawA md0 0 7 8 [] hX mixed rfl rfl rfl rfl rfl rfl rfl rfl rfl rfl rfl rfl rfl rfl rfl (by repeat' first | exact True.intro | exact rfl | apply And.intro) rfl rfl (by (repeat' first | exact True.intro | with_reducible assumption | (with_reducible apply And.intro) | intro _) <;> first | assumption | exact rfl | omega | exact Nat.le_of_ble_eq_true rfl | exact selF (by assumption) | exact selT (by assumption) | exact And.intro rfl rfl | exact And.intro (by assumption) rfl | exact And.intro (by omega) rfl | (simp only [inK] at *; omega) | (simp_all [sel] <;> fail) | fail) ?_
                  refine rInNormal ?_
                  exact hnexts1 _ (Option.some.inj hT).symm _ (To.mk' [] 1 hε rfl (by repeat' first | exact True.intro | exact rfl | apply And.intro) (by repeat' first | exact True.intro | exact rfl | apply And.intro))
                · replace hT := sF hc hT
                  refine rExit ?_
                  refine rThenExit ?_
                  refine rThenExit ?_
                  exact zTo [] 1 hε (hxs10 _ (houts1 _ (Option.some.inj hT).symm))
              · clear hT
                refine zCond rfl rfl (fun hc => ?_) (fun hc => ?_)
                · skip
                  have q1 := q1 hc
                  have q2 := q2 hc
                  refine rSeq ?_
                  refine zReg md0 hX rfl rfl rfl ?_
                  refine rThen ?_
                  refine rSeq ?_
                  refine zReg md0 hX rfl rfl rfl ?_
                  refine rThen ?_
                  refine zCond rfl rfl (fun hc => ?_) (fun hc => ?_)
                  · skip
                    refine zReg md0 hX rfl rfl rfl ?_
                    exact rTo (To.mk' [] 1 hε rfl (by (repeat' first | exact True.intro | exact rfl | apply And.intro) <;> (repeat' first | exact rfl | refine Eq.trans ?_ (cTr (by assumption)) | refine Eq.trans ?_ (cFr (by assumption)) | refine Eq.trans (cTl (by assumption)) ?_ | refine Eq.trans (cFl (by assumption)) ?_)) (by (repeat' first | exact True.intro | exact rfl | apply And.intro) <;> (repeat' first | exact rfl | refine Eq.trans ?_ (cTr (by assumption)) | refine Eq.trans ?_ (cFr (by assumption)) | refine Eq.trans (cTl (by assumption)) ?_ | refine Eq.trans (cFl (by assumption)) ?_))) hj
                  · skip
                    refine rSkip ?_
                    exact rTo (To.mk' [] 1 hε rfl (by (repeat' first | exact True.intro | exact rfl | apply And.intro) <;> (repeat' first | exact rfl | refine Eq.trans ?_ (cTr (by assumption)) | refine Eq.trans ?_ (cFr (by assumption)) | refine Eq.trans (cTl (by assumption)) ?_ | refine Eq.trans (cFl (by assumption)) ?_)) (by (repeat' first | exact True.intro | exact rfl | apply And.intro) <;> (repeat' first | exact rfl | refine Eq.trans ?_ (cTr (by assumption)) | refine Eq.trans ?_ (cFr (by assumption)) | refine Eq.trans (cTl (by assumption)) ?_ | refine Eq.trans (cFl (by assumption)) ?_))) hj
                · skip
                  refine rSkip ?_
                  exact rTo (To.mk' [] 1 hε rfl (by (repeat' first | exact True.intro | exact rfl | apply And.intro) <;> (repeat' first | exact rfl | refine Eq.trans ?_ (cTr (by assumption)) | refine Eq.trans ?_ (cFr (by assumption)) | refine Eq.trans (cTl (by assumption)) ?_ | refine Eq.trans (cFl (by assumption)) ?_)) (by (repeat' first | exact True.intro | exact rfl | apply And.intro) <;> (repeat' first | exact rfl | refine Eq.trans ?_ (cTr (by assumption)) | refine Eq.trans ?_ (cFr (by assumption)) | refine Eq.trans (cTl (by assumption)) ?_ | refine Eq.trans (cFl (by assumption)) ?_))) hj
    · cases h
  · cases h
theorem mul_one (N : Nat) {n : Int} (h0 : 0 ≤ n) (h1 : n ≤ 281474976710656) : math_bits_Mul N 1 n = some (0, n) := by
  obtain ⟨m, rfl⟩ : ∃ m : Nat, n = m := ⟨n.toNat, by omega⟩
  have e1 : (Int.toNat 1 &&& Int.toNat 4294967295 : Nat) = 1 := by decide
  have e2 : (Int.toNat (m : Int) &&& Int.toNat 4294967295 : Nat) = m % 4294967296 := Nat.and_two_pow_sub_one_eq_mod m 32
  have e3 : ((1 : Int) / 4294967296) = 0 := by decide
  have e6 : ((1 : Nat) : Int) = 1 := rfl
  have e4 : ((2 : Int) ^ Int.toNat 32) = 4294967296 := by decide
  have e5 : (Int.toNat 0 &&& Int.toNat 4294967295 : Nat) = 0 := by decide
  have hm : ((m % 4294967296 : Nat) : Int) / 4294967296 = 0 := by omega
  have hd : (m : Int) / 4294967296 / 4294967296 = 0 := by omega
  have h64 : math_bits_Mul64 N 1 (m : Int) = some (0, (m : Int)) := by
    simp only [math_bits_Mul64, e1, e2, e3, e4, e5, e6, Int.one_mul, Int.zero_mul, Int.zero_add, Int.add_zero, hm, hd, Int.natCast_nonneg, Int.ofNat_zero, Int.zero_ediv, inK]
    rw [if_pos (by omega), if_pos trivial, if_pos ⟨trivial, by omega⟩, if_pos (by omega), if_pos (by omega), if_pos (by omega), if_pos (by omega), if_pos ⟨trivial, by omega⟩]
  simp only [math_bits_Mul, h64, Option.isSome_some, if_true, Option.getD_some]
theorem rep_loop (N : Nat) {n x2 b : Int} (hx : 1 ≤ x2) : ∀ (f : Nat) (k : Int) (zs : List Int), 1 ≤ k → k ≤ n → n ≤ 281474976710656 → (zs.length : Int) = n → zs.take k.toNat = List.replicate k.toNat b → n - k < f → iter (bytes_Repeat_own_b1 N (some (0, n)) x2) f (k, zs) = some (List.replicate n.toNat b)
  | 0, k, zs, h1, h2, h3, h4, h5, h6 => by omega
  | f + 1, k, zs, h1, h2, h3, h4, h5, h6 => by
    by_cases hk : k < n
    · have hb : ∃ k' zs', bytes_Repeat_own_b1 N (some (0, n)) x2 (k, zs) = some (.inl (k', zs')) ∧ k < k' ∧ k' ≤ n ∧ (zs'.length : Int) = n ∧ zs'.take k'.toNat = List.replicate k'.toNat b := by
        obtain ⟨m, hm⟩ : ∃ m : Nat, m = min (min k x2).toNat ((n.toNat : Int) - k).toNat := ⟨_, rfl⟩
        have g1 : m ≤ k.toNat := by omega
        have g2 : k.toNat + m ≤ n.toNat := by omega
        have g3 : 1 ≤ m := by omega
        refine ⟨k + m, layL zs k.toNat ((zs.take (min k x2).toNat).take m) m, ?_, by omega, by omega, ?_, ?_⟩
        · simp only [bytes_Repeat_own_b1, Option.getD_some, hk, decide_true, cond_true, ← hm]
          rw [if_pos]
          refine ⟨by omega, by omega, by omega, by omega, by omega, by omega, by omega, ?_⟩
          unfold inK
          omega
        · unfold layL
          simp only [List.length_append, List.length_take, List.length_drop]
          omega
        · unfold layL
          have e1 : (zs.take (min k x2).toNat).take m = List.replicate m b := by
            rw [List.take_take, show min m (min k x2).toNat = m by omega]
            have := congrArg (List.take m) h5
            rwa [List.take_take, show min m k.toNat = m by omega, List.take_replicate, show min m k.toNat = m by omega] at this
          rw [e1, h5, show (k + (m : Int)).toNat = k.toNat + m by omega, List.replicate_append_replicate, List.take_left' (by simp)]
      obtain ⟨k', zs', e, g1, g2, g3, g4⟩ := hb
      rw [iter, e]
      exact rep_loop N hx f k' zs' (by omega) g2 h3 g3 g4 (by omega)
    · have hkn : k = n := by omega
      have hb : bytes_Repeat_own_b1 N (some (0, n)) x2 (k, zs) = some (.inr zs) := by
        simp only [bytes_Repeat_own_b1, Option.getD_some, hk, decide_false, cond_false]
      rw [iter, hb]
      have : zs = List.replicate n.toNat b := by
        rw [← hkn, ← h5, List.take_of_length_le (by omega)]
      rw [this]
theorem rep_eq {hv : Nat → (List Int → Option (Nat × Nat × (List Int))) → Option (Nat × Nat × (List Int))} (hHv : ∀ n k x, (∀ zs : List Int, zs.length = n → (∀ x ∈ zs, inK .u8 x) → k zs = some x) → hv n k = some x) {n b : Int} (h0 : 0 ≤ n) (h1 : n ≤ 281474976710656) :
    bytes_Repeat_own hv 281474976710657 1 n [b] = some (n.toNat, n.toNat, List.replicate n.toNat b) := by
  unfold bytes_Repeat_own
  by_cases hz : n = 0
  · subst hz; rfl
  have hn0 : ¬ n < 0 := by omega
  have e1 : ((1 : Nat) : Int) = 1 := rfl
  simp only [hz, hn0, decide_false, cond_false, e1, mul_one _ h0 h1, Option.isSome_some, Option.getD_some]
  rw [if_pos ⟨by unfold inK; omega, by unfold inK; omega, trivial⟩]
  have hbig : ¬ (9223372036854775807 : Int) < n := by omega
  simp only [Int.lt_irrefl, decide_false, cond_false, hbig]
  rw [if_pos (by unfold inK; omega)]
  simp only [show ¬ ((1 : Int) = 0) by omega, decide_false, cond_false]
  rw [if_pos ⟨fun _ => by omega, fun _ => by decide⟩, if_pos ⟨h0, h1⟩]
  refine hHv _ _ _ fun zs hl hzs => ?_
  have hm : min 1 n.toNat = 1 := by omega
  simp only [hm]
  rw [if_pos ⟨by omega, by omega⟩]
  rw [rep_loop (b := b) _ ?_ _ _ _ (by omega) (by omega) h1 ?_ ?_ (by omega)]
  · rfl
  · cases hd : decide ((8192 : Int) < n)
    · simp only [cond_false]; omega
    · simp only [cond_true]; exact (by decide : (1 : Int) ≤ bif decide ((8192 : Int) / 1 * 1 = 0) then (1 : Int) else (8192 : Int) / 1 * 1)
  · unfold layL
    simp only [List.length_append, List.length_take, List.length_drop, List.length_cons, List.length_nil]
    omega
  · unfold layL
    simp
theorem ok_rep (N : Nat) : FnOK Try.prog gt0 64 (sp_rep N) := by
  obtain ⟨hv, h1, h2⟩ := havoc_ex (Nat × Nat × List Int)
  refine (ok_bytes_Repeat_own hv h1 281474976710657).weak fun args lk r' h hp => ?_
  unfold sp_rep at h
  split at h
  · rename_i i0 a1 a2
    split at h
    · rename_i _ _ _ a3 hl
      cases h
      change List Int at a3
      by_cases hc : a1 = 1 ∧ a3.length = 1 ∧ 0 ≤ a2 ∧ a2 ≤ 281474976710656 ∧ inK .u8 (a3.getD 0 0)
      · have hr : rep N a1 a2 a3 = some (a2.toNat, a2.toNat, List.replicate a2.toNat (a3.getD 0 0)) := by unfold rep; rw [if_pos hc]
        obtain ⟨rfl, hl3, h0, hm, hb⟩ := hc
        match a3, hl3 with
        | [b], _ =>
          have e := rep_eq h2 h0 hm (b := b)
          refine ⟨_, by unfold sp_bytes_Repeat_own; simp only [hl]; rfl, ?_, ?_, ?_, ?_⟩
          · simp only [e, Option.isSome_some]
          · simp only [e, hr, Option.getD_some]
          · simp only [e, hr, Option.getD_some]; rfl
          · rfl
      · exfalso
        have hr : rep N a1 a2 a3 = none := by unfold rep; rw [if_neg hc]
        simp [hr] at hp
    · cases h
  · cases h
def planes_New_b1 (N : Nat) (a1 : Int) (a2 : Int) (s1 : (Int × (List (List Int)))) : Option ((Int × (List (List Int))) ⊕ (List (List Int))) :=
  bif (decide (s1.1 < 3)) then
    let c2 := (formats_Plane N a1 s1.1)
    if c2.isSome = true then
      let c3 := (whole_Clip N a2 0 255)
      let c4 := (rep N 1 ((c2.getD default).1 * (c2.getD default).2) ((List.replicate 1 0).set 0 (c3.getD default)))
      if c3.isSome = true ∧ inK .u8 (c3.getD default) ∧ inK .i64 ((c2.getD default).1 * (c2.getD default).2) ∧ c4.isSome = true ∧ (0 : Int) ≤ s1.1 ∧ s1.1 < 3 then
        if (c4.getD default).1 = (c4.getD default).2.2.length then
          if (s1.1).toNat < 3 then
            if inK .i64 (s1.1 + 1) then
              some (.inl ((s1.1 + 1), (s1.2.set (s1.1).toNat (c4.getD default).2.2)))
            else none
          else none
        else none
      else none
    else none
  else
    some (.inr s1.2)
def planes_New (N : Nat) (a1 : Int) (a2 : Int) : Option (Int × (List (List Int)) × Int) :=
  let c1 := (formats_Size N a1)
  if c1.isSome = true then
    bif (!(c1.getD default).2.2) then
      some (0, (List.replicate 3 []), 1)
    else
      (iter (planes_New_b1 N a1 a2) N (0, (List.replicate 3 []))).bind fun v1 =>
        some (a1, v1, 0)
  else none
def sp_planes_New (N : Nat) : X.Spec := fun args lk => match args with
  | [.v (.c (.int .i64 a1)), .v (.c (.int .i64 a2))] => some ⟨(planes_New N a1 a2).isSome = true, .tup [.agg [.cs [.int .i64 ((planes_New N a1 a2).getD default).1], .fzs 3 (.int .u8) ((planes_New N a1 a2).getD default).2.1], .c (.int .i64 ((planes_New N a1 a2).getD default).2.2)], [], []⟩
  | _ => none
set_option maxRecDepth 100000 in
set_option maxHeartbeats 1000000 in
theorem ok_planes_New (N : Nat) : FnOK Try.prog gt0 23 (sp_planes_New N) := by
  refine fnOK_handed Try.func23 rfl (by kernel_rfl) tt_ok (ktCons (ok_rep N) (ktCons (ok_whole_Clip N) (ktCons (ok_formats_Plane N) (ktCons (ok_formats_Size N) (ktNil))))) ?_
  intro args lk r h hp
  unfold sp_planes_New at h
  split at h
  · rename_i a1 a2
    cases h
    obtain ⟨x, hx⟩ := Option.isSome_iff_exists.1 hp
    simp only [hx, Option.getD_some]
    refine hand0 rfl rfl (fun w0 M ε0 hX => ?_)
    refine rCount (fun hε => ?_)
    have hT : planes_New N a1 a2 = some x := hx; clear hx hp; unfold planes_New at hT
    refine rSeq ?_
    refine zReg md0 hX rfl rfl rfl ?_
    refine rThen ?_
    refine rSeq ?_
    refine rSeq ?_
    let c1 := (formats_Size N a1)
    replace hT := sIf hT; obtain ⟨o1, hT⟩ := hT
    refine zReg md0 hX rfl rfl rfl ?_
    refine rThen ?_
    refine rSeq ?_
    refine zReg md0 hX rfl rfl rfl ?_
    refine rThen ?_
    refine zCond rfl rfl (fun hc => ?_) (fun hc => ?_)
    · replace hT := sT hc hT
      refine rSeq ?_
      refine zReg md0 hX rfl rfl rfl ?_
      refine rThen ?_
      refine rRet ?_
      refine rThenRet ?_
      have hy := Option.some.inj hT; subst hy
      exact zEnd0 hX rfl
    · replace hT := sF hc hT
      refine rSkip ?_
      refine rThen ?_
      refine rSeq ?_
      refine zReg md0 hX rfl rfl rfl ?_
      refine rThen ?_
      refine rSeq ?_
      refine rSeq ?_
      refine zReg md0 hX rfl rfl rfl ?_
      refine rThen ?_
      refine rBlock ?_
      replace hT := sBind hT; obtain ⟨w1, hl, hT⟩ := hT
      refine rJoinA (fun v1 => v1 = w1) (fun v1 => ⟨[(4, .v (.c (.ptr 0 0 0 0 0 0))), (5, .v (.c (.int .i64 0))), (9, .v (.c (.ptr 1 0 0 0 0 0)))], [(0, .mem true 25 none (.flat [.cs [.int .i64 0], .fzs 3 (.int .u8) (List.replicate 3 [])])), (1, .mem true 25 none (.flat [.cs [.int .i64 a1], .fzs 3 (.int .u8) v1]))], 2⟩) (.exit 0) (fun v1 hv => ?_) (fun hxs10 => ?_)
      · subst hv; clear hl
        refine rInHit ?_
        refine rThen ?_
        refine rSeq ?_
        refine zReg md0 hX rfl rfl rfl ?_
        refine rThen ?_
        refine rRet ?_
        have hy := Option.some.inj hT; subst hy
        exact zEnd0 hX rfl
      refine rLoopM (planes_New_b1 N a1 a2) (fun s1 => ⟨[(0, .v (.c (.int .i64 a1))), (1, .v (.c (.int .i64 a2))), (4, .v (.c (.ptr 0 0 0 0 0 0))), (5, .v (.c (.int .i64 0))), (9, .v (.c (.ptr 1 0 0 0 0 0))), (24, .v (.c (.int .i64 s1.1)))], [(0, .mem true 25 none (.flat [.cs [.int .i64 0], .fzs 3 (.int .u8) (List.replicate 3 [])])), (1, .mem true 25 none (.flat [.cs [.int .i64 a1], .fzs 3 (.int .u8) s1.2]))], 2⟩) hl (To.mk' [] 0 hε rfl (by repeat' first | exact True.intro | exact rfl | apply And.intro) (by repeat' first | exact True.intro | exact rfl | apply And.intro)) (fun s1 zs1 NNs1 hz hnexts1 houts1 => ?_)
      clear hl hT
      have hT := hz; clear hz
      refine rSeq ?_
      refine zReg md0 hX rfl rfl rfl ?_
      refine rThen ?_
      refine rSeq ?_
      refine zCond rfl rfl (fun hc => ?_) (fun hc => ?_)
      · replace hT := sT hc hT
        refine rSkip ?_
        refine rThen ?_
        refine rSeq ?_
        refine rBlock ?_
        refine rSeq ?_
        refine zReg md0 hX rfl rfl rfl ?_
        refine rThen ?_
        refine rSeq ?_
        let c2 := (formats_Plane N a1 s1.1)
        replace hT := sIf hT; obtain ⟨o1, hT⟩ := hT
        refine zReg md0 hX rfl rfl rfl ?_
        refine rThen ?_
        refine rRegSL ?_
        let c3 := (whole_Clip N a2 0 255)
        let c4 := (rep N 1 ((c2.getD default).1 * (c2.getD default).2) ((List.replicate 1 0).set 0 (c3.getD default)))
        replace hT := sIf hT; obtain ⟨⟨o1, o2, o3, o4, o5, o6⟩, hT⟩ := hT
        refine rSLCut md0 11 hX rfl rfl rfl (by (repeat' first | exact True.intro | with_reducible assumption | (with_reducible apply And.intro) | intro _) <;> first | assumption | exact rfl | omega | exact Nat.le_of_ble_eq_true rfl | exact selF (by assumption) | exact selT (by assumption) | exact And.intro rfl rfl | exact And.intro (by assumption) rfl | exact And.intro (by omega) rfl | (simp only [inK] at *; omega) | (simp_all [sel] <;> fail) | fail) ?_
        replace hT := sIf hT; obtain ⟨f1, hT⟩ := hT
        refine rFreezeL 3 (.int .u8) (c4.getD default).2.2 [(0, .v (.c (.int .i64 a1))), (1, .v (.c (.int .i64 a2))), (4, .v (.c (.ptr 0 0 0 0 0 0))), (5, .v (.c (.int .i64 0))), (9, .v (.c (.ptr 1 0 0 0 0 0))), (10, .v (.c (.int .i64 s1.1))), (11, .v (.c (.int .i64 (c2.getD default).1))), (12, .v (.c (.int .i64 (c2.getD default).2))), (24, .v (.c (.int .i64 s1.1))), (25, .v (.c (.bool (decide (s1.1 < 3))))), (26, .v (.c (.int .i64 s1.1))), (27, .tup [.c (.int .i64 (c2.getD default).1), .c (.int .i64 (c2.getD default).2)]), (28, .v (.c (.int .i64 a1))), (29, .v (.c (.int .i64 s1.1))), (30, .tup [.c (.int .i64 (c2.getD default).1), .c (.int .i64 (c2.getD default).2)]), (31, .v (.c (.int .i64 (c2.getD default).1))), (32, .v (.c (.int .i64 (c2.getD default).2))), (33, .v (.c (.int .i64 s1.1))), (34, .v (.c (.int .i64 a2))), (35, .v (.c (.int .i64 (c3.getD default)))), (36, .v (.c (.int .u8 (c3.getD default)))), (37, .v (.c (.sl 2 0 1 1))), (38, .v (.c (.int .i64 (c2.getD default).1))), (39, .v (.c (.int .i64 (c2.getD default).2))), (40, .v (.c (.int .i64 ((c2.getD default).1 * (c2.getD default).2)))), (41, .v (.c (.fz (.int .u8) (c4.getD default).2.2))), (42, .v (.c (.ptr 1 0 0 1 0 0))), (43, .v (.c (.ptr 1 0 0 1 1 (s1.1).toNat)))] [(0, .mem true 25 none (.flat [.cs [.int .i64 0], .fzs 3 (.int .u8) (List.replicate 3 [])])), (1, .mem true 25 none (.flat [.cs [.int .i64 a1], .fzs 3 (.int .u8) s1.2])), (2, .mem true 5 (some 1) (.flat [.ints 1 .u8 ((List.replicate 1 0).set 0 (c3.getD default))]))] rfl rfl (by (repeat' first | exact True.intro | exact rfl | apply And.intro) <;> first | assumption | rfl) (by (repeat' first | exact True.intro | exact rfl | apply And.intro) <;> first | assumption | rfl) ?_
        replace hT := sIf hT; obtain ⟨o1, hT⟩ := hT
        refine rSLDone md0 hX rfl rfl rfl (by (repeat' first | exact True.intro | with_reducible assumption | (with_reducible apply And.intro) | intro _) <;> first | assumption | exact rfl | omega | exact Nat.le_of_ble_eq_true rfl | exact selF (by assumption) | exact selT (by assumption) | exact And.intro rfl rfl | exact And.intro (by assumption) rfl | exact And.intro (by omega) rfl | (simp only [inK] at *; omega) | (simp_all [sel] <;> fail) | fail) ?_
        refine rInNormal ?_
        refine rThen ?_
        replace hT := sIf hT; obtain ⟨o1, hT⟩ := hT
        refine zReg md0 hX rfl rfl rfl ?_
        exact hnexts1 _ (Option.some.inj hT).symm _ (To.mk' [] 0 hε rfl (by repeat' first | exact True.intro | exact rfl | apply And.intro) (by repeat' first | exact True.intro | exact rfl | apply And.intro))
      · replace hT := sF hc hT
        refine rExit ?_
        refine rThenExit ?_
        refine rThenExit ?_
        exact zTo [] 0 hε (hxs10 _ (houts1 _ (Option.some.inj hT).symm))
  · cases h
def law18_MotionStill_b2 (N : Nat) (a4 : (List Int)) (c6 : (Option ((List Int) × Int))) (c9 : (Option ((List Int) × Int))) (s1 : Int) (v3 : (Int × Int × Int × Int × Bool)) (s3 : Int) : Option (Int ⊕ (Unit ⊕ (Int × Int × Bool))) :=
  bif (decide (s3 < 64)) then
    let x7 := (bif (bif (decide (((c9.getD default).1.getD ((s1).toNat * 64 + (s3).toNat) 0) ≠ (min (max (a4.getD 2 0) (0 : Int)) (255 : Int)))) then true else (decide (((c6.getD default).1.getD ((s1).toNat * 64 + (s3).toNat) 0) < v3.1))) then true else (decide (v3.2.1 < ((c6.getD default).1.getD ((s1).toNat * 64 + (s3).toNat) 0))))
    if (0 : Int) ≤ s1 ∧ s1 < 6 ∧ (0 : Int) ≤ s3 ∧ s3 < 64 ∧ ((s1).toNat * 64 + (s3).toNat) < 384 ∧ ((!(decide (((c9.getD default).1.getD ((s1).toNat * 64 + (s3).toNat) 0) ≠ (min (max (a4.getD 2 0) (0 : Int)) (255 : Int))))) = true → (0 : Int) ≤ s1) ∧ ((!(decide (((c9.getD default).1.getD ((s1).toNat * 64 + (s3).toNat) 0) ≠ (min (max (a4.getD 2 0) (0 : Int)) (255 : Int))))) = true → s1 < 6) ∧ ((!(decide (((c9.getD default).1.getD ((s1).toNat * 64 + (s3).toNat) 0) ≠ (min (max (a4.getD 2 0) (0 : Int)) (255 : Int))))) = true → (0 : Int) ≤ s3) ∧ ((!(decide (((c9.getD default).1.getD ((s1).toNat * 64 + (s3).toNat) 0) ≠ (min (max (a4.getD 2 0) (0 : Int)) (255 : Int))))) = true → s3 < 64) ∧ ((!(decide (((c9.getD default).1.getD ((s1).toNat * 64 + (s3).toNat) 0) ≠ (min (max (a4.getD 2 0) (0 : Int)) (255 : Int))))) = true → ((s1).toNat * 64 + (s3).toNat) < 384) ∧ ((!(decide (((c9.getD default).1.getD ((s1).toNat * 64 + (s3).toNat) 0) ≠ (min (max (a4.getD 2 0) (0 : Int)) (255 : Int))))) = true → inK .i64 v3.1) ∧ ((!(bif (decide (((c9.getD default).1.getD ((s1).toNat * 64 + (s3).toNat) 0) ≠ (min (max (a4.getD 2 0) (0 : Int)) (255 : Int)))) then true else (decide (((c6.getD default).1.getD ((s1).toNat * 64 + (s3).toNat) 0) < v3.1)))) = true → (0 : Int) ≤ s1) ∧ ((!(bif (decide (((c9.getD default).1.getD ((s1).toNat * 64 + (s3).toNat) 0) ≠ (min (max (a4.getD 2 0) (0 : Int)) (255 : Int)))) then true else (decide (((c6.getD default).1.getD ((s1).toNat * 64 + (s3).toNat) 0) < v3.1)))) = true → s1 < 6) ∧ ((!(bif (decide (((c9.getD default).1.getD ((s1).toNat * 64 + (s3).toNat) 0) ≠ (min (max (a4.getD 2 0) (0 : Int)) (255 : Int)))) then true else (decide (((c6.getD default).1.getD ((s1).toNat * 64 + (s3).toNat) 0) < v3.1)))) = true → (0 : Int) ≤ s3) ∧ ((!(bif (decide (((c9.getD default).1.getD ((s1).toNat * 64 + (s3).toNat) 0) ≠ (min (max (a4.getD 2 0) (0 : Int)) (255 : Int)))) then true else (decide (((c6.getD default).1.getD ((s1).toNat * 64 + (s3).toNat) 0) < v3.1)))) = true → s3 < 64) ∧ ((!(bif (decide (((c9.getD default).1.getD ((s1).toNat * 64 + (s3).toNat) 0) ≠ (min (max (a4.getD 2 0) (0 : Int)) (255 : Int)))) then true else (decide (((c6.getD default).1.getD ((s1).toNat * 64 + (s3).toNat) 0) < v3.1)))) = true → ((s1).toNat * 64 + (s3).toNat) < 384) ∧ ((!(bif (decide (((c9.getD default).1.getD ((s1).toNat * 64 + (s3).toNat) 0) ≠ (min (max (a4.getD 2 0) (0 : Int)) (255 : Int)))) then true else (decide (((c6.getD default).1.getD ((s1).toNat * 64 + (s3).toNat) 0) < v3.1)))) = true → inK .i64 v3.2.1) then
      bif x7 then
        some (.inr (Sum.inl ()))
      else
        if inK .i64 (s3 + 1) then
          some (.inl (s3 + 1))
        else none
    else none
  else
    some (.inr (Sum.inr (s3, s3, (decide (s3 < 64)))))
def law18_MotionStill_b3 (N : Nat) (a2 : (List (List Int))) (s1 : Int) (s2 : (Int × Int × Int)) : Option ((Int × Int × Int) ⊕ (Int × Int × Int × Int × Bool)) :=
  bif (decide (s2.2.2 < ((a2.getD (max (0 : Int) (s1 - 3)).toNat []).length : Int))) then
    if (0 : Int) ≤ s2.2.2 ∧ s2.2.2 < ((a2.getD (max (0 : Int) (s1 - 3)).toNat []).length : Int) then
      if inK .i64 (s2.2.2 + 1) then
        some (.inl ((min s2.1 ((a2.getD (max (0 : Int) (s1 - 3)).toNat []).getD (s2.2.2).toNat 0)), (max s2.2.1 ((a2.getD (max (0 : Int) (s1 - 3)).toNat []).getD (s2.2.2).toNat 0)), (s2.2.2 + 1)))
      else none
    else none
  else
    some (.inr (s2.1, s2.2.1, s2.2.2, s2.2.2, (decide (s2.2.2 < ((a2.getD (max (0 : Int) (s1 - 3)).toNat []).length : Int)))))
def law18_MotionStill_b1 (N : Nat) (a2 : (List (List Int))) (a4 : (List Int)) (c6 : (Option ((List Int) × Int))) (c9 : (Option ((List Int) × Int))) (s1 : Int) : Option (Int ⊕ (Unit ⊕ Unit)) :=
  bif (decide (s1 < 6)) then
    if inK .i64 (s1 - 3) ∧ (0 : Int) ≤ (max (0 : Int) (s1 - 3)) ∧ (max (0 : Int) (s1 - 3)) < 3 ∧ (max (0 : Int) (s1 - 3)).toNat < 3 then
      if (0 : Int) < ((a2.getD (max (0 : Int) (s1 - 3)).toNat []).length : Int) then
        (iter (law18_MotionStill_b3 N a2 s1) N (((a2.getD (max (0 : Int) (s1 - 3)).toNat []).getD 0 0), ((a2.getD (max (0 : Int) (s1 - 3)).toNat []).getD 0 0), 0)).bind fun v3 =>
          (iter (law18_MotionStill_b2 N a4 c6 c9 s1 v3) N 0).bind fun w3 =>
            (Sum.elim (fun v4 =>
              some (.inr (Sum.inl ()))
            )
              (fun v5 =>
                if inK .i64 (s1 + 1) then
                  some (.inl (s1 + 1))
                else none
              )
            ) w3
      else none
    else none
  else
    some (.inr (Sum.inr ()))
def law18_MotionStill (N : Nat) (a1 : Int) (a2 : (List (List Int))) (a3 : Int) (a4 : (List Int)) : Option Bool :=
  let c1 := (law17_Light N a1 a2)
  let c2 := (planes_Right N a1 a2)
  if c1.isSome = true ∧ ((!(!(c1.getD default))) = true → c2.isSome = true) then
    bif (bif (!(c1.getD default)) then true else (!(c2.getD default))) then
      let c3 := (law18_lives N)
      if c3.isSome = true then
        some (c3.getD default)
      else none
    else
      let c4 := (planes_Cut N a1 a2 a3)
      if c4.isSome = true then
        let c5 := (motion_Predict N a1 a2 a3 (List.replicate 2 0))
        if c5.isSome = true then
          let x1 := (bif (!(decide ((c4.getD default).1 = (c5.getD default).1))) then true else (decide ((c4.getD default).2 ≠ (c5.getD default).2)))
          bif x1 then
            some false
          else
            let c6 := (motion_Predict N a1 a2 a3 (((List.replicate 2 0).set 0 (a4.getD 0 0)).set 1 (a4.getD 1 0)))
            if c6.isSome = true then
              bif (decide ((c6.getD default).2 ≠ 0)) then
                let c7 := (law18_lives N)
                let x2 := (bif (decide ((c6.getD default).1 = (List.replicate 384 0))) then (c7.getD default) else false)
                if ((decide ((c6.getD default).1 = (List.replicate 384 0))) = true → c7.isSome = true) then
                  some x2
                else none
              else
                let c8 := (planes_New N a1 (a4.getD 2 0))
                if c8.isSome = true then
                  let c9 := (motion_Predict N (c8.getD default).1 (c8.getD default).2.1 a3 (((List.replicate 2 0).set 0 (a4.getD 0 0)).set 1 (a4.getD 1 0)))
                  if c9.isSome = true then
                    bif (decide ((c9.getD default).2 ≠ 0)) then
                      some false
                    else
                      (iter (law18_MotionStill_b1 N a2 a4 c6 c9) N 0).bind fun w1 =>
                        (Sum.elim (fun v1 =>
                          some false
                        )
                          (fun v2 =>
                            let c10 := (law18_lives N)
                            if c10.isSome = true then
                              some (c10.getD default)
                            else none
                          )
                        ) w1
                  else none
                else none
            else none
        else none
      else none
  else none
def sp_law18_MotionStill (N : Nat) : X.Spec := fun args lk => match args with
  | [.v (.agg [.cs [.int .i64 a1], .fzs 3 (.int .u8) a2]), .v (.c (.int .i64 a3)), .v (.agg [.ints 3 .i64 a4])] => some ⟨(law18_MotionStill N a1 a2 a3 a4).isSome = true, .v (.c (.bool ((law18_MotionStill N a1 a2 a3 a4).getD default))), [], []⟩
  | _ => none
set_option maxRecDepth 100000 in
set_option maxHeartbeats 1000000 in
theorem ok_law18_MotionStill (N : Nat) : FnOK Try.prog gt0 10 (sp_law18_MotionStill N) := by
  refine fnOK_handed Try.func10 rfl (by kernel_rfl) tt_ok (ktCons (ok_planes_New N) (ktCons (ok_motion_Predict N) (ktCons (ok_planes_Cut N) (ktCons (ok_law18_lives N) (ktCons (ok_planes_Right N) (ktCons (ok_law17_Light N) (ktNil))))))) ?_
  intro args lk r h hp
  unfold sp_law18_MotionStill at h
  split at h
  · rename_i a1 a2 a3 a4
    change (List (List Int)) at a2
    change (List Int) at a4
    cases h
    obtain ⟨x, hx⟩ := Option.isSome_iff_exists.1 hp
    simp only [hx, Option.getD_some]
    refine hand0 rfl rfl (fun w0 M ε0 hX => ?_)
    refine rCount (fun hε => ?_)
    have hT : law18_MotionStill N a1 a2 a3 a4 = some x := hx; clear hx hp; unfold law18_MotionStill at hT
    refine rSeq ?_
    refine zReg md0 hX rfl rfl rfl ?_
    refine rThen ?_
    refine rSeq ?_
    refine rSeq ?_
    let c1 := (law17_Light N a1 a2)
    let c2 := (planes_Right N a1 a2)
    replace hT := sIf hT; obtain ⟨⟨o1, o2⟩, hT⟩ := hT
    refine rRegC md0 hX rfl rfl rfl (by (repeat' first | exact True.intro | with_reducible assumption | (with_reducible apply And.intro) | intro _) <;> first | assumption | exact o2 (by assumption) | exact rfl | omega | exact Nat.le_of_ble_eq_true rfl | exact selF (by assumption) | exact selT (by assumption) | exact And.intro rfl rfl | exact And.intro (by assumption) rfl | exact And.intro (by omega) rfl | (simp only [inK] at *; omega) | (simp_all [sel] <;> fail) | fail) ?_
    refine rThen ?_
    refine zCond rfl rfl (fun hc => ?_) (fun hc => ?_)
    · replace hT := sT hc hT
      refine rSeq ?_
      let c3 := (law18_lives N)
      replace hT := sIf hT; obtain ⟨o1, hT⟩ := hT
      refine zReg md0 hX rfl rfl rfl ?_
      refine rThen ?_
      refine rRet ?_
      refine rThenRet ?_
      have hy := Option.some.inj hT; subst hy
      exact zEnd0 hX rfl
    · replace hT := sF hc hT
      refine rSkip ?_
      refine rThen ?_
      refine rSeq ?_
      refine rDrawU md0 7 8 hX mixed rfl rfl rfl rfl rfl rfl rfl rfl rfl rfl rfl rfl rfl rfl rfl rfl (by repeat' first | exact True.intro | exact rfl | apply And.intro) rfl rfl rfl rfl rfl rfl (by repeat' first | exact True.intro | exact rfl | apply And.intro) (by repeat' first | exact True.intro | exact rfl | apply And.intro | omega | exact Nat.le_of_ble_eq_true rfl) ?_
      refine rThen ?_
      refine rSeq ?_
      let c4 := (planes_Cut N a1 a2 a3)
      replace hT := sIf hT; obtain ⟨o1, hT⟩ := hT
      refine zReg md0 hX rfl rfl rfl ?_
      refine rThen ?_
      refine rSeq ?_
      let c5 := (motion_Predict N a1 a2 a3 (List.replicate 2 0))
      replace hT := sIf hT; obtain ⟨o1, hT⟩ := hT
      refine zReg md0 hX rfl rfl rfl ?_
      refine rThen ?_
      refine rSeq ?_
      refine rSeq ?_
      let x1 := (bif (!(decide ((c4.getD default).1 = (c5.getD default).1))) then true else (decide ((c4.getD default).2 ≠ (c5.getD default).2)))
      refine zReg md0 hX rfl rfl rfl ?_
      refine rThen ?_
      refine zCond rfl rfl (fun hc => ?_) (fun hc => ?_)
      · replace hT := sT hc hT
        refine rSeq ?_
        refine zReg md0 hX rfl rfl rfl ?_
        refine rThen ?_
        refine rRet ?_
        refine rThenRet ?_
        have hy := Option.some.inj hT; subst hy
        exact zEnd0 hX rfl
      · replace hT := sF hc hT
        refine rSkip ?_
        refine rThen ?_
        refine rSeq ?_
        let c6 := (motion_Predict N a1 a2 a3 (((List.replicate 2 0).set 0 (a4.getD 0 0)).set 1 (a4.getD 1 0)))
        replace hT := sIf hT; obtain ⟨o1, hT⟩ := hT
        refine zReg md0 hX rfl rfl rfl ?_
        refine rThen ?_
        refine rSeq ?_
        refine rSeq ?_
        refine zReg md0 hX rfl rfl rfl ?_
        refine rThen ?_
        refine zCond rfl rfl (fun hc => ?_) (fun hc => ?_)
        · replace hT := sT hc hT
          refine rSeq ?_
          let c7 := (law18_lives N)
          let x2 := (bif (decide ((c6.getD default).1 = (List.replicate 384 0))) then (c7.getD default) else false)
          replace hT := sIf hT; obtain ⟨o1, hT⟩ := hT
          refine rRegC md0 hX rfl rfl rfl (by (repeat' first | exact True.intro | with_reducible assumption | (with_reducible apply And.intro) | intro _) <;> first | assumption | exact o1 (by assumption) | exact rfl | omega | exact Nat.le_of_ble_eq_true rfl | exact selF (by assumption) | exact selT (by assumption) | exact And.intro rfl rfl | exact And.intro (by assumption) rfl | exact And.intro (by omega) rfl | (simp only [inK] at *; omega) | (simp_all [sel] <;> fail) | fail) ?_
          refine rThen ?_
          refine rRet ?_
          refine rThenRet ?_
          have hy := Option.some.inj hT; subst hy
          exact zEnd0 hX rfl
        · replace hT := sF hc hT
          refine rSkip ?_
          refine rThen ?_
          refine rSeq ?_
          let c8 := (planes_New N a1 (a4.getD 2 0))
          replace hT := sIf hT; obtain ⟨o1, hT⟩ := hT
          refine zReg md0 hX rfl rfl rfl ?_
          refine rThen ?_
          refine rSeq ?_
          let c9 := (motion_Predict N (c8.getD default).1 (c8.getD default).2.1 a3 (((List.replicate 2 0).set 0 (a4.getD 0 0)).set 1 (a4.getD 1 0)))
          replace hT := sIf hT; obtain ⟨o1, hT⟩ := hT
          refine zReg md0 hX rfl rfl rfl ?_
          refine rThen ?_
          refine rSeq ?_
          refine rSeq ?_
          refine zReg md0 hX rfl rfl rfl ?_
          refine rThen ?_
          refine zCond rfl rfl (fun hc => ?_) (fun hc => ?_)
          · replace hT := sT hc hT
            refine rSeq ?_
            refine zReg md0 hX rfl rfl rfl ?_
            refine rThen ?_
            refine rRet ?_
            refine rThenRet ?_
            have hy := Option.some.inj hT; subst hy
            exact zEnd0 hX rfl
          · replace hT := sF hc hT
            refine rSkip ?_
            refine rThen ?_
            refine rSeq ?_
            refine rSeq ?_
            refine zReg md0 hX rfl rfl rfl ?_
            refine rThen ?_
            refine rBlock ?_
            replace hT := sBind hT; obtain ⟨w1, hl, hT⟩ := hT
            refine rJoinA (fun v1 => (Sum.inl v1) = w1) (fun v1 => ⟨[(6, .v (.c (.bool false)))], [], 8⟩) .ret (fun v1 hv => ?_) (fun hxs10 => ?_)
            · subst hv; clear hl; replace hT := (sElimL hT)
              refine rInRet ?_
              refine rThenRet ?_
              have hy := Option.some.inj hT; subst hy
              exact zEnd0 hX rfl
            refine rJoinA (fun v2 => (Sum.inr v2) = w1) (fun v2 => ⟨[(6, .v (.c (.bool false)))], [], 8⟩) (.exit 0) (fun v2 hv => ?_) (fun hxs11 => ?_)
            · subst hv; clear hl; replace hT := (sElimR hT)
              refine rInHit ?_
              refine rThen ?_
              refine rSeq ?_
              let c10 := (law18_lives N)
              replace hT := sIf hT; obtain ⟨o1, hT⟩ := hT
              refine zReg md0 hX rfl rfl rfl ?_
              refine rThen ?_
              refine rRet ?_
              have hy := Option.some.inj hT; subst hy
              exact zEnd0 hX rfl
            refine rLoopM (law18_MotionStill_b1 N a2 a4 c6 c9) (fun s1 => ⟨[(3, .v (.c (.ptr 0 0 0 0 0 0))), (6, .v (.c (.bool false))), (8, .v (.c (.int .i64 (a4.getD 2 0)))), (13, .v (.c (.ptr 5 0 0 0 0 0))), (17, .v (.c (.ptr 7 0 0 0 0 0))), (19, .v (.c (.int .i64 s1)))], [(0, .mem true 25 none (.flat [.cs [.int .i64 a1], .fzs 3 (.int .u8) a2])), (5, .mem true 31 none (.flat [.ints 384 .i64 (c6.getD default).1])), (7, .mem true 31 none (.flat [.ints 384 .i64 (c9.getD default).1]))], 8⟩) hl (To.mk' [] 0 hε rfl (by repeat' first | exact True.intro | exact rfl | apply And.intro) (by repeat' first | exact True.intro | exact rfl | apply And.intro)) (fun s1 zs1 NNs1 hz hnexts1 houts1 => ?_)
            clear hl hT
            have hT := hz; clear hz
            refine rSeq ?_
            refine rSeq ?_
            refine zReg md0 hX rfl rfl rfl ?_
            refine rThen ?_
            refine zCond rfl rfl (fun hc => ?_) (fun hc => ?_)
            · replace hT := sT hc hT
              refine rSkip ?_
              refine rThen ?_
              refine rSeq ?_
              refine rBlock ?_
              refine rSeq ?_
              replace hT := sIf hT; obtain ⟨⟨o1, o2, o3, o4⟩, hT⟩ := hT
              refine zReg md0 hX rfl rfl rfl ?_
              refine rThen ?_
              refine rSeq ?_
              replace hT := sIf hT; obtain ⟨o1, hT⟩ := hT
              refine zDraw md0 0 [] hX mixed rfl rfl rfl rfl rfl ?_
              refine rThen ?_
              refine rSeq ?_
              refine rSeq ?_
              refine zReg md0 hX rfl rfl rfl ?_
              refine rThen ?_
              refine rBlock ?_
              replace hT := sBind hT; obtain ⟨w2, hl, hT⟩ := hT
              refine rJoinA (fun v3 => v3 = w2) (fun v3 => ⟨[(3, .v (.c (.ptr 0 0 0 0 0 0))), (6, .v (.c (.bool false))), (8, .v (.c (.int .i64 (a4.getD 2 0)))), (13, .v (.c (.ptr 5 0 0 0 0 0))), (17, .v (.c (.ptr 7 0 0 0 0 0))), (19, .v (.c (.int .i64 s1))), (20, .v (.c (.fz (.int .u8) (a2.getD (max (0 : Int) (s1 - 3)).toNat [])))), (21, .v (.c (.int .u8 v3.1))), (22, .v (.c (.int .u8 v3.2.1))), (23, .v (.c (.int .i64 v3.2.2.1))), (93, .v (.c (.int .i64 s1))), (94, .v (.c (.bool (decide (s1 < 6))))), (97, .v (.c (.int .i64 s1))), (98, .v (.c (.int .i64 (s1 - 3)))), (99, .v (.c (.int .i64 (max (0 : Int) (s1 - 3))))), (100, .v (.c (.ptr 0 0 0 1 0 0))), (101, .v (.c (.ptr 0 0 0 1 1 (max (0 : Int) (s1 - 3)).toNat))), (102, .v (.c (.fz (.int .u8) (a2.getD (max (0 : Int) (s1 - 3)).toNat [])))), (103, .v (.c (.fz (.int .u8) (a2.getD (max (0 : Int) (s1 - 3)).toNat [])))), (104, .v (.c (.fp (.int .u8) ((a2.getD (max (0 : Int) (s1 - 3)).toNat []).getD 0 0) 0 0 0))), (105, .v (.c (.int .u8 ((a2.getD (max (0 : Int) (s1 - 3)).toNat []).getD 0 0)))), (106, .v (.c (.fz (.int .u8) (a2.getD (max (0 : Int) (s1 - 3)).toNat [])))), (107, .v (.c (.fp (.int .u8) ((a2.getD (max (0 : Int) (s1 - 3)).toNat []).getD 0 0) 0 0 0))), (108, .v (.c (.int .u8 ((a2.getD (max (0 : Int) (s1 - 3)).toNat []).getD 0 0)))), (109, .v (.c (.int .i64 v3.2.2.2.1))), (110, .v (.c (.fz (.int .u8) (a2.getD (max (0 : Int) (s1 - 3)).toNat [])))), (111, .v (.c (.int .i64 ((a2.getD (max (0 : Int) (s1 - 3)).toNat []).length : Int)))), (112, .v (.c (.bool v3.2.2.2.2)))], [(0, .mem true 25 none (.flat [.cs [.int .i64 a1], .fzs 3 (.int .u8) a2])), (5, .mem true 31 none (.flat [.ints 384 .i64 (c6.getD default).1])), (7, .mem true 31 none (.flat [.ints 384 .i64 (c9.getD default).1]))], 8⟩) (.exit 2) (fun v3 hv => ?_) (fun hxs20 => ?_)
              · subst hv; clear hl
                refine rInHit ?_
                refine rThen ?_
                refine rSeq ?_
                refine zReg md0 hX rfl rfl rfl ?_
                refine rThen ?_
                refine rBlock ?_
                replace hT := sBind hT; obtain ⟨w3, hl, hT⟩ := hT
                refine rJoinA (fun v4 => (Sum.inl v4) = w3) (fun v4 => ⟨[(6, .v (.c (.bool false)))], [], 8⟩) .ret (fun v4 hv => ?_) (fun hxs30 => ?_)
                · subst hv; clear hl; replace hT := (sElimL hT)
                  refine rInRet ?_
                  refine rInRet ?_
                  refine rThenRet ?_
                  refine rThenRet ?_
                  exact zTo [] 0 hε (hxs10 _ (houts1 _ (Option.some.inj hT).symm))
                refine rJoinA (fun v5 => (Sum.inr v5) = w3) (fun v5 => ⟨[(3, .v (.c (.ptr 0 0 0 0 0 0))), (6, .v (.c (.bool false))), (8, .v (.c (.int .i64 (a4.getD 2 0)))), (13, .v (.c (.ptr 5 0 0 0 0 0))), (17, .v (.c (.ptr 7 0 0 0 0 0))), (19, .v (.c (.int .i64 s1))), (20, .v (.c (.fz (.int .u8) (a2.getD (max (0 : Int) (s1 - 3)).toNat [])))), (21, .v (.c (.int .u8 v3.1))), (22, .v (.c (.int .u8 v3.2.1))), (23, .v (.c (.int .i64 v3.2.2.1))), (24, .v (.c (.int .i64 v5.1))), (93, .v (.c (.int .i64 s1))), (94, .v (.c (.bool (decide (s1 < 6))))), (97, .v (.c (.int .i64 s1))), (98, .v (.c (.int .i64 (s1 - 3)))), (99, .v (.c (.int .i64 (max (0 : Int) (s1 - 3))))), (100, .v (.c (.ptr 0 0 0 1 0 0))), (101, .v (.c (.ptr 0 0 0 1 1 (max (0 : Int) (s1 - 3)).toNat))), (102, .v (.c (.fz (.int .u8) (a2.getD (max (0 : Int) (s1 - 3)).toNat [])))), (103, .v (.c (.fz (.int .u8) (a2.getD (max (0 : Int) (s1 - 3)).toNat [])))), (104, .v (.c (.fp (.int .u8) ((a2.getD (max (0 : Int) (s1 - 3)).toNat []).getD 0 0) 0 0 0))), (105, .v (.c (.int .u8 ((a2.getD (max (0 : Int) (s1 - 3)).toNat []).getD 0 0)))), (106, .v (.c (.fz (.int .u8) (a2.getD (max (0 : Int) (s1 - 3)).toNat [])))), (107, .v (.c (.fp (.int .u8) ((a2.getD (max (0 : Int) (s1 - 3)).toNat []).getD 0 0) 0 0 0))), (108, .v (.c (.int .u8 ((a2.getD (max (0 : Int) (s1 - 3)).toNat []).getD 0 0)))), (109, .v (.c (.int .i64 v3.2.2.2.1))), (110, .v (.c (.fz (.int .u8) (a2.getD (max (0 : Int) (s1 - 3)).toNat [])))), (111, .v (.c (.int .i64 ((a2.getD (max (0 : Int) (s1 - 3)).toNat []).length : Int)))), (112, .v (.c (.bool v3.2.2.2.2))), (127, .v (.c (.int .i64 v5.2.1))), (128, .v (.c (.bool v5.2.2)))], [(0, .mem true 25 none (.flat [.cs [.int .i64 a1], .fzs 3 (.int .u8) a2])), (5, .mem true 31 none (.flat [.ints 384 .i64 (c6.getD default).1])), (7, .mem true 31 none (.flat [.ints 384 .i64 (c9.getD default).1]))], 8⟩) (.exit 4) (fun v5 hv => ?_) (fun hxs31 => ?_)
                · subst hv; clear hl; replace hT := (sElimR hT)
                  refine rInHit ?_
                  refine rInNormal ?_
                  refine rThen ?_
                  replace hT := sIf hT; obtain ⟨o1, hT⟩ := hT
                  refine zReg md0 hX rfl rfl rfl ?_
                  exact hnexts1 _ (Option.some.inj hT).symm _ (To.mk' [] 0 hε rfl (by repeat' first | exact True.intro | exact rfl | apply And.intro) (by repeat' first | exact True.intro | exact rfl | apply And.intro))
                refine rLoopM (law18_MotionStill_b2 N a4 c6 c9 s1 v3) (fun s3 => ⟨[(3, .v (.c (.ptr 0 0 0 0 0 0))), (6, .v (.c (.bool false))), (8, .v (.c (.int .i64 (a4.getD 2 0)))), (13, .v (.c (.ptr 5 0 0 0 0 0))), (17, .v (.c (.ptr 7 0 0 0 0 0))), (19, .v (.c (.int .i64 s1))), (20, .v (.c (.fz (.int .u8) (a2.getD (max (0 : Int) (s1 - 3)).toNat [])))), (21, .v (.c (.int .u8 v3.1))), (22, .v (.c (.int .u8 v3.2.1))), (23, .v (.c (.int .i64 v3.2.2.1))), (24, .v (.c (.int .i64 s3))), (93, .v (.c (.int .i64 s1))), (94, .v (.c (.bool (decide (s1 < 6))))), (97, .v (.c (.int .i64 s1))), (98, .v (.c (.int .i64 (s1 - 3)))), (99, .v (.c (.int .i64 (max (0 : Int) (s1 - 3))))), (100, .v (.c (.ptr 0 0 0 1 0 0))), (101, .v (.c (.ptr 0 0 0 1 1 (max (0 : Int) (s1 - 3)).toNat))), (102, .v (.c (.fz (.int .u8) (a2.getD (max (0 : Int) (s1 - 3)).toNat [])))), (103, .v (.c (.fz (.int .u8) (a2.getD (max (0 : Int) (s1 - 3)).toNat [])))), (104, .v (.c (.fp (.int .u8) ((a2.getD (max (0 : Int) (s1 - 3)).toNat []).getD 0 0) 0 0 0))), (105, .v (.c (.int .u8 ((a2.getD (max (0 : Int) (s1 - 3)).toNat []).getD 0 0)))), (106, .v (.c (.fz (.int .u8) (a2.getD (max (0 : Int) (s1 - 3)).toNat [])))), (107, .v (.c (.fp (.int .u8) ((a2.getD (max (0 : Int) (s1 - 3)).toNat []).getD 0 0) 0 0 0))), (108, .v (.c (.int .u8 ((a2.getD (max (0 : Int) (s1 - 3)).toNat []).getD 0 0)))), (109, .v (.c (.int .i64 v3.2.2.2.1))), (110, .v (.c (.fz (.int .u8) (a2.getD (max (0 : Int) (s1 - 3)).toNat [])))), (111, .v (.c (.int .i64 ((a2.getD (max (0 : Int) (s1 - 3)).toNat []).length : Int)))), (112, .v (.c (.bool v3.2.2.2.2)))], [(0, .mem true 25 none (.flat [.cs [.int .i64 a1], .fzs 3 (.int .u8) a2])), (5, .mem true 31 none (.flat [.ints 384 .i64 (c6.getD default).1])), (7, .mem true 31 none (.flat [.ints 384 .i64 (c9.getD default).1]))], 8⟩) hl (To.mk' [] 0 hε rfl (by repeat' first | exact True.intro | exact rfl | apply And.intro) (by repeat' first | exact True.intro | exact rfl | apply And.intro)) (fun s3 zs3 NNs3 hz hnexts3 houts3 => ?_)
                clear hl hT
                have hT := hz; clear hz
                refine rSeq ?_
                refine rSeq ?_
                refine zReg md0 hX rfl rfl rfl ?_
                refine rThen ?_
                refine zCond rfl rfl (fun hc => ?_) (fun hc => ?_)
                · replace hT := sT hc hT
                  refine rSkip ?_
                  refine rThen ?_
                  refine rSeq ?_
                  refine rBlock ?_
                  refine rSeq ?_
                  let x7 := (bif (bif (decide (((c9.getD default).1.getD ((s1).toNat * 64 + (s3).toNat) 0) ≠ (min (max (a4.getD 2 0) (0 : Int)) (255 : Int)))) then true else (decide (((c6.getD default).1.getD ((s1).toNat * 64 + (s3).toNat) 0) < v3.1))) then true else (decide (v3.2.1 < ((c6.getD default).1.getD ((s1).toNat * 64 + (s3).toNat) 0))))
                  replace hT := sIf hT; obtain ⟨⟨o1, o2, o3, o4, o5, o6, o7, o8, o9, o10, o11, o12, o13, o14, o15, o16, o17⟩, hT⟩ := hT
                  refine rRegC md0 hX rfl rfl rfl (by (repeat' first | exact True.intro | with_reducible assumption | (with_reducible apply And.intro) | intro _) <;> first | assumption | exact o6 (by assumption) | exact o7 (by assumption) | exact o8 (by assumption) | exact o9 (by assumption) | exact o10 (by assumption) | exact o11 (by assumption) | exact o12 (by assumption) | exact o13 (by assumption) | exact o14 (by assumption) | exact o15 (by assumption) | exact o16 (by assumption) | exact o17 (by assumption) | exact rfl | omega | exact Nat.le_of_ble_eq_true rfl | exact selF (by assumption) | exact selT (by assumption) | exact And.intro rfl rfl | exact And.intro (by assumption) rfl | exact And.intro (by omega) rfl | (simp only [inK] at *; omega) | (simp_all [sel] <;> fail) | fail) ?_
                  refine rThen ?_
                  refine zCond rfl rfl (fun hc => ?_) (fun hc => ?_)
                  · replace hT := sT hc hT
                    refine rSeq ?_
                    refine zReg md0 hX rfl rfl rfl ?_
                    refine rThen ?_
                    refine rRet ?_
                    refine rInRet ?_
                    refine rThenRet ?_
                    refine rThenRet ?_
                    exact zTo [] 0 hε (hxs30 _ (houts3 _ (Option.some.inj hT).symm))
                  · replace hT := sF hc hT
                    refine rSkip ?_
                    refine rInNormal ?_
                    refine rThen ?_
                    replace hT := sIf hT; obtain ⟨o1, hT⟩ := hT
                    refine zReg md0 hX rfl rfl rfl ?_
                    exact hnexts3 _ (Option.some.inj hT).symm _ (To.mk' [] 0 hε rfl (by repeat' first | exact True.intro | exact rfl | apply And.intro) (by repeat' first | exact True.intro | exact rfl | apply And.intro))
                · replace hT := sF hc hT
                  refine rExit ?_
                  refine rThenExit ?_
                  refine rThenExit ?_
                  exact zTo [] 0 hε (hxs31 _ (houts3 _ (Option.some.inj hT).symm))
              refine rLoopM (law18_MotionStill_b3 N a2 s1) (fun s2 => ⟨[(3, .v (.c (.ptr 0 0 0 0 0 0))), (6, .v (.c (.bool false))), (8, .v (.c (.int .i64 (a4.getD 2 0)))), (13, .v (.c (.ptr 5 0 0 0 0 0))), (17, .v (.c (.ptr 7 0 0 0 0 0))), (19, .v (.c (.int .i64 s1))), (20, .v (.c (.fz (.int .u8) (a2.getD (max (0 : Int) (s1 - 3)).toNat [])))), (21, .v (.c (.int .u8 s2.1))), (22, .v (.c (.int .u8 s2.2.1))), (23, .v (.c (.int .i64 s2.2.2))), (93, .v (.c (.int .i64 s1))), (94, .v (.c (.bool (decide (s1 < 6))))), (97, .v (.c (.int .i64 s1))), (98, .v (.c (.int .i64 (s1 - 3)))), (99, .v (.c (.int .i64 (max (0 : Int) (s1 - 3))))), (100, .v (.c (.ptr 0 0 0 1 0 0))), (101, .v (.c (.ptr 0 0 0 1 1 (max (0 : Int) (s1 - 3)).toNat))), (102, .v (.c (.fz (.int .u8) (a2.getD (max (0 : Int) (s1 - 3)).toNat [])))), (103, .v (.c (.fz (.int .u8) (a2.getD (max (0 : Int) (s1 - 3)).toNat [])))), (104, .v (.c (.fp (.int .u8) ((a2.getD (max (0 : Int) (s1 - 3)).toNat []).getD 0 0) 0 0 0))), (105, .v (.c (.int .u8 ((a2.getD (max (0 : Int) (s1 - 3)).toNat []).getD 0 0)))), (106, .v (.c (.fz (.int .u8) (a2.getD (max (0 : Int) (s1 - 3)).toNat [])))), (107, .v (.c (.fp (.int .u8) ((a2.getD (max (0 : Int) (s1 - 3)).toNat []).getD 0 0) 0 0 0))), (108, .v (.c (.int .u8 ((a2.getD (max (0 : Int) (s1 - 3)).toNat []).getD 0 0))))], [(0, .mem true 25 none (.flat [.cs [.int .i64 a1], .fzs 3 (.int .u8) a2])), (5, .mem true 31 none (.flat [.ints 384 .i64 (c6.getD default).1])), (7, .mem true 31 none (.flat [.ints 384 .i64 (c9.getD default).1]))], 8⟩) hl (To.mk' [] 0 hε rfl (by repeat' first | exact True.intro | exact rfl | apply And.intro) (by repeat' first | exact True.intro | exact rfl | apply And.intro)) (fun s2 zs2 NNs2 hz hnexts2 houts2 => ?_)
              clear hl hT
              have hT := hz; clear hz
              refine rSeq ?_
              refine rSeq ?_
              refine zReg md0 hX rfl rfl rfl ?_
              refine rThen ?_
              refine zCond rfl rfl (fun hc => ?_) (fun hc => ?_)
              · replace hT := sT hc hT
                refine rSkip ?_
                refine rThen ?_
                refine rSeq ?_
                refine rBlock ?_
                replace hT := sIf hT; obtain ⟨⟨o1, o2⟩, hT⟩ := hT
                refine rDrawV md0 0 12 13 [] hX mixed rfl rfl rfl rfl rfl rfl rfl rfl rfl rfl rfl rfl rfl rfl rfl (by repeat' first | exact True.intro | exact rfl | apply And.intro) (by repeat' first | exact True.intro | exact rfl | apply And.intro) rfl rfl (by (repeat' first | exact True.intro | with_reducible assumption | (with_reducible apply And.intro) | intro _) <;> first | assumption | exact rfl | omega | exact Nat.le_of_ble_eq_true rfl | exact selF (by assumption) | exact selT (by assumption) | exact And.intro rfl rfl | exact And.intro (by assumption) rfl | exact And.intro (by omega) rfl | (simp only [inK] at *; omega) | (simp_all [sel] <;> fail) | fail) ?_
                refine rInNormal ?_
                refine rThen ?_
                replace hT := sIf hT; obtain ⟨o1, hT⟩ := hT
                refine zReg md0 hX rfl rfl rfl ?_
                exact hnexts2 _ (Option.some.inj hT).symm _ (To.mk' [] 0 hε rfl (by repeat' first | exact True.intro | exact rfl | apply And.intro) (by repeat' first | exact True.intro | exact rfl | apply And.intro))
              · replace hT := sF hc hT
                refine rExit ?_
                refine rThenExit ?_
                refine rThenExit ?_
                exact zTo [] 0 hε (hxs20 _ (houts2 _ (Option.some.inj hT).symm))
            · replace hT := sF hc hT
              refine rExit ?_
              refine rThenExit ?_
              refine rThenExit ?_
              exact zTo [] 0 hε (hxs11 _ (houts1 _ (Option.some.inj hT).symm))
  · cases h

end Go.Proofs.Ytjknjjdijoboiaa
