/- Models of functions, and that the program does what they tell. -/
import Derived.Test.YtbcgkdigfkapcaaDoorG2
set_option linter.unusedVariables false
set_option linter.unusedSimpArgs false
namespace Go.Proofs.YtbcgkdigfkapcaaDoor
open Go.X

def ref02_Row_b1 (N : Nat) (a2 : Int) (s1 : (Int × ByteArray × Int)) : Option ((Int × ByteArray × Int) ⊕ ByteArray) :=
  bif (decide (s1.2.2 < a2)) then
    if (0 : Int) ≤ s1.1 ∧ inK .i64 ((s1.1 % 2) + 1) ∧ (0 : Int) ≤ (s1.1 % 2) ∧ (s1.1 % 2) ≤ ((s1.1 % 2) + 1) ∧ ((s1.1 % 2) + 1) ≤ (ByteArray.size ⟨#[48, 49]⟩ : Int) ∧ (ByteArray.size (ByteArray.extract ⟨#[48, 49]⟩ (s1.1 % 2).toNat ((s1.1 % 2) + 1).toNat) : Int) + ByteArray.size s1.2.1 ≤ 9223372036854775807 then
      if (0 : Int) ≤ s1.1 then
        if inK .i64 (s1.2.2 + 1) then
          some (.inl ((s1.1 / 2), ((ByteArray.extract ⟨#[48, 49]⟩ (s1.1 % 2).toNat ((s1.1 % 2) + 1).toNat) ++ s1.2.1), (s1.2.2 + 1)))
        else none
      else none
    else none
  else
    some (.inr s1.2.1)
def ref02_Row (N : Nat) (a1 : Int) (a2 : Int) : Option ByteArray :=
  (iter (ref02_Row_b1 N a2) N (a1, ⟨#[]⟩, 0)).bind fun v1 =>
    some v1
def sp_ref02_Row (N : Nat) : X.Spec := fun args lk => match args with
  | [.v (.c (.int .i64 a1)), .v (.c (.int .i64 a2))] => some ⟨(ref02_Row N a1 a2).isSome = true, .v (.c (.str ((ref02_Row N a1 a2).getD default))), [], []⟩
  | _ => none
set_option maxRecDepth 100000 in
set_option maxHeartbeats 1000000 in
theorem ok_ref02_Row (N : Nat) : FnOK Tryd.prog gt0 39 (sp_ref02_Row N) := by
  refine fnOK_handed Tryd.func39 rfl (by kernel_rfl) tt_ok (ktNil) ?_
  intro args lk r h hp
  unfold sp_ref02_Row at h
  split at h
  · rename_i a1 a2
    cases h
    obtain ⟨x, hx⟩ := Option.isSome_iff_exists.1 hp
    simp only [hx, Option.getD_some]
    refine hand0 rfl rfl (fun w0 M ε0 hX => ?_)
    refine rCount (fun hε => ?_)
    have hT : ref02_Row N a1 a2 = some x := hx; clear hx hp; unfold ref02_Row at hT
    refine rSeq ?_
    refine rRegC md0 hX rfl rfl rfl (by repeat' first | exact True.intro | exact rfl | apply And.intro | omega | exact Nat.le_of_ble_eq_true rfl) ?_
    refine rThen ?_
    refine rSeq ?_
    refine rRegC md0 hX rfl rfl rfl (by repeat' first | exact True.intro | exact rfl | apply And.intro | omega | exact Nat.le_of_ble_eq_true rfl) ?_
    refine rThen ?_
    refine rSeq ?_
    refine rSeq ?_
    refine rRegC md0 hX rfl rfl rfl (by repeat' first | exact True.intro | exact rfl | apply And.intro | omega | exact Nat.le_of_ble_eq_true rfl) ?_
    refine rThen ?_
    refine rBlock ?_
    replace hT := sBind hT; obtain ⟨w1, hl, hT⟩ := hT
    refine rJoinA (fun v1 => v1 = w1) (fun v1 => ⟨[(4, .v (.c (.str ⟨#[]⟩))), (5, .v (.c (.str v1)))], [], 0⟩) (.exit 0) (fun v1 hv => ?_) (fun hxs10 => ?_)
    · subst hv; clear hl
      refine rInHit ?_
      refine rThen ?_
      refine rSeq ?_
      refine rRegC md0 hX rfl rfl rfl (by repeat' first | exact True.intro | exact rfl | apply And.intro | omega | exact Nat.le_of_ble_eq_true rfl) ?_
      refine rThen ?_
      refine rRet ?_
      have hy := Option.some.inj hT; subst hy
      exact rEnd0 hX rfl (by repeat' first | exact True.intro | exact rfl | apply And.intro | omega | exact Nat.le_of_ble_eq_true rfl) (by repeat' first | exact True.intro | exact rfl | apply And.intro) rfl rfl rfl rfl rfl
    refine rLoopM (ref02_Row_b1 N a2) (fun s1 => ⟨[(0, .v (.c (.int .i64 s1.1))), (1, .v (.c (.int .i64 a2))), (4, .v (.c (.str ⟨#[]⟩))), (5, .v (.c (.str s1.2.1))), (6, .v (.c (.int .i64 s1.2.2)))], [], 0⟩) hl (To.mk' [] 0 hε rfl (by repeat' first | exact True.intro | exact rfl | apply And.intro) (by repeat' first | exact True.intro | exact rfl | apply And.intro)) (fun s1 zs1 NNs1 hz hnexts1 houts1 => ?_)
    clear hl hT
    have hT := hz; clear hz
    refine rSeq ?_
    refine rSeq ?_
    refine rRegC md0 hX rfl rfl rfl (by repeat' first | exact True.intro | exact rfl | apply And.intro | omega | exact Nat.le_of_ble_eq_true rfl) ?_
    refine rThen ?_
    refine rCond rfl rfl (by repeat' first | exact True.intro | exact rfl | apply And.intro | omega | exact Nat.le_of_ble_eq_true rfl) (fun hc => ?_) (fun hc => ?_)
    · replace hT := sT hc hT
      refine rSkip ?_
      refine rThen ?_
      refine rSeq ?_
      refine rBlock ?_
      refine rSeq ?_
      replace hT := sIf hT; obtain ⟨⟨o1, o2, o3, o4, o5, o6⟩, hT⟩ := hT
      refine rRegC md0 hX rfl rfl rfl (by (repeat' first | exact True.intro | with_reducible assumption | (with_reducible apply And.intro) | intro _) <;> first | assumption | exact rfl | omega | exact Nat.le_of_ble_eq_true rfl | exact selF (by assumption) | exact selT (by assumption) | exact And.intro rfl rfl | exact And.intro (by assumption) rfl | exact And.intro (by omega) rfl | (simp only [inK] at *; omega) | (simp_all [sel] <;> fail) | fail) ?_
      refine rThen ?_
      replace hT := sIf hT; obtain ⟨o1, hT⟩ := hT
      refine rRegC md0 hX rfl rfl rfl (by (repeat' first | exact True.intro | with_reducible assumption | (with_reducible apply And.intro) | intro _) <;> first | assumption | exact rfl | omega | exact Nat.le_of_ble_eq_true rfl | exact selF (by assumption) | exact selT (by assumption) | exact And.intro rfl rfl | exact And.intro (by assumption) rfl | exact And.intro (by omega) rfl | (simp only [inK] at *; omega) | (simp_all [sel] <;> fail) | fail) ?_
      refine rInNormal ?_
      refine rThen ?_
      replace hT := sIf hT; obtain ⟨o1, hT⟩ := hT
      refine rRegC md0 hX rfl rfl rfl (by (repeat' first | exact True.intro | with_reducible assumption | (with_reducible apply And.intro) | intro _) <;> first | assumption | exact rfl | omega | exact Nat.le_of_ble_eq_true rfl | exact selF (by assumption) | exact selT (by assumption) | exact And.intro rfl rfl | exact And.intro (by assumption) rfl | exact And.intro (by omega) rfl | (simp only [inK] at *; omega) | (simp_all [sel] <;> fail) | fail) ?_
      exact hnexts1 _ (Option.some.inj hT).symm _ (To.mk' [] 0 hε rfl (by repeat' first | exact True.intro | exact rfl | apply And.intro) (by repeat' first | exact True.intro | exact rfl | apply And.intro))
    · replace hT := sF hc hT
      refine rExit ?_
      refine rThenExit ?_
      refine rThenExit ?_
      exact rTo (To.mk' [] 0 hε rfl (by repeat' first | exact True.intro | exact rfl | apply And.intro) (by repeat' first | exact True.intro | exact rfl | apply And.intro)) (hxs10 _ (houts1 _ (Option.some.inj hT).symm))
  · cases h
def ref09_amount (N : Nat) (a1 : Int) : Option Int :=
  bif (decide (a1 < 0)) then
    if inK .i64 (-a1) then
      some (-a1)
    else none
  else
    some a1
def sp_ref09_amount (N : Nat) : X.Spec := fun args lk => match args with
  | [.v (.c (.int .i64 a1))] => some ⟨(ref09_amount N a1).isSome = true, .v (.c (.int .i64 ((ref09_amount N a1).getD default))), [], []⟩
  | _ => none
set_option maxRecDepth 100000 in
set_option maxHeartbeats 1000000 in
theorem ok_ref09_amount (N : Nat) : FnOK Tryd.prog gt0 37 (sp_ref09_amount N) := by
  refine fnOK_handed Tryd.func37 rfl (by kernel_rfl) tt_ok (ktNil) ?_
  intro args lk r h hp
  unfold sp_ref09_amount at h
  split at h
  · rename_i a1
    cases h
    obtain ⟨x, hx⟩ := Option.isSome_iff_exists.1 hp
    simp only [hx, Option.getD_some]
    refine hand0 rfl rfl (fun w0 M ε0 hX => ?_)
    refine rCount (fun hε => ?_)
    have hT : ref09_amount N a1 = some x := hx; clear hx hp; unfold ref09_amount at hT
    refine rSeq ?_
    refine rRegC md0 hX rfl rfl rfl (by repeat' first | exact True.intro | exact rfl | apply And.intro | omega | exact Nat.le_of_ble_eq_true rfl) ?_
    refine rThen ?_
    refine rSeq ?_
    refine rSeq ?_
    refine rRegC md0 hX rfl rfl rfl (by repeat' first | exact True.intro | exact rfl | apply And.intro | omega | exact Nat.le_of_ble_eq_true rfl) ?_
    refine rThen ?_
    refine rCond rfl rfl (by repeat' first | exact True.intro | exact rfl | apply And.intro | omega | exact Nat.le_of_ble_eq_true rfl) (fun hc => ?_) (fun hc => ?_)
    · replace hT := sT hc hT
      refine rSeq ?_
      replace hT := sIf hT; obtain ⟨o1, hT⟩ := hT
      refine rRegC md0 hX rfl rfl rfl (by (repeat' first | exact True.intro | with_reducible assumption | (with_reducible apply And.intro) | intro _) <;> first | assumption | exact rfl | omega | exact Nat.le_of_ble_eq_true rfl | exact selF (by assumption) | exact selT (by assumption) | exact And.intro rfl rfl | exact And.intro (by assumption) rfl | exact And.intro (by omega) rfl | (simp only [inK] at *; omega) | (simp_all [sel] <;> fail) | fail) ?_
      refine rThen ?_
      refine rRet ?_
      refine rThenRet ?_
      have hy := Option.some.inj hT; subst hy
      exact rEnd0 hX rfl (by repeat' first | exact True.intro | exact rfl | apply And.intro | omega | exact Nat.le_of_ble_eq_true rfl) (by repeat' first | exact True.intro | exact rfl | apply And.intro) rfl rfl rfl rfl rfl
    · replace hT := sF hc hT
      refine rSkip ?_
      refine rThen ?_
      refine rSeq ?_
      refine rRegC md0 hX rfl rfl rfl (by repeat' first | exact True.intro | exact rfl | apply And.intro | omega | exact Nat.le_of_ble_eq_true rfl) ?_
      refine rThen ?_
      refine rRet ?_
      have hy := Option.some.inj hT; subst hy
      exact rEnd0 hX rfl (by repeat' first | exact True.intro | exact rfl | apply And.intro | omega | exact Nat.le_of_ble_eq_true rfl) (by repeat' first | exact True.intro | exact rfl | apply And.intro) rfl rfl rfl rfl rfl
  · cases h
def ref09_table (N : Nat) : Option (List ByteArray) :=
  some [(ByteArray.mk (List.toArray [49, 48, 32, 49, 49, 49, 49, 32, 48, 49, 48, 49, 48, 49, 32, 48, 48, 49, 48, 49, 49, 49, 32, 48, 48, 48, 49, 49, 49, 49, 49, 32, 48, 48, 48, 49, 48, 48, 49, 48, 49, 32, 48, 48, 48, 49, 48, 48, 49, 48, 48, 32, 48, 48, 48, 48, 49, 48, 48, 48, 48, 49, 32, 48, 48, 48, 48, 49, 48, 48, 48, 48, 48, 32, 48, 48, 48, 48, 48, 48, 48, 48, 49, 49, 49, 32, 48, 48, 48, 48, 48, 48, 48, 48, 49, 49, 48, 32, 48, 48, 48, 48, 48, 49, 48, 48, 48, 48, 48])), (ByteArray.mk (List.toArray [49, 49, 48, 32, 48, 49, 48, 49, 48, 48, 32, 48, 48, 48, 49, 49, 49, 49, 48, 32, 48, 48, 48, 48, 48, 48, 49, 49, 49, 49, 32, 48, 48, 48, 48, 48, 49, 48, 48, 48, 48, 49, 32, 48, 48, 48, 48, 48, 49, 48, 49, 48, 48, 48, 48])), (ByteArray.mk (List.toArray [49, 49, 49, 48, 32, 48, 48, 48, 49, 49, 49, 48, 49, 32, 48, 48, 48, 48, 48, 48, 49, 49, 49, 48, 32, 48, 48, 48, 48, 48, 49, 48, 49, 48, 48, 48, 49])), (ByteArray.mk (List.toArray [48, 49, 49, 48, 49, 32, 48, 48, 48, 49, 48, 48, 48, 49, 49, 32, 48, 48, 48, 48, 48, 48, 49, 49, 48, 49])), (ByteArray.mk (List.toArray [48, 49, 49, 48, 48, 32, 48, 48, 48, 49, 48, 48, 48, 49, 48, 32, 48, 48, 48, 48, 48, 49, 48, 49, 48, 48, 49, 48])), (ByteArray.mk (List.toArray [48, 49, 48, 49, 49, 32, 48, 48, 48, 48, 48, 48, 49, 49, 48, 48, 32, 48, 48, 48, 48, 48, 49, 48, 49, 48, 48, 49, 49])), (ByteArray.mk (List.toArray [48, 49, 48, 48, 49, 49, 32, 48, 48, 48, 48, 48, 48, 49, 48, 49, 49, 32, 48, 48, 48, 48, 48, 49, 48, 49, 48, 49, 48, 48])), ⟨#[48, 49, 48, 48, 49, 48, 32, 48, 48, 48, 48, 48, 48, 49, 48, 49, 48]⟩, ⟨#[48, 49, 48, 48, 48, 49, 32, 48, 48, 48, 48, 48, 48, 49, 48, 48, 49]⟩, ⟨#[48, 49, 48, 48, 48, 48, 32, 48, 48, 48, 48, 48, 48, 49, 48, 48, 48]⟩, (ByteArray.mk (List.toArray [48, 48, 49, 48, 49, 49, 48, 32, 48, 48, 48, 48, 48, 49, 48, 49, 48, 49, 48, 49])), ⟨#[48, 48, 49, 48, 49, 48, 49]⟩, ⟨#[48, 48, 49, 48, 49, 48, 48]⟩, ⟨#[48, 48, 48, 49, 49, 49, 48, 48]⟩, ⟨#[48, 48, 48, 49, 49, 48, 49, 49]⟩, ⟨#[48, 48, 48, 49, 48, 48, 48, 48, 49]⟩, ⟨#[48, 48, 48, 49, 48, 48, 48, 48, 48]⟩, ⟨#[48, 48, 48, 48, 49, 49, 49, 49, 49]⟩, ⟨#[48, 48, 48, 48, 49, 49, 49, 49, 48]⟩, ⟨#[48, 48, 48, 48, 49, 49, 49, 48, 49]⟩, ⟨#[48, 48, 48, 48, 49, 49, 49, 48, 48]⟩, ⟨#[48, 48, 48, 48, 49, 49, 48, 49, 49]⟩, ⟨#[48, 48, 48, 48, 49, 49, 48, 49, 48]⟩, ⟨#[48, 48, 48, 48, 48, 49, 48, 48, 48, 49, 48]⟩, ⟨#[48, 48, 48, 48, 48, 49, 48, 48, 48, 49, 49]⟩, ⟨#[48, 48, 48, 48, 48, 49, 48, 49, 48, 49, 49, 48]⟩, ⟨#[48, 48, 48, 48, 48, 49, 48, 49, 48, 49, 49, 49]⟩]
def sp_ref09_table (N : Nat) : X.Spec := fun args lk => match args with
  | [] => some ⟨(ref09_table N).isSome = true, .v (.c (.fz .str ((ref09_table N).getD default))), [], []⟩
  | _ => none
set_option maxRecDepth 100000 in
set_option maxHeartbeats 1000000 in
theorem ok_ref09_table (N : Nat) : FnOK Tryd.prog gt0 59 (sp_ref09_table N) := by
  refine fnOK_handed Tryd.func59 rfl (by kernel_rfl) tt_ok (ktNil) ?_
  intro args lk r h hp
  unfold sp_ref09_table at h
  split at h
  · skip
    cases h
    obtain ⟨x, hx⟩ := Option.isSome_iff_exists.1 hp
    simp only [hx, Option.getD_some]
    refine hand0 rfl rfl (fun w0 M ε0 hX => ?_)
    refine rCount (fun hε => ?_)
    have hT : ref09_table N = some x := hx; clear hx hp; unfold ref09_table at hT
    refine rSeq ?_
    refine rRegC md0 hX rfl rfl rfl (by repeat' first | exact True.intro | exact rfl | apply And.intro | omega | exact Nat.le_of_ble_eq_true rfl) ?_
    refine rThen ?_
    refine rSeq ?_
    refine rRegC md0 hX rfl rfl rfl (by repeat' first | exact True.intro | exact rfl | apply And.intro | omega | exact Nat.le_of_ble_eq_true rfl) ?_
    refine rLstQ 0 .str [(ByteArray.mk (List.toArray [49, 48, 32, 49, 49, 49, 49, 32, 48, 49, 48, 49, 48, 49, 32, 48, 48, 49, 48, 49, 49, 49, 32, 48, 48, 48, 49, 49, 49, 49, 49, 32, 48, 48, 48, 49, 48, 48, 49, 48, 49, 32, 48, 48, 48, 49, 48, 48, 49, 48, 48, 32, 48, 48, 48, 48, 49, 48, 48, 48, 48, 49, 32, 48, 48, 48, 48, 49, 48, 48, 48, 48, 48, 32, 48, 48, 48, 48, 48, 48, 48, 48, 49, 49, 49, 32, 48, 48, 48, 48, 48, 48, 48, 48, 49, 49, 48, 32, 48, 48, 48, 48, 48, 49, 48, 48, 48, 48, 48])), (ByteArray.mk (List.toArray [49, 49, 48, 32, 48, 49, 48, 49, 48, 48, 32, 48, 48, 48, 49, 49, 49, 49, 48, 32, 48, 48, 48, 48, 48, 48, 49, 49, 49, 49, 32, 48, 48, 48, 48, 48, 49, 48, 48, 48, 48, 49, 32, 48, 48, 48, 48, 48, 49, 48, 49, 48, 48, 48, 48])), (ByteArray.mk (List.toArray [49, 49, 49, 48, 32, 48, 48, 48, 49, 49, 49, 48, 49, 32, 48, 48, 48, 48, 48, 48, 49, 49, 49, 48, 32, 48, 48, 48, 48, 48, 49, 48, 49, 48, 48, 48, 49])), (ByteArray.mk (List.toArray [48, 49, 49, 48, 49, 32, 48, 48, 48, 49, 48, 48, 48, 49, 49, 32, 48, 48, 48, 48, 48, 48, 49, 49, 48, 49])), (ByteArray.mk (List.toArray [48, 49, 49, 48, 48, 32, 48, 48, 48, 49, 48, 48, 48, 49, 48, 32, 48, 48, 48, 48, 48, 49, 48, 49, 48, 48, 49, 48])), (ByteArray.mk (List.toArray [48, 49, 48, 49, 49, 32, 48, 48, 48, 48, 48, 48, 49, 49, 48, 48, 32, 48, 48, 48, 48, 48, 49, 48, 49, 48, 48, 49, 49])), (ByteArray.mk (List.toArray [48, 49, 48, 48, 49, 49, 32, 48, 48, 48, 48, 48, 48, 49, 48, 49, 49, 32, 48, 48, 48, 48, 48, 49, 48, 49, 48, 49, 48, 48])), ⟨#[48, 49, 48, 48, 49, 48, 32, 48, 48, 48, 48, 48, 48, 49, 48, 49, 48]⟩, ⟨#[48, 49, 48, 48, 48, 49, 32, 48, 48, 48, 48, 48, 48, 49, 48, 48, 49]⟩, ⟨#[48, 49, 48, 48, 48, 48, 32, 48, 48, 48, 48, 48, 48, 49, 48, 48, 48]⟩, (ByteArray.mk (List.toArray [48, 48, 49, 48, 49, 49, 48, 32, 48, 48, 48, 48, 48, 49, 48, 49, 48, 49, 48, 49])), ⟨#[48, 48, 49, 48, 49, 48, 49]⟩, ⟨#[48, 48, 49, 48, 49, 48, 48]⟩, ⟨#[48, 48, 48, 49, 49, 49, 48, 48]⟩, ⟨#[48, 48, 48, 49, 49, 48, 49, 49]⟩, ⟨#[48, 48, 48, 49, 48, 48, 48, 48, 49]⟩, ⟨#[48, 48, 48, 49, 48, 48, 48, 48, 48]⟩, ⟨#[48, 48, 48, 48, 49, 49, 49, 49, 49]⟩, ⟨#[48, 48, 48, 48, 49, 49, 49, 49, 48]⟩, ⟨#[48, 48, 48, 48, 49, 49, 49, 48, 49]⟩, ⟨#[48, 48, 48, 48, 49, 49, 49, 48, 48]⟩, ⟨#[48, 48, 48, 48, 49, 49, 48, 49, 49]⟩, ⟨#[48, 48, 48, 48, 49, 49, 48, 49, 48]⟩, ⟨#[48, 48, 48, 48, 48, 49, 48, 48, 48, 49, 48]⟩, ⟨#[48, 48, 48, 48, 48, 49, 48, 48, 48, 49, 49]⟩, ⟨#[48, 48, 48, 48, 48, 49, 48, 49, 48, 49, 49, 48]⟩, ⟨#[48, 48, 48, 48, 48, 49, 48, 49, 48, 49, 49, 49]⟩] rfl rfl rfl ?_
    refine rThen ?_
    refine rRet ?_
    refine rFreezeQ 0 .str [(ByteArray.mk (List.toArray [49, 48, 32, 49, 49, 49, 49, 32, 48, 49, 48, 49, 48, 49, 32, 48, 48, 49, 48, 49, 49, 49, 32, 48, 48, 48, 49, 49, 49, 49, 49, 32, 48, 48, 48, 49, 48, 48, 49, 48, 49, 32, 48, 48, 48, 49, 48, 48, 49, 48, 48, 32, 48, 48, 48, 48, 49, 48, 48, 48, 48, 49, 32, 48, 48, 48, 48, 49, 48, 48, 48, 48, 48, 32, 48, 48, 48, 48, 48, 48, 48, 48, 49, 49, 49, 32, 48, 48, 48, 48, 48, 48, 48, 48, 49, 49, 48, 32, 48, 48, 48, 48, 48, 49, 48, 48, 48, 48, 48])), (ByteArray.mk (List.toArray [49, 49, 48, 32, 48, 49, 48, 49, 48, 48, 32, 48, 48, 48, 49, 49, 49, 49, 48, 32, 48, 48, 48, 48, 48, 48, 49, 49, 49, 49, 32, 48, 48, 48, 48, 48, 49, 48, 48, 48, 48, 49, 32, 48, 48, 48, 48, 48, 49, 48, 49, 48, 48, 48, 48])), (ByteArray.mk (List.toArray [49, 49, 49, 48, 32, 48, 48, 48, 49, 49, 49, 48, 49, 32, 48, 48, 48, 48, 48, 48, 49, 49, 49, 48, 32, 48, 48, 48, 48, 48, 49, 48, 49, 48, 48, 48, 49])), (ByteArray.mk (List.toArray [48, 49, 49, 48, 49, 32, 48, 48, 48, 49, 48, 48, 48, 49, 49, 32, 48, 48, 48, 48, 48, 48, 49, 49, 48, 49])), (ByteArray.mk (List.toArray [48, 49, 49, 48, 48, 32, 48, 48, 48, 49, 48, 48, 48, 49, 48, 32, 48, 48, 48, 48, 48, 49, 48, 49, 48, 48, 49, 48])), (ByteArray.mk (List.toArray [48, 49, 48, 49, 49, 32, 48, 48, 48, 48, 48, 48, 49, 49, 48, 48, 32, 48, 48, 48, 48, 48, 49, 48, 49, 48, 48, 49, 49])), (ByteArray.mk (List.toArray [48, 49, 48, 48, 49, 49, 32, 48, 48, 48, 48, 48, 48, 49, 48, 49, 49, 32, 48, 48, 48, 48, 48, 49, 48, 49, 48, 49, 48, 48])), ⟨#[48, 49, 48, 48, 49, 48, 32, 48, 48, 48, 48, 48, 48, 49, 48, 49, 48]⟩, ⟨#[48, 49, 48, 48, 48, 49, 32, 48, 48, 48, 48, 48, 48, 49, 48, 48, 49]⟩, ⟨#[48, 49, 48, 48, 48, 48, 32, 48, 48, 48, 48, 48, 48, 49, 48, 48, 48]⟩, (ByteArray.mk (List.toArray [48, 48, 49, 48, 49, 49, 48, 32, 48, 48, 48, 48, 48, 49, 48, 49, 48, 49, 48, 49])), ⟨#[48, 48, 49, 48, 49, 48, 49]⟩, ⟨#[48, 48, 49, 48, 49, 48, 48]⟩, ⟨#[48, 48, 48, 49, 49, 49, 48, 48]⟩, ⟨#[48, 48, 48, 49, 49, 48, 49, 49]⟩, ⟨#[48, 48, 48, 49, 48, 48, 48, 48, 49]⟩, ⟨#[48, 48, 48, 49, 48, 48, 48, 48, 48]⟩, ⟨#[48, 48, 48, 48, 49, 49, 49, 49, 49]⟩, ⟨#[48, 48, 48, 48, 49, 49, 49, 49, 48]⟩, ⟨#[48, 48, 48, 48, 49, 49, 49, 48, 49]⟩, ⟨#[48, 48, 48, 48, 49, 49, 49, 48, 48]⟩, ⟨#[48, 48, 48, 48, 49, 49, 48, 49, 49]⟩, ⟨#[48, 48, 48, 48, 49, 49, 48, 49, 48]⟩, ⟨#[48, 48, 48, 48, 48, 49, 48, 48, 48, 49, 48]⟩, ⟨#[48, 48, 48, 48, 48, 49, 48, 48, 48, 49, 49]⟩, ⟨#[48, 48, 48, 48, 48, 49, 48, 49, 48, 49, 49, 48]⟩, ⟨#[48, 48, 48, 48, 48, 49, 48, 49, 48, 49, 49, 49]⟩] [(0, .v (.c (.fz .str [(ByteArray.mk (List.toArray [49, 48, 32, 49, 49, 49, 49, 32, 48, 49, 48, 49, 48, 49, 32, 48, 48, 49, 48, 49, 49, 49, 32, 48, 48, 48, 49, 49, 49, 49, 49, 32, 48, 48, 48, 49, 48, 48, 49, 48, 49, 32, 48, 48, 48, 49, 48, 48, 49, 48, 48, 32, 48, 48, 48, 48, 49, 48, 48, 48, 48, 49, 32, 48, 48, 48, 48, 49, 48, 48, 48, 48, 48, 32, 48, 48, 48, 48, 48, 48, 48, 48, 49, 49, 49, 32, 48, 48, 48, 48, 48, 48, 48, 48, 49, 49, 48, 32, 48, 48, 48, 48, 48, 49, 48, 48, 48, 48, 48])), (ByteArray.mk (List.toArray [49, 49, 48, 32, 48, 49, 48, 49, 48, 48, 32, 48, 48, 48, 49, 49, 49, 49, 48, 32, 48, 48, 48, 48, 48, 48, 49, 49, 49, 49, 32, 48, 48, 48, 48, 48, 49, 48, 48, 48, 48, 49, 32, 48, 48, 48, 48, 48, 49, 48, 49, 48, 48, 48, 48])), (ByteArray.mk (List.toArray [49, 49, 49, 48, 32, 48, 48, 48, 49, 49, 49, 48, 49, 32, 48, 48, 48, 48, 48, 48, 49, 49, 49, 48, 32, 48, 48, 48, 48, 48, 49, 48, 49, 48, 48, 48, 49])), (ByteArray.mk (List.toArray [48, 49, 49, 48, 49, 32, 48, 48, 48, 49, 48, 48, 48, 49, 49, 32, 48, 48, 48, 48, 48, 48, 49, 49, 48, 49])), (ByteArray.mk (List.toArray [48, 49, 49, 48, 48, 32, 48, 48, 48, 49, 48, 48, 48, 49, 48, 32, 48, 48, 48, 48, 48, 49, 48, 49, 48, 48, 49, 48])), (ByteArray.mk (List.toArray [48, 49, 48, 49, 49, 32, 48, 48, 48, 48, 48, 48, 49, 49, 48, 48, 32, 48, 48, 48, 48, 48, 49, 48, 49, 48, 48, 49, 49])), (ByteArray.mk (List.toArray [48, 49, 48, 48, 49, 49, 32, 48, 48, 48, 48, 48, 48, 49, 48, 49, 49, 32, 48, 48, 48, 48, 48, 49, 48, 49, 48, 49, 48, 48])), ⟨#[48, 49, 48, 48, 49, 48, 32, 48, 48, 48, 48, 48, 48, 49, 48, 49, 48]⟩, ⟨#[48, 49, 48, 48, 48, 49, 32, 48, 48, 48, 48, 48, 48, 49, 48, 48, 49]⟩, ⟨#[48, 49, 48, 48, 48, 48, 32, 48, 48, 48, 48, 48, 48, 49, 48, 48, 48]⟩, (ByteArray.mk (List.toArray [48, 48, 49, 48, 49, 49, 48, 32, 48, 48, 48, 48, 48, 49, 48, 49, 48, 49, 48, 49])), ⟨#[48, 48, 49, 48, 49, 48, 49]⟩, ⟨#[48, 48, 49, 48, 49, 48, 48]⟩, ⟨#[48, 48, 48, 49, 49, 49, 48, 48]⟩, ⟨#[48, 48, 48, 49, 49, 48, 49, 49]⟩, ⟨#[48, 48, 48, 49, 48, 48, 48, 48, 49]⟩, ⟨#[48, 48, 48, 49, 48, 48, 48, 48, 48]⟩, ⟨#[48, 48, 48, 48, 49, 49, 49, 49, 49]⟩, ⟨#[48, 48, 48, 48, 49, 49, 49, 49, 48]⟩, ⟨#[48, 48, 48, 48, 49, 49, 49, 48, 49]⟩, ⟨#[48, 48, 48, 48, 49, 49, 49, 48, 48]⟩, ⟨#[48, 48, 48, 48, 49, 49, 48, 49, 49]⟩, ⟨#[48, 48, 48, 48, 49, 49, 48, 49, 48]⟩, ⟨#[48, 48, 48, 48, 48, 49, 48, 48, 48, 49, 48]⟩, ⟨#[48, 48, 48, 48, 48, 49, 48, 48, 48, 49, 49]⟩, ⟨#[48, 48, 48, 48, 48, 49, 48, 49, 48, 49, 49, 48]⟩, ⟨#[48, 48, 48, 48, 48, 49, 48, 49, 48, 49, 49, 49]⟩])))] [] rfl rfl (by (repeat' first | exact True.intro | exact rfl | apply And.intro) <;> first | assumption | rfl) (by (repeat' first | exact True.intro | exact rfl | apply And.intro) <;> first | assumption | rfl) ?_
    have hy := Option.some.inj hT; subst hy
    exact rEnd0 hX rfl (by repeat' first | exact True.intro | exact rfl | apply And.intro | omega | exact Nat.le_of_ble_eq_true rfl) (by repeat' first | exact True.intro | exact rfl | apply And.intro) rfl rfl rfl rfl rfl
  · cases h
def ref09_ends (N : Nat) : Option (List ByteArray) :=
  some [(ByteArray.mk (List.toArray [48, 49, 49, 49, 32, 48, 48, 48, 48, 49, 49, 48, 48, 49, 32, 48, 48, 48, 48, 48, 48, 48, 48, 49, 48, 49])), ⟨#[48, 48, 49, 49, 49, 49, 32, 48, 48, 48, 48, 48, 48, 48, 48, 49, 48, 48]⟩, ⟨#[48, 48, 49, 49, 49, 48]⟩, ⟨#[48, 48, 49, 49, 48, 49]⟩, ⟨#[48, 48, 49, 49, 48, 48]⟩, ⟨#[48, 48, 49, 48, 48, 49, 49]⟩, ⟨#[48, 48, 49, 48, 48, 49, 48]⟩, ⟨#[48, 48, 49, 48, 48, 48, 49]⟩, ⟨#[48, 48, 49, 48, 48, 48, 48]⟩, ⟨#[48, 48, 48, 49, 49, 48, 49, 48]⟩, ⟨#[48, 48, 48, 49, 49, 48, 48, 49]⟩, ⟨#[48, 48, 48, 49, 49, 48, 48, 48]⟩, ⟨#[48, 48, 48, 49, 48, 49, 49, 49]⟩, ⟨#[48, 48, 48, 49, 48, 49, 49, 48]⟩, ⟨#[48, 48, 48, 49, 48, 49, 48, 49]⟩, ⟨#[48, 48, 48, 49, 48, 49, 48, 48]⟩, ⟨#[48, 48, 48, 49, 48, 48, 49, 49]⟩, ⟨#[48, 48, 48, 48, 49, 49, 48, 48, 48]⟩, ⟨#[48, 48, 48, 48, 49, 48, 49, 49, 49]⟩, ⟨#[48, 48, 48, 48, 49, 48, 49, 49, 48]⟩, ⟨#[48, 48, 48, 48, 49, 48, 49, 48, 49]⟩, ⟨#[48, 48, 48, 48, 49, 48, 49, 48, 48]⟩, ⟨#[48, 48, 48, 48, 49, 48, 48, 49, 49]⟩, ⟨#[48, 48, 48, 48, 49, 48, 48, 49, 48]⟩, ⟨#[48, 48, 48, 48, 49, 48, 48, 48, 49]⟩, ⟨#[48, 48, 48, 48, 48, 48, 48, 49, 49, 49]⟩, ⟨#[48, 48, 48, 48, 48, 48, 48, 49, 49, 48]⟩, ⟨#[48, 48, 48, 48, 48, 48, 48, 49, 48, 49]⟩, ⟨#[48, 48, 48, 48, 48, 48, 48, 49, 48, 48]⟩, ⟨#[48, 48, 48, 48, 48, 49, 48, 48, 49, 48, 48]⟩, ⟨#[48, 48, 48, 48, 48, 49, 48, 48, 49, 48, 49]⟩, ⟨#[48, 48, 48, 48, 48, 49, 48, 48, 49, 49, 48]⟩, ⟨#[48, 48, 48, 48, 48, 49, 48, 48, 49, 49, 49]⟩, ⟨#[48, 48, 48, 48, 48, 49, 48, 49, 49, 48, 48, 48]⟩, ⟨#[48, 48, 48, 48, 48, 49, 48, 49, 49, 48, 48, 49]⟩, ⟨#[48, 48, 48, 48, 48, 49, 48, 49, 49, 48, 49, 48]⟩, ⟨#[48, 48, 48, 48, 48, 49, 48, 49, 49, 48, 49, 49]⟩, ⟨#[48, 48, 48, 48, 48, 49, 48, 49, 49, 49, 48, 48]⟩, ⟨#[48, 48, 48, 48, 48, 49, 48, 49, 49, 49, 48, 49]⟩, ⟨#[48, 48, 48, 48, 48, 49, 48, 49, 49, 49, 49, 48]⟩, ⟨#[48, 48, 48, 48, 48, 49, 48, 49, 49, 49, 49, 49]⟩]
def sp_ref09_ends (N : Nat) : X.Spec := fun args lk => match args with
  | [] => some ⟨(ref09_ends N).isSome = true, .v (.c (.fz .str ((ref09_ends N).getD default))), [], []⟩
  | _ => none
set_option maxRecDepth 100000 in
set_option maxHeartbeats 1000000 in
theorem ok_ref09_ends (N : Nat) : FnOK Tryd.prog gt0 60 (sp_ref09_ends N) := by
  refine fnOK_handed Tryd.func60 rfl (by kernel_rfl) tt_ok (ktNil) ?_
  intro args lk r h hp
  unfold sp_ref09_ends at h
  split at h
  · skip
    cases h
    obtain ⟨x, hx⟩ := Option.isSome_iff_exists.1 hp
    simp only [hx, Option.getD_some]
    refine hand0 rfl rfl (fun w0 M ε0 hX => ?_)
    refine rCount (fun hε => ?_)
    have hT : ref09_ends N = some x := hx; clear hx hp; unfold ref09_ends at hT
    refine rSeq ?_
    refine rRegC md0 hX rfl rfl rfl (by repeat' first | exact True.intro | exact rfl | apply And.intro | omega | exact Nat.le_of_ble_eq_true rfl) ?_
    refine rThen ?_
    refine rSeq ?_
    refine rRegC md0 hX rfl rfl rfl (by repeat' first | exact True.intro | exact rfl | apply And.intro | omega | exact Nat.le_of_ble_eq_true rfl) ?_
    refine rLstQ 0 .str [(ByteArray.mk (List.toArray [48, 49, 49, 49, 32, 48, 48, 48, 48, 49, 49, 48, 48, 49, 32, 48, 48, 48, 48, 48, 48, 48, 48, 49, 48, 49])), ⟨#[48, 48, 49, 49, 49, 49, 32, 48, 48, 48, 48, 48, 48, 48, 48, 49, 48, 48]⟩, ⟨#[48, 48, 49, 49, 49, 48]⟩, ⟨#[48, 48, 49, 49, 48, 49]⟩, ⟨#[48, 48, 49, 49, 48, 48]⟩, ⟨#[48, 48, 49, 48, 48, 49, 49]⟩, ⟨#[48, 48, 49, 48, 48, 49, 48]⟩, ⟨#[48, 48, 49, 48, 48, 48, 49]⟩, ⟨#[48, 48, 49, 48, 48, 48, 48]⟩, ⟨#[48, 48, 48, 49, 49, 48, 49, 48]⟩, ⟨#[48, 48, 48, 49, 49, 48, 48, 49]⟩, ⟨#[48, 48, 48, 49, 49, 48, 48, 48]⟩, ⟨#[48, 48, 48, 49, 48, 49, 49, 49]⟩, ⟨#[48, 48, 48, 49, 48, 49, 49, 48]⟩, ⟨#[48, 48, 48, 49, 48, 49, 48, 49]⟩, ⟨#[48, 48, 48, 49, 48, 49, 48, 48]⟩, ⟨#[48, 48, 48, 49, 48, 48, 49, 49]⟩, ⟨#[48, 48, 48, 48, 49, 49, 48, 48, 48]⟩, ⟨#[48, 48, 48, 48, 49, 48, 49, 49, 49]⟩, ⟨#[48, 48, 48, 48, 49, 48, 49, 49, 48]⟩, ⟨#[48, 48, 48, 48, 49, 48, 49, 48, 49]⟩, ⟨#[48, 48, 48, 48, 49, 48, 49, 48, 48]⟩, ⟨#[48, 48, 48, 48, 49, 48, 48, 49, 49]⟩, ⟨#[48, 48, 48, 48, 49, 48, 48, 49, 48]⟩, ⟨#[48, 48, 48, 48, 49, 48, 48, 48, 49]⟩, ⟨#[48, 48, 48, 48, 48, 48, 48, 49, 49, 49]⟩, ⟨#[48, 48, 48, 48, 48, 48, 48, 49, 49, 48]⟩, ⟨#[48, 48, 48, 48, 48, 48, 48, 49, 48, 49]⟩, ⟨#[48, 48, 48, 48, 48, 48, 48, 49, 48, 48]⟩, ⟨#[48, 48, 48, 48, 48, 49, 48, 48, 49, 48, 48]⟩, ⟨#[48, 48, 48, 48, 48, 49, 48, 48, 49, 48, 49]⟩, ⟨#[48, 48, 48, 48, 48, 49, 48, 48, 49, 49, 48]⟩, ⟨#[48, 48, 48, 48, 48, 49, 48, 48, 49, 49, 49]⟩, ⟨#[48, 48, 48, 48, 48, 49, 48, 49, 49, 48, 48, 48]⟩, ⟨#[48, 48, 48, 48, 48, 49, 48, 49, 49, 48, 48, 49]⟩, ⟨#[48, 48, 48, 48, 48, 49, 48, 49, 49, 48, 49, 48]⟩, ⟨#[48, 48, 48, 48, 48, 49, 48, 49, 49, 48, 49, 49]⟩, ⟨#[48, 48, 48, 48, 48, 49, 48, 49, 49, 49, 48, 48]⟩, ⟨#[48, 48, 48, 48, 48, 49, 48, 49, 49, 49, 48, 49]⟩, ⟨#[48, 48, 48, 48, 48, 49, 48, 49, 49, 49, 49, 48]⟩, ⟨#[48, 48, 48, 48, 48, 49, 48, 49, 49, 49, 49, 49]⟩] rfl rfl rfl ?_
    refine rThen ?_
    refine rRet ?_
    refine rFreezeQ 0 .str [(ByteArray.mk (List.toArray [48, 49, 49, 49, 32, 48, 48, 48, 48, 49, 49, 48, 48, 49, 32, 48, 48, 48, 48, 48, 48, 48, 48, 49, 48, 49])), ⟨#[48, 48, 49, 49, 49, 49, 32, 48, 48, 48, 48, 48, 48, 48, 48, 49, 48, 48]⟩, ⟨#[48, 48, 49, 49, 49, 48]⟩, ⟨#[48, 48, 49, 49, 48, 49]⟩, ⟨#[48, 48, 49, 49, 48, 48]⟩, ⟨#[48, 48, 49, 48, 48, 49, 49]⟩, ⟨#[48, 48, 49, 48, 48, 49, 48]⟩, ⟨#[48, 48, 49, 48, 48, 48, 49]⟩, ⟨#[48, 48, 49, 48, 48, 48, 48]⟩, ⟨#[48, 48, 48, 49, 49, 48, 49, 48]⟩, ⟨#[48, 48, 48, 49, 49, 48, 48, 49]⟩, ⟨#[48, 48, 48, 49, 49, 48, 48, 48]⟩, ⟨#[48, 48, 48, 49, 48, 49, 49, 49]⟩, ⟨#[48, 48, 48, 49, 48, 49, 49, 48]⟩, ⟨#[48, 48, 48, 49, 48, 49, 48, 49]⟩, ⟨#[48, 48, 48, 49, 48, 49, 48, 48]⟩, ⟨#[48, 48, 48, 49, 48, 48, 49, 49]⟩, ⟨#[48, 48, 48, 48, 49, 49, 48, 48, 48]⟩, ⟨#[48, 48, 48, 48, 49, 48, 49, 49, 49]⟩, ⟨#[48, 48, 48, 48, 49, 48, 49, 49, 48]⟩, ⟨#[48, 48, 48, 48, 49, 48, 49, 48, 49]⟩, ⟨#[48, 48, 48, 48, 49, 48, 49, 48, 48]⟩, ⟨#[48, 48, 48, 48, 49, 48, 48, 49, 49]⟩, ⟨#[48, 48, 48, 48, 49, 48, 48, 49, 48]⟩, ⟨#[48, 48, 48, 48, 49, 48, 48, 48, 49]⟩, ⟨#[48, 48, 48, 48, 48, 48, 48, 49, 49, 49]⟩, ⟨#[48, 48, 48, 48, 48, 48, 48, 49, 49, 48]⟩, ⟨#[48, 48, 48, 48, 48, 48, 48, 49, 48, 49]⟩, ⟨#[48, 48, 48, 48, 48, 48, 48, 49, 48, 48]⟩, ⟨#[48, 48, 48, 48, 48, 49, 48, 48, 49, 48, 48]⟩, ⟨#[48, 48, 48, 48, 48, 49, 48, 48, 49, 48, 49]⟩, ⟨#[48, 48, 48, 48, 48, 49, 48, 48, 49, 49, 48]⟩, ⟨#[48, 48, 48, 48, 48, 49, 48, 48, 49, 49, 49]⟩, ⟨#[48, 48, 48, 48, 48, 49, 48, 49, 49, 48, 48, 48]⟩, ⟨#[48, 48, 48, 48, 48, 49, 48, 49, 49, 48, 48, 49]⟩, ⟨#[48, 48, 48, 48, 48, 49, 48, 49, 49, 48, 49, 48]⟩, ⟨#[48, 48, 48, 48, 48, 49, 48, 49, 49, 48, 49, 49]⟩, ⟨#[48, 48, 48, 48, 48, 49, 48, 49, 49, 49, 48, 48]⟩, ⟨#[48, 48, 48, 48, 48, 49, 48, 49, 49, 49, 48, 49]⟩, ⟨#[48, 48, 48, 48, 48, 49, 48, 49, 49, 49, 49, 48]⟩, ⟨#[48, 48, 48, 48, 48, 49, 48, 49, 49, 49, 49, 49]⟩] [(0, .v (.c (.fz .str [(ByteArray.mk (List.toArray [48, 49, 49, 49, 32, 48, 48, 48, 48, 49, 49, 48, 48, 49, 32, 48, 48, 48, 48, 48, 48, 48, 48, 49, 48, 49])), ⟨#[48, 48, 49, 49, 49, 49, 32, 48, 48, 48, 48, 48, 48, 48, 48, 49, 48, 48]⟩, ⟨#[48, 48, 49, 49, 49, 48]⟩, ⟨#[48, 48, 49, 49, 48, 49]⟩, ⟨#[48, 48, 49, 49, 48, 48]⟩, ⟨#[48, 48, 49, 48, 48, 49, 49]⟩, ⟨#[48, 48, 49, 48, 48, 49, 48]⟩, ⟨#[48, 48, 49, 48, 48, 48, 49]⟩, ⟨#[48, 48, 49, 48, 48, 48, 48]⟩, ⟨#[48, 48, 48, 49, 49, 48, 49, 48]⟩, ⟨#[48, 48, 48, 49, 49, 48, 48, 49]⟩, ⟨#[48, 48, 48, 49, 49, 48, 48, 48]⟩, ⟨#[48, 48, 48, 49, 48, 49, 49, 49]⟩, ⟨#[48, 48, 48, 49, 48, 49, 49, 48]⟩, ⟨#[48, 48, 48, 49, 48, 49, 48, 49]⟩, ⟨#[48, 48, 48, 49, 48, 49, 48, 48]⟩, ⟨#[48, 48, 48, 49, 48, 48, 49, 49]⟩, ⟨#[48, 48, 48, 48, 49, 49, 48, 48, 48]⟩, ⟨#[48, 48, 48, 48, 49, 48, 49, 49, 49]⟩, ⟨#[48, 48, 48, 48, 49, 48, 49, 49, 48]⟩, ⟨#[48, 48, 48, 48, 49, 48, 49, 48, 49]⟩, ⟨#[48, 48, 48, 48, 49, 48, 49, 48, 48]⟩, ⟨#[48, 48, 48, 48, 49, 48, 48, 49, 49]⟩, ⟨#[48, 48, 48, 48, 49, 48, 48, 49, 48]⟩, ⟨#[48, 48, 48, 48, 49, 48, 48, 48, 49]⟩, ⟨#[48, 48, 48, 48, 48, 48, 48, 49, 49, 49]⟩, ⟨#[48, 48, 48, 48, 48, 48, 48, 49, 49, 48]⟩, ⟨#[48, 48, 48, 48, 48, 48, 48, 49, 48, 49]⟩, ⟨#[48, 48, 48, 48, 48, 48, 48, 49, 48, 48]⟩, ⟨#[48, 48, 48, 48, 48, 49, 48, 48, 49, 48, 48]⟩, ⟨#[48, 48, 48, 48, 48, 49, 48, 48, 49, 48, 49]⟩, ⟨#[48, 48, 48, 48, 48, 49, 48, 48, 49, 49, 48]⟩, ⟨#[48, 48, 48, 48, 48, 49, 48, 48, 49, 49, 49]⟩, ⟨#[48, 48, 48, 48, 48, 49, 48, 49, 49, 48, 48, 48]⟩, ⟨#[48, 48, 48, 48, 48, 49, 48, 49, 49, 48, 48, 49]⟩, ⟨#[48, 48, 48, 48, 48, 49, 48, 49, 49, 48, 49, 48]⟩, ⟨#[48, 48, 48, 48, 48, 49, 48, 49, 49, 48, 49, 49]⟩, ⟨#[48, 48, 48, 48, 48, 49, 48, 49, 49, 49, 48, 48]⟩, ⟨#[48, 48, 48, 48, 48, 49, 48, 49, 49, 49, 48, 49]⟩, ⟨#[48, 48, 48, 48, 48, 49, 48, 49, 49, 49, 49, 48]⟩, ⟨#[48, 48, 48, 48, 48, 49, 48, 49, 49, 49, 49, 49]⟩])))] [] rfl rfl (by (repeat' first | exact True.intro | exact rfl | apply And.intro) <;> first | assumption | rfl) (by (repeat' first | exact True.intro | exact rfl | apply And.intro) <;> first | assumption | rfl) ?_
    have hy := Option.some.inj hT; subst hy
    exact rEnd0 hX rfl (by repeat' first | exact True.intro | exact rfl | apply And.intro | omega | exact Nat.le_of_ble_eq_true rfl) (by repeat' first | exact True.intro | exact rfl | apply And.intro) rfl rfl rfl rfl rfl
  · cases h
def ref09_words_b1 (N : Nat) (a1 : ByteArray) (s1 : (Nat × Int × (List ByteArray))) : Option ((Nat × Int × (List ByteArray)) ⊕ (Nat × (List ByteArray))) :=
  bif (decide (s1.2.1 < (ByteArray.size a1 : Int))) then
    if (0 : Int) ≤ s1.2.1 ∧ s1.2.1 < (ByteArray.size a1 : Int) then
      joinK (fun (v2 : (Nat × (List ByteArray))) =>
        if inK .i64 (s1.2.1 + 1) then
          some (.inl (v2.1, (s1.2.1 + 1), v2.2))
        else none
      ) fun k1 =>
        bif (decide ((byteI a1 (s1.2.1).toNat) = 32)) then
          if s1.2.2.length = s1.1 ∧ (s1.1 + 1) * 16 ≤ 140737488355328 ∧ s1.1 + 1 ≤ 9223372036854775807 then
            k1 ((s1.1 + 1), (s1.2.2 ++ [⟨#[]⟩]))
          else none
        else
          let x1 := ((s1.2.2.getD ((s1.1 : Int) - 1).toNat ⟨#[]⟩) ++ (ByteArray.extract a1 (s1.2.1).toNat (s1.2.1 + 1).toNat))
          let x2 := (s1.2.2.set ((s1.1 : Int) - 1).toNat ((s1.2.2.getD ((s1.1 : Int) - 1).toNat ⟨#[]⟩) ++ (ByteArray.extract a1 (s1.2.1).toNat (s1.2.1 + 1).toNat)))
          if inK .i64 ((s1.1 : Int) - 1) ∧ (0 : Int) ≤ ((s1.1 : Int) - 1) ∧ ((s1.1 : Int) - 1) < (s1.1 : Int) ∧ ((s1.1 : Int) - 1).toNat < s1.2.2.length ∧ inK .i64 (s1.2.1 + 1) ∧ (0 : Int) ≤ s1.2.1 ∧ s1.2.1 ≤ (s1.2.1 + 1) ∧ (s1.2.1 + 1) ≤ (ByteArray.size a1 : Int) ∧ (ByteArray.size (s1.2.2.getD ((s1.1 : Int) - 1).toNat ⟨#[]⟩) : Int) + ByteArray.size (ByteArray.extract a1 (s1.2.1).toNat (s1.2.1 + 1).toNat) ≤ 9223372036854775807 then
            k1 (s1.1, x2)
          else none
    else none
  else
    some (.inr (s1.1, s1.2.2))
def ref09_words (N : Nat) (a1 : ByteArray) : Option (List ByteArray) :=
  (iter (ref09_words_b1 N a1) N (1, 0, [⟨#[]⟩])).bind fun v1 =>
    if v1.1 = v1.2.length then
      some v1.2
    else none
def sp_ref09_words (N : Nat) : X.Spec := fun args lk => match args with
  | [.v (.c (.str a1))] => some ⟨(ref09_words N a1).isSome = true, .v (.c (.fz .str ((ref09_words N a1).getD default))), [], []⟩
  | _ => none
set_option maxRecDepth 100000 in
set_option maxHeartbeats 1000000 in
theorem ok_ref09_words (N : Nat) : FnOK Tryd.prog gt0 61 (sp_ref09_words N) := by
  refine fnOK_handed Tryd.func61 rfl (by kernel_rfl) tt_ok (ktNil) ?_
  intro args lk r h hp
  unfold sp_ref09_words at h
  split at h
  · rename_i a1
    cases h
    obtain ⟨x, hx⟩ := Option.isSome_iff_exists.1 hp
    simp only [hx, Option.getD_some]
    refine hand0 rfl rfl (fun w0 M ε0 hX => ?_)
    refine rCount (fun hε => ?_)
    have hT : ref09_words N a1 = some x := hx; clear hx hp; unfold ref09_words at hT
    refine rSeq ?_
    refine rRegC md0 hX rfl rfl rfl (by repeat' first | exact True.intro | exact rfl | apply And.intro | omega | exact Nat.le_of_ble_eq_true rfl) ?_
    refine rThen ?_
    refine rSeq ?_
    refine rRegC md0 hX rfl rfl rfl (by repeat' first | exact True.intro | exact rfl | apply And.intro | omega | exact Nat.le_of_ble_eq_true rfl) ?_
    refine rLstQ 0 .str [⟨#[]⟩] rfl rfl rfl ?_
    refine rThen ?_
    refine rSeq ?_
    refine rSeq ?_
    refine rRegC md0 hX rfl rfl rfl (by repeat' first | exact True.intro | exact rfl | apply And.intro | omega | exact Nat.le_of_ble_eq_true rfl) ?_
    refine rThen ?_
    refine rBlock ?_
    replace hT := sBind hT; obtain ⟨w1, hl, hT⟩ := hT
    refine rJoinA (fun v1 => v1 = w1) (fun v1 => ⟨[(2, .v (.c (.val (.slice none 0 0)))), (3, .v (.c (.sl 0 0 v1.1 1)))], [(0, .mem true 9 (some 1) (.lst .str v1.2))], 1⟩) (.exit 0) (fun v1 hv => ?_) (fun hxs10 => ?_)
    · subst hv; clear hl
      refine rInHit ?_
      refine rThen ?_
      refine rSeq ?_
      refine rRegC md0 hX rfl rfl rfl (by repeat' first | exact True.intro | exact rfl | apply And.intro | omega | exact Nat.le_of_ble_eq_true rfl) ?_
      refine rThen ?_
      refine rRet ?_
      replace hT := sIf hT; obtain ⟨p1, hT⟩ := hT
      refine rFreezeQ 0 .str v1.2 [(2, .v (.c (.fz .str v1.2)))] [] rfl rfl (by (repeat' first | exact True.intro | exact rfl | apply And.intro) <;> first | assumption | rfl) (by (repeat' first | exact True.intro | exact rfl | apply And.intro) <;> first | assumption | rfl) ?_
      have hy := Option.some.inj hT; subst hy
      exact rEnd0 hX rfl (by repeat' first | exact True.intro | exact rfl | apply And.intro | omega | exact Nat.le_of_ble_eq_true rfl) (by repeat' first | exact True.intro | exact rfl | apply And.intro) rfl rfl rfl rfl rfl
    refine rLoopM (ref09_words_b1 N a1) (fun s1 => ⟨[(0, .v (.c (.str a1))), (2, .v (.c (.val (.slice none 0 0)))), (3, .v (.c (.sl 0 0 s1.1 1))), (4, .v (.c (.int .i64 s1.2.1)))], [(0, .mem true 9 (some 1) (.lst .str s1.2.2))], 1⟩) hl (To.mk' [] 0 hε rfl (by repeat' first | exact True.intro | exact rfl | apply And.intro) (by repeat' first | exact True.intro | exact rfl | apply And.intro)) (fun s1 zs1 NNs1 hz hnexts1 houts1 => ?_)
    clear hl hT
    have hT := hz; clear hz
    refine rSeq ?_
    refine rSeq ?_
    refine rRegC md0 hX rfl rfl rfl (by repeat' first | exact True.intro | exact rfl | apply And.intro | omega | exact Nat.le_of_ble_eq_true rfl) ?_
    refine rThen ?_
    refine rCond rfl rfl (by repeat' first | exact True.intro | exact rfl | apply And.intro | omega | exact Nat.le_of_ble_eq_true rfl) (fun hc => ?_) (fun hc => ?_)
    · replace hT := sT hc hT
      refine rSkip ?_
      refine rThen ?_
      refine rSeq ?_
      refine rBlock ?_
      refine rSeq ?_
      replace hT := sIf hT; obtain ⟨⟨o1, o2⟩, hT⟩ := hT
      refine rRegC md0 hX rfl rfl rfl (by (repeat' first | exact True.intro | with_reducible assumption | (with_reducible apply And.intro) | intro _) <;> first | assumption | exact rfl | omega | exact Nat.le_of_ble_eq_true rfl | exact selF (by assumption) | exact selT (by assumption) | exact And.intro rfl rfl | exact And.intro (by assumption) rfl | exact And.intro (by omega) rfl | (simp only [inK] at *; omega) | (simp_all [sel] <;> fail) | fail) ?_
      refine rThen ?_
      refine rJoinK hT (fun v2 => ⟨[(0, .v (.c (.str a1))), (2, .v (.c (.val (.slice none 0 0)))), (3, .v (.c (.sl 2 0 v2.1 1))), (4, .v (.c (.int .i64 s1.2.1))), (6, .v (.c (.int .i64 s1.2.1))), (7, .v (.c (.str a1))), (8, .v (.c (.int .i64 (ByteArray.size a1 : Int)))), (9, .v (.c (.bool (decide (s1.2.1 < (ByteArray.size a1 : Int)))))), (12, .v (.c (.str a1))), (13, .v (.c (.int .i64 s1.2.1))), (14, .v (.c (.int .u8 (byteI a1 (s1.2.1).toNat)))), (15, .v (.c (.bool (decide ((byteI a1 (s1.2.1).toNat) = 32)))))], [(2, .mem true 9 (some 1) (.lst .str v2.2))], 3⟩) (fun v2 hT => ?_) (fun k1 hjk1 hT => ?_)
      · skip
        refine rInNormal ?_
        refine rThen ?_
        replace hT := sIf hT; obtain ⟨o1, hT⟩ := hT
        refine rRegC md0 hX rfl rfl rfl (by (repeat' first | exact True.intro | with_reducible assumption | (with_reducible apply And.intro) | intro _) <;> first | assumption | exact rfl | omega | exact Nat.le_of_ble_eq_true rfl | exact selF (by assumption) | exact selT (by assumption) | exact And.intro rfl rfl | exact And.intro (by assumption) rfl | exact And.intro (by omega) rfl | (simp only [inK] at *; omega) | (simp_all [sel] <;> fail) | fail) ?_
        exact hnexts1 _ (Option.some.inj hT).symm _ (To.mk' [2] 0 hε rfl (by repeat' first | exact True.intro | exact rfl | apply And.intro) (by repeat' first | exact True.intro | exact rfl | apply And.intro))
      · skip
        refine rCond rfl rfl (by repeat' first | exact True.intro | exact rfl | apply And.intro | omega | exact Nat.le_of_ble_eq_true rfl) (fun hc => ?_) (fun hc => ?_)
        · replace hT := sT hc hT
          replace hT := sIf hT; obtain ⟨⟨o1, o2, o3⟩, hT⟩ := hT
          refine rRegC md0 hX rfl rfl rfl (by (repeat' first | exact True.intro | with_reducible assumption | (with_reducible apply And.intro) | intro _) <;> first | assumption | exact rfl | omega | exact Nat.le_of_ble_eq_true rfl | exact selF (by assumption) | exact selT (by assumption) | exact And.intro rfl rfl | exact And.intro (by assumption) rfl | exact And.intro (by omega) rfl | (simp only [inK] at *; omega) | (simp_all [sel] <;> fail) | fail) ?_
          refine rLstQ 1 .str [⟨#[]⟩] rfl rfl rfl ?_
          exact rTo (To.mk' [] 0 hε rfl (by repeat' first | exact True.intro | exact rfl | apply And.intro) (by repeat' first | exact True.intro | exact rfl | apply And.intro)) (hjk1 _ hT)
        · replace hT := sF hc hT
          let x1 := ((s1.2.2.getD ((s1.1 : Int) - 1).toNat ⟨#[]⟩) ++ (ByteArray.extract a1 (s1.2.1).toNat (s1.2.1 + 1).toNat))
          let x2 := (s1.2.2.set ((s1.1 : Int) - 1).toNat ((s1.2.2.getD ((s1.1 : Int) - 1).toNat ⟨#[]⟩) ++ (ByteArray.extract a1 (s1.2.1).toNat (s1.2.1 + 1).toNat)))
          replace hT := sIf hT; obtain ⟨⟨o1, o2, o3, o4, o5, o6, o7, o8, o9⟩, hT⟩ := hT
          refine rDrawM md0 1 [17] hX mixed rfl rfl rfl rfl rfl (by (repeat' first | exact True.intro | with_reducible assumption | (with_reducible apply And.intro) | intro _) <;> first | assumption | exact rfl | omega | exact Nat.le_of_ble_eq_true rfl | exact selF (by assumption) | exact selT (by assumption) | exact And.intro rfl rfl | exact And.intro (by assumption) rfl | exact And.intro (by omega) rfl | (simp only [inK] at *; omega) | (simp_all [sel] <;> fail) | fail) ?_
          exact rTo (To.mk' [0, 0, 0] 0 hε rfl (by repeat' first | exact True.intro | exact rfl | apply And.intro) (by repeat' first | exact True.intro | exact rfl | apply And.intro)) (hjk1 _ hT)
    · replace hT := sF hc hT
      refine rExit ?_
      refine rThenExit ?_
      refine rThenExit ?_
      exact rTo (To.mk' [] 0 hε rfl (by repeat' first | exact True.intro | exact rfl | apply And.intro) (by repeat' first | exact True.intro | exact rfl | apply And.intro)) (hxs10 _ (houts1 _ (Option.some.inj hT).symm))
  · cases h
def ref09_rows (N : Nat) (a1 : Bool) (a2 : Int) : Option (List ByteArray) :=
  let c1 := (ref09_table N)
  if c1.isSome = true then
    let c2 := (ref09_ends N)
    if (a1 = true → c2.isSome = true) then
      bif (decide (((bif a1 then (c2.getD default) else (c1.getD default)).length : Int) ≤ a2)) then
        some []
      else
        let c3 := (ref09_words N ((bif a1 then (c2.getD default) else (c1.getD default)).getD (a2).toNat ⟨#[]⟩))
        if (0 : Int) ≤ a2 ∧ a2 < ((bif a1 then (c2.getD default) else (c1.getD default)).length : Int) ∧ c3.isSome = true then
          some (c3.getD default)
        else none
    else none
  else none
def sp_ref09_rows (N : Nat) : X.Spec := fun args lk => match args with
  | [.v (.c (.bool a1)), .v (.c (.int .i64 a2))] => some ⟨(ref09_rows N a1 a2).isSome = true, .v (.c (.fz .str ((ref09_rows N a1 a2).getD default))), [], []⟩
  | _ => none
set_option maxRecDepth 100000 in
set_option maxHeartbeats 1000000 in
theorem ok_ref09_rows (N : Nat) : FnOK Tryd.prog gt0 41 (sp_ref09_rows N) := by
  refine fnOK_handed Tryd.func41 rfl (by kernel_rfl) tt_ok (ktCons (ok_ref09_words N) (ktCons (ok_ref09_ends N) (ktCons (ok_ref09_table N) (ktNil)))) ?_
  intro args lk r h hp
  unfold sp_ref09_rows at h
  split at h
  · rename_i a1 a2
    cases h
    obtain ⟨x, hx⟩ := Option.isSome_iff_exists.1 hp
    simp only [hx, Option.getD_some]
    refine hand0 rfl rfl (fun w0 M ε0 hX => ?_)
    refine rCount (fun hε => ?_)
    have hT : ref09_rows N a1 a2 = some x := hx; clear hx hp; unfold ref09_rows at hT
    refine rSeq ?_
    refine rRegC md0 hX rfl rfl rfl (by repeat' first | exact True.intro | exact rfl | apply And.intro | omega | exact Nat.le_of_ble_eq_true rfl) ?_
    refine rThen ?_
    refine rSeq ?_
    let c1 := (ref09_table N)
    replace hT := sIf hT; obtain ⟨o1, hT⟩ := hT
    refine rRegC md0 hX rfl rfl rfl (by (repeat' first | exact True.intro | with_reducible assumption | (with_reducible apply And.intro) | intro _) <;> first | assumption | exact rfl | omega | exact Nat.le_of_ble_eq_true rfl | exact selF (by assumption) | exact selT (by assumption) | exact And.intro rfl rfl | exact And.intro (by assumption) rfl | exact And.intro (by omega) rfl | (simp only [inK] at *; omega) | (simp_all [sel] <;> fail) | fail) ?_
    refine rThen ?_
    refine rSeq ?_
    refine rSeq ?_
    refine rRegC md0 hX rfl rfl rfl (by repeat' first | exact True.intro | exact rfl | apply And.intro | omega | exact Nat.le_of_ble_eq_true rfl) ?_
    refine rThen ?_
    let c2 := (ref09_ends N)
    replace hT := sIf hT; obtain ⟨q1, hT⟩ := hT
    refine rJoin ⟨[(1, .v (.c (.int .i64 a2))), (4, .v (.c (.val (.slice none 0 0)))), (5, .v (.c (.fz .str (bif a1 then (c2.getD default) else (c1.getD default)))))], [], 0⟩ ?_ (fun hj => ?_)
    · skip
      refine rThen ?_
      refine rSeq ?_
      refine rSeq ?_
      refine rRegC md0 hX rfl rfl rfl (by repeat' first | exact True.intro | exact rfl | apply And.intro | omega | exact Nat.le_of_ble_eq_true rfl) ?_
      refine rThen ?_
      refine rCond rfl rfl (by repeat' first | exact True.intro | exact rfl | apply And.intro | omega | exact Nat.le_of_ble_eq_true rfl) (fun hc => ?_) (fun hc => ?_)
      · replace hT := sT hc hT
        refine rSeq ?_
        refine rRegC md0 hX rfl rfl rfl (by repeat' first | exact True.intro | exact rfl | apply And.intro | omega | exact Nat.le_of_ble_eq_true rfl) ?_
        refine rThen ?_
        refine rRet ?_
        refine rThenRet ?_
        have hy := Option.some.inj hT; subst hy
        exact rEnd0 hX rfl (by repeat' first | exact True.intro | exact rfl | apply And.intro | omega | exact Nat.le_of_ble_eq_true rfl) (by repeat' first | exact True.intro | exact rfl | apply And.intro) rfl rfl rfl rfl rfl
      · replace hT := sF hc hT
        refine rSkip ?_
        refine rThen ?_
        refine rSeq ?_
        let c3 := (ref09_words N ((bif a1 then (c2.getD default) else (c1.getD default)).getD (a2).toNat ⟨#[]⟩))
        replace hT := sIf hT; obtain ⟨⟨o1, o2, o3⟩, hT⟩ := hT
        refine rRegC md0 hX rfl rfl rfl (by (repeat' first | exact True.intro | with_reducible assumption | (with_reducible apply And.intro) | intro _) <;> first | assumption | exact rfl | omega | exact Nat.le_of_ble_eq_true rfl | exact selF (by assumption) | exact selT (by assumption) | exact And.intro rfl rfl | exact And.intro (by assumption) rfl | exact And.intro (by omega) rfl | (simp only [inK] at *; omega) | (simp_all [sel] <;> fail) | fail) ?_
        refine rThen ?_
        refine rRet ?_
        have hy := Option.some.inj hT; subst hy
        exact rEnd0 hX rfl (by repeat' first | exact True.intro | exact rfl | apply And.intro | omega | exact Nat.le_of_ble_eq_true rfl) (by repeat' first | exact True.intro | exact rfl | apply And.intro) rfl rfl rfl rfl rfl
    · clear hT
      refine rCond rfl rfl (by repeat' first | exact True.intro | exact rfl | apply And.intro | omega | exact Nat.le_of_ble_eq_true rfl) (fun hc => ?_) (fun hc => ?_)
      · skip
        have q1 := q1 hc
        refine rRegC md0 hX rfl rfl rfl (by (repeat' first | exact True.intro | with_reducible assumption | (with_reducible apply And.intro) | intro _) <;> first | assumption | exact rfl | omega | exact Nat.le_of_ble_eq_true rfl | exact selF (by assumption) | exact selT (by assumption) | exact And.intro rfl rfl | exact And.intro (by assumption) rfl | exact And.intro (by omega) rfl | (simp only [inK] at *; omega) | (simp_all [sel] <;> fail) | fail) ?_
        exact rTo (To.mk' [] 0 hε rfl (by (repeat' first | exact True.intro | exact rfl | apply And.intro) <;> (repeat' first | exact rfl | refine Eq.trans ?_ (cTr (by assumption)) | refine Eq.trans ?_ (cFr (by assumption)) | refine Eq.trans (cTl (by assumption)) ?_ | refine Eq.trans (cFl (by assumption)) ?_)) (by (repeat' first | exact True.intro | exact rfl | apply And.intro) <;> (repeat' first | exact rfl | refine Eq.trans ?_ (cTr (by assumption)) | refine Eq.trans ?_ (cFr (by assumption)) | refine Eq.trans (cTl (by assumption)) ?_ | refine Eq.trans (cFl (by assumption)) ?_))) hj
      · skip
        refine rSkip ?_
        exact rTo (To.mk' [] 0 hε rfl (by (repeat' first | exact True.intro | exact rfl | apply And.intro) <;> (repeat' first | exact rfl | refine Eq.trans ?_ (cTr (by assumption)) | refine Eq.trans ?_ (cFr (by assumption)) | refine Eq.trans (cTl (by assumption)) ?_ | refine Eq.trans (cFl (by assumption)) ?_)) (by (repeat' first | exact True.intro | exact rfl | apply And.intro) <;> (repeat' first | exact rfl | refine Eq.trans ?_ (cTr (by assumption)) | refine Eq.trans ?_ (cFr (by assumption)) | refine Eq.trans (cTl (by assumption)) ?_ | refine Eq.trans (cFl (by assumption)) ?_))) hj
  · cases h
def ref09_has (N : Nat) (a1 : Bool) (a2 : Int) (a3 : Int) : Option ByteArray :=
  let c1 := (ref09_rows N a1 a2)
  if c1.isSome = true then
    bif (decide (((c1.getD default).length : Int) < a3)) then
      some ⟨#[]⟩
    else
      if inK .i64 (a3 - 1) ∧ (0 : Int) ≤ (a3 - 1) ∧ (a3 - 1) < ((c1.getD default).length : Int) then
        some ((c1.getD default).getD (a3 - 1).toNat ⟨#[]⟩)
      else none
  else none
def sp_ref09_has (N : Nat) : X.Spec := fun args lk => match args with
  | [.v (.c (.bool a1)), .v (.c (.int .i64 a2)), .v (.c (.int .i64 a3))] => some ⟨(ref09_has N a1 a2 a3).isSome = true, .v (.c (.str ((ref09_has N a1 a2 a3).getD default))), [], []⟩
  | _ => none
set_option maxRecDepth 100000 in
set_option maxHeartbeats 1000000 in
theorem ok_ref09_has (N : Nat) : FnOK Tryd.prog gt0 36 (sp_ref09_has N) := by
  refine fnOK_handed Tryd.func36 rfl (by kernel_rfl) tt_ok (ktCons (ok_ref09_rows N) (ktNil)) ?_
  intro args lk r h hp
  unfold sp_ref09_has at h
  split at h
  · rename_i a1 a2 a3
    cases h
    obtain ⟨x, hx⟩ := Option.isSome_iff_exists.1 hp
    simp only [hx, Option.getD_some]
    refine hand0 rfl rfl (fun w0 M ε0 hX => ?_)
    refine rCount (fun hε => ?_)
    have hT : ref09_has N a1 a2 a3 = some x := hx; clear hx hp; unfold ref09_has at hT
    refine rSeq ?_
    refine rRegC md0 hX rfl rfl rfl (by repeat' first | exact True.intro | exact rfl | apply And.intro | omega | exact Nat.le_of_ble_eq_true rfl) ?_
    refine rThen ?_
    refine rSeq ?_
    let c1 := (ref09_rows N a1 a2)
    replace hT := sIf hT; obtain ⟨o1, hT⟩ := hT
    refine rRegC md0 hX rfl rfl rfl (by (repeat' first | exact True.intro | with_reducible assumption | (with_reducible apply And.intro) | intro _) <;> first | assumption | exact rfl | omega | exact Nat.le_of_ble_eq_true rfl | exact selF (by assumption) | exact selT (by assumption) | exact And.intro rfl rfl | exact And.intro (by assumption) rfl | exact And.intro (by omega) rfl | (simp only [inK] at *; omega) | (simp_all [sel] <;> fail) | fail) ?_
    refine rThen ?_
    refine rSeq ?_
    refine rSeq ?_
    refine rRegC md0 hX rfl rfl rfl (by repeat' first | exact True.intro | exact rfl | apply And.intro | omega | exact Nat.le_of_ble_eq_true rfl) ?_
    refine rThen ?_
    refine rCond rfl rfl (by repeat' first | exact True.intro | exact rfl | apply And.intro | omega | exact Nat.le_of_ble_eq_true rfl) (fun hc => ?_) (fun hc => ?_)
    · replace hT := sT hc hT
      refine rSeq ?_
      refine rRegC md0 hX rfl rfl rfl (by repeat' first | exact True.intro | exact rfl | apply And.intro | omega | exact Nat.le_of_ble_eq_true rfl) ?_
      refine rThen ?_
      refine rRet ?_
      refine rThenRet ?_
      have hy := Option.some.inj hT; subst hy
      exact rEnd0 hX rfl (by repeat' first | exact True.intro | exact rfl | apply And.intro | omega | exact Nat.le_of_ble_eq_true rfl) (by repeat' first | exact True.intro | exact rfl | apply And.intro) rfl rfl rfl rfl rfl
    · replace hT := sF hc hT
      refine rSkip ?_
      refine rThen ?_
      refine rSeq ?_
      replace hT := sIf hT; obtain ⟨⟨o1, o2, o3⟩, hT⟩ := hT
      refine rRegC md0 hX rfl rfl rfl (by (repeat' first | exact True.intro | with_reducible assumption | (with_reducible apply And.intro) | intro _) <;> first | assumption | exact rfl | omega | exact Nat.le_of_ble_eq_true rfl | exact selF (by assumption) | exact selT (by assumption) | exact And.intro rfl rfl | exact And.intro (by assumption) rfl | exact And.intro (by omega) rfl | (simp only [inK] at *; omega) | (simp_all [sel] <;> fail) | fail) ?_
      refine rThen ?_
      refine rRet ?_
      have hy := Option.some.inj hT; subst hy
      exact rEnd0 hX rfl (by repeat' first | exact True.intro | exact rfl | apply And.intro | omega | exact Nat.le_of_ble_eq_true rfl) (by repeat' first | exact True.intro | exact rfl | apply And.intro) rfl rfl rfl rfl rfl
  · cases h
def ref09_sign (N : Nat) (a1 : Int) : Option ByteArray :=
  bif (decide (a1 < 0)) then
    some ⟨#[49]⟩
  else
    some ⟨#[48]⟩
def sp_ref09_sign (N : Nat) : X.Spec := fun args lk => match args with
  | [.v (.c (.int .i64 a1))] => some ⟨(ref09_sign N a1).isSome = true, .v (.c (.str ((ref09_sign N a1).getD default))), [], []⟩
  | _ => none
set_option maxRecDepth 100000 in
set_option maxHeartbeats 1000000 in
theorem ok_ref09_sign (N : Nat) : FnOK Tryd.prog gt0 38 (sp_ref09_sign N) := by
  refine fnOK_handed Tryd.func38 rfl (by kernel_rfl) tt_ok (ktNil) ?_
  intro args lk r h hp
  unfold sp_ref09_sign at h
  split at h
  · rename_i a1
    cases h
    obtain ⟨x, hx⟩ := Option.isSome_iff_exists.1 hp
    simp only [hx, Option.getD_some]
    refine hand0 rfl rfl (fun w0 M ε0 hX => ?_)
    refine rCount (fun hε => ?_)
    have hT : ref09_sign N a1 = some x := hx; clear hx hp; unfold ref09_sign at hT
    refine rSeq ?_
    refine rRegC md0 hX rfl rfl rfl (by repeat' first | exact True.intro | exact rfl | apply And.intro | omega | exact Nat.le_of_ble_eq_true rfl) ?_
    refine rThen ?_
    refine rSeq ?_
    refine rSeq ?_
    refine rRegC md0 hX rfl rfl rfl (by repeat' first | exact True.intro | exact rfl | apply And.intro | omega | exact Nat.le_of_ble_eq_true rfl) ?_
    refine rThen ?_
    refine rCond rfl rfl (by repeat' first | exact True.intro | exact rfl | apply And.intro | omega | exact Nat.le_of_ble_eq_true rfl) (fun hc => ?_) (fun hc => ?_)
    · replace hT := sT hc hT
      refine rSeq ?_
      refine rRegC md0 hX rfl rfl rfl (by repeat' first | exact True.intro | exact rfl | apply And.intro | omega | exact Nat.le_of_ble_eq_true rfl) ?_
      refine rThen ?_
      refine rRet ?_
      refine rThenRet ?_
      have hy := Option.some.inj hT; subst hy
      exact rEnd0 hX rfl (by repeat' first | exact True.intro | exact rfl | apply And.intro | omega | exact Nat.le_of_ble_eq_true rfl) (by repeat' first | exact True.intro | exact rfl | apply And.intro) rfl rfl rfl rfl rfl
    · replace hT := sF hc hT
      refine rSkip ?_
      refine rThen ?_
      refine rSeq ?_
      refine rRegC md0 hX rfl rfl rfl (by repeat' first | exact True.intro | exact rfl | apply And.intro | omega | exact Nat.le_of_ble_eq_true rfl) ?_
      refine rThen ?_
      refine rRet ?_
      have hy := Option.some.inj hT; subst hy
      exact rEnd0 hX rfl (by repeat' first | exact True.intro | exact rfl | apply And.intro | omega | exact Nat.le_of_ble_eq_true rfl) (by repeat' first | exact True.intro | exact rfl | apply And.intro) rfl rfl rfl rfl rfl
  · cases h
def ref09_Row (N : Nat) (a1 : Bool) (a2 : Int) (a3 : Int) : Option ByteArray :=
  let c1 := (ref09_Right N a1 a2 a3)
  if c1.isSome = true then
    bif (!(c1.getD default)) then
      some ⟨#[]⟩
    else
      let c2 := (ref09_amount N a3)
      let c3 := (ref09_has N a1 a2 (c2.getD default))
      if c2.isSome = true ∧ c3.isSome = true then
        bif (decide (ByteArray.toList (c3.getD default) ≠ ByteArray.toList ⟨#[]⟩)) then
          let c4 := (ref09_sign N a3)
          if c4.isSome = true ∧ (ByteArray.size (c3.getD default) : Int) + ByteArray.size (c4.getD default) ≤ 9223372036854775807 then
            some ((c3.getD default) ++ (c4.getD default))
          else none
        else
          if ((decide (a3 < 0)) = true → inK .i64 ((256 : Int) + a3)) then
            let c5 := (ref02_Row N a2 6)
            let c6 := (ref02_Row N (bif (decide (a3 < 0)) then ((256 : Int) + a3) else a3) 8)
            let x1 := ((((⟨#[48, 48, 48, 48, 48, 49, 49]⟩ : ByteArray) ++ (bif a1 then ⟨#[49]⟩ else ⟨#[48]⟩)) ++ (c5.getD default)) ++ (c6.getD default))
            let x2 := (((⟨#[48, 48, 48, 48, 48, 49, 49]⟩ : ByteArray) ++ (bif a1 then ⟨#[49]⟩ else ⟨#[48]⟩)) ++ (c5.getD default))
            if (ByteArray.size ⟨#[48, 48, 48, 48, 48, 49, 49]⟩ : Int) + ByteArray.size (bif a1 then ⟨#[49]⟩ else ⟨#[48]⟩) ≤ 9223372036854775807 ∧ c5.isSome = true ∧ (ByteArray.size ((⟨#[48, 48, 48, 48, 48, 49, 49]⟩ : ByteArray) ++ (bif a1 then ⟨#[49]⟩ else ⟨#[48]⟩)) : Int) + ByteArray.size (c5.getD default) ≤ 9223372036854775807 ∧ c6.isSome = true ∧ (ByteArray.size (((⟨#[48, 48, 48, 48, 48, 49, 49]⟩ : ByteArray) ++ (bif a1 then ⟨#[49]⟩ else ⟨#[48]⟩)) ++ (c5.getD default)) : Int) + ByteArray.size (c6.getD default) ≤ 9223372036854775807 then
              some x1
            else none
          else none
      else none
  else none
def sp_ref09_Row (N : Nat) : X.Spec := fun args lk => match args with
  | [.v (.agg [.cs [.bool a1, .int .i64 a2, .int .i64 a3]])] => some ⟨(ref09_Row N a1 a2 a3).isSome = true, .v (.c (.str ((ref09_Row N a1 a2 a3).getD default))), [], []⟩
  | _ => none
set_option maxRecDepth 100000 in
set_option maxHeartbeats 1000000 in
theorem ok_ref09_Row (N : Nat) : FnOK Tryd.prog gt0 10 (sp_ref09_Row N) := by
  refine fnOK_handed Tryd.func10 rfl (by kernel_rfl) tt_ok (ktCons (ok_ref02_Row N) (ktCons (ok_ref09_sign N) (ktCons (ok_ref09_has N) (ktCons (ok_ref09_amount N) (ktCons (ok_ref09_Right N) (ktNil)))))) ?_
  intro args lk r h hp
  unfold sp_ref09_Row at h
  split at h
  · rename_i a1 a2 a3
    cases h
    obtain ⟨x, hx⟩ := Option.isSome_iff_exists.1 hp
    simp only [hx, Option.getD_some]
    refine hand0 rfl rfl (fun w0 M ε0 hX => ?_)
    refine rCount (fun hε => ?_)
    have hT : ref09_Row N a1 a2 a3 = some x := hx; clear hx hp; unfold ref09_Row at hT
    refine rSeq ?_
    refine rRegC md0 hX rfl rfl rfl (by repeat' first | exact True.intro | exact rfl | apply And.intro | omega | exact Nat.le_of_ble_eq_true rfl) ?_
    refine rThen ?_
    refine rSeq ?_
    refine rSeq ?_
    let c1 := (ref09_Right N a1 a2 a3)
    replace hT := sIf hT; obtain ⟨o1, hT⟩ := hT
    refine rRegC md0 hX rfl rfl rfl (by (repeat' first | exact True.intro | with_reducible assumption | (with_reducible apply And.intro) | intro _) <;> first | assumption | exact rfl | omega | exact Nat.le_of_ble_eq_true rfl | exact selF (by assumption) | exact selT (by assumption) | exact And.intro rfl rfl | exact And.intro (by assumption) rfl | exact And.intro (by omega) rfl | (simp only [inK] at *; omega) | (simp_all [sel] <;> fail) | fail) ?_
    refine rThen ?_
    refine rCond rfl rfl (by repeat' first | exact True.intro | exact rfl | apply And.intro | omega | exact Nat.le_of_ble_eq_true rfl) (fun hc => ?_) (fun hc => ?_)
    · replace hT := sT hc hT
      refine rSeq ?_
      refine rRegC md0 hX rfl rfl rfl (by repeat' first | exact True.intro | exact rfl | apply And.intro | omega | exact Nat.le_of_ble_eq_true rfl) ?_
      refine rThen ?_
      refine rRet ?_
      refine rThenRet ?_
      have hy := Option.some.inj hT; subst hy
      exact rEnd0 hX rfl (by repeat' first | exact True.intro | exact rfl | apply And.intro | omega | exact Nat.le_of_ble_eq_true rfl) (by repeat' first | exact True.intro | exact rfl | apply And.intro) rfl rfl rfl rfl rfl
    · replace hT := sF hc hT
      refine rSkip ?_
      refine rThen ?_
      refine rSeq ?_
      let c2 := (ref09_amount N a3)
      let c3 := (ref09_has N a1 a2 (c2.getD default))
      replace hT := sIf hT; obtain ⟨⟨o1, o2⟩, hT⟩ := hT
      refine rDrawM md0 0 [] hX mixed rfl rfl rfl rfl rfl (by (repeat' first | exact True.intro | with_reducible assumption | (with_reducible apply And.intro) | intro _) <;> first | assumption | exact rfl | omega | exact Nat.le_of_ble_eq_true rfl | exact selF (by assumption) | exact selT (by assumption) | exact And.intro rfl rfl | exact And.intro (by assumption) rfl | exact And.intro (by omega) rfl | (simp only [inK] at *; omega) | (simp_all [sel] <;> fail) | fail) ?_
      refine rThen ?_
      refine rSeq ?_
      refine rSeq ?_
      refine rRegC md0 hX rfl rfl rfl (by repeat' first | exact True.intro | exact rfl | apply And.intro | omega | exact Nat.le_of_ble_eq_true rfl) ?_
      refine rThen ?_
      refine rCond rfl rfl (by repeat' first | exact True.intro | exact rfl | apply And.intro | omega | exact Nat.le_of_ble_eq_true rfl) (fun hc => ?_) (fun hc => ?_)
      · replace hT := sT hc hT
        refine rSeq ?_
        let c4 := (ref09_sign N a3)
        replace hT := sIf hT; obtain ⟨⟨o1, o2⟩, hT⟩ := hT
        refine rRegC md0 hX rfl rfl rfl (by (repeat' first | exact True.intro | with_reducible assumption | (with_reducible apply And.intro) | intro _) <;> first | assumption | exact rfl | omega | exact Nat.le_of_ble_eq_true rfl | exact selF (by assumption) | exact selT (by assumption) | exact And.intro rfl rfl | exact And.intro (by assumption) rfl | exact And.intro (by omega) rfl | (simp only [inK] at *; omega) | (simp_all [sel] <;> fail) | fail) ?_
        refine rThen ?_
        refine rRet ?_
        refine rThenRet ?_
        have hy := Option.some.inj hT; subst hy
        exact rEnd0 hX rfl (by repeat' first | exact True.intro | exact rfl | apply And.intro | omega | exact Nat.le_of_ble_eq_true rfl) (by repeat' first | exact True.intro | exact rfl | apply And.intro) rfl rfl rfl rfl rfl
      · replace hT := sF hc hT
        refine rSkip ?_
        refine rThen ?_
        refine rSeq ?_
        refine rRegC md0 hX rfl rfl rfl (by repeat' first | exact True.intro | exact rfl | apply And.intro | omega | exact Nat.le_of_ble_eq_true rfl) ?_
        refine rThen ?_
        refine rSeq ?_
        refine rSeq ?_
        refine rRegC md0 hX rfl rfl rfl (by repeat' first | exact True.intro | exact rfl | apply And.intro | omega | exact Nat.le_of_ble_eq_true rfl) ?_
        refine rThen ?_
        refine rJoin ⟨[(1, .v (.c (.ptr 0 0 0 0 0 0))), (2, .v (.c (.str ⟨#[]⟩))), (4, .v (.c (.str (bif a1 then ⟨#[49]⟩ else ⟨#[48]⟩))))], [(0, .mem true 23 none (.flat [.cs [.bool a1, .int .i64 a2, .int .i64 a3]]))], 1⟩ ?_ (fun hj => ?_)
        · skip
          refine rThen ?_
          refine rSeq ?_
          refine rRegC md0 hX rfl rfl rfl (by repeat' first | exact True.intro | exact rfl | apply And.intro | omega | exact Nat.le_of_ble_eq_true rfl) ?_
          refine rThen ?_
          refine rSeq ?_
          refine rSeq ?_
          refine rRegC md0 hX rfl rfl rfl (by repeat' first | exact True.intro | exact rfl | apply And.intro | omega | exact Nat.le_of_ble_eq_true rfl) ?_
          refine rThen ?_
          replace hT := sIf hT; obtain ⟨q1, hT⟩ := hT
          refine rJoin ⟨[(1, .v (.c (.ptr 0 0 0 0 0 0))), (2, .v (.c (.str ⟨#[]⟩))), (4, .v (.c (.str (bif a1 then ⟨#[49]⟩ else ⟨#[48]⟩)))), (5, .v (.c (.int .i64 (bif (decide (a3 < 0)) then ((256 : Int) + a3) else a3))))], [(0, .mem true 23 none (.flat [.cs [.bool a1, .int .i64 a2, .int .i64 a3]]))], 1⟩ ?_ (fun hj => ?_)
          · skip
            refine rThen ?_
            refine rSeq ?_
            let c5 := (ref02_Row N a2 6)
            let c6 := (ref02_Row N (bif (decide (a3 < 0)) then ((256 : Int) + a3) else a3) 8)
            let x1 := ((((⟨#[48, 48, 48, 48, 48, 49, 49]⟩ : ByteArray) ++ (bif a1 then ⟨#[49]⟩ else ⟨#[48]⟩)) ++ (c5.getD default)) ++ (c6.getD default))
            let x2 := (((⟨#[48, 48, 48, 48, 48, 49, 49]⟩ : ByteArray) ++ (bif a1 then ⟨#[49]⟩ else ⟨#[48]⟩)) ++ (c5.getD default))
            replace hT := sIf hT; obtain ⟨⟨o1, o2, o3, o4, o5⟩, hT⟩ := hT
            refine rRegC md0 hX rfl rfl rfl (by (repeat' first | exact True.intro | with_reducible assumption | (with_reducible apply And.intro) | intro _) <;> first | assumption | exact rfl | omega | exact Nat.le_of_ble_eq_true rfl | exact selF (by assumption) | exact selT (by assumption) | exact And.intro rfl rfl | exact And.intro (by assumption) rfl | exact And.intro (by omega) rfl | (simp only [inK] at *; omega) | (simp_all [sel] <;> fail) | fail) ?_
            refine rThen ?_
            refine rRet ?_
            have hy := Option.some.inj hT; subst hy
            exact rEnd0 hX rfl (by repeat' first | exact True.intro | exact rfl | apply And.intro | omega | exact Nat.le_of_ble_eq_true rfl) (by repeat' first | exact True.intro | exact rfl | apply And.intro) rfl rfl rfl rfl rfl
          · clear hT
            refine rCond rfl rfl (by repeat' first | exact True.intro | exact rfl | apply And.intro | omega | exact Nat.le_of_ble_eq_true rfl) (fun hc => ?_) (fun hc => ?_)
            · skip
              have q1 := q1 hc
              refine rRegC md0 hX rfl rfl rfl (by (repeat' first | exact True.intro | with_reducible assumption | (with_reducible apply And.intro) | intro _) <;> first | assumption | exact rfl | omega | exact Nat.le_of_ble_eq_true rfl | exact selF (by assumption) | exact selT (by assumption) | exact And.intro rfl rfl | exact And.intro (by assumption) rfl | exact And.intro (by omega) rfl | (simp only [inK] at *; omega) | (simp_all [sel] <;> fail) | fail) ?_
              exact rTo (To.mk' [] 0 hε rfl (by (repeat' first | exact True.intro | exact rfl | apply And.intro) <;> (repeat' first | exact rfl | refine Eq.trans ?_ (cTr (by assumption)) | refine Eq.trans ?_ (cFr (by assumption)) | refine Eq.trans (cTl (by assumption)) ?_ | refine Eq.trans (cFl (by assumption)) ?_)) (by (repeat' first | exact True.intro | exact rfl | apply And.intro) <;> (repeat' first | exact rfl | refine Eq.trans ?_ (cTr (by assumption)) | refine Eq.trans ?_ (cFr (by assumption)) | refine Eq.trans (cTl (by assumption)) ?_ | refine Eq.trans (cFl (by assumption)) ?_))) hj
            · skip
              refine rSkip ?_
              exact rTo (To.mk' [] 0 hε rfl (by (repeat' first | exact True.intro | exact rfl | apply And.intro) <;> (repeat' first | exact rfl | refine Eq.trans ?_ (cTr (by assumption)) | refine Eq.trans ?_ (cFr (by assumption)) | refine Eq.trans (cTl (by assumption)) ?_ | refine Eq.trans (cFl (by assumption)) ?_)) (by (repeat' first | exact True.intro | exact rfl | apply And.intro) <;> (repeat' first | exact rfl | refine Eq.trans ?_ (cTr (by assumption)) | refine Eq.trans ?_ (cFr (by assumption)) | refine Eq.trans (cTl (by assumption)) ?_ | refine Eq.trans (cFl (by assumption)) ?_))) hj
        · clear hT
          refine rCond rfl rfl (by repeat' first | exact True.intro | exact rfl | apply And.intro | omega | exact Nat.le_of_ble_eq_true rfl) (fun hc => ?_) (fun hc => ?_)
          · skip
            refine rRegC md0 hX rfl rfl rfl (by repeat' first | exact True.intro | exact rfl | apply And.intro | omega | exact Nat.le_of_ble_eq_true rfl) ?_
            exact rTo (To.mk' [] 0 hε rfl (by (repeat' first | exact True.intro | exact rfl | apply And.intro) <;> (repeat' first | exact rfl | refine Eq.trans ?_ (cTr (by assumption)) | refine Eq.trans ?_ (cFr (by assumption)) | refine Eq.trans (cTl (by assumption)) ?_ | refine Eq.trans (cFl (by assumption)) ?_)) (by (repeat' first | exact True.intro | exact rfl | apply And.intro) <;> (repeat' first | exact rfl | refine Eq.trans ?_ (cTr (by assumption)) | refine Eq.trans ?_ (cFr (by assumption)) | refine Eq.trans (cTl (by assumption)) ?_ | refine Eq.trans (cFl (by assumption)) ?_))) hj
          · skip
            refine rSkip ?_
            exact rTo (To.mk' [] 0 hε rfl (by (repeat' first | exact True.intro | exact rfl | apply And.intro) <;> (repeat' first | exact rfl | refine Eq.trans ?_ (cTr (by assumption)) | refine Eq.trans ?_ (cFr (by assumption)) | refine Eq.trans (cTl (by assumption)) ?_ | refine Eq.trans (cFl (by assumption)) ?_)) (by (repeat' first | exact True.intro | exact rfl | apply And.intro) <;> (repeat' first | exact rfl | refine Eq.trans ?_ (cTr (by assumption)) | refine Eq.trans ?_ (cFr (by assumption)) | refine Eq.trans (cTl (by assumption)) ?_ | refine Eq.trans (cFl (by assumption)) ?_))) hj
  · cases h
def ref15_Row_b1 (N : Nat) (a3 : (List (Bool × (Int × Int)))) (s1 : (ByteArray × Int)) : Option ((ByteArray × Int) ⊕ ByteArray) :=
  bif (decide (s1.2 < (a3.length : Int))) then
    let c1 := (ref09_Row N (a3.getD (s1.2).toNat (false, ((0 : Int), (0 : Int)))).1 (a3.getD (s1.2).toNat (false, ((0 : Int), (0 : Int)))).2.1 (a3.getD (s1.2).toNat (false, ((0 : Int), (0 : Int)))).2.2)
    if (0 : Int) ≤ s1.2 ∧ s1.2 < (a3.length : Int) ∧ c1.isSome = true ∧ (ByteArray.size s1.1 : Int) + ByteArray.size (c1.getD default) ≤ 9223372036854775807 then
      if inK .i64 (s1.2 + 1) then
        some (.inl ((s1.1 ++ (c1.getD default)), (s1.2 + 1)))
      else none
    else none
  else
    some (.inr s1.1)
def ref15_Row (N : Nat) (a1 : Bool) (a2 : Int) (a3 : (List (Bool × (Int × Int)))) : Option ByteArray :=
  joinK (fun (v1 : ByteArray) =>
    (iter (ref15_Row_b1 N a3) N (v1, 0)).bind fun v2 =>
      some v2
  ) fun k1 =>
    bif a1 then
      let c2 := (ref02_Row N (bif (decide (a2 = 128)) then 255 else a2) 8)
      if c2.isSome = true then
        k1 (c2.getD default)
      else none
    else
      k1 ⟨#[]⟩
def sp_ref15_Row (N : Nat) : X.Spec := fun args lk => match args with
  | [.v (.c (.bool a1)), .v (.c (.int .i64 a2)), .v (.c (.fz (.pair .bool (.pair (.int .i64) (.int .i64))) a3))] => some ⟨(ref15_Row N a1 a2 a3).isSome = true, .v (.c (.str ((ref15_Row N a1 a2 a3).getD default))), [], []⟩
  | _ => none
set_option maxRecDepth 100000 in
set_option maxHeartbeats 1000000 in
theorem ok_ref15_Row (N : Nat) : FnOK Tryd.prog gt0 28 (sp_ref15_Row N) := by
  refine fnOK_handed Tryd.func28 rfl (by kernel_rfl) tt_ok (ktCons (ok_ref02_Row N) (ktCons (ok_ref09_Row N) (ktNil))) ?_
  intro args lk r h hp
  unfold sp_ref15_Row at h
  split at h
  · rename_i a1 a2 a3
    change (List (Bool × (Int × Int))) at a3
    cases h
    obtain ⟨x, hx⟩ := Option.isSome_iff_exists.1 hp
    simp only [hx, Option.getD_some]
    refine hand0 rfl rfl (fun w0 M ε0 hX => ?_)
    refine rCount (fun hε => ?_)
    have hT : ref15_Row N a1 a2 a3 = some x := hx; clear hx hp; unfold ref15_Row at hT
    refine rSeq ?_
    refine rRegC md0 hX rfl rfl rfl (by repeat' first | exact True.intro | exact rfl | apply And.intro | omega | exact Nat.le_of_ble_eq_true rfl) ?_
    refine rThen ?_
    refine rSeq ?_
    refine rRegC md0 hX rfl rfl rfl (by repeat' first | exact True.intro | exact rfl | apply And.intro | omega | exact Nat.le_of_ble_eq_true rfl) ?_
    refine rThen ?_
    refine rSeq ?_
    refine rSeq ?_
    refine rRegC md0 hX rfl rfl rfl (by repeat' first | exact True.intro | exact rfl | apply And.intro | omega | exact Nat.le_of_ble_eq_true rfl) ?_
    refine rThen ?_
    refine rJoinK hT (fun v1 => ⟨[(2, .v (.c (.fz (.pair .bool (.pair (.int .i64) (.int .i64))) a3))), (6, .v (.c (.str ⟨#[]⟩))), (7, .v (.c (.str v1)))], [], 0⟩) (fun v1 hT => ?_) (fun k1 hjk1 hT => ?_)
    · skip
      refine rThen ?_
      refine rSeq ?_
      refine rSeq ?_
      refine rRegC md0 hX rfl rfl rfl (by repeat' first | exact True.intro | exact rfl | apply And.intro | omega | exact Nat.le_of_ble_eq_true rfl) ?_
      refine rThen ?_
      refine rBlock ?_
      replace hT := sBind hT; obtain ⟨w1, hl, hT⟩ := hT
      refine rJoinA (fun v2 => v2 = w1) (fun v2 => ⟨[(6, .v (.c (.str ⟨#[]⟩))), (7, .v (.c (.str v2)))], [], 0⟩) (.exit 0) (fun v2 hv => ?_) (fun hxs10 => ?_)
      · subst hv; clear hl
        refine rInHit ?_
        refine rThen ?_
        refine rSeq ?_
        refine rRegC md0 hX rfl rfl rfl (by repeat' first | exact True.intro | exact rfl | apply And.intro | omega | exact Nat.le_of_ble_eq_true rfl) ?_
        refine rThen ?_
        refine rRet ?_
        have hy := Option.some.inj hT; subst hy
        exact rEnd0 hX rfl (by repeat' first | exact True.intro | exact rfl | apply And.intro | omega | exact Nat.le_of_ble_eq_true rfl) (by repeat' first | exact True.intro | exact rfl | apply And.intro) rfl rfl rfl rfl rfl
      refine rLoopM (ref15_Row_b1 N a3) (fun s1 => ⟨[(2, .v (.c (.fz (.pair .bool (.pair (.int .i64) (.int .i64))) a3))), (6, .v (.c (.str ⟨#[]⟩))), (7, .v (.c (.str s1.1))), (8, .v (.c (.int .i64 s1.2)))], [], 0⟩) hl (To.mk' [] 0 hε rfl (by repeat' first | exact True.intro | exact rfl | apply And.intro) (by repeat' first | exact True.intro | exact rfl | apply And.intro)) (fun s1 zs1 NNs1 hz hnexts1 houts1 => ?_)
      clear hl hT
      have hT := hz; clear hz
      refine rSeq ?_
      refine rSeq ?_
      refine rRegC md0 hX rfl rfl rfl (by repeat' first | exact True.intro | exact rfl | apply And.intro | omega | exact Nat.le_of_ble_eq_true rfl) ?_
      refine rThen ?_
      refine rCond rfl rfl (by repeat' first | exact True.intro | exact rfl | apply And.intro | omega | exact Nat.le_of_ble_eq_true rfl) (fun hc => ?_) (fun hc => ?_)
      · replace hT := sT hc hT
        refine rSkip ?_
        refine rThen ?_
        refine rSeq ?_
        refine rBlock ?_
        let c1 := (ref09_Row N (a3.getD (s1.2).toNat (false, ((0 : Int), (0 : Int)))).1 (a3.getD (s1.2).toNat (false, ((0 : Int), (0 : Int)))).2.1 (a3.getD (s1.2).toNat (false, ((0 : Int), (0 : Int)))).2.2)
        replace hT := sIf hT; obtain ⟨⟨o1, o2, o3, o4⟩, hT⟩ := hT
        refine rRegC md0 hX rfl rfl rfl (by (repeat' first | exact True.intro | with_reducible assumption | (with_reducible apply And.intro) | intro _) <;> first | assumption | exact rfl | omega | exact Nat.le_of_ble_eq_true rfl | exact selF (by assumption) | exact selT (by assumption) | exact And.intro rfl rfl | exact And.intro (by assumption) rfl | exact And.intro (by omega) rfl | (simp only [inK] at *; omega) | (simp_all [sel] <;> fail) | fail) ?_
        refine rInNormal ?_
        refine rThen ?_
        replace hT := sIf hT; obtain ⟨o1, hT⟩ := hT
        refine rRegC md0 hX rfl rfl rfl (by (repeat' first | exact True.intro | with_reducible assumption | (with_reducible apply And.intro) | intro _) <;> first | assumption | exact rfl | omega | exact Nat.le_of_ble_eq_true rfl | exact selF (by assumption) | exact selT (by assumption) | exact And.intro rfl rfl | exact And.intro (by assumption) rfl | exact And.intro (by omega) rfl | (simp only [inK] at *; omega) | (simp_all [sel] <;> fail) | fail) ?_
        exact hnexts1 _ (Option.some.inj hT).symm _ (To.mk' [] 0 hε rfl (by repeat' first | exact True.intro | exact rfl | apply And.intro) (by repeat' first | exact True.intro | exact rfl | apply And.intro))
      · replace hT := sF hc hT
        refine rExit ?_
        refine rThenExit ?_
        refine rThenExit ?_
        exact rTo (To.mk' [] 0 hε rfl (by repeat' first | exact True.intro | exact rfl | apply And.intro) (by repeat' first | exact True.intro | exact rfl | apply And.intro)) (hxs10 _ (houts1 _ (Option.some.inj hT).symm))
    · skip
      refine rCond rfl rfl (by repeat' first | exact True.intro | exact rfl | apply And.intro | omega | exact Nat.le_of_ble_eq_true rfl) (fun hc => ?_) (fun hc => ?_)
      · replace hT := sT hc hT
        refine rSeq ?_
        refine rSeq ?_
        refine rRegC md0 hX rfl rfl rfl (by repeat' first | exact True.intro | exact rfl | apply And.intro | omega | exact Nat.le_of_ble_eq_true rfl) ?_
        refine rThen ?_
        refine rJoin ⟨[(1, .v (.c (.int .i64 (bif (decide (a2 = 128)) then 255 else a2)))), (2, .v (.c (.fz (.pair .bool (.pair (.int .i64) (.int .i64))) a3))), (6, .v (.c (.str ⟨#[]⟩))), (7, .v (.c (.str ⟨#[]⟩)))], [], 0⟩ ?_ (fun hj => ?_)
        · skip
          refine rThen ?_
          let c2 := (ref02_Row N (bif (decide (a2 = 128)) then 255 else a2) 8)
          replace hT := sIf hT; obtain ⟨o1, hT⟩ := hT
          refine rRegC md0 hX rfl rfl rfl (by (repeat' first | exact True.intro | with_reducible assumption | (with_reducible apply And.intro) | intro _) <;> first | assumption | exact rfl | omega | exact Nat.le_of_ble_eq_true rfl | exact selF (by assumption) | exact selT (by assumption) | exact And.intro rfl rfl | exact And.intro (by assumption) rfl | exact And.intro (by omega) rfl | (simp only [inK] at *; omega) | (simp_all [sel] <;> fail) | fail) ?_
          exact rTo (To.mk' [] 0 hε rfl (by repeat' first | exact True.intro | exact rfl | apply And.intro) (by repeat' first | exact True.intro | exact rfl | apply And.intro)) (hjk1 _ hT)
        · clear hT
          refine rCond rfl rfl (by repeat' first | exact True.intro | exact rfl | apply And.intro | omega | exact Nat.le_of_ble_eq_true rfl) (fun hc => ?_) (fun hc => ?_)
          · skip
            refine rRegC md0 hX rfl rfl rfl (by repeat' first | exact True.intro | exact rfl | apply And.intro | omega | exact Nat.le_of_ble_eq_true rfl) ?_
            exact rTo (To.mk' [] 0 hε rfl (by (repeat' first | exact True.intro | exact rfl | apply And.intro) <;> (repeat' first | exact rfl | refine Eq.trans ?_ (cTr (by assumption)) | refine Eq.trans ?_ (cFr (by assumption)) | refine Eq.trans (cTl (by assumption)) ?_ | refine Eq.trans (cFl (by assumption)) ?_)) (by (repeat' first | exact True.intro | exact rfl | apply And.intro) <;> (repeat' first | exact rfl | refine Eq.trans ?_ (cTr (by assumption)) | refine Eq.trans ?_ (cFr (by assumption)) | refine Eq.trans (cTl (by assumption)) ?_ | refine Eq.trans (cFl (by assumption)) ?_))) hj
          · skip
            refine rSkip ?_
            exact rTo (To.mk' [] 0 hε rfl (by (repeat' first | exact True.intro | exact rfl | apply And.intro) <;> (repeat' first | exact rfl | refine Eq.trans ?_ (cTr (by assumption)) | refine Eq.trans ?_ (cFr (by assumption)) | refine Eq.trans (cTl (by assumption)) ?_ | refine Eq.trans (cFl (by assumption)) ?_)) (by (repeat' first | exact True.intro | exact rfl | apply And.intro) <;> (repeat' first | exact rfl | refine Eq.trans ?_ (cTr (by assumption)) | refine Eq.trans ?_ (cFr (by assumption)) | refine Eq.trans (cTl (by assumption)) ?_ | refine Eq.trans (cFl (by assumption)) ?_))) hj
      · replace hT := sF hc hT
        refine rSkip ?_
        exact rTo (To.mk' [] 0 hε rfl (by repeat' first | exact True.intro | exact rfl | apply And.intro) (by repeat' first | exact True.intro | exact rfl | apply And.intro)) (hjk1 _ hT)
  · cases h
def law15_BlocksPuts (N : Nat) (a1 : Bool) (a2 : Int) (a3 : (List (Bool × (Int × Int)))) (a4 : ByteArray) : Option Bool :=
  let c1 := (ref02_Plain N a4)
  let x1 := (bif (decide ((100 : Int) < (a3.length : Int))) then true else (decide ((100 : Int) < (ByteArray.size a4 : Int))))
  let x2 := (!(bif (decide ((100 : Int) < (a3.length : Int))) then true else (decide ((100 : Int) < (ByteArray.size a4 : Int)))))
  let x3 := (bif (bif (decide ((100 : Int) < (a3.length : Int))) then true else (decide ((100 : Int) < (ByteArray.size a4 : Int)))) then true else (!(c1.getD default)))
  if ((!(bif (decide ((100 : Int) < (a3.length : Int))) then true else (decide ((100 : Int) < (ByteArray.size a4 : Int))))) = true → c1.isSome = true) then
    bif x3 then
      let c2 := (law15_lives N)
      if c2.isSome = true then
        some (c2.getD default)
      else none
    else
      let c3 := (outbits_New N)
      if c3.isSome = true then
        let c4 := (overspill_outbits_Writer_Add N a4 (c3.getD default))
        if c4.isSome = true then
          let c5 := (blocks_Put_v1 N a1 a2 a3 (c4.getD default).2)
          if c5.isSome = true then
            let c6 := (blocks_Put_v2 N a1 a2 a3)
            if c6.isSome = true then
              bif (decide ((c6.getD default) ≠ 1)) then
                some false
              else
                let c7 := (ref15_May N a1 a2 a3)
                if c7.isSome = true then
                  bif (!(c7.getD default)) then
                    joinK (fun (v1 : (Bool × (List Bool))) =>
                      some v1.1
                    ) fun k1 =>
                      let c9 := (overspill_outbits_Writer_Len N (c5.getD default).2)
                      if ((decide ((c5.getD default).1 = 7)) = true → c9.isSome = true) then
                        bif (decide ((c5.getD default).1 = 7)) then
                          let c10 := (law15_lives N)
                          if ((bif (decide ((c5.getD default).1 = 7)) then (decide ((c9.getD default).1 = (ByteArray.size a4 : Int))) else false) = true → c10.isSome = true) then
                            let x4 := (bif (bif (decide ((c5.getD default).1 = 7)) then (decide ((c9.getD default).1 = (ByteArray.size a4 : Int))) else false) then (c10.getD default) else false)
                            let x5 := (bif (decide ((c5.getD default).1 = 7)) then (decide ((c9.getD default).1 = (ByteArray.size a4 : Int))) else false)
                            k1 (x4, (c9.getD default).2)
                          else none
                        else
                          let c11 := (law15_lives N)
                          if ((bif (decide ((c5.getD default).1 = 7)) then false else false) = true → c11.isSome = true) then
                            let x6 := (bif (bif (decide ((c5.getD default).1 = 7)) then false else false) then (c11.getD default) else false)
                            k1 (x6, (c5.getD default).2)
                          else none
                      else none
                  else
                    let c12 := (ref15_Row N a1 a2 a3)
                    if c12.isSome = true ∧ (ByteArray.size a4 : Int) + ByteArray.size (c12.getD default) ≤ 9223372036854775807 then
                      joinK (fun (v2 : Bool) =>
                        some v2
                      ) fun k2 =>
                        let c14 := (overspill_outbits_Writer_Len N (c5.getD default).2)
                        if ((decide ((c5.getD default).1 = 0)) = true → c14.isSome = true) then
                          bif (decide ((c5.getD default).1 = 0)) then
                            joinK (fun (v3 : Bool) =>
                              k2 v3
                            ) fun k3 =>
                              let c16 := (overspill_outbits_Writer_Text N (c14.getD default).2)
                              if ((bif (decide ((c5.getD default).1 = 0)) then (decide ((c14.getD default).1 = (ByteArray.size (a4 ++ (c12.getD default)) : Int))) else false) = true → c16.isSome = true) then
                                bif (bif (decide ((c5.getD default).1 = 0)) then (decide ((c14.getD default).1 = (ByteArray.size (a4 ++ (c12.getD default)) : Int))) else false) then
                                  let c17 := (ref02_Pack N (a4 ++ (c12.getD default)))
                                  let c18 := (law15_lives N)
                                  if c17.isSome = true ∧ ((bif (bif (decide ((c5.getD default).1 = 0)) then (decide ((c14.getD default).1 = (ByteArray.size (a4 ++ (c12.getD default)) : Int))) else false) then (decide (ByteArray.toList (c16.getD default).1 = ByteArray.toList (c17.getD default))) else false) = true → c18.isSome = true) then
                                    let x7 := (bif (bif (bif (decide ((c5.getD default).1 = 0)) then (decide ((c14.getD default).1 = (ByteArray.size (a4 ++ (c12.getD default)) : Int))) else false) then (decide (ByteArray.toList (c16.getD default).1 = ByteArray.toList (c17.getD default))) else false) then (c18.getD default) else false)
                                    let x8 := (bif (decide ((c5.getD default).1 = 0)) then (decide ((c14.getD default).1 = (ByteArray.size (a4 ++ (c12.getD default)) : Int))) else false)
                                    let x9 := (bif (bif (decide ((c5.getD default).1 = 0)) then (decide ((c14.getD default).1 = (ByteArray.size (a4 ++ (c12.getD default)) : Int))) else false) then (decide (ByteArray.toList (c16.getD default).1 = ByteArray.toList (c17.getD default))) else false)
                                    k3 x7
                                  else none
                                else
                                  let c19 := (ref02_Pack N (a4 ++ (c12.getD default)))
                                  if ((bif (decide ((c5.getD default).1 = 0)) then (decide ((c14.getD default).1 = (ByteArray.size (a4 ++ (c12.getD default)) : Int))) else false) = true → c19.isSome = true) then
                                    let c20 := (law15_lives N)
                                    if ((bif (bif (decide ((c5.getD default).1 = 0)) then (decide ((c14.getD default).1 = (ByteArray.size (a4 ++ (c12.getD default)) : Int))) else false) then false else false) = true → c20.isSome = true) then
                                      let x10 := (bif (bif (bif (decide ((c5.getD default).1 = 0)) then (decide ((c14.getD default).1 = (ByteArray.size (a4 ++ (c12.getD default)) : Int))) else false) then false else false) then (c20.getD default) else false)
                                      let x11 := (bif (decide ((c5.getD default).1 = 0)) then (decide ((c14.getD default).1 = (ByteArray.size (a4 ++ (c12.getD default)) : Int))) else false)
                                      let x12 := (bif (bif (decide ((c5.getD default).1 = 0)) then (decide ((c14.getD default).1 = (ByteArray.size (a4 ++ (c12.getD default)) : Int))) else false) then false else false)
                                      k3 x10
                                    else none
                                  else none
                              else none
                          else
                            joinK (fun (v4 : Bool) =>
                              k2 v4
                            ) fun k4 =>
                              let c22 := (overspill_outbits_Writer_Text N (c5.getD default).2)
                              if ((bif (decide ((c5.getD default).1 = 0)) then false else false) = true → c22.isSome = true) then
                                bif (bif (decide ((c5.getD default).1 = 0)) then false else false) then
                                  let c23 := (ref02_Pack N (a4 ++ (c12.getD default)))
                                  let c24 := (law15_lives N)
                                  if c23.isSome = true ∧ ((bif (bif (decide ((c5.getD default).1 = 0)) then false else false) then (decide (ByteArray.toList (c22.getD default).1 = ByteArray.toList (c23.getD default))) else false) = true → c24.isSome = true) then
                                    let x13 := (bif (bif (bif (decide ((c5.getD default).1 = 0)) then false else false) then (decide (ByteArray.toList (c22.getD default).1 = ByteArray.toList (c23.getD default))) else false) then (c24.getD default) else false)
                                    let x14 := (bif (bif (decide ((c5.getD default).1 = 0)) then false else false) then (decide (ByteArray.toList (c22.getD default).1 = ByteArray.toList (c23.getD default))) else false)
                                    k4 x13
                                  else none
                                else
                                  let c25 := (ref02_Pack N (a4 ++ (c12.getD default)))
                                  if ((bif (decide ((c5.getD default).1 = 0)) then false else false) = true → c25.isSome = true) then
                                    let c26 := (law15_lives N)
                                    if ((bif (bif (decide ((c5.getD default).1 = 0)) then false else false) then false else false) = true → c26.isSome = true) then
                                      let x15 := (bif (bif (bif (decide ((c5.getD default).1 = 0)) then false else false) then false else false) then (c26.getD default) else false)
                                      let x16 := (bif (bif (decide ((c5.getD default).1 = 0)) then false else false) then false else false)
                                      k4 x15
                                    else none
                                  else none
                              else none
                        else none
                    else none
                else none
            else none
          else none
        else none
      else none
  else none
def sp_law15_BlocksPuts (N : Nat) : X.Spec := fun args lk => match args with
  | [.v (.agg [.cs [.bool a1, .int .i64 a2, .fz (.pair .bool (.pair (.int .i64) (.int .i64))) a3]]), .v (.c (.str a4))] => some ⟨(law15_BlocksPuts N a1 a2 a3 a4).isSome = true, .v (.c (.bool ((law15_BlocksPuts N a1 a2 a3 a4).getD default))), [], []⟩
  | _ => none
set_option maxRecDepth 100000 in
set_option maxHeartbeats 1000000 in
theorem ok_law15_BlocksPuts (N : Nat) : FnOK Tryd.prog gt0 6 (sp_law15_BlocksPuts N) := by
  refine fnOK_handed Tryd.func6 rfl (by kernel_rfl) tt_ok (ktCons (ok_ref02_Pack N) (ktCons (ok_overspill_outbits_Writer_Text N) (ktCons (ok_ref15_Row N) (ktCons (ok_overspill_outbits_Writer_Len N) (ktCons (ok_ref15_May N) (ktCons (FnOK.or (ok_blocks_Put_v1 N) (ok_blocks_Put_v2 N)) (ktCons (ok_overspill_outbits_Writer_Add N) (ktCons (ok_outbits_New N) (ktCons (ok_law15_lives N) (ktCons (ok_ref02_Plain N) (ktNil))))))))))) ?_
  intro args lk r h hp
  unfold sp_law15_BlocksPuts at h
  split at h
  · rename_i a1 a2 a3 a4
    change (List (Bool × (Int × Int))) at a3
    cases h
    obtain ⟨x, hx⟩ := Option.isSome_iff_exists.1 hp
    simp only [hx, Option.getD_some]
    refine hand0 rfl rfl (fun w0 M ε0 hX => ?_)
    refine rCount (fun hε => ?_)
    have hT : law15_BlocksPuts N a1 a2 a3 a4 = some x := hx; clear hx hp; unfold law15_BlocksPuts at hT
    refine rSeq ?_
    refine rRegC md0 hX rfl rfl rfl (by repeat' first | exact True.intro | exact rfl | apply And.intro | omega | exact Nat.le_of_ble_eq_true rfl) ?_
    refine rThen ?_
    refine rSeq ?_
    refine rSeq ?_
    let c1 := (ref02_Plain N a4)
    let x1 := (bif (decide ((100 : Int) < (a3.length : Int))) then true else (decide ((100 : Int) < (ByteArray.size a4 : Int))))
    let x2 := (!(bif (decide ((100 : Int) < (a3.length : Int))) then true else (decide ((100 : Int) < (ByteArray.size a4 : Int)))))
    let x3 := (bif (bif (decide ((100 : Int) < (a3.length : Int))) then true else (decide ((100 : Int) < (ByteArray.size a4 : Int)))) then true else (!(c1.getD default)))
    replace hT := sIf hT; obtain ⟨o1, hT⟩ := hT
    refine rRegC md0 hX rfl rfl rfl (by (repeat' first | exact True.intro | with_reducible assumption | (with_reducible apply And.intro) | intro _) <;> first | assumption | exact o1 (by assumption) | exact rfl | omega | exact Nat.le_of_ble_eq_true rfl | exact selF (by assumption) | exact selT (by assumption) | exact And.intro rfl rfl | exact And.intro (by assumption) rfl | exact And.intro (by omega) rfl | (simp only [inK] at *; omega) | (simp_all [sel] <;> fail) | fail) ?_
    refine rThen ?_
    refine rCond rfl rfl (by repeat' first | exact True.intro | exact rfl | apply And.intro | omega | exact Nat.le_of_ble_eq_true rfl) (fun hc => ?_) (fun hc => ?_)
    · replace hT := sT hc hT
      refine rSeq ?_
      let c2 := (law15_lives N)
      replace hT := sIf hT; obtain ⟨o1, hT⟩ := hT
      refine rRegC md0 hX rfl rfl rfl (by (repeat' first | exact True.intro | with_reducible assumption | (with_reducible apply And.intro) | intro _) <;> first | assumption | exact rfl | omega | exact Nat.le_of_ble_eq_true rfl | exact selF (by assumption) | exact selT (by assumption) | exact And.intro rfl rfl | exact And.intro (by assumption) rfl | exact And.intro (by omega) rfl | (simp only [inK] at *; omega) | (simp_all [sel] <;> fail) | fail) ?_
      refine rThen ?_
      refine rRet ?_
      refine rThenRet ?_
      have hy := Option.some.inj hT; subst hy
      exact rEnd0 hX rfl (by repeat' first | exact True.intro | exact rfl | apply And.intro | omega | exact Nat.le_of_ble_eq_true rfl) (by repeat' first | exact True.intro | exact rfl | apply And.intro) rfl rfl rfl rfl rfl
    · replace hT := sF hc hT
      refine rSkip ?_
      refine rThen ?_
      refine rSeq ?_
      let c3 := (outbits_New N)
      replace hT := sIf hT; obtain ⟨o1, hT⟩ := hT
      refine rRegC md0 hX rfl rfl rfl (by (repeat' first | exact True.intro | with_reducible assumption | (with_reducible apply And.intro) | intro _) <;> first | assumption | exact rfl | omega | exact Nat.le_of_ble_eq_true rfl | exact selF (by assumption) | exact selT (by assumption) | exact And.intro rfl rfl | exact And.intro (by assumption) rfl | exact And.intro (by omega) rfl | (simp only [inK] at *; omega) | (simp_all [sel] <;> fail) | fail) ?_
      refine rThen ?_
      refine rSeq ?_
      let c4 := (overspill_outbits_Writer_Add N a4 (c3.getD default))
      replace hT := sIf hT; obtain ⟨o1, hT⟩ := hT
      refine rRegC md0 hX rfl rfl rfl (by (repeat' first | exact True.intro | with_reducible assumption | (with_reducible apply And.intro) | intro _) <;> first | assumption | exact rfl | omega | exact Nat.le_of_ble_eq_true rfl | exact selF (by assumption) | exact selT (by assumption) | exact And.intro rfl rfl | exact And.intro (by assumption) rfl | exact And.intro (by omega) rfl | (simp only [inK] at *; omega) | (simp_all [sel] <;> fail) | fail) ?_
      refine rThen ?_
      refine rSeq ?_
      let c5 := (blocks_Put_v1 N a1 a2 a3 (c4.getD default).2)
      replace hT := sIf hT; obtain ⟨o1, hT⟩ := hT
      refine rRegC md0 hX rfl rfl rfl (by (repeat' first | exact True.intro | with_reducible assumption | (with_reducible apply And.intro) | intro _) <;> first | assumption | exact rfl | omega | exact Nat.le_of_ble_eq_true rfl | exact selF (by assumption) | exact selT (by assumption) | exact And.intro rfl rfl | exact And.intro (by assumption) rfl | exact And.intro (by omega) rfl | (simp only [inK] at *; omega) | (simp_all [sel] <;> fail) | fail) ?_
      refine rThen ?_
      refine rSeq ?_
      refine rSeq ?_
      let c6 := (blocks_Put_v2 N a1 a2 a3)
      replace hT := sIf hT; obtain ⟨o1, hT⟩ := hT
      refine rRegC md0 hX rfl rfl rfl (by (repeat' first | exact True.intro | with_reducible assumption | (with_reducible apply And.intro) | intro _) <;> first | assumption | exact rfl | omega | exact Nat.le_of_ble_eq_true rfl | exact selF (by assumption) | exact selT (by assumption) | exact And.intro rfl rfl | exact And.intro (by assumption) rfl | exact And.intro (by omega) rfl | (simp only [inK] at *; omega) | (simp_all [sel] <;> fail) | fail) ?_
      refine rThen ?_
      refine rCond rfl rfl (by repeat' first | exact True.intro | exact rfl | apply And.intro | omega | exact Nat.le_of_ble_eq_true rfl) (fun hc => ?_) (fun hc => ?_)
      · replace hT := sT hc hT
        refine rSeq ?_
        refine rRegC md0 hX rfl rfl rfl (by repeat' first | exact True.intro | exact rfl | apply And.intro | omega | exact Nat.le_of_ble_eq_true rfl) ?_
        refine rThen ?_
        refine rRet ?_
        refine rThenRet ?_
        have hy := Option.some.inj hT; subst hy
        exact rEnd0 hX rfl (by repeat' first | exact True.intro | exact rfl | apply And.intro | omega | exact Nat.le_of_ble_eq_true rfl) (by repeat' first | exact True.intro | exact rfl | apply And.intro) rfl rfl rfl rfl rfl
      · replace hT := sF hc hT
        refine rSkip ?_
        refine rThen ?_
        refine rSeq ?_
        refine rSeq ?_
        let c7 := (ref15_May N a1 a2 a3)
        replace hT := sIf hT; obtain ⟨o1, hT⟩ := hT
        refine rRegC md0 hX rfl rfl rfl (by (repeat' first | exact True.intro | with_reducible assumption | (with_reducible apply And.intro) | intro _) <;> first | assumption | exact rfl | omega | exact Nat.le_of_ble_eq_true rfl | exact selF (by assumption) | exact selT (by assumption) | exact And.intro rfl rfl | exact And.intro (by assumption) rfl | exact And.intro (by omega) rfl | (simp only [inK] at *; omega) | (simp_all [sel] <;> fail) | fail) ?_
        refine rThen ?_
        refine rCond rfl rfl (by repeat' first | exact True.intro | exact rfl | apply And.intro | omega | exact Nat.le_of_ble_eq_true rfl) (fun hc => ?_) (fun hc => ?_)
        · replace hT := sT hc hT
          refine rSeq ?_
          refine rRegSL ?_
          refine rJoinKL hT (fun v1 => ⟨[(1, .v (.c (.str a4))), (2, .v (.c (.ptr 0 0 0 0 0 0))), (4, .v (.c (.bool v1.1))), (5, .v (.c (.ptr 1 0 0 0 0 0))), (6, .v (.c (.int .i64 (c5.getD default).1)))], [(0, .mem true 44 none (.flat [.cs [.bool a1, .int .i64 a2, .fz (.pair .bool (.pair (.int .i64) (.int .i64))) a3]])), (1, .obj 5 v1.2)], 2⟩) (fun v1 hT => ?_) (fun k1 hjk1 hT => ?_)
          · skip
            refine rThen ?_
            refine rRet ?_
            refine rThenRet ?_
            have hy := Option.some.inj hT; subst hy
            exact rEnd0 hX rfl (by repeat' first | exact True.intro | exact rfl | apply And.intro | omega | exact Nat.le_of_ble_eq_true rfl) (by repeat' first | exact True.intro | exact rfl | apply And.intro) rfl rfl rfl rfl rfl
          · skip
            let c9 := (overspill_outbits_Writer_Len N (c5.getD default).2)
            replace hT := sIf hT; obtain ⟨r1, hT⟩ := hT
            refine rSLG md0 hX rfl rfl rfl (by (repeat' first | exact True.intro | with_reducible assumption | (with_reducible apply And.intro) | intro _) <;> first | assumption | exact rfl | omega | exact Nat.le_of_ble_eq_true rfl | exact selF (by assumption) | exact selT (by assumption) | exact And.intro rfl rfl | exact And.intro (by assumption) rfl | exact And.intro (by omega) rfl | (simp only [inK] at *; omega) | (simp_all [sel] <;> fail) | fail) rfl rfl rfl rfl (fun hg => (by (repeat' first | exact True.intro | with_reducible assumption | (with_reducible apply And.intro)) <;> first | exact rfl | assumption | exact r1 hg | omega | exact Nat.le_of_ble_eq_true rfl)) (fun hg => ?_) (fun hg => ?_)
            · replace hT := sT hg hT
              let c10 := (law15_lives N)
              replace hT := sIf hT; obtain ⟨o1, hT⟩ := hT
              let x4 := (bif (bif (decide ((c5.getD default).1 = 7)) then (decide ((c9.getD default).1 = (ByteArray.size a4 : Int))) else false) then (c10.getD default) else false)
              let x5 := (bif (decide ((c5.getD default).1 = 7)) then (decide ((c9.getD default).1 = (ByteArray.size a4 : Int))) else false)
              refine rSLDone md0 hX rfl rfl rfl (by (repeat' first | exact True.intro | with_reducible assumption | (with_reducible apply And.intro) | intro _) <;> first | assumption | exact o1 (by assumption) | exact rfl | omega | exact Nat.le_of_ble_eq_true rfl | exact selF (by assumption) | exact selT (by assumption) | exact And.intro rfl rfl | exact And.intro (by assumption) rfl | exact And.intro (by omega) rfl | (simp only [inK] at *; omega) | (simp_all [sel] <;> fail) | fail) ?_
              exact rTo (To.mk' [] 0 hε rfl (by repeat' first | exact True.intro | exact rfl | apply And.intro) (by repeat' first | exact True.intro | exact rfl | apply And.intro)) (hjk1 _ hT)
            · replace hT := sF hg hT
              refine rSLSkip md0 hX rfl rfl rfl (by (repeat' first | exact True.intro | with_reducible assumption | (with_reducible apply And.intro) | intro _) <;> first | assumption | exact rfl | omega | exact Nat.le_of_ble_eq_true rfl | exact selF (by assumption) | exact selT (by assumption) | exact And.intro rfl rfl | exact And.intro (by assumption) rfl | exact And.intro (by omega) rfl | (simp only [inK] at *; omega) | (simp_all [sel] <;> fail) | fail) rfl rfl rfl (by assumption) ?_
              let c11 := (law15_lives N)
              replace hT := sIf hT; obtain ⟨o1, hT⟩ := hT
              let x6 := (bif (bif (decide ((c5.getD default).1 = 7)) then false else false) then (c11.getD default) else false)
              refine rSLDone md0 hX rfl rfl rfl (by (repeat' first | exact True.intro | with_reducible assumption | (with_reducible apply And.intro) | intro _) <;> first | assumption | exact o1 (by assumption) | exact rfl | omega | exact Nat.le_of_ble_eq_true rfl | exact selF (by assumption) | exact selT (by assumption) | exact And.intro rfl rfl | exact And.intro (by assumption) rfl | exact And.intro (by omega) rfl | (simp only [inK] at *; omega) | (simp_all [sel] <;> fail) | fail) ?_
              exact rTo (To.mk' [] 0 hε rfl (by repeat' first | exact True.intro | exact rfl | apply And.intro) (by repeat' first | exact True.intro | exact rfl | apply And.intro)) (hjk1 _ hT)
        · replace hT := sF hc hT
          refine rSkip ?_
          refine rThen ?_
          refine rSeq ?_
          let c12 := (ref15_Row N a1 a2 a3)
          replace hT := sIf hT; obtain ⟨⟨o1, o2⟩, hT⟩ := hT
          refine rRegC md0 hX rfl rfl rfl (by (repeat' first | exact True.intro | with_reducible assumption | (with_reducible apply And.intro) | intro _) <;> first | assumption | exact rfl | omega | exact Nat.le_of_ble_eq_true rfl | exact selF (by assumption) | exact selT (by assumption) | exact And.intro rfl rfl | exact And.intro (by assumption) rfl | exact And.intro (by omega) rfl | (simp only [inK] at *; omega) | (simp_all [sel] <;> fail) | fail) ?_
          refine rThen ?_
          refine rSeq ?_
          refine rRegSL ?_
          refine rJoinKL hT (fun v2 => ⟨[(4, .v (.c (.bool v2)))], [], 2⟩) (fun v2 hT => ?_) (fun k2 hjk2 hT => ?_)
          · skip
            refine rThen ?_
            refine rRet ?_
            have hy := Option.some.inj hT; subst hy
            exact rEnd0 hX rfl (by repeat' first | exact True.intro | exact rfl | apply And.intro | omega | exact Nat.le_of_ble_eq_true rfl) (by repeat' first | exact True.intro | exact rfl | apply And.intro) rfl rfl rfl rfl rfl
          · skip
            let c14 := (overspill_outbits_Writer_Len N (c5.getD default).2)
            replace hT := sIf hT; obtain ⟨r1, hT⟩ := hT
            refine rSLG md0 hX rfl rfl rfl (by (repeat' first | exact True.intro | with_reducible assumption | (with_reducible apply And.intro) | intro _) <;> first | assumption | exact rfl | omega | exact Nat.le_of_ble_eq_true rfl | exact selF (by assumption) | exact selT (by assumption) | exact And.intro rfl rfl | exact And.intro (by assumption) rfl | exact And.intro (by omega) rfl | (simp only [inK] at *; omega) | (simp_all [sel] <;> fail) | fail) rfl rfl rfl rfl (fun hg => (by (repeat' first | exact True.intro | with_reducible assumption | (with_reducible apply And.intro)) <;> first | exact rfl | assumption | exact r1 hg | omega | exact Nat.le_of_ble_eq_true rfl)) (fun hg => ?_) (fun hg => ?_)
            · replace hT := sT hg hT
              refine rJoinKL hT (fun v3 => ⟨[(4, .v (.c (.bool v3)))], [], 2⟩) (fun v3 hT => ?_) (fun k3 hjk3 hT => ?_)
              · skip
                exact rTo (To.mk' [] 0 hε rfl (by repeat' first | exact True.intro | exact rfl | apply And.intro) (by repeat' first | exact True.intro | exact rfl | apply And.intro)) (hjk2 _ hT)
              · skip
                let c16 := (overspill_outbits_Writer_Text N (c14.getD default).2)
                replace hT := sIf hT; obtain ⟨r1, hT⟩ := hT
                refine rSLG md0 hX rfl rfl rfl (by (repeat' first | exact True.intro | with_reducible assumption | (with_reducible apply And.intro) | intro _) <;> first | assumption | exact rfl | omega | exact Nat.le_of_ble_eq_true rfl | exact selF (by assumption) | exact selT (by assumption) | exact And.intro rfl rfl | exact And.intro (by assumption) rfl | exact And.intro (by omega) rfl | (simp only [inK] at *; omega) | (simp_all [sel] <;> fail) | fail) rfl rfl rfl rfl (fun hg => (by (repeat' first | exact True.intro | with_reducible assumption | (with_reducible apply And.intro)) <;> first | exact rfl | assumption | exact r1 hg | omega | exact Nat.le_of_ble_eq_true rfl)) (fun hg => ?_) (fun hg => ?_)
                · replace hT := sT hg hT
                  let c17 := (ref02_Pack N (a4 ++ (c12.getD default)))
                  let c18 := (law15_lives N)
                  replace hT := sIf hT; obtain ⟨⟨o1, o2⟩, hT⟩ := hT
                  let x7 := (bif (bif (bif (decide ((c5.getD default).1 = 0)) then (decide ((c14.getD default).1 = (ByteArray.size (a4 ++ (c12.getD default)) : Int))) else false) then (decide (ByteArray.toList (c16.getD default).1 = ByteArray.toList (c17.getD default))) else false) then (c18.getD default) else false)
                  let x8 := (bif (decide ((c5.getD default).1 = 0)) then (decide ((c14.getD default).1 = (ByteArray.size (a4 ++ (c12.getD default)) : Int))) else false)
                  let x9 := (bif (bif (decide ((c5.getD default).1 = 0)) then (decide ((c14.getD default).1 = (ByteArray.size (a4 ++ (c12.getD default)) : Int))) else false) then (decide (ByteArray.toList (c16.getD default).1 = ByteArray.toList (c17.getD default))) else false)
                  refine rSLDone md0 hX rfl rfl rfl (by (repeat' first | exact True.intro | with_reducible assumption | (with_reducible apply And.intro) | intro _) <;> first | assumption | exact o2 (by assumption) | exact rfl | omega | exact Nat.le_of_ble_eq_true rfl | exact selF (by assumption) | exact selT (by assumption) | exact And.intro rfl rfl | exact And.intro (by assumption) rfl | exact And.intro (by omega) rfl | (simp only [inK] at *; omega) | (simp_all [sel] <;> fail) | fail) ?_
                  exact rTo (To.mk' [] 0 hε rfl (by repeat' first | exact True.intro | exact rfl | apply And.intro) (by repeat' first | exact True.intro | exact rfl | apply And.intro)) (hjk3 _ hT)
                · replace hT := sF hg hT
                  let c19 := (ref02_Pack N (a4 ++ (c12.getD default)))
                  replace hT := sIf hT; obtain ⟨o1, hT⟩ := hT
                  refine rSLSkip md0 hX rfl rfl rfl (by (repeat' first | exact True.intro | with_reducible assumption | (with_reducible apply And.intro) | intro _) <;> first | assumption | exact o1 (by assumption) | exact rfl | omega | exact Nat.le_of_ble_eq_true rfl | exact selF (by assumption) | exact selT (by assumption) | exact And.intro rfl rfl | exact And.intro (by assumption) rfl | exact And.intro (by omega) rfl | (simp only [inK] at *; omega) | (simp_all [sel] <;> fail) | fail) rfl rfl rfl (by assumption) ?_
                  let c20 := (law15_lives N)
                  replace hT := sIf hT; obtain ⟨o1, hT⟩ := hT
                  let x10 := (bif (bif (bif (decide ((c5.getD default).1 = 0)) then (decide ((c14.getD default).1 = (ByteArray.size (a4 ++ (c12.getD default)) : Int))) else false) then false else false) then (c20.getD default) else false)
                  let x11 := (bif (decide ((c5.getD default).1 = 0)) then (decide ((c14.getD default).1 = (ByteArray.size (a4 ++ (c12.getD default)) : Int))) else false)
                  let x12 := (bif (bif (decide ((c5.getD default).1 = 0)) then (decide ((c14.getD default).1 = (ByteArray.size (a4 ++ (c12.getD default)) : Int))) else false) then false else false)
                  refine rSLDone md0 hX rfl rfl rfl (by (repeat' first | exact True.intro | with_reducible assumption | (with_reducible apply And.intro) | intro _) <;> first | assumption | exact o1 (by assumption) | exact rfl | omega | exact Nat.le_of_ble_eq_true rfl | exact selF (by assumption) | exact selT (by assumption) | exact And.intro rfl rfl | exact And.intro (by assumption) rfl | exact And.intro (by omega) rfl | (simp only [inK] at *; omega) | (simp_all [sel] <;> fail) | fail) ?_
                  exact rTo (To.mk' [] 0 hε rfl (by repeat' first | exact True.intro | exact rfl | apply And.intro) (by repeat' first | exact True.intro | exact rfl | apply And.intro)) (hjk3 _ hT)
            · replace hT := sF hg hT
              refine rSLSkip md0 hX rfl rfl rfl (by (repeat' first | exact True.intro | with_reducible assumption | (with_reducible apply And.intro) | intro _) <;> first | assumption | exact rfl | omega | exact Nat.le_of_ble_eq_true rfl | exact selF (by assumption) | exact selT (by assumption) | exact And.intro rfl rfl | exact And.intro (by assumption) rfl | exact And.intro (by omega) rfl | (simp only [inK] at *; omega) | (simp_all [sel] <;> fail) | fail) rfl rfl rfl (by assumption) ?_
              refine rJoinKL hT (fun v4 => ⟨[(4, .v (.c (.bool v4)))], [], 2⟩) (fun v4 hT => ?_) (fun k4 hjk4 hT => ?_)
              · skip
                exact rTo (To.mk' [] 0 hε rfl (by repeat' first | exact True.intro | exact rfl | apply And.intro) (by repeat' first | exact True.intro | exact rfl | apply And.intro)) (hjk2 _ hT)
              · skip
                let c22 := (overspill_outbits_Writer_Text N (c5.getD default).2)
                replace hT := sIf hT; obtain ⟨r1, hT⟩ := hT
                refine rSLG md0 hX rfl rfl rfl (by (repeat' first | exact True.intro | with_reducible assumption | (with_reducible apply And.intro) | intro _) <;> first | assumption | exact rfl | omega | exact Nat.le_of_ble_eq_true rfl | exact selF (by assumption) | exact selT (by assumption) | exact And.intro rfl rfl | exact And.intro (by assumption) rfl | exact And.intro (by omega) rfl | (simp only [inK] at *; omega) | (simp_all [sel] <;> fail) | fail) rfl rfl rfl rfl (fun hg => (by (repeat' first | exact True.intro | with_reducible assumption | (with_reducible apply And.intro)) <;> first | exact rfl | assumption | exact r1 hg | omega | exact Nat.le_of_ble_eq_true rfl)) (fun hg => ?_) (fun hg => ?_)
                · replace hT := sT hg hT
                  let c23 := (ref02_Pack N (a4 ++ (c12.getD default)))
                  let c24 := (law15_lives N)
                  replace hT := sIf hT; obtain ⟨⟨o1, o2⟩, hT⟩ := hT
                  let x13 := (bif (bif (bif (decide ((c5.getD default).1 = 0)) then false else false) then (decide (ByteArray.toList (c22.getD default).1 = ByteArray.toList (c23.getD default))) else false) then (c24.getD default) else false)
                  let x14 := (bif (bif (decide ((c5.getD default).1 = 0)) then false else false) then (decide (ByteArray.toList (c22.getD default).1 = ByteArray.toList (c23.getD default))) else false)
                  refine rSLDone md0 hX rfl rfl rfl (by (repeat' first | exact True.intro | with_reducible assumption | (with_reducible apply And.intro) | intro _) <;> first | assumption | exact o2 (by assumption) | exact rfl | omega | exact Nat.le_of_ble_eq_true rfl | exact selF (by assumption) | exact selT (by assumption) | exact And.intro rfl rfl | exact And.intro (by assumption) rfl | exact And.intro (by omega) rfl | (simp only [inK] at *; omega) | (simp_all [sel] <;> fail) | fail) ?_
                  exact rTo (To.mk' [] 0 hε rfl (by repeat' first | exact True.intro | exact rfl | apply And.intro) (by repeat' first | exact True.intro | exact rfl | apply And.intro)) (hjk4 _ hT)
                · replace hT := sF hg hT
                  let c25 := (ref02_Pack N (a4 ++ (c12.getD default)))
                  replace hT := sIf hT; obtain ⟨o1, hT⟩ := hT
                  refine rSLSkip md0 hX rfl rfl rfl (by (repeat' first | exact True.intro | with_reducible assumption | (with_reducible apply And.intro) | intro _) <;> first | assumption | exact o1 (by assumption) | exact rfl | omega | exact Nat.le_of_ble_eq_true rfl | exact selF (by assumption) | exact selT (by assumption) | exact And.intro rfl rfl | exact And.intro (by assumption) rfl | exact And.intro (by omega) rfl | (simp only [inK] at *; omega) | (simp_all [sel] <;> fail) | fail) rfl rfl rfl (by assumption) ?_
                  let c26 := (law15_lives N)
                  replace hT := sIf hT; obtain ⟨o1, hT⟩ := hT
                  let x15 := (bif (bif (bif (decide ((c5.getD default).1 = 0)) then false else false) then false else false) then (c26.getD default) else false)
                  let x16 := (bif (bif (decide ((c5.getD default).1 = 0)) then false else false) then false else false)
                  refine rSLDone md0 hX rfl rfl rfl (by (repeat' first | exact True.intro | with_reducible assumption | (with_reducible apply And.intro) | intro _) <;> first | assumption | exact o1 (by assumption) | exact rfl | omega | exact Nat.le_of_ble_eq_true rfl | exact selF (by assumption) | exact selT (by assumption) | exact And.intro rfl rfl | exact And.intro (by assumption) rfl | exact And.intro (by omega) rfl | (simp only [inK] at *; omega) | (simp_all [sel] <;> fail) | fail) ?_
                  exact rTo (To.mk' [] 0 hε rfl (by repeat' first | exact True.intro | exact rfl | apply And.intro) (by repeat' first | exact True.intro | exact rfl | apply And.intro)) (hjk4 _ hT)
  · cases h
def ref10_Same_b1 (N : Nat) (a1 : (List (Bool × (Int × Int)))) (a2 : (List (Bool × (Int × Int)))) (s1 : Int) : Option (Int ⊕ (Unit ⊕ Unit)) :=
  bif (decide (s1 < (a1.length : Int))) then
    let x1 := (!(((a1.getD (s1).toNat (false, ((0 : Int), (0 : Int)))).1 == (a2.getD (s1).toNat (false, ((0 : Int), (0 : Int)))).1) && (decide ((a1.getD (s1).toNat (false, ((0 : Int), (0 : Int)))).2.1 = (a2.getD (s1).toNat (false, ((0 : Int), (0 : Int)))).2.1) && (decide ((a1.getD (s1).toNat (false, ((0 : Int), (0 : Int)))).2.2 = (a2.getD (s1).toNat (false, ((0 : Int), (0 : Int)))).2.2) && true))))
    if (0 : Int) ≤ s1 ∧ s1 < (a1.length : Int) ∧ s1 < (a2.length : Int) then
      bif x1 then
        some (.inr (Sum.inl ()))
      else
        if inK .i64 (s1 + 1) then
          some (.inl (s1 + 1))
        else none
    else none
  else
    some (.inr (Sum.inr ()))
def ref10_Same (N : Nat) (a1 : (List (Bool × (Int × Int)))) (a2 : (List (Bool × (Int × Int)))) : Option Bool :=
  bif (decide ((a1.length : Int) ≠ (a2.length : Int))) then
    some false
  else
    (iter (ref10_Same_b1 N a1 a2) N 0).bind fun w1 =>
      (Sum.elim (fun v1 =>
        some false
      )
        (fun v2 =>
          some true
        )
      ) w1
def sp_ref10_Same (N : Nat) : X.Spec := fun args lk => match args with
  | [.v (.c (.fz (.pair .bool (.pair (.int .i64) (.int .i64))) a1)), .v (.c (.fz (.pair .bool (.pair (.int .i64) (.int .i64))) a2))] => some ⟨(ref10_Same N a1 a2).isSome = true, .v (.c (.bool ((ref10_Same N a1 a2).getD default))), [], []⟩
  | _ => none
set_option maxRecDepth 100000 in
set_option maxHeartbeats 1000000 in
theorem ok_ref10_Same (N : Nat) : FnOK Tryd.prog gt0 32 (sp_ref10_Same N) := by
  refine fnOK_handed Tryd.func32 rfl (by kernel_rfl) tt_ok (ktNil) ?_
  intro args lk r h hp
  unfold sp_ref10_Same at h
  split at h
  · rename_i a1 a2
    change (List (Bool × (Int × Int))) at a1
    change (List (Bool × (Int × Int))) at a2
    cases h
    obtain ⟨x, hx⟩ := Option.isSome_iff_exists.1 hp
    simp only [hx, Option.getD_some]
    refine hand0 rfl rfl (fun w0 M ε0 hX => ?_)
    refine rCount (fun hε => ?_)
    have hT : ref10_Same N a1 a2 = some x := hx; clear hx hp; unfold ref10_Same at hT
    refine rSeq ?_
    refine rRegC md0 hX rfl rfl rfl (by repeat' first | exact True.intro | exact rfl | apply And.intro | omega | exact Nat.le_of_ble_eq_true rfl) ?_
    refine rThen ?_
    refine rSeq ?_
    refine rSeq ?_
    refine rRegC md0 hX rfl rfl rfl (by repeat' first | exact True.intro | exact rfl | apply And.intro | omega | exact Nat.le_of_ble_eq_true rfl) ?_
    refine rThen ?_
    refine rCond rfl rfl (by repeat' first | exact True.intro | exact rfl | apply And.intro | omega | exact Nat.le_of_ble_eq_true rfl) (fun hc => ?_) (fun hc => ?_)
    · replace hT := sT hc hT
      refine rSeq ?_
      refine rRegC md0 hX rfl rfl rfl (by repeat' first | exact True.intro | exact rfl | apply And.intro | omega | exact Nat.le_of_ble_eq_true rfl) ?_
      refine rThen ?_
      refine rRet ?_
      refine rThenRet ?_
      have hy := Option.some.inj hT; subst hy
      exact rEnd0 hX rfl (by repeat' first | exact True.intro | exact rfl | apply And.intro | omega | exact Nat.le_of_ble_eq_true rfl) (by repeat' first | exact True.intro | exact rfl | apply And.intro) rfl rfl rfl rfl rfl
    · replace hT := sF hc hT
      refine rSkip ?_
      refine rThen ?_
      refine rSeq ?_
      refine rSeq ?_
      refine rRegC md0 hX rfl rfl rfl (by repeat' first | exact True.intro | exact rfl | apply And.intro | omega | exact Nat.le_of_ble_eq_true rfl) ?_
      refine rThen ?_
      refine rBlock ?_
      replace hT := sBind hT; obtain ⟨w1, hl, hT⟩ := hT
      refine rJoinA (fun v1 => (Sum.inl v1) = w1) (fun v1 => ⟨[(4, .v (.c (.bool false)))], [], 0⟩) .ret (fun v1 hv => ?_) (fun hxs10 => ?_)
      · subst hv; clear hl; replace hT := (sElimL hT)
        refine rInRet ?_
        refine rThenRet ?_
        have hy := Option.some.inj hT; subst hy
        exact rEnd0 hX rfl (by repeat' first | exact True.intro | exact rfl | apply And.intro | omega | exact Nat.le_of_ble_eq_true rfl) (by repeat' first | exact True.intro | exact rfl | apply And.intro) rfl rfl rfl rfl rfl
      refine rJoinA (fun v2 => (Sum.inr v2) = w1) (fun v2 => ⟨[(4, .v (.c (.bool false)))], [], 0⟩) (.exit 0) (fun v2 hv => ?_) (fun hxs11 => ?_)
      · subst hv; clear hl; replace hT := (sElimR hT)
        refine rInHit ?_
        refine rThen ?_
        refine rSeq ?_
        refine rRegC md0 hX rfl rfl rfl (by repeat' first | exact True.intro | exact rfl | apply And.intro | omega | exact Nat.le_of_ble_eq_true rfl) ?_
        refine rThen ?_
        refine rRet ?_
        have hy := Option.some.inj hT; subst hy
        exact rEnd0 hX rfl (by repeat' first | exact True.intro | exact rfl | apply And.intro | omega | exact Nat.le_of_ble_eq_true rfl) (by repeat' first | exact True.intro | exact rfl | apply And.intro) rfl rfl rfl rfl rfl
      refine rLoopM (ref10_Same_b1 N a1 a2) (fun s1 => ⟨[(0, .v (.c (.fz (.pair .bool (.pair (.int .i64) (.int .i64))) a1))), (1, .v (.c (.fz (.pair .bool (.pair (.int .i64) (.int .i64))) a2))), (4, .v (.c (.bool false))), (5, .v (.c (.int .i64 s1)))], [], 0⟩) hl (To.mk' [] 0 hε rfl (by repeat' first | exact True.intro | exact rfl | apply And.intro) (by repeat' first | exact True.intro | exact rfl | apply And.intro)) (fun s1 zs1 NNs1 hz hnexts1 houts1 => ?_)
      clear hl hT
      have hT := hz; clear hz
      refine rSeq ?_
      refine rSeq ?_
      refine rRegC md0 hX rfl rfl rfl (by repeat' first | exact True.intro | exact rfl | apply And.intro | omega | exact Nat.le_of_ble_eq_true rfl) ?_
      refine rThen ?_
      refine rCond rfl rfl (by repeat' first | exact True.intro | exact rfl | apply And.intro | omega | exact Nat.le_of_ble_eq_true rfl) (fun hc => ?_) (fun hc => ?_)
      · replace hT := sT hc hT
        refine rSkip ?_
        refine rThen ?_
        refine rSeq ?_
        refine rBlock ?_
        refine rSeq ?_
        let x1 := (!(((a1.getD (s1).toNat (false, ((0 : Int), (0 : Int)))).1 == (a2.getD (s1).toNat (false, ((0 : Int), (0 : Int)))).1) && (decide ((a1.getD (s1).toNat (false, ((0 : Int), (0 : Int)))).2.1 = (a2.getD (s1).toNat (false, ((0 : Int), (0 : Int)))).2.1) && (decide ((a1.getD (s1).toNat (false, ((0 : Int), (0 : Int)))).2.2 = (a2.getD (s1).toNat (false, ((0 : Int), (0 : Int)))).2.2) && true))))
        replace hT := sIf hT; obtain ⟨⟨o1, o2, o3⟩, hT⟩ := hT
        refine rDrawM md0 0 [] hX mixed rfl rfl rfl rfl rfl (by (repeat' first | exact True.intro | with_reducible assumption | (with_reducible apply And.intro) | intro _) <;> first | assumption | exact rfl | omega | exact Nat.le_of_ble_eq_true rfl | exact selF (by assumption) | exact selT (by assumption) | exact And.intro rfl rfl | exact And.intro (by assumption) rfl | exact And.intro (by omega) rfl | (simp only [inK] at *; omega) | (simp_all [sel] <;> fail) | fail) ?_
        refine rThen ?_
        refine rCond rfl rfl (by repeat' first | exact True.intro | exact rfl | apply And.intro | omega | exact Nat.le_of_ble_eq_true rfl) (fun hc => ?_) (fun hc => ?_)
        · replace hT := sT hc hT
          refine rSeq ?_
          refine rRegC md0 hX rfl rfl rfl (by repeat' first | exact True.intro | exact rfl | apply And.intro | omega | exact Nat.le_of_ble_eq_true rfl) ?_
          refine rThen ?_
          refine rRet ?_
          refine rInRet ?_
          refine rThenRet ?_
          refine rThenRet ?_
          exact rTo (To.mk' [] 0 hε rfl (by repeat' first | exact True.intro | exact rfl | apply And.intro) (by repeat' first | exact True.intro | exact rfl | apply And.intro)) (hxs10 _ (houts1 _ (Option.some.inj hT).symm))
        · replace hT := sF hc hT
          refine rSkip ?_
          refine rInNormal ?_
          refine rThen ?_
          replace hT := sIf hT; obtain ⟨o1, hT⟩ := hT
          refine rRegC md0 hX rfl rfl rfl (by (repeat' first | exact True.intro | with_reducible assumption | (with_reducible apply And.intro) | intro _) <;> first | assumption | exact rfl | omega | exact Nat.le_of_ble_eq_true rfl | exact selF (by assumption) | exact selT (by assumption) | exact And.intro rfl rfl | exact And.intro (by assumption) rfl | exact And.intro (by omega) rfl | (simp only [inK] at *; omega) | (simp_all [sel] <;> fail) | fail) ?_
          exact hnexts1 _ (Option.some.inj hT).symm _ (To.mk' [] 0 hε rfl (by repeat' first | exact True.intro | exact rfl | apply And.intro) (by repeat' first | exact True.intro | exact rfl | apply And.intro))
      · replace hT := sF hc hT
        refine rExit ?_
        refine rThenExit ?_
        refine rThenExit ?_
        exact rTo (To.mk' [] 0 hε rfl (by repeat' first | exact True.intro | exact rfl | apply And.intro) (by repeat' first | exact True.intro | exact rfl | apply And.intro)) (hxs11 _ (houts1 _ (Option.some.inj hT).symm))
  · cases h
def law15_BlocksBack (N : Nat) (a1 : Bool) (a2 : Int) (a3 : (List (Bool × (Int × Int)))) (a4 : ByteArray) (a5 : ByteArray) : Option Bool :=
  let x1 := (bif (decide ((100 : Int) < (a3.length : Int))) then true else (decide ((100 : Int) < (ByteArray.size a4 : Int))))
  let x2 := (!(bif (decide ((100 : Int) < (a3.length : Int))) then true else (decide ((100 : Int) < (ByteArray.size a4 : Int)))))
  let x3 := (bif (bif (decide ((100 : Int) < (a3.length : Int))) then true else (decide ((100 : Int) < (ByteArray.size a4 : Int)))) then true else (decide ((100 : Int) < (ByteArray.size a5 : Int))))
  bif x3 then
    let c1 := (law15_lives N)
    if c1.isSome = true then
      some (c1.getD default)
    else none
  else
    let c2 := (outbits_New N)
    if c2.isSome = true then
      let c3 := (overspill_outbits_Writer_Add N a4 (c2.getD default))
      if c3.isSome = true then
        let c4 := (overspill_outbits_Writer_Len N (c3.getD default).2)
        if c4.isSome = true then
          let c5 := (blocks_Put_v1 N a1 a2 a3 (c4.getD default).2)
          if c5.isSome = true then
            bif (decide ((c5.getD default).1 ≠ 0)) then
              let c6 := (overspill_outbits_Writer_Len N (c5.getD default).2)
              let c7 := (law15_lives N)
              let x4 := (bif (decide ((c6.getD default).1 = (c4.getD default).1)) then (c7.getD default) else false)
              if c6.isSome = true ∧ ((decide ((c6.getD default).1 = (c4.getD default).1)) = true → c7.isSome = true) then
                some x4
              else none
            else
              let c8 := (overspill_outbits_Writer_Len N (c5.getD default).2)
              if c8.isSome = true then
                let c9 := (overspill_outbits_Writer_Add N a5 (c8.getD default).2)
                if c9.isSome = true then
                  let c10 := (overspill_outbits_Writer_Text N (c9.getD default).2)
                  let c11 := (inbits_New N (c10.getD default).1)
                  if c10.isSome = true ∧ c11.isSome = true then
                    let c12 := (overspill_inbits_Reader_Seek N (c4.getD default).1 (c11.getD default).1 (c11.getD default).2)
                    if c12.isSome = true then
                      let c13 := (blocks_Take N a1 (decide ((0 : Int) < (a3.length : Int))) (c12.getD default).2.1 (c12.getD default).2.2)
                      if c13.isSome = true then
                        let c14 := (ref10_Same N (c13.getD default).2.1 a3)
                        let c15 := (overspill_inbits_Reader_At N (c13.getD default).2.2.2.1 (c13.getD default).2.2.2.2)
                        let c16 := (law15_lives N)
                        let x5 := (bif (bif (bif (bif (decide ((c13.getD default).2.2.1 = 0)) then (decide ((c13.getD default).1 = a2)) else false) then (c14.getD default) else false) then (decide ((c15.getD default) = (c8.getD default).1)) else false) then (c16.getD default) else false)
                        let x6 := (bif (decide ((c13.getD default).2.2.1 = 0)) then (decide ((c13.getD default).1 = a2)) else false)
                        let x7 := (bif (bif (decide ((c13.getD default).2.2.1 = 0)) then (decide ((c13.getD default).1 = a2)) else false) then (c14.getD default) else false)
                        let x8 := (bif (bif (bif (decide ((c13.getD default).2.2.1 = 0)) then (decide ((c13.getD default).1 = a2)) else false) then (c14.getD default) else false) then (decide ((c15.getD default) = (c8.getD default).1)) else false)
                        if ((bif (decide ((c13.getD default).2.2.1 = 0)) then (decide ((c13.getD default).1 = a2)) else false) = true → c14.isSome = true) ∧ ((bif (bif (decide ((c13.getD default).2.2.1 = 0)) then (decide ((c13.getD default).1 = a2)) else false) then (c14.getD default) else false) = true → c15.isSome = true) ∧ ((bif (bif (bif (decide ((c13.getD default).2.2.1 = 0)) then (decide ((c13.getD default).1 = a2)) else false) then (c14.getD default) else false) then (decide ((c15.getD default) = (c8.getD default).1)) else false) = true → c16.isSome = true) then
                          some x5
                        else none
                      else none
                    else none
                  else none
                else none
              else none
          else none
        else none
      else none
    else none
def sp_law15_BlocksBack (N : Nat) : X.Spec := fun args lk => match args with
  | [.v (.agg [.cs [.bool a1, .int .i64 a2, .fz (.pair .bool (.pair (.int .i64) (.int .i64))) a3]]), .v (.c (.str a4)), .v (.c (.str a5))] => some ⟨(law15_BlocksBack N a1 a2 a3 a4 a5).isSome = true, .v (.c (.bool ((law15_BlocksBack N a1 a2 a3 a4 a5).getD default))), [], []⟩
  | _ => none
set_option maxRecDepth 100000 in
set_option maxHeartbeats 1000000 in
theorem ok_law15_BlocksBack (N : Nat) : FnOK Tryd.prog gt0 8 (sp_law15_BlocksBack N) := by
  refine fnOK_handed Tryd.func8 rfl (by kernel_rfl) tt_ok (ktCons (ok_overspill_inbits_Reader_At N) (ktCons (ok_ref10_Same N) (ktCons (ok_blocks_Take N) (ktCons (ok_overspill_inbits_Reader_Seek N) (ktCons (ok_inbits_New N) (ktCons (ok_overspill_outbits_Writer_Text N) (ktCons (ok_blocks_Put_v1 N) (ktCons (ok_overspill_outbits_Writer_Len N) (ktCons (ok_overspill_outbits_Writer_Add N) (ktCons (ok_outbits_New N) (ktCons (ok_law15_lives N) (ktNil)))))))))))) ?_
  intro args lk r h hp
  unfold sp_law15_BlocksBack at h
  split at h
  · rename_i a1 a2 a3 a4 a5
    change (List (Bool × (Int × Int))) at a3
    cases h
    obtain ⟨x, hx⟩ := Option.isSome_iff_exists.1 hp
    simp only [hx, Option.getD_some]
    refine hand0 rfl rfl (fun w0 M ε0 hX => ?_)
    refine rCount (fun hε => ?_)
    have hT : law15_BlocksBack N a1 a2 a3 a4 a5 = some x := hx; clear hx hp; unfold law15_BlocksBack at hT
    refine rSeq ?_
    refine rRegC md0 hX rfl rfl rfl (by repeat' first | exact True.intro | exact rfl | apply And.intro | omega | exact Nat.le_of_ble_eq_true rfl) ?_
    refine rThen ?_
    refine rSeq ?_
    refine rSeq ?_
    let x1 := (bif (decide ((100 : Int) < (a3.length : Int))) then true else (decide ((100 : Int) < (ByteArray.size a4 : Int))))
    let x2 := (!(bif (decide ((100 : Int) < (a3.length : Int))) then true else (decide ((100 : Int) < (ByteArray.size a4 : Int)))))
    let x3 := (bif (bif (decide ((100 : Int) < (a3.length : Int))) then true else (decide ((100 : Int) < (ByteArray.size a4 : Int)))) then true else (decide ((100 : Int) < (ByteArray.size a5 : Int))))
    refine rRegC md0 hX rfl rfl rfl (by (repeat' first | exact True.intro | with_reducible assumption | (with_reducible apply And.intro) | intro _) <;> first | assumption | exact rfl | omega | exact Nat.le_of_ble_eq_true rfl | exact selF (by assumption) | exact selT (by assumption) | exact And.intro rfl rfl | exact And.intro (by assumption) rfl | exact And.intro (by omega) rfl | (simp only [inK] at *; omega) | (simp_all [sel] <;> fail) | fail) ?_
    refine rThen ?_
    refine rCond rfl rfl (by repeat' first | exact True.intro | exact rfl | apply And.intro | omega | exact Nat.le_of_ble_eq_true rfl) (fun hc => ?_) (fun hc => ?_)
    · replace hT := sT hc hT
      refine rSeq ?_
      let c1 := (law15_lives N)
      replace hT := sIf hT; obtain ⟨o1, hT⟩ := hT
      refine rRegC md0 hX rfl rfl rfl (by (repeat' first | exact True.intro | with_reducible assumption | (with_reducible apply And.intro) | intro _) <;> first | assumption | exact rfl | omega | exact Nat.le_of_ble_eq_true rfl | exact selF (by assumption) | exact selT (by assumption) | exact And.intro rfl rfl | exact And.intro (by assumption) rfl | exact And.intro (by omega) rfl | (simp only [inK] at *; omega) | (simp_all [sel] <;> fail) | fail) ?_
      refine rThen ?_
      refine rRet ?_
      refine rThenRet ?_
      have hy := Option.some.inj hT; subst hy
      exact rEnd0 hX rfl (by repeat' first | exact True.intro | exact rfl | apply And.intro | omega | exact Nat.le_of_ble_eq_true rfl) (by repeat' first | exact True.intro | exact rfl | apply And.intro) rfl rfl rfl rfl rfl
    · replace hT := sF hc hT
      refine rSkip ?_
      refine rThen ?_
      refine rSeq ?_
      let c2 := (outbits_New N)
      replace hT := sIf hT; obtain ⟨o1, hT⟩ := hT
      refine rRegC md0 hX rfl rfl rfl (by (repeat' first | exact True.intro | with_reducible assumption | (with_reducible apply And.intro) | intro _) <;> first | assumption | exact rfl | omega | exact Nat.le_of_ble_eq_true rfl | exact selF (by assumption) | exact selT (by assumption) | exact And.intro rfl rfl | exact And.intro (by assumption) rfl | exact And.intro (by omega) rfl | (simp only [inK] at *; omega) | (simp_all [sel] <;> fail) | fail) ?_
      refine rThen ?_
      refine rSeq ?_
      let c3 := (overspill_outbits_Writer_Add N a4 (c2.getD default))
      replace hT := sIf hT; obtain ⟨o1, hT⟩ := hT
      refine rRegC md0 hX rfl rfl rfl (by (repeat' first | exact True.intro | with_reducible assumption | (with_reducible apply And.intro) | intro _) <;> first | assumption | exact rfl | omega | exact Nat.le_of_ble_eq_true rfl | exact selF (by assumption) | exact selT (by assumption) | exact And.intro rfl rfl | exact And.intro (by assumption) rfl | exact And.intro (by omega) rfl | (simp only [inK] at *; omega) | (simp_all [sel] <;> fail) | fail) ?_
      refine rThen ?_
      refine rSeq ?_
      let c4 := (overspill_outbits_Writer_Len N (c3.getD default).2)
      replace hT := sIf hT; obtain ⟨o1, hT⟩ := hT
      refine rRegC md0 hX rfl rfl rfl (by (repeat' first | exact True.intro | with_reducible assumption | (with_reducible apply And.intro) | intro _) <;> first | assumption | exact rfl | omega | exact Nat.le_of_ble_eq_true rfl | exact selF (by assumption) | exact selT (by assumption) | exact And.intro rfl rfl | exact And.intro (by assumption) rfl | exact And.intro (by omega) rfl | (simp only [inK] at *; omega) | (simp_all [sel] <;> fail) | fail) ?_
      refine rThen ?_
      refine rSeq ?_
      refine rSeq ?_
      let c5 := (blocks_Put_v1 N a1 a2 a3 (c4.getD default).2)
      replace hT := sIf hT; obtain ⟨o1, hT⟩ := hT
      refine rRegC md0 hX rfl rfl rfl (by (repeat' first | exact True.intro | with_reducible assumption | (with_reducible apply And.intro) | intro _) <;> first | assumption | exact rfl | omega | exact Nat.le_of_ble_eq_true rfl | exact selF (by assumption) | exact selT (by assumption) | exact And.intro rfl rfl | exact And.intro (by assumption) rfl | exact And.intro (by omega) rfl | (simp only [inK] at *; omega) | (simp_all [sel] <;> fail) | fail) ?_
      refine rThen ?_
      refine rCond rfl rfl (by repeat' first | exact True.intro | exact rfl | apply And.intro | omega | exact Nat.le_of_ble_eq_true rfl) (fun hc => ?_) (fun hc => ?_)
      · replace hT := sT hc hT
        refine rSeq ?_
        let c6 := (overspill_outbits_Writer_Len N (c5.getD default).2)
        let c7 := (law15_lives N)
        let x4 := (bif (decide ((c6.getD default).1 = (c4.getD default).1)) then (c7.getD default) else false)
        replace hT := sIf hT; obtain ⟨⟨o1, o2⟩, hT⟩ := hT
        refine rRegC md0 hX rfl rfl rfl (by (repeat' first | exact True.intro | with_reducible assumption | (with_reducible apply And.intro) | intro _) <;> first | assumption | exact o2 (by assumption) | exact rfl | omega | exact Nat.le_of_ble_eq_true rfl | exact selF (by assumption) | exact selT (by assumption) | exact And.intro rfl rfl | exact And.intro (by assumption) rfl | exact And.intro (by omega) rfl | (simp only [inK] at *; omega) | (simp_all [sel] <;> fail) | fail) ?_
        refine rThen ?_
        refine rRet ?_
        refine rThenRet ?_
        have hy := Option.some.inj hT; subst hy
        exact rEnd0 hX rfl (by repeat' first | exact True.intro | exact rfl | apply And.intro | omega | exact Nat.le_of_ble_eq_true rfl) (by repeat' first | exact True.intro | exact rfl | apply And.intro) rfl rfl rfl rfl rfl
      · replace hT := sF hc hT
        refine rSkip ?_
        refine rThen ?_
        refine rSeq ?_
        let c8 := (overspill_outbits_Writer_Len N (c5.getD default).2)
        replace hT := sIf hT; obtain ⟨o1, hT⟩ := hT
        refine rRegC md0 hX rfl rfl rfl (by (repeat' first | exact True.intro | with_reducible assumption | (with_reducible apply And.intro) | intro _) <;> first | assumption | exact rfl | omega | exact Nat.le_of_ble_eq_true rfl | exact selF (by assumption) | exact selT (by assumption) | exact And.intro rfl rfl | exact And.intro (by assumption) rfl | exact And.intro (by omega) rfl | (simp only [inK] at *; omega) | (simp_all [sel] <;> fail) | fail) ?_
        refine rThen ?_
        refine rSeq ?_
        let c9 := (overspill_outbits_Writer_Add N a5 (c8.getD default).2)
        replace hT := sIf hT; obtain ⟨o1, hT⟩ := hT
        refine rRegC md0 hX rfl rfl rfl (by (repeat' first | exact True.intro | with_reducible assumption | (with_reducible apply And.intro) | intro _) <;> first | assumption | exact rfl | omega | exact Nat.le_of_ble_eq_true rfl | exact selF (by assumption) | exact selT (by assumption) | exact And.intro rfl rfl | exact And.intro (by assumption) rfl | exact And.intro (by omega) rfl | (simp only [inK] at *; omega) | (simp_all [sel] <;> fail) | fail) ?_
        refine rThen ?_
        refine rSeq ?_
        let c10 := (overspill_outbits_Writer_Text N (c9.getD default).2)
        let c11 := (inbits_New N (c10.getD default).1)
        replace hT := sIf hT; obtain ⟨⟨o1, o2⟩, hT⟩ := hT
        refine rRegC md0 hX rfl rfl rfl (by (repeat' first | exact True.intro | with_reducible assumption | (with_reducible apply And.intro) | intro _) <;> first | assumption | exact rfl | omega | exact Nat.le_of_ble_eq_true rfl | exact selF (by assumption) | exact selT (by assumption) | exact And.intro rfl rfl | exact And.intro (by assumption) rfl | exact And.intro (by omega) rfl | (simp only [inK] at *; omega) | (simp_all [sel] <;> fail) | fail) ?_
        refine rThen ?_
        refine rSeq ?_
        let c12 := (overspill_inbits_Reader_Seek N (c4.getD default).1 (c11.getD default).1 (c11.getD default).2)
        replace hT := sIf hT; obtain ⟨o1, hT⟩ := hT
        refine rRegC md0 hX rfl rfl rfl (by (repeat' first | exact True.intro | with_reducible assumption | (with_reducible apply And.intro) | intro _) <;> first | assumption | exact rfl | omega | exact Nat.le_of_ble_eq_true rfl | exact selF (by assumption) | exact selT (by assumption) | exact And.intro rfl rfl | exact And.intro (by assumption) rfl | exact And.intro (by omega) rfl | (simp only [inK] at *; omega) | (simp_all [sel] <;> fail) | fail) ?_
        refine rThen ?_
        refine rSeq ?_
        let c13 := (blocks_Take N a1 (decide ((0 : Int) < (a3.length : Int))) (c12.getD default).2.1 (c12.getD default).2.2)
        replace hT := sIf hT; obtain ⟨o1, hT⟩ := hT
        refine rRegC md0 hX rfl rfl rfl (by (repeat' first | exact True.intro | with_reducible assumption | (with_reducible apply And.intro) | intro _) <;> first | assumption | exact rfl | omega | exact Nat.le_of_ble_eq_true rfl | exact selF (by assumption) | exact selT (by assumption) | exact And.intro rfl rfl | exact And.intro (by assumption) rfl | exact And.intro (by omega) rfl | (simp only [inK] at *; omega) | (simp_all [sel] <;> fail) | fail) ?_
        refine rThen ?_
        refine rSeq ?_
        let c14 := (ref10_Same N (c13.getD default).2.1 a3)
        let c15 := (overspill_inbits_Reader_At N (c13.getD default).2.2.2.1 (c13.getD default).2.2.2.2)
        let c16 := (law15_lives N)
        let x5 := (bif (bif (bif (bif (decide ((c13.getD default).2.2.1 = 0)) then (decide ((c13.getD default).1 = a2)) else false) then (c14.getD default) else false) then (decide ((c15.getD default) = (c8.getD default).1)) else false) then (c16.getD default) else false)
        let x6 := (bif (decide ((c13.getD default).2.2.1 = 0)) then (decide ((c13.getD default).1 = a2)) else false)
        let x7 := (bif (bif (decide ((c13.getD default).2.2.1 = 0)) then (decide ((c13.getD default).1 = a2)) else false) then (c14.getD default) else false)
        let x8 := (bif (bif (bif (decide ((c13.getD default).2.2.1 = 0)) then (decide ((c13.getD default).1 = a2)) else false) then (c14.getD default) else false) then (decide ((c15.getD default) = (c8.getD default).1)) else false)
        replace hT := sIf hT; obtain ⟨⟨o1, o2, o3⟩, hT⟩ := hT
        refine rRegC md0 hX rfl rfl rfl (by (repeat' first | exact True.intro | with_reducible assumption | (with_reducible apply And.intro) | intro _) <;> first | assumption | exact o1 (by assumption) | exact o2 (by assumption) | exact o3 (by assumption) | exact rfl | omega | exact Nat.le_of_ble_eq_true rfl | exact selF (by assumption) | exact selT (by assumption) | exact And.intro rfl rfl | exact And.intro (by assumption) rfl | exact And.intro (by omega) rfl | (simp only [inK] at *; omega) | (simp_all [sel] <;> fail) | fail) ?_
        refine rThen ?_
        refine rRet ?_
        have hy := Option.some.inj hT; subst hy
        exact rEnd0 hX rfl (by repeat' first | exact True.intro | exact rfl | apply And.intro | omega | exact Nat.le_of_ble_eq_true rfl) (by repeat' first | exact True.intro | exact rfl | apply And.intro) rfl rfl rfl rfl rfl
  · cases h

end Go.Proofs.YtbcgkdigfkapcaaDoor
