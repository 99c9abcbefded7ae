/- Coarse levels. -/
import Derived.Test.YtmlnpfkbnldacaaA1
set_option linter.unusedVariables false
set_option linter.unusedSimpArgs false
namespace Go.Proofs.Ytmlnpfkbnldacaa
open Go.X


def cut (n s : Int) : Int := clipS (max n 0 / s) 0 127
theorem cut_in (n s : Int) : 0 ≤ cut n s ∧ cut n s ≤ 127 := clipS_in _ _ _ (by omega)
def levS (value quant : Int) (intra : Bool) : Int :=
  if clipS value (-2048) 2047 < 0 then -(cut (-(clipS value (-2048) 2047) - (if intra = true then 0 else clipS quant 1 31 / 2)) (2 * clipS quant 1 31))
  else cut (clipS value (-2048) 2047 - (if intra = true then 0 else clipS quant 1 31 / 2)) (2 * clipS quant 1 31)
def spLevel : X.Spec := fun args _ => match args with
  | [.v (.c (.int .i64 v)), .v (.c (.int .i64 n)), .v (.c (.int .i64 q))] => some ⟨1 ≤ q ∧ q ≤ 31, i64 (if v < 0 then -(cut n (2 * q)) else cut n (2 * q)), [], []⟩
  | _ => none
set_option maxRecDepth 100000 in
set_option maxHeartbeats 4000000 in
theorem ok53 : FnOK Try.prog gt0 53 spLevel := by
  refine fnOK_vals Try.func53 rfl (by kernel_rfl) tt_ok (ktCons ok51 (ktNil)) ?_
  intro args lk r h hp
  unfold spLevel at h
  split at h
  · rename_i v n q
    cases h
    refine ⟨rfl, rfl, fun w0 M ε0 hX => ?_⟩
    have hp : 1 ≤ q ∧ q ≤ 31 := hp
    have hc := cut_in n (2 * q)
    unfold cut at hc
    repeat' first
      | with_reducible refine rSeq ?_
      | with_reducible refine rThen ?_
      | with_reducible refine rBlock ?_
      | with_reducible refine rThenRet ?_
      | with_reducible refine rThenExit ?_
      | with_reducible refine rInRet ?_
      | with_reducible refine rInNormal ?_
      | with_reducible refine rInHit ?_
      | with_reducible refine rInMiss rfl ?_
      | with_reducible refine rRet ?_
      | with_reducible refine rExit ?_
      | with_reducible refine rSkip ?_
      | with_reducible refine rScope ?_
      | with_reducible refine rNoGotoRet ?_
      | with_reducible refine rNoGotoNormal ?_
      | (with_reducible show SW _ (Code.region _ _ false) _ _ _); refine rRegC md0 hX rfl rfl rfl (by first | trivial | (simp only [sel, inK, true_and, and_true, implies_true, Bool.cond_true_left, Bool.cond_false_right, Bool.or_eq_true, Bool.and_eq_true, Bool.or_eq_false_iff, Bool.and_eq_false_iff, decide_eq_true_eq, decide_eq_false_iff_not, Bool.not_eq_true', Bool.not_eq_false', beq_iff_eq, bne_iff_ne, ne_eq, beq_eq_false_iff_ne, Bool.not_eq_true]; done) | (simp [sel]; done) | (simp only [sel, inK, true_and, and_true, implies_true, Bool.cond_true_left, Bool.cond_false_right, Bool.or_eq_true, Bool.and_eq_true, Bool.or_eq_false_iff, Bool.and_eq_false_iff, decide_eq_true_eq, decide_eq_false_iff_not, Bool.not_eq_true', Bool.not_eq_false', beq_iff_eq, bne_iff_ne, ne_eq, beq_eq_false_iff_ne, Bool.not_eq_true] at *; omega) | (simp [sel, inK] at *; omega)) ?_
      | (with_reducible show SW _ (Code.region _ _ true) _ _ _); refine rDrawC md0 hX mixed rfl rfl rfl rfl (by first | trivial | (simp only [sel, inK, true_and, and_true, implies_true, Bool.cond_true_left, Bool.cond_false_right, Bool.or_eq_true, Bool.and_eq_true, Bool.or_eq_false_iff, Bool.and_eq_false_iff, decide_eq_true_eq, decide_eq_false_iff_not, Bool.not_eq_true', Bool.not_eq_false', beq_iff_eq, bne_iff_ne, ne_eq, beq_eq_false_iff_ne, Bool.not_eq_true]; done) | (simp [sel]; done) | (simp only [sel, inK, true_and, and_true, implies_true, Bool.cond_true_left, Bool.cond_false_right, Bool.or_eq_true, Bool.and_eq_true, Bool.or_eq_false_iff, Bool.and_eq_false_iff, decide_eq_true_eq, decide_eq_false_iff_not, Bool.not_eq_true', Bool.not_eq_false', beq_iff_eq, bne_iff_ne, ne_eq, beq_eq_false_iff_ne, Bool.not_eq_true] at *; omega) | (simp [sel, inK] at *; omega)) ?_
      | (with_reducible show SW _ (Code.cond _ _ _) _ _ _); (refine rCond rfl rfl (by first | trivial | (simp only [sel, inK, true_and, and_true, implies_true, Bool.cond_true_left, Bool.cond_false_right, Bool.or_eq_true, Bool.and_eq_true, Bool.or_eq_false_iff, Bool.and_eq_false_iff, decide_eq_true_eq, decide_eq_false_iff_not, Bool.not_eq_true', Bool.not_eq_false', beq_iff_eq, bne_iff_ne, ne_eq, beq_eq_false_iff_ne, Bool.not_eq_true]; done) | (simp [sel]; done) | (simp only [sel, inK, true_and, and_true, implies_true, Bool.cond_true_left, Bool.cond_false_right, Bool.or_eq_true, Bool.and_eq_true, Bool.or_eq_false_iff, Bool.and_eq_false_iff, decide_eq_true_eq, decide_eq_false_iff_not, Bool.not_eq_true', Bool.not_eq_false', beq_iff_eq, bne_iff_ne, ne_eq, beq_eq_false_iff_ne, Bool.not_eq_true] at *; omega) | (simp [sel, inK] at *; omega)) (fun h => ?_) (fun h => ?_) <;> (try simp only [Bool.cond_true_left, Bool.cond_false_right, Bool.or_eq_true, Bool.and_eq_true, Bool.or_eq_false_iff, Bool.and_eq_false_iff, decide_eq_true_eq, decide_eq_false_iff_not, Bool.not_eq_true', Bool.not_eq_false', beq_iff_eq, bne_iff_ne, ne_eq, beq_eq_false_iff_ne, Bool.not_eq_true] at h) <;> try (exact absurd ‹_› ‹_›))
      | (with_reducible show SQ _ (Post _ _ _ _ _ _ _) .ret _ _); refine rDone hX rfl (by first | trivial | (simp only [sel, inK, true_and, and_true, implies_true, Bool.cond_true_left, Bool.cond_false_right, Bool.or_eq_true, Bool.and_eq_true, Bool.or_eq_false_iff, Bool.and_eq_false_iff, decide_eq_true_eq, decide_eq_false_iff_not, Bool.not_eq_true', Bool.not_eq_false', beq_iff_eq, bne_iff_ne, ne_eq, beq_eq_false_iff_ne, Bool.not_eq_true]; done) | (simp [sel]; done) | (simp only [sel, inK, true_and, and_true, implies_true, Bool.cond_true_left, Bool.cond_false_right, Bool.or_eq_true, Bool.and_eq_true, Bool.or_eq_false_iff, Bool.and_eq_false_iff, decide_eq_true_eq, decide_eq_false_iff_not, Bool.not_eq_true', Bool.not_eq_false', beq_iff_eq, bne_iff_ne, ne_eq, beq_eq_false_iff_ne, Bool.not_eq_true] at *; omega) | (simp [sel, inK] at *; omega)) (EnvLe.refl _) (by refine congrArg i64 ?_; simp only [cut]; (repeat' split) <;> first | rfl | omega) rfl rfl rfl (by intro i e h; cases h)
  · cases h

def spInter (intra : Bool) : X.Spec := fun args _ => match args with
  | [.v (.c (.int .i64 a)), .v (.c (.int .i64 b))] => some ⟨True, i64 (levS a b intra), [], []⟩
  | _ => none
theorem max_abs (v h s : Int) : (if v < 0 then -(cut (max v (-v) - h) s) else cut (max v (-v) - h) s) = if v < 0 then -(cut (-v - h) s) else cut (v - h) s := by
  by_cases hv : v < 0
  · rw [if_pos hv, if_pos hv, show max v (-v) = -v by omega]
  · rw [if_neg hv, if_neg hv, show max v (-v) = v by omega]
set_option maxRecDepth 100000 in
set_option maxHeartbeats 4000000 in
theorem ok26 : FnOK Try.prog gt0 26 (spInter false) := by
  refine fnOK_vals Try.func26 rfl (by kernel_rfl) tt_ok (ktCons ok51 (ktCons ok53 (ktNil))) ?_
  intro args lk r h hp
  unfold spInter at h
  split at h
  · rename_i a b
    cases h
    refine ⟨rfl, rfl, fun w0 M ε0 hX => ?_⟩
    have hv := clipS_in a (-2048) 2047 (by omega)
    have hq := clipS_in b 1 31 (by omega)
    repeat' first
      | with_reducible refine rSeq ?_
      | with_reducible refine rThen ?_
      | with_reducible refine rBlock ?_
      | with_reducible refine rThenRet ?_
      | with_reducible refine rThenExit ?_
      | with_reducible refine rInRet ?_
      | with_reducible refine rInNormal ?_
      | with_reducible refine rInHit ?_
      | with_reducible refine rInMiss rfl ?_
      | with_reducible refine rRet ?_
      | with_reducible refine rExit ?_
      | with_reducible refine rSkip ?_
      | with_reducible refine rScope ?_
      | with_reducible refine rNoGotoRet ?_
      | with_reducible refine rNoGotoNormal ?_
      | (with_reducible show SW _ (Code.region _ _ false) _ _ _); refine rRegC md0 hX rfl rfl rfl (by first | trivial | (simp only [sel, inK, true_and, and_true, implies_true, Bool.cond_true_left, Bool.cond_false_right, Bool.or_eq_true, Bool.and_eq_true, Bool.or_eq_false_iff, Bool.and_eq_false_iff, decide_eq_true_eq, decide_eq_false_iff_not, Bool.not_eq_true', Bool.not_eq_false', beq_iff_eq, bne_iff_ne, ne_eq, beq_eq_false_iff_ne, Bool.not_eq_true]; done) | (simp [sel]; done) | (simp only [sel, inK, true_and, and_true, implies_true, Bool.cond_true_left, Bool.cond_false_right, Bool.or_eq_true, Bool.and_eq_true, Bool.or_eq_false_iff, Bool.and_eq_false_iff, decide_eq_true_eq, decide_eq_false_iff_not, Bool.not_eq_true', Bool.not_eq_false', beq_iff_eq, bne_iff_ne, ne_eq, beq_eq_false_iff_ne, Bool.not_eq_true] at *; omega) | (simp [sel, inK] at *; omega)) ?_
      | (with_reducible show SW _ (Code.region _ _ true) _ _ _); refine rDrawC md0 hX mixed rfl rfl rfl rfl (by first | trivial | (simp only [sel, inK, true_and, and_true, implies_true, Bool.cond_true_left, Bool.cond_false_right, Bool.or_eq_true, Bool.and_eq_true, Bool.or_eq_false_iff, Bool.and_eq_false_iff, decide_eq_true_eq, decide_eq_false_iff_not, Bool.not_eq_true', Bool.not_eq_false', beq_iff_eq, bne_iff_ne, ne_eq, beq_eq_false_iff_ne, Bool.not_eq_true]; done) | (simp [sel]; done) | (simp only [sel, inK, true_and, and_true, implies_true, Bool.cond_true_left, Bool.cond_false_right, Bool.or_eq_true, Bool.and_eq_true, Bool.or_eq_false_iff, Bool.and_eq_false_iff, decide_eq_true_eq, decide_eq_false_iff_not, Bool.not_eq_true', Bool.not_eq_false', beq_iff_eq, bne_iff_ne, ne_eq, beq_eq_false_iff_ne, Bool.not_eq_true] at *; omega) | (simp [sel, inK] at *; omega)) ?_
      | (with_reducible show SW _ (Code.cond _ _ _) _ _ _); (refine rCond rfl rfl (by first | trivial | (simp only [sel, inK, true_and, and_true, implies_true, Bool.cond_true_left, Bool.cond_false_right, Bool.or_eq_true, Bool.and_eq_true, Bool.or_eq_false_iff, Bool.and_eq_false_iff, decide_eq_true_eq, decide_eq_false_iff_not, Bool.not_eq_true', Bool.not_eq_false', beq_iff_eq, bne_iff_ne, ne_eq, beq_eq_false_iff_ne, Bool.not_eq_true]; done) | (simp [sel]; done) | (simp only [sel, inK, true_and, and_true, implies_true, Bool.cond_true_left, Bool.cond_false_right, Bool.or_eq_true, Bool.and_eq_true, Bool.or_eq_false_iff, Bool.and_eq_false_iff, decide_eq_true_eq, decide_eq_false_iff_not, Bool.not_eq_true', Bool.not_eq_false', beq_iff_eq, bne_iff_ne, ne_eq, beq_eq_false_iff_ne, Bool.not_eq_true] at *; omega) | (simp [sel, inK] at *; omega)) (fun h => ?_) (fun h => ?_) <;> (try simp only [Bool.cond_true_left, Bool.cond_false_right, Bool.or_eq_true, Bool.and_eq_true, Bool.or_eq_false_iff, Bool.and_eq_false_iff, decide_eq_true_eq, decide_eq_false_iff_not, Bool.not_eq_true', Bool.not_eq_false', beq_iff_eq, bne_iff_ne, ne_eq, beq_eq_false_iff_ne, Bool.not_eq_true] at h) <;> try (exact absurd ‹_› ‹_›))
      | (with_reducible show SQ _ (Post _ _ _ _ _ _ _) .ret _ _); refine rDone hX rfl (by first | trivial | (simp only [sel, inK, true_and, and_true, implies_true, Bool.cond_true_left, Bool.cond_false_right, Bool.or_eq_true, Bool.and_eq_true, Bool.or_eq_false_iff, Bool.and_eq_false_iff, decide_eq_true_eq, decide_eq_false_iff_not, Bool.not_eq_true', Bool.not_eq_false', beq_iff_eq, bne_iff_ne, ne_eq, beq_eq_false_iff_ne, Bool.not_eq_true]; done) | (simp [sel]; done) | (simp only [sel, inK, true_and, and_true, implies_true, Bool.cond_true_left, Bool.cond_false_right, Bool.or_eq_true, Bool.and_eq_true, Bool.or_eq_false_iff, Bool.and_eq_false_iff, decide_eq_true_eq, decide_eq_false_iff_not, Bool.not_eq_true', Bool.not_eq_false', beq_iff_eq, bne_iff_ne, ne_eq, beq_eq_false_iff_ne, Bool.not_eq_true] at *; omega) | (simp [sel, inK] at *; omega)) (EnvLe.refl _) (by refine congrArg i64 ?_; exact (max_abs _ _ _).symm) rfl rfl rfl (by intro i e h; cases h)
  · cases h
set_option maxRecDepth 100000 in
set_option maxHeartbeats 4000000 in
theorem ok28 : FnOK Try.prog gt0 28 (spInter true) := by
  refine fnOK_vals Try.func28 rfl (by kernel_rfl) tt_ok (ktCons ok51 (ktCons ok53 (ktNil))) ?_
  intro args lk r h hp
  unfold spInter at h
  split at h
  · rename_i a b
    cases h
    refine ⟨rfl, rfl, fun w0 M ε0 hX => ?_⟩
    have hv := clipS_in a (-2048) 2047 (by omega)
    have hq := clipS_in b 1 31 (by omega)
    repeat' first
      | with_reducible refine rSeq ?_
      | with_reducible refine rThen ?_
      | with_reducible refine rBlock ?_
      | with_reducible refine rThenRet ?_
      | with_reducible refine rThenExit ?_
      | with_reducible refine rInRet ?_
      | with_reducible refine rInNormal ?_
      | with_reducible refine rInHit ?_
      | with_reducible refine rInMiss rfl ?_
      | with_reducible refine rRet ?_
      | with_reducible refine rExit ?_
      | with_reducible refine rSkip ?_
      | with_reducible refine rScope ?_
      | with_reducible refine rNoGotoRet ?_
      | with_reducible refine rNoGotoNormal ?_
      | (with_reducible show SW _ (Code.region _ _ false) _ _ _); refine rRegC md0 hX rfl rfl rfl (by first | trivial | (simp only [sel, inK, true_and, and_true, implies_true, Bool.cond_true_left, Bool.cond_false_right, Bool.or_eq_true, Bool.and_eq_true, Bool.or_eq_false_iff, Bool.and_eq_false_iff, decide_eq_true_eq, decide_eq_false_iff_not, Bool.not_eq_true', Bool.not_eq_false', beq_iff_eq, bne_iff_ne, ne_eq, beq_eq_false_iff_ne, Bool.not_eq_true]; done) | (simp [sel]; done) | (simp only [sel, inK, true_and, and_true, implies_true, Bool.cond_true_left, Bool.cond_false_right, Bool.or_eq_true, Bool.and_eq_true, Bool.or_eq_false_iff, Bool.and_eq_false_iff, decide_eq_true_eq, decide_eq_false_iff_not, Bool.not_eq_true', Bool.not_eq_false', beq_iff_eq, bne_iff_ne, ne_eq, beq_eq_false_iff_ne, Bool.not_eq_true] at *; omega) | (simp [sel, inK] at *; omega)) ?_
      | (with_reducible show SW _ (Code.region _ _ true) _ _ _); refine rDrawC md0 hX mixed rfl rfl rfl rfl (by first | trivial | (simp only [sel, inK, true_and, and_true, implies_true, Bool.cond_true_left, Bool.cond_false_right, Bool.or_eq_true, Bool.and_eq_true, Bool.or_eq_false_iff, Bool.and_eq_false_iff, decide_eq_true_eq, decide_eq_false_iff_not, Bool.not_eq_true', Bool.not_eq_false', beq_iff_eq, bne_iff_ne, ne_eq, beq_eq_false_iff_ne, Bool.not_eq_true]; done) | (simp [sel]; done) | (simp only [sel, inK, true_and, and_true, implies_true, Bool.cond_true_left, Bool.cond_false_right, Bool.or_eq_true, Bool.and_eq_true, Bool.or_eq_false_iff, Bool.and_eq_false_iff, decide_eq_true_eq, decide_eq_false_iff_not, Bool.not_eq_true', Bool.not_eq_false', beq_iff_eq, bne_iff_ne, ne_eq, beq_eq_false_iff_ne, Bool.not_eq_true] at *; omega) | (simp [sel, inK] at *; omega)) ?_
      | (with_reducible show SW _ (Code.cond _ _ _) _ _ _); (refine rCond rfl rfl (by first | trivial | (simp only [sel, inK, true_and, and_true, implies_true, Bool.cond_true_left, Bool.cond_false_right, Bool.or_eq_true, Bool.and_eq_true, Bool.or_eq_false_iff, Bool.and_eq_false_iff, decide_eq_true_eq, decide_eq_false_iff_not, Bool.not_eq_true', Bool.not_eq_false', beq_iff_eq, bne_iff_ne, ne_eq, beq_eq_false_iff_ne, Bool.not_eq_true]; done) | (simp [sel]; done) | (simp only [sel, inK, true_and, and_true, implies_true, Bool.cond_true_left, Bool.cond_false_right, Bool.or_eq_true, Bool.and_eq_true, Bool.or_eq_false_iff, Bool.and_eq_false_iff, decide_eq_true_eq, decide_eq_false_iff_not, Bool.not_eq_true', Bool.not_eq_false', beq_iff_eq, bne_iff_ne, ne_eq, beq_eq_false_iff_ne, Bool.not_eq_true] at *; omega) | (simp [sel, inK] at *; omega)) (fun h => ?_) (fun h => ?_) <;> (try simp only [Bool.cond_true_left, Bool.cond_false_right, Bool.or_eq_true, Bool.and_eq_true, Bool.or_eq_false_iff, Bool.and_eq_false_iff, decide_eq_true_eq, decide_eq_false_iff_not, Bool.not_eq_true', Bool.not_eq_false', beq_iff_eq, bne_iff_ne, ne_eq, beq_eq_false_iff_ne, Bool.not_eq_true] at h) <;> try (exact absurd ‹_› ‹_›))
      | (with_reducible show SQ _ (Post _ _ _ _ _ _ _) .ret _ _); refine rDone hX rfl (by first | trivial | (simp only [sel, inK, true_and, and_true, implies_true, Bool.cond_true_left, Bool.cond_false_right, Bool.or_eq_true, Bool.and_eq_true, Bool.or_eq_false_iff, Bool.and_eq_false_iff, decide_eq_true_eq, decide_eq_false_iff_not, Bool.not_eq_true', Bool.not_eq_false', beq_iff_eq, bne_iff_ne, ne_eq, beq_eq_false_iff_ne, Bool.not_eq_true]; done) | (simp [sel]; done) | (simp only [sel, inK, true_and, and_true, implies_true, Bool.cond_true_left, Bool.cond_false_right, Bool.or_eq_true, Bool.and_eq_true, Bool.or_eq_false_iff, Bool.and_eq_false_iff, decide_eq_true_eq, decide_eq_false_iff_not, Bool.not_eq_true', Bool.not_eq_false', beq_iff_eq, bne_iff_ne, ne_eq, beq_eq_false_iff_ne, Bool.not_eq_true] at *; omega) | (simp [sel, inK] at *; omega)) (EnvLe.refl _) (by refine congrArg i64 ?_; have := max_abs (clipS a (-2048) 2047) 0 (2 * clipS b 1 31); simp only [Int.sub_zero] at this; simp only [levS, if_true, Int.sub_zero]; exact this.symm) rfl rfl rfl (by intro i e h; cases h)
  · cases h

def dcS (a : Int) : Int := clipS ((clipS a 0 2047 + 4) / 8) 1 254
def spCDc : X.Spec := fun args _ => match args with
  | [.v (.c (.int .i64 a))] => some ⟨True, i64 (dcS a), [], []⟩
  | _ => none
set_option maxRecDepth 100000 in
set_option maxHeartbeats 4000000 in
theorem ok29 : FnOK Try.prog gt0 29 spCDc := by
  refine fnOK_vals Try.func29 rfl (by kernel_rfl) tt_ok (ktCons ok51 (ktNil)) ?_
  intro args lk r h hp
  unfold spCDc at h
  split at h
  · rename_i a
    cases h
    refine ⟨rfl, rfl, fun w0 M ε0 hX => ?_⟩
    have h1 := clipS_in a 0 2047 (by omega)
    repeat' first
      | with_reducible refine rSeq ?_
      | with_reducible refine rThen ?_
      | with_reducible refine rBlock ?_
      | with_reducible refine rThenRet ?_
      | with_reducible refine rThenExit ?_
      | with_reducible refine rInRet ?_
      | with_reducible refine rInNormal ?_
      | with_reducible refine rInHit ?_
      | with_reducible refine rInMiss rfl ?_
      | with_reducible refine rRet ?_
      | with_reducible refine rExit ?_
      | with_reducible refine rSkip ?_
      | with_reducible refine rScope ?_
      | with_reducible refine rNoGotoRet ?_
      | with_reducible refine rNoGotoNormal ?_
      | (with_reducible show SW _ (Code.region _ _ false) _ _ _); refine rRegC md0 hX rfl rfl rfl (by first | trivial | (simp only [sel, inK, true_and, and_true, implies_true, Bool.cond_true_left, Bool.cond_false_right, Bool.or_eq_true, Bool.and_eq_true, Bool.or_eq_false_iff, Bool.and_eq_false_iff, decide_eq_true_eq, decide_eq_false_iff_not, Bool.not_eq_true', Bool.not_eq_false', beq_iff_eq, bne_iff_ne, ne_eq, beq_eq_false_iff_ne, Bool.not_eq_true]; done) | (simp [sel]; done) | (simp only [sel, inK, true_and, and_true, implies_true, Bool.cond_true_left, Bool.cond_false_right, Bool.or_eq_true, Bool.and_eq_true, Bool.or_eq_false_iff, Bool.and_eq_false_iff, decide_eq_true_eq, decide_eq_false_iff_not, Bool.not_eq_true', Bool.not_eq_false', beq_iff_eq, bne_iff_ne, ne_eq, beq_eq_false_iff_ne, Bool.not_eq_true] at *; omega) | (simp [sel, inK] at *; omega)) ?_
      | (with_reducible show SW _ (Code.region _ _ true) _ _ _); refine rDrawC md0 hX mixed rfl rfl rfl rfl (by first | trivial | (simp only [sel, inK, true_and, and_true, implies_true, Bool.cond_true_left, Bool.cond_false_right, Bool.or_eq_true, Bool.and_eq_true, Bool.or_eq_false_iff, Bool.and_eq_false_iff, decide_eq_true_eq, decide_eq_false_iff_not, Bool.not_eq_true', Bool.not_eq_false', beq_iff_eq, bne_iff_ne, ne_eq, beq_eq_false_iff_ne, Bool.not_eq_true]; done) | (simp [sel]; done) | (simp only [sel, inK, true_and, and_true, implies_true, Bool.cond_true_left, Bool.cond_false_right, Bool.or_eq_true, Bool.and_eq_true, Bool.or_eq_false_iff, Bool.and_eq_false_iff, decide_eq_true_eq, decide_eq_false_iff_not, Bool.not_eq_true', Bool.not_eq_false', beq_iff_eq, bne_iff_ne, ne_eq, beq_eq_false_iff_ne, Bool.not_eq_true] at *; omega) | (simp [sel, inK] at *; omega)) ?_
      | (with_reducible show SW _ (Code.cond _ _ _) _ _ _); (refine rCond rfl rfl (by first | trivial | (simp only [sel, inK, true_and, and_true, implies_true, Bool.cond_true_left, Bool.cond_false_right, Bool.or_eq_true, Bool.and_eq_true, Bool.or_eq_false_iff, Bool.and_eq_false_iff, decide_eq_true_eq, decide_eq_false_iff_not, Bool.not_eq_true', Bool.not_eq_false', beq_iff_eq, bne_iff_ne, ne_eq, beq_eq_false_iff_ne, Bool.not_eq_true]; done) | (simp [sel]; done) | (simp only [sel, inK, true_and, and_true, implies_true, Bool.cond_true_left, Bool.cond_false_right, Bool.or_eq_true, Bool.and_eq_true, Bool.or_eq_false_iff, Bool.and_eq_false_iff, decide_eq_true_eq, decide_eq_false_iff_not, Bool.not_eq_true', Bool.not_eq_false', beq_iff_eq, bne_iff_ne, ne_eq, beq_eq_false_iff_ne, Bool.not_eq_true] at *; omega) | (simp [sel, inK] at *; omega)) (fun h => ?_) (fun h => ?_) <;> (try simp only [Bool.cond_true_left, Bool.cond_false_right, Bool.or_eq_true, Bool.and_eq_true, Bool.or_eq_false_iff, Bool.and_eq_false_iff, decide_eq_true_eq, decide_eq_false_iff_not, Bool.not_eq_true', Bool.not_eq_false', beq_iff_eq, bne_iff_ne, ne_eq, beq_eq_false_iff_ne, Bool.not_eq_true] at h) <;> try (exact absurd ‹_› ‹_›))
      | (with_reducible show SQ _ (Post _ _ _ _ _ _ _) .ret _ _); refine rDone hX rfl (by first | trivial | (simp only [sel, inK, true_and, and_true, implies_true, Bool.cond_true_left, Bool.cond_false_right, Bool.or_eq_true, Bool.and_eq_true, Bool.or_eq_false_iff, Bool.and_eq_false_iff, decide_eq_true_eq, decide_eq_false_iff_not, Bool.not_eq_true', Bool.not_eq_false', beq_iff_eq, bne_iff_ne, ne_eq, beq_eq_false_iff_ne, Bool.not_eq_true]; done) | (simp [sel]; done) | (simp only [sel, inK, true_and, and_true, implies_true, Bool.cond_true_left, Bool.cond_false_right, Bool.or_eq_true, Bool.and_eq_true, Bool.or_eq_false_iff, Bool.and_eq_false_iff, decide_eq_true_eq, decide_eq_false_iff_not, Bool.not_eq_true', Bool.not_eq_false', beq_iff_eq, bne_iff_ne, ne_eq, beq_eq_false_iff_ne, Bool.not_eq_true] at *; omega) | (simp [sel, inK] at *; omega)) (EnvLe.refl _) (by rfl) rfl rfl rfl (by intro i e h; cases h)
  · cases h
set_option maxRecDepth 100000 in
set_option maxHeartbeats 4000000 in
theorem ok30 : FnOK Try.prog gt0 30 spCDc := by
  refine fnOK_vals Try.func30 rfl (by kernel_rfl) tt_ok (ktCons ok50 (ktNil)) ?_
  intro args lk r h hp
  unfold spCDc at h
  split at h
  · rename_i a
    cases h
    refine ⟨rfl, rfl, fun w0 M ε0 hX => ?_⟩
    have h1 := clipS_in a 0 2047 (by omega)
    repeat' first
      | with_reducible refine rSeq ?_
      | with_reducible refine rThen ?_
      | with_reducible refine rBlock ?_
      | with_reducible refine rThenRet ?_
      | with_reducible refine rThenExit ?_
      | with_reducible refine rInRet ?_
      | with_reducible refine rInNormal ?_
      | with_reducible refine rInHit ?_
      | with_reducible refine rInMiss rfl ?_
      | with_reducible refine rRet ?_
      | with_reducible refine rExit ?_
      | with_reducible refine rSkip ?_
      | with_reducible refine rScope ?_
      | with_reducible refine rNoGotoRet ?_
      | with_reducible refine rNoGotoNormal ?_
      | (with_reducible show SW _ (Code.region _ _ false) _ _ _); refine rRegC md0 hX rfl rfl rfl (by first | trivial | (simp only [sel, inK, true_and, and_true, implies_true, Bool.cond_true_left, Bool.cond_false_right, Bool.or_eq_true, Bool.and_eq_true, Bool.or_eq_false_iff, Bool.and_eq_false_iff, decide_eq_true_eq, decide_eq_false_iff_not, Bool.not_eq_true', Bool.not_eq_false', beq_iff_eq, bne_iff_ne, ne_eq, beq_eq_false_iff_ne, Bool.not_eq_true]; done) | (simp [sel]; done) | (simp only [sel, inK, true_and, and_true, implies_true, Bool.cond_true_left, Bool.cond_false_right, Bool.or_eq_true, Bool.and_eq_true, Bool.or_eq_false_iff, Bool.and_eq_false_iff, decide_eq_true_eq, decide_eq_false_iff_not, Bool.not_eq_true', Bool.not_eq_false', beq_iff_eq, bne_iff_ne, ne_eq, beq_eq_false_iff_ne, Bool.not_eq_true] at *; omega) | (simp [sel, inK] at *; omega)) ?_
      | (with_reducible show SW _ (Code.region _ _ true) _ _ _); refine rDrawC md0 hX mixed rfl rfl rfl rfl (by first | trivial | (simp only [sel, inK, true_and, and_true, implies_true, Bool.cond_true_left, Bool.cond_false_right, Bool.or_eq_true, Bool.and_eq_true, Bool.or_eq_false_iff, Bool.and_eq_false_iff, decide_eq_true_eq, decide_eq_false_iff_not, Bool.not_eq_true', Bool.not_eq_false', beq_iff_eq, bne_iff_ne, ne_eq, beq_eq_false_iff_ne, Bool.not_eq_true]; done) | (simp [sel]; done) | (simp only [sel, inK, true_and, and_true, implies_true, Bool.cond_true_left, Bool.cond_false_right, Bool.or_eq_true, Bool.and_eq_true, Bool.or_eq_false_iff, Bool.and_eq_false_iff, decide_eq_true_eq, decide_eq_false_iff_not, Bool.not_eq_true', Bool.not_eq_false', beq_iff_eq, bne_iff_ne, ne_eq, beq_eq_false_iff_ne, Bool.not_eq_true] at *; omega) | (simp [sel, inK] at *; omega)) ?_
      | (with_reducible show SW _ (Code.cond _ _ _) _ _ _); (refine rCond rfl rfl (by first | trivial | (simp only [sel, inK, true_and, and_true, implies_true, Bool.cond_true_left, Bool.cond_false_right, Bool.or_eq_true, Bool.and_eq_true, Bool.or_eq_false_iff, Bool.and_eq_false_iff, decide_eq_true_eq, decide_eq_false_iff_not, Bool.not_eq_true', Bool.not_eq_false', beq_iff_eq, bne_iff_ne, ne_eq, beq_eq_false_iff_ne, Bool.not_eq_true]; done) | (simp [sel]; done) | (simp only [sel, inK, true_and, and_true, implies_true, Bool.cond_true_left, Bool.cond_false_right, Bool.or_eq_true, Bool.and_eq_true, Bool.or_eq_false_iff, Bool.and_eq_false_iff, decide_eq_true_eq, decide_eq_false_iff_not, Bool.not_eq_true', Bool.not_eq_false', beq_iff_eq, bne_iff_ne, ne_eq, beq_eq_false_iff_ne, Bool.not_eq_true] at *; omega) | (simp [sel, inK] at *; omega)) (fun h => ?_) (fun h => ?_) <;> (try simp only [Bool.cond_true_left, Bool.cond_false_right, Bool.or_eq_true, Bool.and_eq_true, Bool.or_eq_false_iff, Bool.and_eq_false_iff, decide_eq_true_eq, decide_eq_false_iff_not, Bool.not_eq_true', Bool.not_eq_false', beq_iff_eq, bne_iff_ne, ne_eq, beq_eq_false_iff_ne, Bool.not_eq_true] at h) <;> try (exact absurd ‹_› ‹_›))
      | (with_reducible show SQ _ (Post _ _ _ _ _ _ _) .ret _ _); refine rDone hX rfl (by first | trivial | (simp only [sel, inK, true_and, and_true, implies_true, Bool.cond_true_left, Bool.cond_false_right, Bool.or_eq_true, Bool.and_eq_true, Bool.or_eq_false_iff, Bool.and_eq_false_iff, decide_eq_true_eq, decide_eq_false_iff_not, Bool.not_eq_true', Bool.not_eq_false', beq_iff_eq, bne_iff_ne, ne_eq, beq_eq_false_iff_ne, Bool.not_eq_true]; done) | (simp [sel]; done) | (simp only [sel, inK, true_and, and_true, implies_true, Bool.cond_true_left, Bool.cond_false_right, Bool.or_eq_true, Bool.and_eq_true, Bool.or_eq_false_iff, Bool.and_eq_false_iff, decide_eq_true_eq, decide_eq_false_iff_not, Bool.not_eq_true', Bool.not_eq_false', beq_iff_eq, bne_iff_ne, ne_eq, beq_eq_false_iff_ne, Bool.not_eq_true] at *; omega) | (simp [sel, inK] at *; omega)) (EnvLe.refl _) (by rfl) rfl rfl rfl (by intro i e h; cases h)
  · cases h

def spCount : X.Spec := fun args _ => match args with
  | [.v (.c (.int .i64 n)), .v (.c (.int .i64 s))] => some ⟨1 ≤ s ∧ s ≤ 62, i64 (cut n s), [], []⟩
  | _ => none
theorem count_in (k : Nat) (s : Int) (hk : k ≤ 127) (hs : 1 ≤ s ∧ s ≤ 62) : 0 ≤ ((k : Int) + 1) * s ∧ ((k : Int) + 1) * s ≤ 7936 := by
  constructor
  · exact Int.mul_nonneg (by omega) (by omega)
  · calc ((k : Int) + 1) * s ≤ 128 * s := Int.mul_le_mul_of_nonneg_right (by omega) (by omega)
      _ ≤ 7936 := by omega
theorem count_end (n s : Int) (k : Nat) (hs : 1 ≤ s ∧ s ≤ 62) (hk : k ≤ 127) (h1 : (k : Int) * s ≤ max n 0) (h2 : ¬ (k : Int) < 127 ∨ ¬ ((k : Int) + 1) * s ≤ n) : cut n s = k := by
  have h3 : (k : Int) ≤ max n 0 / s := Int.le_ediv_of_mul_le (by omega) h1
  have h5 := count_in k s hk hs
  rcases h2 with h2 | h2
  · unfold cut clipS
    rw [if_neg (by omega)]
    split
    · omega
    · split <;> omega
  · have hpos : 0 < ((k : Int) + 1) * s := Int.mul_pos (by omega) (by omega)
    have h4 : max n 0 / s < (k : Int) + 1 := by
      apply Int.ediv_lt_of_lt_mul (by omega)
      omega
    unfold cut clipS
    rw [if_neg (by omega)]
    split
    · omega
    · split <;> omega
set_option maxRecDepth 100000 in
set_option maxHeartbeats 4000000 in
theorem ok54 : FnOK Try.prog gt0 54 spCount := by
  refine fnOK_vals Try.func54 rfl (by kernel_rfl) tt_ok (ktNil) ?_
  intro args lk r h hp
  unfold spCount at h
  split at h
  · rename_i n s
    cases h
    refine ⟨rfl, rfl, fun w0 M ε0 hX => ?_⟩
    have hp : 1 ≤ s ∧ s ≤ 62 := hp
    repeat' first
      | with_reducible refine rSeq ?_
      | with_reducible refine rThen ?_
      | with_reducible refine rBlock ?_
      | with_reducible refine rThenRet ?_
      | with_reducible refine rThenExit ?_
      | with_reducible refine rInRet ?_
      | with_reducible refine rInNormal ?_
      | with_reducible refine rInHit ?_
      | with_reducible refine rInMiss rfl ?_
      | with_reducible refine rRet ?_
      | with_reducible refine rExit ?_
      | with_reducible refine rSkip ?_
      | with_reducible refine rScope ?_
      | with_reducible refine rNoGotoRet ?_
      | with_reducible refine rNoGotoNormal ?_
      | (with_reducible show SW _ (Code.region _ _ false) _ _ _); refine rRegC md0 hX rfl rfl rfl (by first | trivial | (simp only [sel, inK, true_and, and_true, implies_true, Bool.cond_true_left, Bool.cond_false_right, Bool.or_eq_true, Bool.and_eq_true, Bool.or_eq_false_iff, Bool.and_eq_false_iff, decide_eq_true_eq, decide_eq_false_iff_not, Bool.not_eq_true', Bool.not_eq_false', beq_iff_eq, bne_iff_ne, ne_eq, beq_eq_false_iff_ne, Bool.not_eq_true]; done) | (simp [sel]; done) | (simp only [sel, inK, true_and, and_true, implies_true, Bool.cond_true_left, Bool.cond_false_right, Bool.or_eq_true, Bool.and_eq_true, Bool.or_eq_false_iff, Bool.and_eq_false_iff, decide_eq_true_eq, decide_eq_false_iff_not, Bool.not_eq_true', Bool.not_eq_false', beq_iff_eq, bne_iff_ne, ne_eq, beq_eq_false_iff_ne, Bool.not_eq_true] at *; omega) | (simp [sel, inK] at *; omega)) ?_
      | (with_reducible show SW _ (Code.region _ _ true) _ _ _); refine rDrawC md0 hX mixed rfl rfl rfl rfl (by first | trivial | (simp only [sel, inK, true_and, and_true, implies_true, Bool.cond_true_left, Bool.cond_false_right, Bool.or_eq_true, Bool.and_eq_true, Bool.or_eq_false_iff, Bool.and_eq_false_iff, decide_eq_true_eq, decide_eq_false_iff_not, Bool.not_eq_true', Bool.not_eq_false', beq_iff_eq, bne_iff_ne, ne_eq, beq_eq_false_iff_ne, Bool.not_eq_true]; done) | (simp [sel]; done) | (simp only [sel, inK, true_and, and_true, implies_true, Bool.cond_true_left, Bool.cond_false_right, Bool.or_eq_true, Bool.and_eq_true, Bool.or_eq_false_iff, Bool.and_eq_false_iff, decide_eq_true_eq, decide_eq_false_iff_not, Bool.not_eq_true', Bool.not_eq_false', beq_iff_eq, bne_iff_ne, ne_eq, beq_eq_false_iff_ne, Bool.not_eq_true] at *; omega) | (simp [sel, inK] at *; omega)) ?_
      | (with_reducible show SW _ (Code.cond _ _ _) _ _ _); (refine rCond rfl rfl (by first | trivial | (simp only [sel, inK, true_and, and_true, implies_true, Bool.cond_true_left, Bool.cond_false_right, Bool.or_eq_true, Bool.and_eq_true, Bool.or_eq_false_iff, Bool.and_eq_false_iff, decide_eq_true_eq, decide_eq_false_iff_not, Bool.not_eq_true', Bool.not_eq_false', beq_iff_eq, bne_iff_ne, ne_eq, beq_eq_false_iff_ne, Bool.not_eq_true]; done) | (simp [sel]; done) | (simp only [sel, inK, true_and, and_true, implies_true, Bool.cond_true_left, Bool.cond_false_right, Bool.or_eq_true, Bool.and_eq_true, Bool.or_eq_false_iff, Bool.and_eq_false_iff, decide_eq_true_eq, decide_eq_false_iff_not, Bool.not_eq_true', Bool.not_eq_false', beq_iff_eq, bne_iff_ne, ne_eq, beq_eq_false_iff_ne, Bool.not_eq_true] at *; omega) | (simp [sel, inK] at *; omega)) (fun h => ?_) (fun h => ?_) <;> (try simp only [Bool.cond_true_left, Bool.cond_false_right, Bool.or_eq_true, Bool.and_eq_true, Bool.or_eq_false_iff, Bool.and_eq_false_iff, decide_eq_true_eq, decide_eq_false_iff_not, Bool.not_eq_true', Bool.not_eq_false', beq_iff_eq, bne_iff_ne, ne_eq, beq_eq_false_iff_ne, Bool.not_eq_true] at h) <;> try (exact absurd ‹_› ‹_›))
      | (with_reducible show SQ _ (Post _ _ _ _ _ _ _) .ret _ _); refine rDone hX rfl (by first | trivial | (simp only [sel, inK, true_and, and_true, implies_true, Bool.cond_true_left, Bool.cond_false_right, Bool.or_eq_true, Bool.and_eq_true, Bool.or_eq_false_iff, Bool.and_eq_false_iff, decide_eq_true_eq, decide_eq_false_iff_not, Bool.not_eq_true', Bool.not_eq_false', beq_iff_eq, bne_iff_ne, ne_eq, beq_eq_false_iff_ne, Bool.not_eq_true]; done) | (simp [sel]; done) | (simp only [sel, inK, true_and, and_true, implies_true, Bool.cond_true_left, Bool.cond_false_right, Bool.or_eq_true, Bool.and_eq_true, Bool.or_eq_false_iff, Bool.and_eq_false_iff, decide_eq_true_eq, decide_eq_false_iff_not, Bool.not_eq_true', Bool.not_eq_false', beq_iff_eq, bne_iff_ne, ne_eq, beq_eq_false_iff_ne, Bool.not_eq_true] at *; omega) | (simp [sel, inK] at *; omega)) (EnvLe.refl _) (by rfl) rfl rfl rfl (by intro i e h; cases h)
    refine rLoop0 (fun k : {k : Nat // k ≤ 127 ∧ (k : Int) * s ≤ max n 0} => ⟨[(0, i64 n), (1, i64 s), (5, i64 (k.1 : Int))], [], 0⟩) (fun k => 127 - k.1) ⟨0, by omega, by simp; omega⟩ (by refine Le.mk ?_ ?_ rfl <;> (repeat' first | exact RLe.nil | refine RLe.cons rfl ?_ ?_ | exact BLe.nil | refine BLe.cons rfl ?_ ?_) <;> (first | exact SVle.refl _ | exact Ele.refl _ | exact SVle.int (by first | omega | (dsimp only; omega)) | exact SVle.bool (by rfl) | exact SVle.ints (by rfl) | exact Ele.mem (Ble.ints (by rfl)))) ?_
    rintro ⟨k, hk, hks⟩
    have hc := count_in k s hk hp
    repeat' first
      | (with_reducible show SQ _ (Exit.then (Again _ _ _ _ _) _) .normal _ _); refine rAgain0 ⟨k + 1, by omega, by push_cast; omega⟩ (by first | omega | (dsimp only; omega)) (by exact by refine Le.mk ?_ ?_ rfl <;> (repeat' first | exact RLe.nil | refine RLe.cons rfl ?_ ?_ | exact BLe.nil | refine BLe.cons rfl ?_ ?_) <;> (first | exact SVle.refl _ | exact Ele.refl _ | exact SVle.int (by first | omega | (dsimp only; omega)) | exact SVle.bool (by rfl) | exact SVle.ints (by rfl) | exact Ele.mem (Ble.ints (by rfl))))
      | with_reducible refine rSeq ?_
      | with_reducible refine rThen ?_
      | with_reducible refine rBlock ?_
      | with_reducible refine rThenRet ?_
      | with_reducible refine rThenExit ?_
      | with_reducible refine rInRet ?_
      | with_reducible refine rInNormal ?_
      | with_reducible refine rInHit ?_
      | with_reducible refine rInMiss rfl ?_
      | with_reducible refine rRet ?_
      | with_reducible refine rExit ?_
      | with_reducible refine rSkip ?_
      | with_reducible refine rScope ?_
      | with_reducible refine rNoGotoRet ?_
      | with_reducible refine rNoGotoNormal ?_
      | (with_reducible show SW _ (Code.region _ _ false) _ _ _); refine rRegC md0 hX rfl rfl rfl (by first | trivial | (simp only [sel, inK, true_and, and_true, implies_true, Bool.cond_true_left, Bool.cond_false_right, Bool.or_eq_true, Bool.and_eq_true, Bool.or_eq_false_iff, Bool.and_eq_false_iff, decide_eq_true_eq, decide_eq_false_iff_not, Bool.not_eq_true', Bool.not_eq_false', beq_iff_eq, bne_iff_ne, ne_eq, beq_eq_false_iff_ne, Bool.not_eq_true]; done) | (simp [sel]; done) | (simp only [sel, inK, true_and, and_true, implies_true, Bool.cond_true_left, Bool.cond_false_right, Bool.or_eq_true, Bool.and_eq_true, Bool.or_eq_false_iff, Bool.and_eq_false_iff, decide_eq_true_eq, decide_eq_false_iff_not, Bool.not_eq_true', Bool.not_eq_false', beq_iff_eq, bne_iff_ne, ne_eq, beq_eq_false_iff_ne, Bool.not_eq_true] at *; omega) | (simp [sel, inK] at *; omega)) ?_
      | (with_reducible show SW _ (Code.region _ _ true) _ _ _); refine rDrawC md0 hX mixed rfl rfl rfl rfl (by first | trivial | (simp only [sel, inK, true_and, and_true, implies_true, Bool.cond_true_left, Bool.cond_false_right, Bool.or_eq_true, Bool.and_eq_true, Bool.or_eq_false_iff, Bool.and_eq_false_iff, decide_eq_true_eq, decide_eq_false_iff_not, Bool.not_eq_true', Bool.not_eq_false', beq_iff_eq, bne_iff_ne, ne_eq, beq_eq_false_iff_ne, Bool.not_eq_true]; done) | (simp [sel]; done) | (simp only [sel, inK, true_and, and_true, implies_true, Bool.cond_true_left, Bool.cond_false_right, Bool.or_eq_true, Bool.and_eq_true, Bool.or_eq_false_iff, Bool.and_eq_false_iff, decide_eq_true_eq, decide_eq_false_iff_not, Bool.not_eq_true', Bool.not_eq_false', beq_iff_eq, bne_iff_ne, ne_eq, beq_eq_false_iff_ne, Bool.not_eq_true] at *; omega) | (simp [sel, inK] at *; omega)) ?_
      | (with_reducible show SW _ (Code.cond _ _ _) _ _ _); (refine rCond rfl rfl (by first | trivial | (simp only [sel, inK, true_and, and_true, implies_true, Bool.cond_true_left, Bool.cond_false_right, Bool.or_eq_true, Bool.and_eq_true, Bool.or_eq_false_iff, Bool.and_eq_false_iff, decide_eq_true_eq, decide_eq_false_iff_not, Bool.not_eq_true', Bool.not_eq_false', beq_iff_eq, bne_iff_ne, ne_eq, beq_eq_false_iff_ne, Bool.not_eq_true]; done) | (simp [sel]; done) | (simp only [sel, inK, true_and, and_true, implies_true, Bool.cond_true_left, Bool.cond_false_right, Bool.or_eq_true, Bool.and_eq_true, Bool.or_eq_false_iff, Bool.and_eq_false_iff, decide_eq_true_eq, decide_eq_false_iff_not, Bool.not_eq_true', Bool.not_eq_false', beq_iff_eq, bne_iff_ne, ne_eq, beq_eq_false_iff_ne, Bool.not_eq_true] at *; omega) | (simp [sel, inK] at *; omega)) (fun h => ?_) (fun h => ?_) <;> (try simp only [Bool.cond_true_left, Bool.cond_false_right, Bool.or_eq_true, Bool.and_eq_true, Bool.or_eq_false_iff, Bool.and_eq_false_iff, decide_eq_true_eq, decide_eq_false_iff_not, Bool.not_eq_true', Bool.not_eq_false', beq_iff_eq, bne_iff_ne, ne_eq, beq_eq_false_iff_ne, Bool.not_eq_true] at h) <;> try (exact absurd ‹_› ‹_›))
      | (with_reducible show SQ _ (Post _ _ _ _ _ _ _) .ret _ _); refine rDone hX rfl (by first | trivial | (simp only [sel, inK, true_and, and_true, implies_true, Bool.cond_true_left, Bool.cond_false_right, Bool.or_eq_true, Bool.and_eq_true, Bool.or_eq_false_iff, Bool.and_eq_false_iff, decide_eq_true_eq, decide_eq_false_iff_not, Bool.not_eq_true', Bool.not_eq_false', beq_iff_eq, bne_iff_ne, ne_eq, beq_eq_false_iff_ne, Bool.not_eq_true]; done) | (simp [sel]; done) | (simp only [sel, inK, true_and, and_true, implies_true, Bool.cond_true_left, Bool.cond_false_right, Bool.or_eq_true, Bool.and_eq_true, Bool.or_eq_false_iff, Bool.and_eq_false_iff, decide_eq_true_eq, decide_eq_false_iff_not, Bool.not_eq_true', Bool.not_eq_false', beq_iff_eq, bne_iff_ne, ne_eq, beq_eq_false_iff_ne, Bool.not_eq_true] at *; omega) | (simp [sel, inK] at *; omega)) (EnvLe.refl _) (by refine congrArg i64 ?_; exact count_end n s k hp hk hks (by dsimp only at *; omega)) rfl rfl rfl (by intro i e h; cases h)
  · cases h

def spRLev : X.Spec := fun args _ => match args with
  | [.v (.c (.int .i64 a)), .v (.c (.int .i64 b)), .v (.c (.bool i))] => some ⟨True, i64 (levS a b i), [], []⟩
  | _ => none
set_option maxRecDepth 100000 in
set_option maxHeartbeats 4000000 in
theorem ok27 : FnOK Try.prog gt0 27 spRLev := by
  refine fnOK_vals Try.func27 rfl (by kernel_rfl) tt_ok (ktCons ok50 (ktCons ok54 (ktNil))) ?_
  intro args lk r h hp
  unfold spRLev at h
  split at h
  · rename_i a b i
    cases h
    refine ⟨rfl, rfl, fun w0 M ε0 hX => ?_⟩
    have hv := clipS_in a (-2048) 2047 (by omega)
    have hq := clipS_in b 1 31 (by omega)
    have hc1 := cut_in (-(clipS a (-2048) 2047) - clipS b 1 31 / 2) (2 * clipS b 1 31)
    have hc2 := cut_in (-(clipS a (-2048) 2047) - 0) (2 * clipS b 1 31)
    repeat' first
      | with_reducible refine rSeq ?_
      | with_reducible refine rThen ?_
      | with_reducible refine rBlock ?_
      | with_reducible refine rThenRet ?_
      | with_reducible refine rThenExit ?_
      | with_reducible refine rInRet ?_
      | with_reducible refine rInNormal ?_
      | with_reducible refine rInHit ?_
      | with_reducible refine rInMiss rfl ?_
      | with_reducible refine rRet ?_
      | with_reducible refine rExit ?_
      | with_reducible refine rSkip ?_
      | with_reducible refine rScope ?_
      | with_reducible refine rNoGotoRet ?_
      | with_reducible refine rNoGotoNormal ?_
      | (with_reducible show SW _ (Code.region _ _ false) _ _ _); refine rRegC md0 hX rfl rfl rfl (by first | trivial | (simp only [sel, inK, true_and, and_true, implies_true, Bool.cond_true_left, Bool.cond_false_right, Bool.or_eq_true, Bool.and_eq_true, Bool.or_eq_false_iff, Bool.and_eq_false_iff, decide_eq_true_eq, decide_eq_false_iff_not, Bool.not_eq_true', Bool.not_eq_false', beq_iff_eq, bne_iff_ne, ne_eq, beq_eq_false_iff_ne, Bool.not_eq_true]; done) | (simp [sel]; done) | (simp only [sel, inK, true_and, and_true, implies_true, Bool.cond_true_left, Bool.cond_false_right, Bool.or_eq_true, Bool.and_eq_true, Bool.or_eq_false_iff, Bool.and_eq_false_iff, decide_eq_true_eq, decide_eq_false_iff_not, Bool.not_eq_true', Bool.not_eq_false', beq_iff_eq, bne_iff_ne, ne_eq, beq_eq_false_iff_ne, Bool.not_eq_true] at *; omega) | (simp [sel, inK] at *; omega)) ?_
      | (with_reducible show SW _ (Code.region _ _ true) _ _ _); refine rDrawC md0 hX mixed rfl rfl rfl rfl (by first | trivial | (simp only [sel, inK, true_and, and_true, implies_true, Bool.cond_true_left, Bool.cond_false_right, Bool.or_eq_true, Bool.and_eq_true, Bool.or_eq_false_iff, Bool.and_eq_false_iff, decide_eq_true_eq, decide_eq_false_iff_not, Bool.not_eq_true', Bool.not_eq_false', beq_iff_eq, bne_iff_ne, ne_eq, beq_eq_false_iff_ne, Bool.not_eq_true]; done) | (simp [sel]; done) | (simp only [sel, inK, true_and, and_true, implies_true, Bool.cond_true_left, Bool.cond_false_right, Bool.or_eq_true, Bool.and_eq_true, Bool.or_eq_false_iff, Bool.and_eq_false_iff, decide_eq_true_eq, decide_eq_false_iff_not, Bool.not_eq_true', Bool.not_eq_false', beq_iff_eq, bne_iff_ne, ne_eq, beq_eq_false_iff_ne, Bool.not_eq_true] at *; omega) | (simp [sel, inK] at *; omega)) ?_
      | (with_reducible show SW _ (Code.cond _ _ _) _ _ _); (refine rCond rfl rfl (by first | trivial | (simp only [sel, inK, true_and, and_true, implies_true, Bool.cond_true_left, Bool.cond_false_right, Bool.or_eq_true, Bool.and_eq_true, Bool.or_eq_false_iff, Bool.and_eq_false_iff, decide_eq_true_eq, decide_eq_false_iff_not, Bool.not_eq_true', Bool.not_eq_false', beq_iff_eq, bne_iff_ne, ne_eq, beq_eq_false_iff_ne, Bool.not_eq_true]; done) | (simp [sel]; done) | (simp only [sel, inK, true_and, and_true, implies_true, Bool.cond_true_left, Bool.cond_false_right, Bool.or_eq_true, Bool.and_eq_true, Bool.or_eq_false_iff, Bool.and_eq_false_iff, decide_eq_true_eq, decide_eq_false_iff_not, Bool.not_eq_true', Bool.not_eq_false', beq_iff_eq, bne_iff_ne, ne_eq, beq_eq_false_iff_ne, Bool.not_eq_true] at *; omega) | (simp [sel, inK] at *; omega)) (fun h => ?_) (fun h => ?_) <;> (try simp only [Bool.cond_true_left, Bool.cond_false_right, Bool.or_eq_true, Bool.and_eq_true, Bool.or_eq_false_iff, Bool.and_eq_false_iff, decide_eq_true_eq, decide_eq_false_iff_not, Bool.not_eq_true', Bool.not_eq_false', beq_iff_eq, bne_iff_ne, ne_eq, beq_eq_false_iff_ne, Bool.not_eq_true] at h) <;> try (exact absurd ‹_› ‹_›))
      | (with_reducible show SQ _ (Post _ _ _ _ _ _ _) .ret _ _); refine rDone hX rfl (by first | trivial | (simp only [sel, inK, true_and, and_true, implies_true, Bool.cond_true_left, Bool.cond_false_right, Bool.or_eq_true, Bool.and_eq_true, Bool.or_eq_false_iff, Bool.and_eq_false_iff, decide_eq_true_eq, decide_eq_false_iff_not, Bool.not_eq_true', Bool.not_eq_false', beq_iff_eq, bne_iff_ne, ne_eq, beq_eq_false_iff_ne, Bool.not_eq_true]; done) | (simp [sel]; done) | (simp only [sel, inK, true_and, and_true, implies_true, Bool.cond_true_left, Bool.cond_false_right, Bool.or_eq_true, Bool.and_eq_true, Bool.or_eq_false_iff, Bool.and_eq_false_iff, decide_eq_true_eq, decide_eq_false_iff_not, Bool.not_eq_true', Bool.not_eq_false', beq_iff_eq, bne_iff_ne, ne_eq, beq_eq_false_iff_ne, Bool.not_eq_true] at *; omega) | (simp [sel, inK] at *; omega)) (EnvLe.refl _) (by refine congrArg i64 ?_; simp only [levS]; first | (simp only [*, if_true, if_false]; done) | (simp [*]; done)) rfl rfl rfl (by intro i e h; cases h)
  · cases h
set_option maxRecDepth 100000 in
set_option maxHeartbeats 4000000 in
theorem ok31 : FnOK Try.prog gt0 31 spTrue := by
  refine fnOK_vals Try.func31 rfl (by kernel_rfl) tt_ok (ktCons ok26 (ktCons ok28 (ktCons ok29 (ktNil)))) ?_
  intro args lk r h hp
  unfold spTrue at h
  split at h
  · skip
    cases h
    refine ⟨rfl, rfl, fun w0 M ε0 hX => ?_⟩
    repeat' first
      | with_reducible refine rSeq ?_
      | with_reducible refine rThen ?_
      | with_reducible refine rBlock ?_
      | with_reducible refine rThenRet ?_
      | with_reducible refine rThenExit ?_
      | with_reducible refine rInRet ?_
      | with_reducible refine rInNormal ?_
      | with_reducible refine rInHit ?_
      | with_reducible refine rInMiss rfl ?_
      | with_reducible refine rRet ?_
      | with_reducible refine rExit ?_
      | with_reducible refine rSkip ?_
      | with_reducible refine rScope ?_
      | with_reducible refine rNoGotoRet ?_
      | with_reducible refine rNoGotoNormal ?_
      | (with_reducible show SW _ (Code.region _ _ false) _ _ _); refine rRegC md0 hX rfl rfl rfl (by first | trivial | (simp only [sel, inK, true_and, and_true, implies_true, Bool.cond_true_left, Bool.cond_false_right, Bool.or_eq_true, Bool.and_eq_true, Bool.or_eq_false_iff, Bool.and_eq_false_iff, decide_eq_true_eq, decide_eq_false_iff_not, Bool.not_eq_true', Bool.not_eq_false', beq_iff_eq, bne_iff_ne, ne_eq, beq_eq_false_iff_ne, Bool.not_eq_true]; done) | (simp [sel]; done) | (simp only [sel, inK, true_and, and_true, implies_true, Bool.cond_true_left, Bool.cond_false_right, Bool.or_eq_true, Bool.and_eq_true, Bool.or_eq_false_iff, Bool.and_eq_false_iff, decide_eq_true_eq, decide_eq_false_iff_not, Bool.not_eq_true', Bool.not_eq_false', beq_iff_eq, bne_iff_ne, ne_eq, beq_eq_false_iff_ne, Bool.not_eq_true] at *; omega) | (simp [sel, inK] at *; omega)) ?_
      | (with_reducible show SW _ (Code.region _ _ true) _ _ _); refine rDrawC md0 hX mixed rfl rfl rfl rfl (by first | trivial | (simp only [sel, inK, true_and, and_true, implies_true, Bool.cond_true_left, Bool.cond_false_right, Bool.or_eq_true, Bool.and_eq_true, Bool.or_eq_false_iff, Bool.and_eq_false_iff, decide_eq_true_eq, decide_eq_false_iff_not, Bool.not_eq_true', Bool.not_eq_false', beq_iff_eq, bne_iff_ne, ne_eq, beq_eq_false_iff_ne, Bool.not_eq_true]; done) | (simp [sel]; done) | (simp only [sel, inK, true_and, and_true, implies_true, Bool.cond_true_left, Bool.cond_false_right, Bool.or_eq_true, Bool.and_eq_true, Bool.or_eq_false_iff, Bool.and_eq_false_iff, decide_eq_true_eq, decide_eq_false_iff_not, Bool.not_eq_true', Bool.not_eq_false', beq_iff_eq, bne_iff_ne, ne_eq, beq_eq_false_iff_ne, Bool.not_eq_true] at *; omega) | (simp [sel, inK] at *; omega)) ?_
      | (with_reducible show SW _ (Code.cond _ _ _) _ _ _); (refine rCond rfl rfl (by first | trivial | (simp only [sel, inK, true_and, and_true, implies_true, Bool.cond_true_left, Bool.cond_false_right, Bool.or_eq_true, Bool.and_eq_true, Bool.or_eq_false_iff, Bool.and_eq_false_iff, decide_eq_true_eq, decide_eq_false_iff_not, Bool.not_eq_true', Bool.not_eq_false', beq_iff_eq, bne_iff_ne, ne_eq, beq_eq_false_iff_ne, Bool.not_eq_true]; done) | (simp [sel]; done) | (simp only [sel, inK, true_and, and_true, implies_true, Bool.cond_true_left, Bool.cond_false_right, Bool.or_eq_true, Bool.and_eq_true, Bool.or_eq_false_iff, Bool.and_eq_false_iff, decide_eq_true_eq, decide_eq_false_iff_not, Bool.not_eq_true', Bool.not_eq_false', beq_iff_eq, bne_iff_ne, ne_eq, beq_eq_false_iff_ne, Bool.not_eq_true] at *; omega) | (simp [sel, inK] at *; omega)) (fun h => ?_) (fun h => ?_) <;> (try simp only [Bool.cond_true_left, Bool.cond_false_right, Bool.or_eq_true, Bool.and_eq_true, Bool.or_eq_false_iff, Bool.and_eq_false_iff, decide_eq_true_eq, decide_eq_false_iff_not, Bool.not_eq_true', Bool.not_eq_false', beq_iff_eq, bne_iff_ne, ne_eq, beq_eq_false_iff_ne, Bool.not_eq_true] at h) <;> try (exact absurd ‹_› ‹_›))
      | (with_reducible show SQ _ (Post _ _ _ _ _ _ _) .ret _ _); refine rDone hX rfl (by first | trivial | (simp only [sel, inK, true_and, and_true, implies_true, Bool.cond_true_left, Bool.cond_false_right, Bool.or_eq_true, Bool.and_eq_true, Bool.or_eq_false_iff, Bool.and_eq_false_iff, decide_eq_true_eq, decide_eq_false_iff_not, Bool.not_eq_true', Bool.not_eq_false', beq_iff_eq, bne_iff_ne, ne_eq, beq_eq_false_iff_ne, Bool.not_eq_true]; done) | (simp [sel]; done) | (simp only [sel, inK, true_and, and_true, implies_true, Bool.cond_true_left, Bool.cond_false_right, Bool.or_eq_true, Bool.and_eq_true, Bool.or_eq_false_iff, Bool.and_eq_false_iff, decide_eq_true_eq, decide_eq_false_iff_not, Bool.not_eq_true', Bool.not_eq_false', beq_iff_eq, bne_iff_ne, ne_eq, beq_eq_false_iff_ne, Bool.not_eq_true] at *; omega) | (simp [sel, inK] at *; omega)) (EnvLe.refl _) (by first | rfl | (exact absurd ‹_› (by decide)) | (show bo true = bo _; refine congrArg bo ?_; decide)) rfl rfl rfl (by intro i e h; cases h)
  · cases h

def spLaw6 : X.Spec := fun args _ => match args with
  | [.v (.c (.int .i64 a)), .v (.c (.int .i64 b))] => some ⟨True, bo true, [], []⟩
  | _ => none
set_option maxRecDepth 100000 in
set_option maxHeartbeats 4000000 in
theorem ok6 : FnOK Try.prog gt0 6 spLaw6 := by
  refine fnOK_vals Try.func6 rfl (by kernel_rfl) tt_ok (ktCons ok26 (ktCons ok27 (ktCons ok28 (ktCons ok29 (ktCons ok30 (ktCons ok31 (ktNil))))))) ?_
  intro args lk r h hp
  unfold spLaw6 at h
  split at h
  · rename_i a b
    cases h
    refine ⟨rfl, rfl, fun w0 M ε0 hX => ?_⟩
    repeat' first
      | with_reducible refine rSeq ?_
      | with_reducible refine rThen ?_
      | with_reducible refine rBlock ?_
      | with_reducible refine rThenRet ?_
      | with_reducible refine rThenExit ?_
      | with_reducible refine rInRet ?_
      | with_reducible refine rInNormal ?_
      | with_reducible refine rInHit ?_
      | with_reducible refine rInMiss rfl ?_
      | with_reducible refine rRet ?_
      | with_reducible refine rExit ?_
      | with_reducible refine rSkip ?_
      | with_reducible refine rScope ?_
      | with_reducible refine rNoGotoRet ?_
      | with_reducible refine rNoGotoNormal ?_
      | (with_reducible show SW _ (Code.region _ _ false) _ _ _); refine rRegC md0 hX rfl rfl rfl (by first | trivial | (simp only [sel, inK, true_and, and_true, implies_true, Bool.cond_true_left, Bool.cond_false_right, Bool.or_eq_true, Bool.and_eq_true, Bool.or_eq_false_iff, Bool.and_eq_false_iff, decide_eq_true_eq, decide_eq_false_iff_not, Bool.not_eq_true', Bool.not_eq_false', beq_iff_eq, bne_iff_ne, ne_eq, beq_eq_false_iff_ne, Bool.not_eq_true]; done) | (simp [sel]; done) | (simp only [sel, inK, true_and, and_true, implies_true, Bool.cond_true_left, Bool.cond_false_right, Bool.or_eq_true, Bool.and_eq_true, Bool.or_eq_false_iff, Bool.and_eq_false_iff, decide_eq_true_eq, decide_eq_false_iff_not, Bool.not_eq_true', Bool.not_eq_false', beq_iff_eq, bne_iff_ne, ne_eq, beq_eq_false_iff_ne, Bool.not_eq_true] at *; omega) | (simp [sel, inK] at *; omega)) ?_
      | (with_reducible show SW _ (Code.region _ _ true) _ _ _); refine rDrawC md0 hX mixed rfl rfl rfl rfl (by first | trivial | (simp only [sel, inK, true_and, and_true, implies_true, Bool.cond_true_left, Bool.cond_false_right, Bool.or_eq_true, Bool.and_eq_true, Bool.or_eq_false_iff, Bool.and_eq_false_iff, decide_eq_true_eq, decide_eq_false_iff_not, Bool.not_eq_true', Bool.not_eq_false', beq_iff_eq, bne_iff_ne, ne_eq, beq_eq_false_iff_ne, Bool.not_eq_true]; done) | (simp [sel]; done) | (simp only [sel, inK, true_and, and_true, implies_true, Bool.cond_true_left, Bool.cond_false_right, Bool.or_eq_true, Bool.and_eq_true, Bool.or_eq_false_iff, Bool.and_eq_false_iff, decide_eq_true_eq, decide_eq_false_iff_not, Bool.not_eq_true', Bool.not_eq_false', beq_iff_eq, bne_iff_ne, ne_eq, beq_eq_false_iff_ne, Bool.not_eq_true] at *; omega) | (simp [sel, inK] at *; omega)) ?_
      | (with_reducible show SW _ (Code.cond _ _ _) _ _ _); (refine rCond rfl rfl (by first | trivial | (simp only [sel, inK, true_and, and_true, implies_true, Bool.cond_true_left, Bool.cond_false_right, Bool.or_eq_true, Bool.and_eq_true, Bool.or_eq_false_iff, Bool.and_eq_false_iff, decide_eq_true_eq, decide_eq_false_iff_not, Bool.not_eq_true', Bool.not_eq_false', beq_iff_eq, bne_iff_ne, ne_eq, beq_eq_false_iff_ne, Bool.not_eq_true]; done) | (simp [sel]; done) | (simp only [sel, inK, true_and, and_true, implies_true, Bool.cond_true_left, Bool.cond_false_right, Bool.or_eq_true, Bool.and_eq_true, Bool.or_eq_false_iff, Bool.and_eq_false_iff, decide_eq_true_eq, decide_eq_false_iff_not, Bool.not_eq_true', Bool.not_eq_false', beq_iff_eq, bne_iff_ne, ne_eq, beq_eq_false_iff_ne, Bool.not_eq_true] at *; omega) | (simp [sel, inK] at *; omega)) (fun h => ?_) (fun h => ?_) <;> (try simp only [Bool.cond_true_left, Bool.cond_false_right, Bool.or_eq_true, Bool.and_eq_true, Bool.or_eq_false_iff, Bool.and_eq_false_iff, decide_eq_true_eq, decide_eq_false_iff_not, Bool.not_eq_true', Bool.not_eq_false', beq_iff_eq, bne_iff_ne, ne_eq, beq_eq_false_iff_ne, Bool.not_eq_true] at h) <;> try (exact absurd ‹_› ‹_›))
      | (with_reducible show SQ _ (Post _ _ _ _ _ _ _) .ret _ _); refine rDone hX rfl (by first | trivial | (simp only [sel, inK, true_and, and_true, implies_true, Bool.cond_true_left, Bool.cond_false_right, Bool.or_eq_true, Bool.and_eq_true, Bool.or_eq_false_iff, Bool.and_eq_false_iff, decide_eq_true_eq, decide_eq_false_iff_not, Bool.not_eq_true', Bool.not_eq_false', beq_iff_eq, bne_iff_ne, ne_eq, beq_eq_false_iff_ne, Bool.not_eq_true]; done) | (simp [sel]; done) | (simp only [sel, inK, true_and, and_true, implies_true, Bool.cond_true_left, Bool.cond_false_right, Bool.or_eq_true, Bool.and_eq_true, Bool.or_eq_false_iff, Bool.and_eq_false_iff, decide_eq_true_eq, decide_eq_false_iff_not, Bool.not_eq_true', Bool.not_eq_false', beq_iff_eq, bne_iff_ne, ne_eq, beq_eq_false_iff_ne, Bool.not_eq_true] at *; omega) | (simp [sel, inK] at *; omega)) (EnvLe.refl _) (by (show bo true = bo _; refine congrArg bo ?_; simp)) rfl rfl rfl (by intro i e h; cases h)
  · cases h

end Go.Proofs.Ytmlnpfkbnldacaa
