/- What a stream may be made to. -/
import Derived.Test.YtmlnpfkbnldacaaA12
set_option linter.unusedVariables false
set_option linter.unusedSimpArgs false
namespace Go.Proofs.Ytmlnpfkbnldacaa
open Go.X


theorem bits_in (f : Int) : 0 ≤ bitsS f 8 ∧ bitsS f 8 ≤ 6472 := by
  have hm := mS_in f
  have hc := clipS_in 8 0 8 (by omega)
  unfold bitsS
  split <;> omega
def checkS (f bk dr le st tr : Int) : Int :=
  if bitsS f 8 = 0 ∨ dr < bitsS f 8 ∨ dr > 1048576 ∨ bk > 1073741824 ∨ bk < dr + 8 ∨ ¬ (1 ≤ le ∧ le ≤ 31) ∨ ¬ (1 ≤ st ∧ st ≤ 31) ∨ ¬ (1 ≤ tr ∧ tr ≤ 31) then 14 else 0
def spCheck : X.Spec := fun args _ => match args with
  | [.v (.agg [.cs [.int .i64 bk, .int .i64 dr, .int .i64 le, .int .i64 st, .int .i64 tr, .bool ro, .bool su, .bool pi]]), .v (.c (.int .i64 f))] => some ⟨True, i64 (checkS f bk dr le st tr), [], []⟩
  | _ => none
set_option maxRecDepth 100000 in
set_option maxHeartbeats 4000000 in
theorem ok48 : FnOK Try.prog gt0 48 spCheck := by
  refine fnOK_vals Try.func48 rfl (by kernel_rfl) tt_ok (ktCons ok60 (ktNil)) ?_
  intro args lk r h hp
  unfold spCheck at h
  split at h
  · rename_i bk dr le st tr ro su pi f
    cases h
    refine ⟨rfl, rfl, fun w0 M ε0 hX => ?_⟩
    have hb := bits_in f
    all_goals repeat' first
      | (with_reducible show SW _ (Code.loop _) _ _ _); refine rRounds 4 ?_
      | with_reducible refine rRound ?_
      | with_reducible refine rSeq ?_
      | with_reducible refine rThen ?_
      | with_reducible refine rBlock ?_
      | with_reducible refine rThenRet ?_
      | with_reducible refine rThenExit ?_
      | with_reducible refine rInRet ?_
      | with_reducible refine rInNormal ?_
      | with_reducible refine rInHit ?_
      | with_reducible refine rInMiss rfl ?_
      | with_reducible refine rRet ?_
      | with_reducible refine rExit ?_
      | with_reducible refine rSkip ?_
      | with_reducible refine rScope ?_
      | with_reducible refine rNoGotoRet ?_
      | with_reducible refine rNoGotoNormal ?_
      | (with_reducible show SW _ (Code.region _ _ false) _ _ _); refine rRegC md0 hX rfl rfl rfl (by first | (first | exact True.intro | (simp only [sel, inK, segsOf, List.cons_append, List.nil_append, widthL, S0.width, List.length_cons, List.length_nil, true_and, and_true, implies_true, Bool.cond_true_left, Bool.cond_false_right, Bool.or_eq_true, Bool.and_eq_true, Bool.or_eq_false_iff, Bool.and_eq_false_iff, decide_eq_true_eq, decide_eq_false_iff_not, Bool.not_eq_true', Bool.not_eq_false', beq_iff_eq, bne_iff_ne, ne_eq, beq_eq_false_iff_ne, Bool.not_eq_true]; done) | (simp [sel, segsOf, List.cons_append, List.nil_append, widthL, S0.width]; done) | (simp only [sel, inK, segsOf, List.cons_append, List.nil_append, widthL, S0.width, List.length_cons, List.length_nil, true_and, and_true, implies_true, Bool.cond_true_left, Bool.cond_false_right, Bool.or_eq_true, Bool.and_eq_true, Bool.or_eq_false_iff, Bool.and_eq_false_iff, decide_eq_true_eq, decide_eq_false_iff_not, Bool.not_eq_true', Bool.not_eq_false', beq_iff_eq, bne_iff_ne, ne_eq, beq_eq_false_iff_ne, Bool.not_eq_true] at *; omega) | (simp only [sel, inK, segsOf, List.cons_append, List.nil_append, widthL, S0.width, List.length_cons, List.length_nil, true_and, and_true, implies_true, imp_self, Bool.cond_true_left, Bool.cond_false_right, Bool.or_eq_true, Bool.and_eq_true, Bool.or_eq_false_iff, Bool.and_eq_false_iff, decide_eq_true_eq, decide_eq_false_iff_not, Bool.not_eq_true', Bool.not_eq_false', beq_iff_eq, bne_iff_ne, ne_eq, beq_eq_false_iff_ne, Bool.not_eq_true]; (repeat' first | refine And.intro ?_ ?_ | intro _) <;> first | omega | assumption | exact True.intro | (simp_all; done) | (simp_all; omega)) | (simp [sel, inK, segsOf, List.cons_append, List.nil_append, widthL, S0.width] at *; omega)) | fail) ?_
      | (with_reducible show SW _ (Code.region _ _ true) _ _ _); refine rDrawC md0 hX mixed rfl rfl rfl rfl (by first | (first | exact True.intro | (simp only [sel, inK, segsOf, List.cons_append, List.nil_append, widthL, S0.width, List.length_cons, List.length_nil, true_and, and_true, implies_true, Bool.cond_true_left, Bool.cond_false_right, Bool.or_eq_true, Bool.and_eq_true, Bool.or_eq_false_iff, Bool.and_eq_false_iff, decide_eq_true_eq, decide_eq_false_iff_not, Bool.not_eq_true', Bool.not_eq_false', beq_iff_eq, bne_iff_ne, ne_eq, beq_eq_false_iff_ne, Bool.not_eq_true]; done) | (simp [sel, segsOf, List.cons_append, List.nil_append, widthL, S0.width]; done) | (simp only [sel, inK, segsOf, List.cons_append, List.nil_append, widthL, S0.width, List.length_cons, List.length_nil, true_and, and_true, implies_true, Bool.cond_true_left, Bool.cond_false_right, Bool.or_eq_true, Bool.and_eq_true, Bool.or_eq_false_iff, Bool.and_eq_false_iff, decide_eq_true_eq, decide_eq_false_iff_not, Bool.not_eq_true', Bool.not_eq_false', beq_iff_eq, bne_iff_ne, ne_eq, beq_eq_false_iff_ne, Bool.not_eq_true] at *; omega) | (simp only [sel, inK, segsOf, List.cons_append, List.nil_append, widthL, S0.width, List.length_cons, List.length_nil, true_and, and_true, implies_true, imp_self, Bool.cond_true_left, Bool.cond_false_right, Bool.or_eq_true, Bool.and_eq_true, Bool.or_eq_false_iff, Bool.and_eq_false_iff, decide_eq_true_eq, decide_eq_false_iff_not, Bool.not_eq_true', Bool.not_eq_false', beq_iff_eq, bne_iff_ne, ne_eq, beq_eq_false_iff_ne, Bool.not_eq_true]; (repeat' first | refine And.intro ?_ ?_ | intro _) <;> first | omega | assumption | exact True.intro | (simp_all; done) | (simp_all; omega)) | (simp [sel, inK, segsOf, List.cons_append, List.nil_append, widthL, S0.width] at *; omega)) | fail) ?_
      | (with_reducible show SW _ (Code.cond _ _ _) _ _ _); (refine rCond rfl rfl (by first | (first | exact True.intro | (simp only [sel, inK, segsOf, List.cons_append, List.nil_append, widthL, S0.width, List.length_cons, List.length_nil, true_and, and_true, implies_true, Bool.cond_true_left, Bool.cond_false_right, Bool.or_eq_true, Bool.and_eq_true, Bool.or_eq_false_iff, Bool.and_eq_false_iff, decide_eq_true_eq, decide_eq_false_iff_not, Bool.not_eq_true', Bool.not_eq_false', beq_iff_eq, bne_iff_ne, ne_eq, beq_eq_false_iff_ne, Bool.not_eq_true]; done) | (simp [sel, segsOf, List.cons_append, List.nil_append, widthL, S0.width]; done) | (simp only [sel, inK, segsOf, List.cons_append, List.nil_append, widthL, S0.width, List.length_cons, List.length_nil, true_and, and_true, implies_true, Bool.cond_true_left, Bool.cond_false_right, Bool.or_eq_true, Bool.and_eq_true, Bool.or_eq_false_iff, Bool.and_eq_false_iff, decide_eq_true_eq, decide_eq_false_iff_not, Bool.not_eq_true', Bool.not_eq_false', beq_iff_eq, bne_iff_ne, ne_eq, beq_eq_false_iff_ne, Bool.not_eq_true] at *; omega) | (simp only [sel, inK, segsOf, List.cons_append, List.nil_append, widthL, S0.width, List.length_cons, List.length_nil, true_and, and_true, implies_true, imp_self, Bool.cond_true_left, Bool.cond_false_right, Bool.or_eq_true, Bool.and_eq_true, Bool.or_eq_false_iff, Bool.and_eq_false_iff, decide_eq_true_eq, decide_eq_false_iff_not, Bool.not_eq_true', Bool.not_eq_false', beq_iff_eq, bne_iff_ne, ne_eq, beq_eq_false_iff_ne, Bool.not_eq_true]; (repeat' first | refine And.intro ?_ ?_ | intro _) <;> first | omega | assumption | exact True.intro | (simp_all; done) | (simp_all; omega)) | (simp [sel, inK, segsOf, List.cons_append, List.nil_append, widthL, S0.width] at *; omega)) | fail) (fun h => ?_) (fun h => ?_) <;> (try simp only [Bool.cond_true_left, Bool.cond_false_right, Bool.or_eq_true, Bool.and_eq_true, Bool.or_eq_false_iff, Bool.and_eq_false_iff, decide_eq_true_eq, decide_eq_false_iff_not, Bool.not_eq_true', Bool.not_eq_false', beq_iff_eq, bne_iff_ne, ne_eq, beq_eq_false_iff_ne, Bool.not_eq_true] at h) <;> (try (exact absurd ‹_› ‹_›)) <;> (try (exfalso; omega)))
      | (with_reducible show SQ _ (Post _ _ _ _ _ _ _) .ret _ _); refine rDone hX rfl (by first | (first | exact True.intro | (simp only [sel, inK, segsOf, List.cons_append, List.nil_append, widthL, S0.width, List.length_cons, List.length_nil, true_and, and_true, implies_true, Bool.cond_true_left, Bool.cond_false_right, Bool.or_eq_true, Bool.and_eq_true, Bool.or_eq_false_iff, Bool.and_eq_false_iff, decide_eq_true_eq, decide_eq_false_iff_not, Bool.not_eq_true', Bool.not_eq_false', beq_iff_eq, bne_iff_ne, ne_eq, beq_eq_false_iff_ne, Bool.not_eq_true]; done) | (simp [sel, segsOf, List.cons_append, List.nil_append, widthL, S0.width]; done) | (simp only [sel, inK, segsOf, List.cons_append, List.nil_append, widthL, S0.width, List.length_cons, List.length_nil, true_and, and_true, implies_true, Bool.cond_true_left, Bool.cond_false_right, Bool.or_eq_true, Bool.and_eq_true, Bool.or_eq_false_iff, Bool.and_eq_false_iff, decide_eq_true_eq, decide_eq_false_iff_not, Bool.not_eq_true', Bool.not_eq_false', beq_iff_eq, bne_iff_ne, ne_eq, beq_eq_false_iff_ne, Bool.not_eq_true] at *; omega) | (simp only [sel, inK, segsOf, List.cons_append, List.nil_append, widthL, S0.width, List.length_cons, List.length_nil, true_and, and_true, implies_true, imp_self, Bool.cond_true_left, Bool.cond_false_right, Bool.or_eq_true, Bool.and_eq_true, Bool.or_eq_false_iff, Bool.and_eq_false_iff, decide_eq_true_eq, decide_eq_false_iff_not, Bool.not_eq_true', Bool.not_eq_false', beq_iff_eq, bne_iff_ne, ne_eq, beq_eq_false_iff_ne, Bool.not_eq_true]; (repeat' first | refine And.intro ?_ ?_ | intro _) <;> first | omega | assumption | exact True.intro | (simp_all; done) | (simp_all; omega)) | (simp [sel, inK, segsOf, List.cons_append, List.nil_append, widthL, S0.width] at *; omega)) | fail) (EnvLe.refl _) (by first | (refine congrArg i64 ?_; simp only [checkS]; split <;> first | rfl | omega) | fail) rfl rfl rfl (by first | (intro i e h; cases h) | fail)
  · cases h

end Go.Proofs.Ytmlnpfkbnldacaa
