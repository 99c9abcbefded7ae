/- Where a stream may be made to something. -/
import Derived.Test.YtmlnpfkbnldacaaA14
import Derived.Test.YtmlnpfkbnldacaaA7
set_option linter.unusedVariables false
set_option linter.unusedSimpArgs false
namespace Go.Proofs.Ytmlnpfkbnldacaa
open Go.X


def spLaw13 : X.Spec := fun args _ => match args with
  | [.v (.agg [.cs [.int .i64 bk, .int .i64 dr, .int .i64 le, .int .i64 st, .int .i64 tr, .bool ro, .bool su, .bool pi]]), .v (.c (.int .i64 f))] => some ⟨True, bo true, [], []⟩
  | _ => none
def spLaw14 : X.Spec := fun args _ => match args with
  | [.v (.agg [.cs [.int .i64 bk, .int .i64 dr, .int .i64 le, .int .i64 st, .int .i64 tr, .bool ro, .bool su, .bool pi]]), .v (.agg [.cs [.int .i64 f, .int .i64 s, .int .i64 l]])] => some ⟨True, bo true, [], []⟩
  | _ => none
theorem bits_le (f s : Int) : 0 ≤ bitsS f s ∧ bitsS f s ≤ bitsS f 8 := by
  have hm := mS_in f
  have hc := clipS_in s 0 8 (by omega)
  have h8 : clipS 8 0 8 = 8 := by decide
  unfold bitsS
  rw [h8]
  split <;> omega
theorem checkS_iff (f bk dr le st tr : Int) : checkS f bk dr le st tr = 0 ↔ ¬ (bitsS f 8 = 0 ∨ dr < bitsS f 8 ∨ dr > 1048576 ∨ bk > 1073741824 ∨ bk < dr + 8 ∨ ¬ (1 ≤ le ∧ le ≤ 31) ∨ ¬ (1 ≤ st ∧ st ≤ 31) ∨ ¬ (1 ≤ tr ∧ tr ≤ 31)) := by
  unfold checkS
  split <;> simp_all
theorem lacks_in (dr : Int) (su : Bool) (l : Int) : 0 ≤ lacksS dr su l ∧ lacksS dr su l ≤ 131073 := by
  have h1 := clipS_in l 0 1073741824 (by omega)
  have h2 := clipS_in dr 0 1048576 (by omega)
  unfold lacksS
  split <;> omega
theorem drops (f s l bk dr le st tr : Int) (su : Bool) (hc : checkS f bk dr le st tr = 0) (h0 : 0 ≤ l) (h1 : l ≤ bk) :
    afterS l dr (bitsS f s) ≤ bk ∧ l + 8 * lacksS dr su l ≤ bk ∧ (su = false ∨ l + 8 * lacksS dr su l ≥ dr) ∧ (lacksS dr su l = 0 ∨ l + 8 * lacksS dr su l < dr + 8) := by
  have hk := (checkS_iff f bk dr le st tr).1 hc
  have hb := bits_in f
  have hs := bits_le f s
  have e1 : clipS l 0 1073741824 = l := clip_idM _ _ _ (by omega)
  have e2 : clipS dr 0 1073741824 = dr := clip_idM _ _ _ (by omega)
  have e3 : clipS dr 0 1048576 = dr := clip_idM _ _ _ (by omega)
  have e4 : clipS (bitsS f s) 0 1073741824 = bitsS f s := clip_idM _ _ _ (by omega)
  have e5 : afterS l dr (bitsS f s) ≤ bk := by unfold afterS; rw [e1, e2, e4]; omega
  refine ⟨e5, ?_⟩
  unfold lacksS
  rw [e1, e3]
  cases su
  · simp; omega
  · simp only [Bool.true_eq_false, false_or]
    split <;> omega
set_option maxRecDepth 100000 in
set_option maxHeartbeats 4000000 in
theorem ok13 : FnOK Try.prog gt0 13 spLaw13 := by
  refine fnOK_vals Try.func13 rfl (by kernel_rfl) tt_ok (ktCons ok47 (ktCons ok48 (ktCons ok20 (ktNil)))) ?_
  intro args lk r h hp
  unfold spLaw13 at h
  split at h
  · rename_i bk dr le st tr ro su pi f
    cases h
    refine ⟨rfl, rfl, fun w0 M ε0 hX => ?_⟩
    all_goals repeat' first
      | with_reducible refine rSeq ?_
      | with_reducible refine rThen ?_
      | with_reducible refine rBlock ?_
      | with_reducible refine rThenRet ?_
      | with_reducible refine rThenExit ?_
      | with_reducible refine rInRet ?_
      | with_reducible refine rInNormal ?_
      | with_reducible refine rInHit ?_
      | with_reducible refine rInMiss rfl ?_
      | with_reducible refine rRet ?_
      | with_reducible refine rExit ?_
      | with_reducible refine rSkip ?_
      | with_reducible refine rScope ?_
      | with_reducible refine rNoGotoRet ?_
      | with_reducible refine rNoGotoNormal ?_
      | (with_reducible show SW _ (Code.region _ _ false) _ _ _); refine rRegC md0 hX rfl rfl rfl (by first | (first | exact True.intro | (simp only [sel, inK, segsOf, List.cons_append, List.nil_append, widthL, S0.width, List.length_cons, List.length_nil, true_and, and_true, implies_true, Bool.cond_true_left, Bool.cond_false_right, Bool.or_eq_true, Bool.and_eq_true, Bool.or_eq_false_iff, Bool.and_eq_false_iff, decide_eq_true_eq, decide_eq_false_iff_not, Bool.not_eq_true', Bool.not_eq_false', beq_iff_eq, bne_iff_ne, ne_eq, beq_eq_false_iff_ne, Bool.not_eq_true]; done) | (simp [sel, segsOf, List.cons_append, List.nil_append, widthL, S0.width]; done) | (simp only [sel, inK, segsOf, List.cons_append, List.nil_append, widthL, S0.width, List.length_cons, List.length_nil, true_and, and_true, implies_true, Bool.cond_true_left, Bool.cond_false_right, Bool.or_eq_true, Bool.and_eq_true, Bool.or_eq_false_iff, Bool.and_eq_false_iff, decide_eq_true_eq, decide_eq_false_iff_not, Bool.not_eq_true', Bool.not_eq_false', beq_iff_eq, bne_iff_ne, ne_eq, beq_eq_false_iff_ne, Bool.not_eq_true] at *; omega) | (simp only [sel, inK, segsOf, List.cons_append, List.nil_append, widthL, S0.width, List.length_cons, List.length_nil, true_and, and_true, implies_true, imp_self, Bool.cond_true_left, Bool.cond_false_right, Bool.or_eq_true, Bool.and_eq_true, Bool.or_eq_false_iff, Bool.and_eq_false_iff, decide_eq_true_eq, decide_eq_false_iff_not, Bool.not_eq_true', Bool.not_eq_false', beq_iff_eq, bne_iff_ne, ne_eq, beq_eq_false_iff_ne, Bool.not_eq_true]; (repeat' first | refine And.intro ?_ ?_ | intro _) <;> first | omega | assumption | exact True.intro | (simp_all; done) | (simp_all; omega)) | (simp [sel, inK, segsOf, List.cons_append, List.nil_append, widthL, S0.width] at *; omega)) | fail) ?_
      | (with_reducible show SW _ (Code.region _ _ true) _ _ _); refine rDrawC md0 hX mixed rfl rfl rfl rfl (by first | (first | exact True.intro | (simp only [sel, inK, segsOf, List.cons_append, List.nil_append, widthL, S0.width, List.length_cons, List.length_nil, true_and, and_true, implies_true, Bool.cond_true_left, Bool.cond_false_right, Bool.or_eq_true, Bool.and_eq_true, Bool.or_eq_false_iff, Bool.and_eq_false_iff, decide_eq_true_eq, decide_eq_false_iff_not, Bool.not_eq_true', Bool.not_eq_false', beq_iff_eq, bne_iff_ne, ne_eq, beq_eq_false_iff_ne, Bool.not_eq_true]; done) | (simp [sel, segsOf, List.cons_append, List.nil_append, widthL, S0.width]; done) | (simp only [sel, inK, segsOf, List.cons_append, List.nil_append, widthL, S0.width, List.length_cons, List.length_nil, true_and, and_true, implies_true, Bool.cond_true_left, Bool.cond_false_right, Bool.or_eq_true, Bool.and_eq_true, Bool.or_eq_false_iff, Bool.and_eq_false_iff, decide_eq_true_eq, decide_eq_false_iff_not, Bool.not_eq_true', Bool.not_eq_false', beq_iff_eq, bne_iff_ne, ne_eq, beq_eq_false_iff_ne, Bool.not_eq_true] at *; omega) | (simp only [sel, inK, segsOf, List.cons_append, List.nil_append, widthL, S0.width, List.length_cons, List.length_nil, true_and, and_true, implies_true, imp_self, Bool.cond_true_left, Bool.cond_false_right, Bool.or_eq_true, Bool.and_eq_true, Bool.or_eq_false_iff, Bool.and_eq_false_iff, decide_eq_true_eq, decide_eq_false_iff_not, Bool.not_eq_true', Bool.not_eq_false', beq_iff_eq, bne_iff_ne, ne_eq, beq_eq_false_iff_ne, Bool.not_eq_true]; (repeat' first | refine And.intro ?_ ?_ | intro _) <;> first | omega | assumption | exact True.intro | (simp_all; done) | (simp_all; omega)) | (simp [sel, inK, segsOf, List.cons_append, List.nil_append, widthL, S0.width] at *; omega)) | fail) ?_
      | (with_reducible show SW _ (Code.cond _ _ _) _ _ _); (refine rCond rfl rfl (by first | (first | exact True.intro | (simp only [sel, inK, segsOf, List.cons_append, List.nil_append, widthL, S0.width, List.length_cons, List.length_nil, true_and, and_true, implies_true, Bool.cond_true_left, Bool.cond_false_right, Bool.or_eq_true, Bool.and_eq_true, Bool.or_eq_false_iff, Bool.and_eq_false_iff, decide_eq_true_eq, decide_eq_false_iff_not, Bool.not_eq_true', Bool.not_eq_false', beq_iff_eq, bne_iff_ne, ne_eq, beq_eq_false_iff_ne, Bool.not_eq_true]; done) | (simp [sel, segsOf, List.cons_append, List.nil_append, widthL, S0.width]; done) | (simp only [sel, inK, segsOf, List.cons_append, List.nil_append, widthL, S0.width, List.length_cons, List.length_nil, true_and, and_true, implies_true, Bool.cond_true_left, Bool.cond_false_right, Bool.or_eq_true, Bool.and_eq_true, Bool.or_eq_false_iff, Bool.and_eq_false_iff, decide_eq_true_eq, decide_eq_false_iff_not, Bool.not_eq_true', Bool.not_eq_false', beq_iff_eq, bne_iff_ne, ne_eq, beq_eq_false_iff_ne, Bool.not_eq_true] at *; omega) | (simp only [sel, inK, segsOf, List.cons_append, List.nil_append, widthL, S0.width, List.length_cons, List.length_nil, true_and, and_true, implies_true, imp_self, Bool.cond_true_left, Bool.cond_false_right, Bool.or_eq_true, Bool.and_eq_true, Bool.or_eq_false_iff, Bool.and_eq_false_iff, decide_eq_true_eq, decide_eq_false_iff_not, Bool.not_eq_true', Bool.not_eq_false', beq_iff_eq, bne_iff_ne, ne_eq, beq_eq_false_iff_ne, Bool.not_eq_true]; (repeat' first | refine And.intro ?_ ?_ | intro _) <;> first | omega | assumption | exact True.intro | (simp_all; done) | (simp_all; omega)) | (simp [sel, inK, segsOf, List.cons_append, List.nil_append, widthL, S0.width] at *; omega)) | fail) (fun h => ?_) (fun h => ?_) <;> (try simp only [Bool.cond_true_left, Bool.cond_false_right, Bool.or_eq_true, Bool.and_eq_true, Bool.or_eq_false_iff, Bool.and_eq_false_iff, decide_eq_true_eq, decide_eq_false_iff_not, Bool.not_eq_true', Bool.not_eq_false', beq_iff_eq, bne_iff_ne, ne_eq, beq_eq_false_iff_ne, Bool.not_eq_true] at h) <;> (try (exact absurd ‹_› ‹_›)))
      | (with_reducible show SQ _ (Post _ _ _ _ _ _ _) .ret _ _); refine rDone hX rfl (by first | (first | exact True.intro | (simp only [sel, inK, segsOf, List.cons_append, List.nil_append, widthL, S0.width, List.length_cons, List.length_nil, true_and, and_true, implies_true, Bool.cond_true_left, Bool.cond_false_right, Bool.or_eq_true, Bool.and_eq_true, Bool.or_eq_false_iff, Bool.and_eq_false_iff, decide_eq_true_eq, decide_eq_false_iff_not, Bool.not_eq_true', Bool.not_eq_false', beq_iff_eq, bne_iff_ne, ne_eq, beq_eq_false_iff_ne, Bool.not_eq_true]; done) | (simp [sel, segsOf, List.cons_append, List.nil_append, widthL, S0.width]; done) | (simp only [sel, inK, segsOf, List.cons_append, List.nil_append, widthL, S0.width, List.length_cons, List.length_nil, true_and, and_true, implies_true, Bool.cond_true_left, Bool.cond_false_right, Bool.or_eq_true, Bool.and_eq_true, Bool.or_eq_false_iff, Bool.and_eq_false_iff, decide_eq_true_eq, decide_eq_false_iff_not, Bool.not_eq_true', Bool.not_eq_false', beq_iff_eq, bne_iff_ne, ne_eq, beq_eq_false_iff_ne, Bool.not_eq_true] at *; omega) | (simp only [sel, inK, segsOf, List.cons_append, List.nil_append, widthL, S0.width, List.length_cons, List.length_nil, true_and, and_true, implies_true, imp_self, Bool.cond_true_left, Bool.cond_false_right, Bool.or_eq_true, Bool.and_eq_true, Bool.or_eq_false_iff, Bool.and_eq_false_iff, decide_eq_true_eq, decide_eq_false_iff_not, Bool.not_eq_true', Bool.not_eq_false', beq_iff_eq, bne_iff_ne, ne_eq, beq_eq_false_iff_ne, Bool.not_eq_true]; (repeat' first | refine And.intro ?_ ?_ | intro _) <;> first | omega | assumption | exact True.intro | (simp_all; done) | (simp_all; omega)) | (simp [sel, inK, segsOf, List.cons_append, List.nil_append, widthL, S0.width] at *; omega)) | fail) (EnvLe.refl _) (by first | ((show bo true = bo _; refine congrArg bo ?_; simp)) | fail) rfl rfl rfl (by first | (intro i e h; cases h) | fail)
  · cases h
set_option maxRecDepth 100000 in
set_option maxHeartbeats 4000000 in
theorem ok14 : FnOK Try.prog gt0 14 spLaw14 := by
  refine fnOK_vals Try.func14 rfl (by kernel_rfl) tt_ok (ktCons ok47 (ktCons ok49 (ktCons ok17 (ktCons ok18 (ktCons ok20 (ktNil)))))) ?_
  intro args lk r h hp
  unfold spLaw14 at h
  split at h
  · rename_i bk dr le st tr ro su pi f s l
    cases h
    refine ⟨rfl, rfl, fun w0 M ε0 hX => ?_⟩
    have hd := drops f s l bk dr le st tr su
    have hlk := lacks_in dr su l
    have hck := checkS_iff f bk dr le st tr
    have hbi := bits_in f
    all_goals repeat' first
      | with_reducible refine rSeq ?_
      | with_reducible refine rThen ?_
      | with_reducible refine rBlock ?_
      | with_reducible refine rThenRet ?_
      | with_reducible refine rThenExit ?_
      | with_reducible refine rInRet ?_
      | with_reducible refine rInNormal ?_
      | with_reducible refine rInHit ?_
      | with_reducible refine rInMiss rfl ?_
      | with_reducible refine rRet ?_
      | with_reducible refine rExit ?_
      | with_reducible refine rSkip ?_
      | with_reducible refine rScope ?_
      | with_reducible refine rNoGotoRet ?_
      | with_reducible refine rNoGotoNormal ?_
      | (with_reducible show SW _ (Code.region _ _ false) _ _ _); refine rRegC md0 hX rfl rfl rfl (by first | (first | exact True.intro | (simp only [sel, inK, segsOf, List.cons_append, List.nil_append, widthL, S0.width, List.length_cons, List.length_nil, true_and, and_true, implies_true, Bool.cond_true_left, Bool.cond_false_right, Bool.or_eq_true, Bool.and_eq_true, Bool.or_eq_false_iff, Bool.and_eq_false_iff, decide_eq_true_eq, decide_eq_false_iff_not, Bool.not_eq_true', Bool.not_eq_false', beq_iff_eq, bne_iff_ne, ne_eq, beq_eq_false_iff_ne, Bool.not_eq_true]; done) | (simp [sel, segsOf, List.cons_append, List.nil_append, widthL, S0.width]; done) | (simp only [sel, inK, segsOf, List.cons_append, List.nil_append, widthL, S0.width, List.length_cons, List.length_nil, true_and, and_true, implies_true, Bool.cond_true_left, Bool.cond_false_right, Bool.or_eq_true, Bool.and_eq_true, Bool.or_eq_false_iff, Bool.and_eq_false_iff, decide_eq_true_eq, decide_eq_false_iff_not, Bool.not_eq_true', Bool.not_eq_false', beq_iff_eq, bne_iff_ne, ne_eq, beq_eq_false_iff_ne, Bool.not_eq_true] at *; omega) | (simp only [sel, inK, segsOf, List.cons_append, List.nil_append, widthL, S0.width, List.length_cons, List.length_nil, true_and, and_true, implies_true, imp_self, Bool.cond_true_left, Bool.cond_false_right, Bool.or_eq_true, Bool.and_eq_true, Bool.or_eq_false_iff, Bool.and_eq_false_iff, decide_eq_true_eq, decide_eq_false_iff_not, Bool.not_eq_true', Bool.not_eq_false', beq_iff_eq, bne_iff_ne, ne_eq, beq_eq_false_iff_ne, Bool.not_eq_true]; (repeat' first | refine And.intro ?_ ?_ | intro _) <;> first | omega | assumption | exact True.intro | (simp_all; done) | (simp_all; omega)) | (simp [sel, inK, segsOf, List.cons_append, List.nil_append, widthL, S0.width] at *; omega)) | fail) ?_
      | (with_reducible show SW _ (Code.region _ _ true) _ _ _); refine rDrawC md0 hX mixed rfl rfl rfl rfl (by first | (first | exact True.intro | (simp only [sel, inK, segsOf, List.cons_append, List.nil_append, widthL, S0.width, List.length_cons, List.length_nil, true_and, and_true, implies_true, Bool.cond_true_left, Bool.cond_false_right, Bool.or_eq_true, Bool.and_eq_true, Bool.or_eq_false_iff, Bool.and_eq_false_iff, decide_eq_true_eq, decide_eq_false_iff_not, Bool.not_eq_true', Bool.not_eq_false', beq_iff_eq, bne_iff_ne, ne_eq, beq_eq_false_iff_ne, Bool.not_eq_true]; done) | (simp [sel, segsOf, List.cons_append, List.nil_append, widthL, S0.width]; done) | (simp only [sel, inK, segsOf, List.cons_append, List.nil_append, widthL, S0.width, List.length_cons, List.length_nil, true_and, and_true, implies_true, Bool.cond_true_left, Bool.cond_false_right, Bool.or_eq_true, Bool.and_eq_true, Bool.or_eq_false_iff, Bool.and_eq_false_iff, decide_eq_true_eq, decide_eq_false_iff_not, Bool.not_eq_true', Bool.not_eq_false', beq_iff_eq, bne_iff_ne, ne_eq, beq_eq_false_iff_ne, Bool.not_eq_true] at *; omega) | (simp only [sel, inK, segsOf, List.cons_append, List.nil_append, widthL, S0.width, List.length_cons, List.length_nil, true_and, and_true, implies_true, imp_self, Bool.cond_true_left, Bool.cond_false_right, Bool.or_eq_true, Bool.and_eq_true, Bool.or_eq_false_iff, Bool.and_eq_false_iff, decide_eq_true_eq, decide_eq_false_iff_not, Bool.not_eq_true', Bool.not_eq_false', beq_iff_eq, bne_iff_ne, ne_eq, beq_eq_false_iff_ne, Bool.not_eq_true]; (repeat' first | refine And.intro ?_ ?_ | intro _) <;> first | omega | assumption | exact True.intro | (simp_all; done) | (simp_all; omega)) | (simp [sel, inK, segsOf, List.cons_append, List.nil_append, widthL, S0.width] at *; omega)) | fail) ?_
      | (with_reducible show SW _ (Code.cond _ _ _) _ _ _); (refine rCond rfl rfl (by first | (first | exact True.intro | (simp only [sel, inK, segsOf, List.cons_append, List.nil_append, widthL, S0.width, List.length_cons, List.length_nil, true_and, and_true, implies_true, Bool.cond_true_left, Bool.cond_false_right, Bool.or_eq_true, Bool.and_eq_true, Bool.or_eq_false_iff, Bool.and_eq_false_iff, decide_eq_true_eq, decide_eq_false_iff_not, Bool.not_eq_true', Bool.not_eq_false', beq_iff_eq, bne_iff_ne, ne_eq, beq_eq_false_iff_ne, Bool.not_eq_true]; done) | (simp [sel, segsOf, List.cons_append, List.nil_append, widthL, S0.width]; done) | (simp only [sel, inK, segsOf, List.cons_append, List.nil_append, widthL, S0.width, List.length_cons, List.length_nil, true_and, and_true, implies_true, Bool.cond_true_left, Bool.cond_false_right, Bool.or_eq_true, Bool.and_eq_true, Bool.or_eq_false_iff, Bool.and_eq_false_iff, decide_eq_true_eq, decide_eq_false_iff_not, Bool.not_eq_true', Bool.not_eq_false', beq_iff_eq, bne_iff_ne, ne_eq, beq_eq_false_iff_ne, Bool.not_eq_true] at *; omega) | (simp only [sel, inK, segsOf, List.cons_append, List.nil_append, widthL, S0.width, List.length_cons, List.length_nil, true_and, and_true, implies_true, imp_self, Bool.cond_true_left, Bool.cond_false_right, Bool.or_eq_true, Bool.and_eq_true, Bool.or_eq_false_iff, Bool.and_eq_false_iff, decide_eq_true_eq, decide_eq_false_iff_not, Bool.not_eq_true', Bool.not_eq_false', beq_iff_eq, bne_iff_ne, ne_eq, beq_eq_false_iff_ne, Bool.not_eq_true]; (repeat' first | refine And.intro ?_ ?_ | intro _) <;> first | omega | assumption | exact True.intro | (simp_all; done) | (simp_all; omega)) | (simp [sel, inK, segsOf, List.cons_append, List.nil_append, widthL, S0.width] at *; omega)) | fail) (fun h => ?_) (fun h => ?_) <;> (try simp only [Bool.cond_true_left, Bool.cond_false_right, Bool.or_eq_true, Bool.and_eq_true, Bool.or_eq_false_iff, Bool.and_eq_false_iff, decide_eq_true_eq, decide_eq_false_iff_not, Bool.not_eq_true', Bool.not_eq_false', beq_iff_eq, bne_iff_ne, ne_eq, beq_eq_false_iff_ne, Bool.not_eq_true] at h) <;> (try (exact absurd ‹_› ‹_›)))
      | (with_reducible show SQ _ (Post _ _ _ _ _ _ _) .ret _ _); refine rDone hX rfl (by first | (first | exact True.intro | (simp only [sel, inK, segsOf, List.cons_append, List.nil_append, widthL, S0.width, List.length_cons, List.length_nil, true_and, and_true, implies_true, Bool.cond_true_left, Bool.cond_false_right, Bool.or_eq_true, Bool.and_eq_true, Bool.or_eq_false_iff, Bool.and_eq_false_iff, decide_eq_true_eq, decide_eq_false_iff_not, Bool.not_eq_true', Bool.not_eq_false', beq_iff_eq, bne_iff_ne, ne_eq, beq_eq_false_iff_ne, Bool.not_eq_true]; done) | (simp [sel, segsOf, List.cons_append, List.nil_append, widthL, S0.width]; done) | (simp only [sel, inK, segsOf, List.cons_append, List.nil_append, widthL, S0.width, List.length_cons, List.length_nil, true_and, and_true, implies_true, Bool.cond_true_left, Bool.cond_false_right, Bool.or_eq_true, Bool.and_eq_true, Bool.or_eq_false_iff, Bool.and_eq_false_iff, decide_eq_true_eq, decide_eq_false_iff_not, Bool.not_eq_true', Bool.not_eq_false', beq_iff_eq, bne_iff_ne, ne_eq, beq_eq_false_iff_ne, Bool.not_eq_true] at *; omega) | (simp only [sel, inK, segsOf, List.cons_append, List.nil_append, widthL, S0.width, List.length_cons, List.length_nil, true_and, and_true, implies_true, imp_self, Bool.cond_true_left, Bool.cond_false_right, Bool.or_eq_true, Bool.and_eq_true, Bool.or_eq_false_iff, Bool.and_eq_false_iff, decide_eq_true_eq, decide_eq_false_iff_not, Bool.not_eq_true', Bool.not_eq_false', beq_iff_eq, bne_iff_ne, ne_eq, beq_eq_false_iff_ne, Bool.not_eq_true]; (repeat' first | refine And.intro ?_ ?_ | intro _) <;> first | omega | assumption | exact True.intro | (simp_all; done) | (simp_all; omega)) | (simp [sel, inK, segsOf, List.cons_append, List.nil_append, widthL, S0.width] at *; omega)) | fail) (EnvLe.refl _) (by first | (first | rfl | (exfalso; simp only [Bool.cond_true_left, Bool.cond_false_right, Bool.or_eq_true, Bool.and_eq_true, Bool.or_eq_false_iff, Bool.and_eq_false_iff, decide_eq_true_eq, decide_eq_false_iff_not, Bool.not_eq_true', Bool.not_eq_false', beq_iff_eq, bne_iff_ne, ne_eq, beq_eq_false_iff_ne, Bool.not_eq_true] at *; omega) | (show bo true = bo _; refine congrArg bo (Eq.symm ?_); simp only [Bool.or_false, and_true, true_and, Bool.cond_true_left, Bool.cond_false_right, Bool.or_eq_true, Bool.and_eq_true, Bool.or_eq_false_iff, Bool.and_eq_false_iff, decide_eq_true_eq, decide_eq_false_iff_not, Bool.not_eq_true', Bool.not_eq_false', beq_iff_eq, bne_iff_ne, ne_eq, beq_eq_false_iff_ne, Bool.not_eq_true] at *; obtain ⟨d1, d2, d3, d4⟩ := hd (by omega) (by omega) (by omega); cases su <;> simp_all <;> fail)) | fail) rfl rfl rfl (by first | (intro i e h; cases h) | fail)
  · cases h

end Go.Proofs.Ytmlnpfkbnldacaa
