/- Clipping. -/
import Derived.Test.YtmlnpfkbnldacaaProg
import Derived.Test.YtmlnpfkbnldacaaX26
set_option linter.unusedVariables false
set_option linter.unusedSimpArgs false
namespace Go.Proofs.Ytmlnpfkbnldacaa
open Go.X


def tt : TT := [(3, ⟨.int .i64, 1, 8, true, .c (.int .i64 0)⟩),
  (4, ⟨.bool, 1, 1, true, .c (.bool false)⟩),
  (5, ⟨.int .u8, 1, 1, true, .c (.int .u8 0)⟩),
  (23, ⟨.strct [(3, 0, 1), (3, 1, 1), (3, 2, 1), (3, 3, 1), (3, 4, 1), (4, 5, 1), (4, 6, 1), (4, 7, 1)], 8, 48, true, .agg [.cs [.int .i64 0, .int .i64 0, .int .i64 0, .int .i64 0, .int .i64 0, .bool false, .bool false, .bool false]]⟩),
  (35, ⟨.arr 4 3 1, 4, 32, true, .agg [.cs [.int .i64 0, .int .i64 0, .int .i64 0, .int .i64 0]]⟩),
  (39, ⟨.arr 64 3 1, 64, 512, true, .agg [.ints 64 .i64 (List.replicate 64 0)]⟩),
  (47, ⟨.arr 2 5 1, 2, 2, true, .agg [.cs [.int .u8 0, .int .u8 0]]⟩),
  (50, ⟨.int .i64, 1, 8, true, .c (.int .i64 0)⟩),
  (53, ⟨.arr 3 3 1, 3, 24, true, .agg [.cs [.int .i64 0, .int .i64 0, .int .i64 0]]⟩),
  (55, ⟨.sl 35 4 32, 1, 24, false, .c (.val (.slice none 0 0))⟩),
  (58, ⟨.strct [(3, 0, 1), (3, 1, 1), (3, 2, 1)], 3, 24, true, .agg [.cs [.int .i64 0, .int .i64 0, .int .i64 0]]⟩),
  (59, ⟨.sl 58 3 24, 1, 24, false, .c (.val (.slice none 0 0))⟩),
  (40, ⟨.arr 2 3 1, 2, 16, true, .agg [.cs [.int .i64 0, .int .i64 0]]⟩)]
theorem tt_ok : TtOk Try.prog tt := ttB_ok (by kernel_rfl)
theorem mixed : Try.prog.follows .mixedOrders = true := by kernel_rfl
abbrev gt0 : GT := []
abbrev md0 : Md := ⟨false, false⟩
abbrev i64 (n : Int) : SV := .v (.c (.int .i64 n))
abbrev bo (b : Bool) : SV := .v (.c (.bool b))

def clipS (n lo hi : Int) : Int := if hi < lo then lo else if n < lo then lo else if n > hi then hi else n
theorem clipS_in (n lo hi : Int) (h : lo ≤ hi) : lo ≤ clipS n lo hi ∧ clipS n lo hi ≤ hi := by
  unfold clipS
  repeat' split
  all_goals omega
def spClip : X.Spec := fun args _ => match args with
  | [.v (.c (.int .i64 a)), .v (.c (.int .i64 b)), .v (.c (.int .i64 c))] => some ⟨True, i64 (clipS a b c), [], []⟩
  | _ => none
set_option maxRecDepth 100000 in
set_option maxHeartbeats 4000000 in
theorem ok51 : FnOK Try.prog gt0 51 spClip := by
  refine fnOK_vals Try.func51 rfl (by kernel_rfl) tt_ok (ktNil) ?_
  intro args lk r h hp
  unfold spClip at h
  split at h
  · rename_i a b c
    cases h
    refine ⟨rfl, rfl, fun w0 M ε0 hX => ?_⟩
    all_goals repeat' first
      | with_reducible refine rSeq ?_
      | with_reducible refine rThen ?_
      | with_reducible refine rBlock ?_
      | with_reducible refine rThenRet ?_
      | with_reducible refine rThenExit ?_
      | with_reducible refine rInRet ?_
      | with_reducible refine rInNormal ?_
      | with_reducible refine rInHit ?_
      | with_reducible refine rInMiss rfl ?_
      | with_reducible refine rRet ?_
      | with_reducible refine rExit ?_
      | with_reducible refine rSkip ?_
      | with_reducible refine rScope ?_
      | with_reducible refine rNoGotoRet ?_
      | with_reducible refine rNoGotoNormal ?_
      | (with_reducible show SW _ (Code.region _ _ false) _ _ _); refine rRegC md0 hX rfl rfl rfl (by first | (first | exact True.intro | (simp only [sel, inK, segsOf, List.cons_append, List.nil_append, widthL, S0.width, List.length_cons, List.length_nil, true_and, and_true, implies_true, Bool.cond_true_left, Bool.cond_false_right, Bool.or_eq_true, Bool.and_eq_true, Bool.or_eq_false_iff, Bool.and_eq_false_iff, decide_eq_true_eq, decide_eq_false_iff_not, Bool.not_eq_true', Bool.not_eq_false', beq_iff_eq, bne_iff_ne, ne_eq, beq_eq_false_iff_ne, Bool.not_eq_true]; done) | (simp [sel, segsOf, List.cons_append, List.nil_append, widthL, S0.width]; done) | (simp only [sel, inK, segsOf, List.cons_append, List.nil_append, widthL, S0.width, List.length_cons, List.length_nil, true_and, and_true, implies_true, Bool.cond_true_left, Bool.cond_false_right, Bool.or_eq_true, Bool.and_eq_true, Bool.or_eq_false_iff, Bool.and_eq_false_iff, decide_eq_true_eq, decide_eq_false_iff_not, Bool.not_eq_true', Bool.not_eq_false', beq_iff_eq, bne_iff_ne, ne_eq, beq_eq_false_iff_ne, Bool.not_eq_true] at *; omega) | (simp only [sel, inK, segsOf, List.cons_append, List.nil_append, widthL, S0.width, List.length_cons, List.length_nil, true_and, and_true, implies_true, imp_self, Bool.cond_true_left, Bool.cond_false_right, Bool.or_eq_true, Bool.and_eq_true, Bool.or_eq_false_iff, Bool.and_eq_false_iff, decide_eq_true_eq, decide_eq_false_iff_not, Bool.not_eq_true', Bool.not_eq_false', beq_iff_eq, bne_iff_ne, ne_eq, beq_eq_false_iff_ne, Bool.not_eq_true]; (repeat' first | refine And.intro ?_ ?_ | intro _) <;> first | omega | assumption | exact True.intro | (simp_all; done) | (simp_all; omega)) | (simp [sel, inK, segsOf, List.cons_append, List.nil_append, widthL, S0.width] at *; omega)) | fail) ?_
      | (with_reducible show SW _ (Code.region _ _ true) _ _ _); refine rDrawC md0 hX mixed rfl rfl rfl rfl (by first | (first | exact True.intro | (simp only [sel, inK, segsOf, List.cons_append, List.nil_append, widthL, S0.width, List.length_cons, List.length_nil, true_and, and_true, implies_true, Bool.cond_true_left, Bool.cond_false_right, Bool.or_eq_true, Bool.and_eq_true, Bool.or_eq_false_iff, Bool.and_eq_false_iff, decide_eq_true_eq, decide_eq_false_iff_not, Bool.not_eq_true', Bool.not_eq_false', beq_iff_eq, bne_iff_ne, ne_eq, beq_eq_false_iff_ne, Bool.not_eq_true]; done) | (simp [sel, segsOf, List.cons_append, List.nil_append, widthL, S0.width]; done) | (simp only [sel, inK, segsOf, List.cons_append, List.nil_append, widthL, S0.width, List.length_cons, List.length_nil, true_and, and_true, implies_true, Bool.cond_true_left, Bool.cond_false_right, Bool.or_eq_true, Bool.and_eq_true, Bool.or_eq_false_iff, Bool.and_eq_false_iff, decide_eq_true_eq, decide_eq_false_iff_not, Bool.not_eq_true', Bool.not_eq_false', beq_iff_eq, bne_iff_ne, ne_eq, beq_eq_false_iff_ne, Bool.not_eq_true] at *; omega) | (simp only [sel, inK, segsOf, List.cons_append, List.nil_append, widthL, S0.width, List.length_cons, List.length_nil, true_and, and_true, implies_true, imp_self, Bool.cond_true_left, Bool.cond_false_right, Bool.or_eq_true, Bool.and_eq_true, Bool.or_eq_false_iff, Bool.and_eq_false_iff, decide_eq_true_eq, decide_eq_false_iff_not, Bool.not_eq_true', Bool.not_eq_false', beq_iff_eq, bne_iff_ne, ne_eq, beq_eq_false_iff_ne, Bool.not_eq_true]; (repeat' first | refine And.intro ?_ ?_ | intro _) <;> first | omega | assumption | exact True.intro | (simp_all; done) | (simp_all; omega)) | (simp [sel, inK, segsOf, List.cons_append, List.nil_append, widthL, S0.width] at *; omega)) | fail) ?_
      | (with_reducible show SW _ (Code.cond _ _ _) _ _ _); (refine rCond rfl rfl (by first | (first | exact True.intro | (simp only [sel, inK, segsOf, List.cons_append, List.nil_append, widthL, S0.width, List.length_cons, List.length_nil, true_and, and_true, implies_true, Bool.cond_true_left, Bool.cond_false_right, Bool.or_eq_true, Bool.and_eq_true, Bool.or_eq_false_iff, Bool.and_eq_false_iff, decide_eq_true_eq, decide_eq_false_iff_not, Bool.not_eq_true', Bool.not_eq_false', beq_iff_eq, bne_iff_ne, ne_eq, beq_eq_false_iff_ne, Bool.not_eq_true]; done) | (simp [sel, segsOf, List.cons_append, List.nil_append, widthL, S0.width]; done) | (simp only [sel, inK, segsOf, List.cons_append, List.nil_append, widthL, S0.width, List.length_cons, List.length_nil, true_and, and_true, implies_true, Bool.cond_true_left, Bool.cond_false_right, Bool.or_eq_true, Bool.and_eq_true, Bool.or_eq_false_iff, Bool.and_eq_false_iff, decide_eq_true_eq, decide_eq_false_iff_not, Bool.not_eq_true', Bool.not_eq_false', beq_iff_eq, bne_iff_ne, ne_eq, beq_eq_false_iff_ne, Bool.not_eq_true] at *; omega) | (simp only [sel, inK, segsOf, List.cons_append, List.nil_append, widthL, S0.width, List.length_cons, List.length_nil, true_and, and_true, implies_true, imp_self, Bool.cond_true_left, Bool.cond_false_right, Bool.or_eq_true, Bool.and_eq_true, Bool.or_eq_false_iff, Bool.and_eq_false_iff, decide_eq_true_eq, decide_eq_false_iff_not, Bool.not_eq_true', Bool.not_eq_false', beq_iff_eq, bne_iff_ne, ne_eq, beq_eq_false_iff_ne, Bool.not_eq_true]; (repeat' first | refine And.intro ?_ ?_ | intro _) <;> first | omega | assumption | exact True.intro | (simp_all; done) | (simp_all; omega)) | (simp [sel, inK, segsOf, List.cons_append, List.nil_append, widthL, S0.width] at *; omega)) | fail) (fun h => ?_) (fun h => ?_) <;> (try simp only [Bool.cond_true_left, Bool.cond_false_right, Bool.or_eq_true, Bool.and_eq_true, Bool.or_eq_false_iff, Bool.and_eq_false_iff, decide_eq_true_eq, decide_eq_false_iff_not, Bool.not_eq_true', Bool.not_eq_false', beq_iff_eq, bne_iff_ne, ne_eq, beq_eq_false_iff_ne, Bool.not_eq_true] at h) <;> (try (exact absurd ‹_› ‹_›)))
      | (with_reducible show SQ _ (Post _ _ _ _ _ _ _) .ret _ _); refine rDone hX rfl (by first | (first | exact True.intro | (simp only [sel, inK, segsOf, List.cons_append, List.nil_append, widthL, S0.width, List.length_cons, List.length_nil, true_and, and_true, implies_true, Bool.cond_true_left, Bool.cond_false_right, Bool.or_eq_true, Bool.and_eq_true, Bool.or_eq_false_iff, Bool.and_eq_false_iff, decide_eq_true_eq, decide_eq_false_iff_not, Bool.not_eq_true', Bool.not_eq_false', beq_iff_eq, bne_iff_ne, ne_eq, beq_eq_false_iff_ne, Bool.not_eq_true]; done) | (simp [sel, segsOf, List.cons_append, List.nil_append, widthL, S0.width]; done) | (simp only [sel, inK, segsOf, List.cons_append, List.nil_append, widthL, S0.width, List.length_cons, List.length_nil, true_and, and_true, implies_true, Bool.cond_true_left, Bool.cond_false_right, Bool.or_eq_true, Bool.and_eq_true, Bool.or_eq_false_iff, Bool.and_eq_false_iff, decide_eq_true_eq, decide_eq_false_iff_not, Bool.not_eq_true', Bool.not_eq_false', beq_iff_eq, bne_iff_ne, ne_eq, beq_eq_false_iff_ne, Bool.not_eq_true] at *; omega) | (simp only [sel, inK, segsOf, List.cons_append, List.nil_append, widthL, S0.width, List.length_cons, List.length_nil, true_and, and_true, implies_true, imp_self, Bool.cond_true_left, Bool.cond_false_right, Bool.or_eq_true, Bool.and_eq_true, Bool.or_eq_false_iff, Bool.and_eq_false_iff, decide_eq_true_eq, decide_eq_false_iff_not, Bool.not_eq_true', Bool.not_eq_false', beq_iff_eq, bne_iff_ne, ne_eq, beq_eq_false_iff_ne, Bool.not_eq_true]; (repeat' first | refine And.intro ?_ ?_ | intro _) <;> first | omega | assumption | exact True.intro | (simp_all; done) | (simp_all; omega)) | (simp [sel, inK, segsOf, List.cons_append, List.nil_append, widthL, S0.width] at *; omega)) | fail) (EnvLe.refl _) (by first | (first | rfl | (refine congrArg i64 ?_; simp only [clipS]; (repeat' split) <;> first | rfl | omega)) | fail) rfl rfl rfl (by first | (intro i e h; cases h) | fail)
  · cases h
set_option maxRecDepth 100000 in
set_option maxHeartbeats 4000000 in
theorem ok50 : FnOK Try.prog gt0 50 spClip := by
  refine fnOK_vals Try.func50 rfl (by kernel_rfl) tt_ok (ktNil) ?_
  intro args lk r h hp
  unfold spClip at h
  split at h
  · rename_i a b c
    cases h
    refine ⟨rfl, rfl, fun w0 M ε0 hX => ?_⟩
    all_goals repeat' first
      | with_reducible refine rSeq ?_
      | with_reducible refine rThen ?_
      | with_reducible refine rBlock ?_
      | with_reducible refine rThenRet ?_
      | with_reducible refine rThenExit ?_
      | with_reducible refine rInRet ?_
      | with_reducible refine rInNormal ?_
      | with_reducible refine rInHit ?_
      | with_reducible refine rInMiss rfl ?_
      | with_reducible refine rRet ?_
      | with_reducible refine rExit ?_
      | with_reducible refine rSkip ?_
      | with_reducible refine rScope ?_
      | with_reducible refine rNoGotoRet ?_
      | with_reducible refine rNoGotoNormal ?_
      | (with_reducible show SW _ (Code.region _ _ false) _ _ _); refine rRegC md0 hX rfl rfl rfl (by first | (first | exact True.intro | (simp only [sel, inK, segsOf, List.cons_append, List.nil_append, widthL, S0.width, List.length_cons, List.length_nil, true_and, and_true, implies_true, Bool.cond_true_left, Bool.cond_false_right, Bool.or_eq_true, Bool.and_eq_true, Bool.or_eq_false_iff, Bool.and_eq_false_iff, decide_eq_true_eq, decide_eq_false_iff_not, Bool.not_eq_true', Bool.not_eq_false', beq_iff_eq, bne_iff_ne, ne_eq, beq_eq_false_iff_ne, Bool.not_eq_true]; done) | (simp [sel, segsOf, List.cons_append, List.nil_append, widthL, S0.width]; done) | (simp only [sel, inK, segsOf, List.cons_append, List.nil_append, widthL, S0.width, List.length_cons, List.length_nil, true_and, and_true, implies_true, Bool.cond_true_left, Bool.cond_false_right, Bool.or_eq_true, Bool.and_eq_true, Bool.or_eq_false_iff, Bool.and_eq_false_iff, decide_eq_true_eq, decide_eq_false_iff_not, Bool.not_eq_true', Bool.not_eq_false', beq_iff_eq, bne_iff_ne, ne_eq, beq_eq_false_iff_ne, Bool.not_eq_true] at *; omega) | (simp only [sel, inK, segsOf, List.cons_append, List.nil_append, widthL, S0.width, List.length_cons, List.length_nil, true_and, and_true, implies_true, imp_self, Bool.cond_true_left, Bool.cond_false_right, Bool.or_eq_true, Bool.and_eq_true, Bool.or_eq_false_iff, Bool.and_eq_false_iff, decide_eq_true_eq, decide_eq_false_iff_not, Bool.not_eq_true', Bool.not_eq_false', beq_iff_eq, bne_iff_ne, ne_eq, beq_eq_false_iff_ne, Bool.not_eq_true]; (repeat' first | refine And.intro ?_ ?_ | intro _) <;> first | omega | assumption | exact True.intro | (simp_all; done) | (simp_all; omega)) | (simp [sel, inK, segsOf, List.cons_append, List.nil_append, widthL, S0.width] at *; omega)) | fail) ?_
      | (with_reducible show SW _ (Code.region _ _ true) _ _ _); refine rDrawC md0 hX mixed rfl rfl rfl rfl (by first | (first | exact True.intro | (simp only [sel, inK, segsOf, List.cons_append, List.nil_append, widthL, S0.width, List.length_cons, List.length_nil, true_and, and_true, implies_true, Bool.cond_true_left, Bool.cond_false_right, Bool.or_eq_true, Bool.and_eq_true, Bool.or_eq_false_iff, Bool.and_eq_false_iff, decide_eq_true_eq, decide_eq_false_iff_not, Bool.not_eq_true', Bool.not_eq_false', beq_iff_eq, bne_iff_ne, ne_eq, beq_eq_false_iff_ne, Bool.not_eq_true]; done) | (simp [sel, segsOf, List.cons_append, List.nil_append, widthL, S0.width]; done) | (simp only [sel, inK, segsOf, List.cons_append, List.nil_append, widthL, S0.width, List.length_cons, List.length_nil, true_and, and_true, implies_true, Bool.cond_true_left, Bool.cond_false_right, Bool.or_eq_true, Bool.and_eq_true, Bool.or_eq_false_iff, Bool.and_eq_false_iff, decide_eq_true_eq, decide_eq_false_iff_not, Bool.not_eq_true', Bool.not_eq_false', beq_iff_eq, bne_iff_ne, ne_eq, beq_eq_false_iff_ne, Bool.not_eq_true] at *; omega) | (simp only [sel, inK, segsOf, List.cons_append, List.nil_append, widthL, S0.width, List.length_cons, List.length_nil, true_and, and_true, implies_true, imp_self, Bool.cond_true_left, Bool.cond_false_right, Bool.or_eq_true, Bool.and_eq_true, Bool.or_eq_false_iff, Bool.and_eq_false_iff, decide_eq_true_eq, decide_eq_false_iff_not, Bool.not_eq_true', Bool.not_eq_false', beq_iff_eq, bne_iff_ne, ne_eq, beq_eq_false_iff_ne, Bool.not_eq_true]; (repeat' first | refine And.intro ?_ ?_ | intro _) <;> first | omega | assumption | exact True.intro | (simp_all; done) | (simp_all; omega)) | (simp [sel, inK, segsOf, List.cons_append, List.nil_append, widthL, S0.width] at *; omega)) | fail) ?_
      | (with_reducible show SW _ (Code.cond _ _ _) _ _ _); (refine rCond rfl rfl (by first | (first | exact True.intro | (simp only [sel, inK, segsOf, List.cons_append, List.nil_append, widthL, S0.width, List.length_cons, List.length_nil, true_and, and_true, implies_true, Bool.cond_true_left, Bool.cond_false_right, Bool.or_eq_true, Bool.and_eq_true, Bool.or_eq_false_iff, Bool.and_eq_false_iff, decide_eq_true_eq, decide_eq_false_iff_not, Bool.not_eq_true', Bool.not_eq_false', beq_iff_eq, bne_iff_ne, ne_eq, beq_eq_false_iff_ne, Bool.not_eq_true]; done) | (simp [sel, segsOf, List.cons_append, List.nil_append, widthL, S0.width]; done) | (simp only [sel, inK, segsOf, List.cons_append, List.nil_append, widthL, S0.width, List.length_cons, List.length_nil, true_and, and_true, implies_true, Bool.cond_true_left, Bool.cond_false_right, Bool.or_eq_true, Bool.and_eq_true, Bool.or_eq_false_iff, Bool.and_eq_false_iff, decide_eq_true_eq, decide_eq_false_iff_not, Bool.not_eq_true', Bool.not_eq_false', beq_iff_eq, bne_iff_ne, ne_eq, beq_eq_false_iff_ne, Bool.not_eq_true] at *; omega) | (simp only [sel, inK, segsOf, List.cons_append, List.nil_append, widthL, S0.width, List.length_cons, List.length_nil, true_and, and_true, implies_true, imp_self, Bool.cond_true_left, Bool.cond_false_right, Bool.or_eq_true, Bool.and_eq_true, Bool.or_eq_false_iff, Bool.and_eq_false_iff, decide_eq_true_eq, decide_eq_false_iff_not, Bool.not_eq_true', Bool.not_eq_false', beq_iff_eq, bne_iff_ne, ne_eq, beq_eq_false_iff_ne, Bool.not_eq_true]; (repeat' first | refine And.intro ?_ ?_ | intro _) <;> first | omega | assumption | exact True.intro | (simp_all; done) | (simp_all; omega)) | (simp [sel, inK, segsOf, List.cons_append, List.nil_append, widthL, S0.width] at *; omega)) | fail) (fun h => ?_) (fun h => ?_) <;> (try simp only [Bool.cond_true_left, Bool.cond_false_right, Bool.or_eq_true, Bool.and_eq_true, Bool.or_eq_false_iff, Bool.and_eq_false_iff, decide_eq_true_eq, decide_eq_false_iff_not, Bool.not_eq_true', Bool.not_eq_false', beq_iff_eq, bne_iff_ne, ne_eq, beq_eq_false_iff_ne, Bool.not_eq_true] at h) <;> (try (exact absurd ‹_› ‹_›)))
      | (with_reducible show SQ _ (Post _ _ _ _ _ _ _) .ret _ _); refine rDone hX rfl (by first | (first | exact True.intro | (simp only [sel, inK, segsOf, List.cons_append, List.nil_append, widthL, S0.width, List.length_cons, List.length_nil, true_and, and_true, implies_true, Bool.cond_true_left, Bool.cond_false_right, Bool.or_eq_true, Bool.and_eq_true, Bool.or_eq_false_iff, Bool.and_eq_false_iff, decide_eq_true_eq, decide_eq_false_iff_not, Bool.not_eq_true', Bool.not_eq_false', beq_iff_eq, bne_iff_ne, ne_eq, beq_eq_false_iff_ne, Bool.not_eq_true]; done) | (simp [sel, segsOf, List.cons_append, List.nil_append, widthL, S0.width]; done) | (simp only [sel, inK, segsOf, List.cons_append, List.nil_append, widthL, S0.width, List.length_cons, List.length_nil, true_and, and_true, implies_true, Bool.cond_true_left, Bool.cond_false_right, Bool.or_eq_true, Bool.and_eq_true, Bool.or_eq_false_iff, Bool.and_eq_false_iff, decide_eq_true_eq, decide_eq_false_iff_not, Bool.not_eq_true', Bool.not_eq_false', beq_iff_eq, bne_iff_ne, ne_eq, beq_eq_false_iff_ne, Bool.not_eq_true] at *; omega) | (simp only [sel, inK, segsOf, List.cons_append, List.nil_append, widthL, S0.width, List.length_cons, List.length_nil, true_and, and_true, implies_true, imp_self, Bool.cond_true_left, Bool.cond_false_right, Bool.or_eq_true, Bool.and_eq_true, Bool.or_eq_false_iff, Bool.and_eq_false_iff, decide_eq_true_eq, decide_eq_false_iff_not, Bool.not_eq_true', Bool.not_eq_false', beq_iff_eq, bne_iff_ne, ne_eq, beq_eq_false_iff_ne, Bool.not_eq_true]; (repeat' first | refine And.intro ?_ ?_ | intro _) <;> first | omega | assumption | exact True.intro | (simp_all; done) | (simp_all; omega)) | (simp [sel, inK, segsOf, List.cons_append, List.nil_append, widthL, S0.width] at *; omega)) | fail) (EnvLe.refl _) (by first | (first | rfl | (refine congrArg i64 ?_; simp only [clipS]; (repeat' split) <;> first | rfl | omega)) | fail) rfl rfl rfl (by first | (intro i e h; cases h) | fail)
  · cases h

end Go.Proofs.Ytmlnpfkbnldacaa
