/- The law of scaled blocks. -/
import Derived.Test.YtmlnpfkbnldacaaA2
set_option linter.unusedVariables false
set_option linter.unusedSimpArgs false
namespace Go.Proofs.Ytmlnpfkbnldacaa
open Go.X


def refB (xs : List Int) (q : Int) (intra : Bool) (dc : Int) (i : Nat) : List Int :=
  if intra = true ∧ 0 < i then (fillTo (fun x => scal x q) xs i).set 0 (8 * clipS dc 1 254) else fillTo (fun x => scal x q) xs i
theorem refB_zero (xs : List Int) (q : Int) (intra : Bool) (dc : Int) : refB xs q intra dc 0 = List.replicate 64 0 := by
  simp [refB, fillTo_zero]
theorem refB_set (xs : List Int) (q : Int) (intra : Bool) (dc : Int) (i : Nat) (hl : xs.length = 64) (hi : i < 64) (h : ¬ ((i : Int) = 0 ∧ intra = true)) :
    (refB xs q intra dc i).set (Int.toNat (i : Int)) (scal (xs.getD (Int.toNat (i : Int)) 0) q) = refB xs q intra dc (i + 1) := by
  have := fillTo_set (fun x => scal x q) xs i hl hi
  unfold refB
  by_cases h1 : intra = true
  · have h0 : 0 < i := by
      rcases Nat.eq_zero_or_pos i with h2 | h2
      · subst h2; exact absurd ⟨rfl, h1⟩ h
      · exact h2
    rw [if_pos ⟨h1, h0⟩, if_pos ⟨h1, by omega⟩, ← this, Int.toNat_natCast, List.set_comm _ _ (by omega)]
  · rw [if_neg (by simp [h1]), if_neg (by simp [h1]), this]
theorem refB_dc (xs : List Int) (q : Int) (intra : Bool) (dc : Int) (i : Nat) (hl : xs.length = 64) (hi : (i : Int) = 0) (h : intra = true) :
    ((refB xs q intra dc i).set (Int.toNat (i : Int)) (scal (xs.getD (Int.toNat (i : Int)) 0) q)).set (Int.toNat (i : Int)) (8 * clipS dc 1 254) = refB xs q intra dc (i + 1) := by
  have h0 : i = 0 := by omega
  subst h0
  have := fillTo_set (fun x => scal x q) xs 0 hl (by omega)
  unfold refB
  rw [if_neg (by simp), if_pos ⟨h, by omega⟩, this]
  rfl
theorem refB_end (xs : List Int) (q : Int) (intra : Bool) (dc : Int) (i : Nat) (hl : xs.length = 64) (hi : 64 ≤ i) : refB xs q intra dc i = scalB xs q intra dc := by
  unfold refB scalB
  rw [fillTo_end _ _ _ hl hi]
  by_cases h1 : intra = true
  · rw [if_pos ⟨h1, by omega⟩, if_pos h1]
  · rw [if_neg (by simp [h1]), if_neg h1]
set_option maxRecDepth 100000 in
theorem ok37 : FnOK Try.prog gt0 37 spScalB := by
  refine fnOK_vals Try.func37 rfl (by kernel_rfl) tt_ok (ktCons ok22 (ktCons ok24 (ktNil))) ?_
  intro args lk r h hp
  unfold spScalB at h
  split at h
  · rename_i xs q intra dc
    cases h
    refine ⟨rfl, rfl, fun w0 M ε0 hX => ?_⟩
    repeat' first
      | with_reducible refine rSeq ?_
      | with_reducible refine rThen ?_
      | with_reducible refine rBlock ?_
      | with_reducible refine rThenRet ?_
      | with_reducible refine rThenExit ?_
      | with_reducible refine rInRet ?_
      | with_reducible refine rInNormal ?_
      | with_reducible refine rInHit ?_
      | with_reducible refine rInMiss rfl ?_
      | with_reducible refine rRet ?_
      | with_reducible refine rExit ?_
      | with_reducible refine rSkip ?_
      | with_reducible refine rScope ?_
      | with_reducible refine rNoGotoRet ?_
      | with_reducible refine rNoGotoNormal ?_
      | (with_reducible show SW _ (Code.region _ _ false) _ _ _); refine rRegC md0 hX rfl rfl rfl (by first | trivial | (simp only [sel, inK, true_and, and_true, implies_true, Bool.cond_true_left, Bool.cond_false_right, Bool.or_eq_true, Bool.and_eq_true, Bool.or_eq_false_iff, Bool.and_eq_false_iff, decide_eq_true_eq, decide_eq_false_iff_not, Bool.not_eq_true', Bool.not_eq_false', beq_iff_eq, bne_iff_ne, ne_eq, beq_eq_false_iff_ne, Bool.not_eq_true]; done) | (simp [sel]; done) | (simp only [sel, inK, true_and, and_true, implies_true, Bool.cond_true_left, Bool.cond_false_right, Bool.or_eq_true, Bool.and_eq_true, Bool.or_eq_false_iff, Bool.and_eq_false_iff, decide_eq_true_eq, decide_eq_false_iff_not, Bool.not_eq_true', Bool.not_eq_false', beq_iff_eq, bne_iff_ne, ne_eq, beq_eq_false_iff_ne, Bool.not_eq_true] at *; omega) | (simp [sel, inK] at *; omega)) ?_
      | (with_reducible show SW _ (Code.region _ _ true) _ _ _); refine rDrawC md0 hX mixed rfl rfl rfl rfl (by first | trivial | (simp only [sel, inK, true_and, and_true, implies_true, Bool.cond_true_left, Bool.cond_false_right, Bool.or_eq_true, Bool.and_eq_true, Bool.or_eq_false_iff, Bool.and_eq_false_iff, decide_eq_true_eq, decide_eq_false_iff_not, Bool.not_eq_true', Bool.not_eq_false', beq_iff_eq, bne_iff_ne, ne_eq, beq_eq_false_iff_ne, Bool.not_eq_true]; done) | (simp [sel]; done) | (simp only [sel, inK, true_and, and_true, implies_true, Bool.cond_true_left, Bool.cond_false_right, Bool.or_eq_true, Bool.and_eq_true, Bool.or_eq_false_iff, Bool.and_eq_false_iff, decide_eq_true_eq, decide_eq_false_iff_not, Bool.not_eq_true', Bool.not_eq_false', beq_iff_eq, bne_iff_ne, ne_eq, beq_eq_false_iff_ne, Bool.not_eq_true] at *; omega) | (simp [sel, inK] at *; omega)) ?_
      | (with_reducible show SW _ (Code.cond _ _ _) _ _ _); (refine rCond rfl rfl (by first | trivial | (simp only [sel, inK, true_and, and_true, implies_true, Bool.cond_true_left, Bool.cond_false_right, Bool.or_eq_true, Bool.and_eq_true, Bool.or_eq_false_iff, Bool.and_eq_false_iff, decide_eq_true_eq, decide_eq_false_iff_not, Bool.not_eq_true', Bool.not_eq_false', beq_iff_eq, bne_iff_ne, ne_eq, beq_eq_false_iff_ne, Bool.not_eq_true]; done) | (simp [sel]; done) | (simp only [sel, inK, true_and, and_true, implies_true, Bool.cond_true_left, Bool.cond_false_right, Bool.or_eq_true, Bool.and_eq_true, Bool.or_eq_false_iff, Bool.and_eq_false_iff, decide_eq_true_eq, decide_eq_false_iff_not, Bool.not_eq_true', Bool.not_eq_false', beq_iff_eq, bne_iff_ne, ne_eq, beq_eq_false_iff_ne, Bool.not_eq_true] at *; omega) | (simp [sel, inK] at *; omega)) (fun h => ?_) (fun h => ?_) <;> (try simp only [Bool.cond_true_left, Bool.cond_false_right, Bool.or_eq_true, Bool.and_eq_true, Bool.or_eq_false_iff, Bool.and_eq_false_iff, decide_eq_true_eq, decide_eq_false_iff_not, Bool.not_eq_true', Bool.not_eq_false', beq_iff_eq, bne_iff_ne, ne_eq, beq_eq_false_iff_ne, Bool.not_eq_true] at h) <;> try (exact absurd ‹_› ‹_›))
      | (with_reducible show SQ _ (Post _ _ _ _ _ _ _) .ret _ _); refine rDone hX rfl (by first | trivial | (simp only [sel, inK, true_and, and_true, implies_true, Bool.cond_true_left, Bool.cond_false_right, Bool.or_eq_true, Bool.and_eq_true, Bool.or_eq_false_iff, Bool.and_eq_false_iff, decide_eq_true_eq, decide_eq_false_iff_not, Bool.not_eq_true', Bool.not_eq_false', beq_iff_eq, bne_iff_ne, ne_eq, beq_eq_false_iff_ne, Bool.not_eq_true]; done) | (simp [sel]; done) | (simp only [sel, inK, true_and, and_true, implies_true, Bool.cond_true_left, Bool.cond_false_right, Bool.or_eq_true, Bool.and_eq_true, Bool.or_eq_false_iff, Bool.and_eq_false_iff, decide_eq_true_eq, decide_eq_false_iff_not, Bool.not_eq_true', Bool.not_eq_false', beq_iff_eq, bne_iff_ne, ne_eq, beq_eq_false_iff_ne, Bool.not_eq_true] at *; omega) | (simp [sel, inK] at *; omega)) (EnvLe.refl _) (by rfl) rfl rfl rfl (by intro i e h; cases h)
    refine rLoop0 (fun i : {i : Nat // i ≤ 64} => ⟨[(1, i64 q), (2, bo intra), (3, i64 dc), (4, .v (.c (.ptr 0 0 0 0 0 0))), (8, .v (.c (.ptr 1 0 0 0 0 0))), (9, .v (.c (.ptr 2 0 0 0 0 0))), (10, i64 (i.1 : Int))],
      [(2, .mem true 39 none (.flat [.ints 64 .i64 (refB xs q intra dc i.1)])), (1, .mem true 39 none (.flat [.ints 64 .i64 (List.replicate 64 0)])), (0, .mem true 39 none (.flat [.ints 64 .i64 xs]))], 3⟩) (fun i => 64 - i.1) ⟨0, by omega⟩ (by refine Le.mk ?_ ?_ rfl <;> (repeat' first | exact RLe.nil | refine RLe.cons rfl ?_ ?_ | exact BLe.nil | refine BLe.cons rfl ?_ ?_) <;> (first | exact SVle.refl _ | exact Ele.refl _ | exact SVle.int (by first | omega | (dsimp only; omega)) | exact SVle.bool (by rfl) | exact SVle.ints (by first | rfl | exact (refB_zero _ _ _ _).symm | exact refB_set xs q intra dc _ hp (by first | omega | (dsimp only; omega)) (by dsimp only; rintro ⟨g1, g2⟩; rcases h with h | h <;> first | omega | simp_all) | exact refB_dc xs q intra dc _ hp (by exact h.1) (by exact h.2)) | exact Ele.mem (Ble.ints (by first | rfl | exact (refB_zero _ _ _ _).symm | exact refB_set xs q intra dc _ hp (by first | omega | (dsimp only; omega)) (by dsimp only; rintro ⟨g1, g2⟩; rcases h with h | h <;> first | omega | simp_all) | exact refB_dc xs q intra dc _ hp (by exact h.1) (by exact h.2))))) ?_
    rintro ⟨i, hi⟩
    repeat' first
      | (with_reducible show SQ _ (Exit.then (Again _ _ _ _ _) _) .normal _ _); refine rAgain0 ⟨i + 1, by omega⟩ (by first | omega | (dsimp only; omega)) (by exact by refine Le.mk ?_ ?_ rfl <;> (repeat' first | exact RLe.nil | refine RLe.cons rfl ?_ ?_ | exact BLe.nil | refine BLe.cons rfl ?_ ?_) <;> (first | exact SVle.refl _ | exact Ele.refl _ | exact SVle.int (by first | omega | (dsimp only; omega)) | exact SVle.bool (by rfl) | exact SVle.ints (by first | rfl | exact (refB_zero _ _ _ _).symm | exact refB_set xs q intra dc _ hp (by first | omega | (dsimp only; omega)) (by dsimp only; rintro ⟨g1, g2⟩; rcases h with h | h <;> first | omega | simp_all) | exact refB_dc xs q intra dc _ hp (by exact h.1) (by exact h.2)) | exact Ele.mem (Ble.ints (by first | rfl | exact (refB_zero _ _ _ _).symm | exact refB_set xs q intra dc _ hp (by first | omega | (dsimp only; omega)) (by dsimp only; rintro ⟨g1, g2⟩; rcases h with h | h <;> first | omega | simp_all) | exact refB_dc xs q intra dc _ hp (by exact h.1) (by exact h.2)))))
      | with_reducible refine rSeq ?_
      | with_reducible refine rThen ?_
      | with_reducible refine rBlock ?_
      | with_reducible refine rThenRet ?_
      | with_reducible refine rThenExit ?_
      | with_reducible refine rInRet ?_
      | with_reducible refine rInNormal ?_
      | with_reducible refine rInHit ?_
      | with_reducible refine rInMiss rfl ?_
      | with_reducible refine rRet ?_
      | with_reducible refine rExit ?_
      | with_reducible refine rSkip ?_
      | with_reducible refine rScope ?_
      | with_reducible refine rNoGotoRet ?_
      | with_reducible refine rNoGotoNormal ?_
      | (with_reducible show SW _ (Code.region _ _ false) _ _ _); refine rRegC md0 hX rfl rfl rfl (by first | trivial | (simp only [sel, inK, true_and, and_true, implies_true, Bool.cond_true_left, Bool.cond_false_right, Bool.or_eq_true, Bool.and_eq_true, Bool.or_eq_false_iff, Bool.and_eq_false_iff, decide_eq_true_eq, decide_eq_false_iff_not, Bool.not_eq_true', Bool.not_eq_false', beq_iff_eq, bne_iff_ne, ne_eq, beq_eq_false_iff_ne, Bool.not_eq_true]; done) | (simp [sel]; done) | (simp only [sel, inK, true_and, and_true, implies_true, Bool.cond_true_left, Bool.cond_false_right, Bool.or_eq_true, Bool.and_eq_true, Bool.or_eq_false_iff, Bool.and_eq_false_iff, decide_eq_true_eq, decide_eq_false_iff_not, Bool.not_eq_true', Bool.not_eq_false', beq_iff_eq, bne_iff_ne, ne_eq, beq_eq_false_iff_ne, Bool.not_eq_true] at *; omega) | (simp [sel, inK] at *; omega)) ?_
      | (with_reducible show SW _ (Code.region _ _ true) _ _ _); refine rDrawC md0 hX mixed rfl rfl rfl rfl (by first | trivial | (simp only [sel, inK, true_and, and_true, implies_true, Bool.cond_true_left, Bool.cond_false_right, Bool.or_eq_true, Bool.and_eq_true, Bool.or_eq_false_iff, Bool.and_eq_false_iff, decide_eq_true_eq, decide_eq_false_iff_not, Bool.not_eq_true', Bool.not_eq_false', beq_iff_eq, bne_iff_ne, ne_eq, beq_eq_false_iff_ne, Bool.not_eq_true]; done) | (simp [sel]; done) | (simp only [sel, inK, true_and, and_true, implies_true, Bool.cond_true_left, Bool.cond_false_right, Bool.or_eq_true, Bool.and_eq_true, Bool.or_eq_false_iff, Bool.and_eq_false_iff, decide_eq_true_eq, decide_eq_false_iff_not, Bool.not_eq_true', Bool.not_eq_false', beq_iff_eq, bne_iff_ne, ne_eq, beq_eq_false_iff_ne, Bool.not_eq_true] at *; omega) | (simp [sel, inK] at *; omega)) ?_
      | (with_reducible show SW _ (Code.cond _ _ _) _ _ _); (refine rCond rfl rfl (by first | trivial | (simp only [sel, inK, true_and, and_true, implies_true, Bool.cond_true_left, Bool.cond_false_right, Bool.or_eq_true, Bool.and_eq_true, Bool.or_eq_false_iff, Bool.and_eq_false_iff, decide_eq_true_eq, decide_eq_false_iff_not, Bool.not_eq_true', Bool.not_eq_false', beq_iff_eq, bne_iff_ne, ne_eq, beq_eq_false_iff_ne, Bool.not_eq_true]; done) | (simp [sel]; done) | (simp only [sel, inK, true_and, and_true, implies_true, Bool.cond_true_left, Bool.cond_false_right, Bool.or_eq_true, Bool.and_eq_true, Bool.or_eq_false_iff, Bool.and_eq_false_iff, decide_eq_true_eq, decide_eq_false_iff_not, Bool.not_eq_true', Bool.not_eq_false', beq_iff_eq, bne_iff_ne, ne_eq, beq_eq_false_iff_ne, Bool.not_eq_true] at *; omega) | (simp [sel, inK] at *; omega)) (fun h => ?_) (fun h => ?_) <;> (try simp only [Bool.cond_true_left, Bool.cond_false_right, Bool.or_eq_true, Bool.and_eq_true, Bool.or_eq_false_iff, Bool.and_eq_false_iff, decide_eq_true_eq, decide_eq_false_iff_not, Bool.not_eq_true', Bool.not_eq_false', beq_iff_eq, bne_iff_ne, ne_eq, beq_eq_false_iff_ne, Bool.not_eq_true] at h) <;> try (exact absurd ‹_› ‹_›))
      | (with_reducible show SQ _ (Post _ _ _ _ _ _ _) .ret _ _); refine rDone hX rfl (by first | trivial | (simp only [sel, inK, true_and, and_true, implies_true, Bool.cond_true_left, Bool.cond_false_right, Bool.or_eq_true, Bool.and_eq_true, Bool.or_eq_false_iff, Bool.and_eq_false_iff, decide_eq_true_eq, decide_eq_false_iff_not, Bool.not_eq_true', Bool.not_eq_false', beq_iff_eq, bne_iff_ne, ne_eq, beq_eq_false_iff_ne, Bool.not_eq_true]; done) | (simp [sel]; done) | (simp only [sel, inK, true_and, and_true, implies_true, Bool.cond_true_left, Bool.cond_false_right, Bool.or_eq_true, Bool.and_eq_true, Bool.or_eq_false_iff, Bool.and_eq_false_iff, decide_eq_true_eq, decide_eq_false_iff_not, Bool.not_eq_true', Bool.not_eq_false', beq_iff_eq, bne_iff_ne, ne_eq, beq_eq_false_iff_ne, Bool.not_eq_true] at *; omega) | (simp [sel, inK] at *; omega)) (EnvLe.refl _) (by (show SV.v (.agg [.ints 64 .i64 (scalB xs q intra dc)]) = SV.v (.agg [.ints 64 .i64 _]); rw [refB_end _ _ _ _ _ hp (by first | omega | (dsimp only; omega))])) rfl rfl rfl (by intro i e h; cases h)
  · cases h

def spLaw8 : X.Spec := fun args _ => match args with
  | [.v (.agg [.ints 64 .i64 xs]), .v (.agg [.ints 2 .i64 ys]), .v (.c (.bool intra))] => some ⟨xs.length = 64, bo true, [], []⟩
  | _ => none
set_option maxRecDepth 100000 in
theorem ok8 : FnOK Try.prog gt0 8 spLaw8 := by
  refine fnOK_vals Try.func8 rfl (by kernel_rfl) tt_ok (ktCons ok36 (ktCons ok37 (ktCons ok25 (ktNil)))) ?_
  intro args lk r h hp
  unfold spLaw8 at h
  split at h
  · rename_i xs ys intra
    cases h
    refine ⟨rfl, rfl, fun w0 M ε0 hX => ?_⟩
    have hp : xs.length = 64 := hp
    repeat' first
      | with_reducible refine rSeq ?_
      | with_reducible refine rThen ?_
      | with_reducible refine rBlock ?_
      | with_reducible refine rThenRet ?_
      | with_reducible refine rThenExit ?_
      | with_reducible refine rInRet ?_
      | with_reducible refine rInNormal ?_
      | with_reducible refine rInHit ?_
      | with_reducible refine rInMiss rfl ?_
      | with_reducible refine rRet ?_
      | with_reducible refine rExit ?_
      | with_reducible refine rSkip ?_
      | with_reducible refine rScope ?_
      | with_reducible refine rNoGotoRet ?_
      | with_reducible refine rNoGotoNormal ?_
      | (with_reducible show SW _ (Code.region _ _ false) _ _ _); refine rRegC md0 hX rfl rfl rfl (by first | trivial | (simp only [sel, inK, true_and, and_true, implies_true, Bool.cond_true_left, Bool.cond_false_right, Bool.or_eq_true, Bool.and_eq_true, Bool.or_eq_false_iff, Bool.and_eq_false_iff, decide_eq_true_eq, decide_eq_false_iff_not, Bool.not_eq_true', Bool.not_eq_false', beq_iff_eq, bne_iff_ne, ne_eq, beq_eq_false_iff_ne, Bool.not_eq_true]; done) | (simp [sel]; done) | (simp only [sel, inK, true_and, and_true, implies_true, Bool.cond_true_left, Bool.cond_false_right, Bool.or_eq_true, Bool.and_eq_true, Bool.or_eq_false_iff, Bool.and_eq_false_iff, decide_eq_true_eq, decide_eq_false_iff_not, Bool.not_eq_true', Bool.not_eq_false', beq_iff_eq, bne_iff_ne, ne_eq, beq_eq_false_iff_ne, Bool.not_eq_true] at *; omega) | (simp [sel, inK] at *; omega)) ?_
      | (with_reducible show SW _ (Code.region _ _ true) _ _ _); refine rDrawC md0 hX mixed rfl rfl rfl rfl (by first | trivial | (simp only [sel, inK, true_and, and_true, implies_true, Bool.cond_true_left, Bool.cond_false_right, Bool.or_eq_true, Bool.and_eq_true, Bool.or_eq_false_iff, Bool.and_eq_false_iff, decide_eq_true_eq, decide_eq_false_iff_not, Bool.not_eq_true', Bool.not_eq_false', beq_iff_eq, bne_iff_ne, ne_eq, beq_eq_false_iff_ne, Bool.not_eq_true]; done) | (simp [sel]; done) | (simp only [sel, inK, true_and, and_true, implies_true, Bool.cond_true_left, Bool.cond_false_right, Bool.or_eq_true, Bool.and_eq_true, Bool.or_eq_false_iff, Bool.and_eq_false_iff, decide_eq_true_eq, decide_eq_false_iff_not, Bool.not_eq_true', Bool.not_eq_false', beq_iff_eq, bne_iff_ne, ne_eq, beq_eq_false_iff_ne, Bool.not_eq_true] at *; omega) | (simp [sel, inK] at *; omega)) ?_
      | (with_reducible show SW _ (Code.cond _ _ _) _ _ _); (refine rCond rfl rfl (by first | trivial | (simp only [sel, inK, true_and, and_true, implies_true, Bool.cond_true_left, Bool.cond_false_right, Bool.or_eq_true, Bool.and_eq_true, Bool.or_eq_false_iff, Bool.and_eq_false_iff, decide_eq_true_eq, decide_eq_false_iff_not, Bool.not_eq_true', Bool.not_eq_false', beq_iff_eq, bne_iff_ne, ne_eq, beq_eq_false_iff_ne, Bool.not_eq_true]; done) | (simp [sel]; done) | (simp only [sel, inK, true_and, and_true, implies_true, Bool.cond_true_left, Bool.cond_false_right, Bool.or_eq_true, Bool.and_eq_true, Bool.or_eq_false_iff, Bool.and_eq_false_iff, decide_eq_true_eq, decide_eq_false_iff_not, Bool.not_eq_true', Bool.not_eq_false', beq_iff_eq, bne_iff_ne, ne_eq, beq_eq_false_iff_ne, Bool.not_eq_true] at *; omega) | (simp [sel, inK] at *; omega)) (fun h => ?_) (fun h => ?_) <;> (try simp only [Bool.cond_true_left, Bool.cond_false_right, Bool.or_eq_true, Bool.and_eq_true, Bool.or_eq_false_iff, Bool.and_eq_false_iff, decide_eq_true_eq, decide_eq_false_iff_not, Bool.not_eq_true', Bool.not_eq_false', beq_iff_eq, bne_iff_ne, ne_eq, beq_eq_false_iff_ne, Bool.not_eq_true] at h) <;> try (exact absurd ‹_› ‹_›))
      | (with_reducible show SQ _ (Post _ _ _ _ _ _ _) .ret _ _); refine rDone hX rfl (by first | trivial | (simp only [sel, inK, true_and, and_true, implies_true, Bool.cond_true_left, Bool.cond_false_right, Bool.or_eq_true, Bool.and_eq_true, Bool.or_eq_false_iff, Bool.and_eq_false_iff, decide_eq_true_eq, decide_eq_false_iff_not, Bool.not_eq_true', Bool.not_eq_false', beq_iff_eq, bne_iff_ne, ne_eq, beq_eq_false_iff_ne, Bool.not_eq_true]; done) | (simp [sel]; done) | (simp only [sel, inK, true_and, and_true, implies_true, Bool.cond_true_left, Bool.cond_false_right, Bool.or_eq_true, Bool.and_eq_true, Bool.or_eq_false_iff, Bool.and_eq_false_iff, decide_eq_true_eq, decide_eq_false_iff_not, Bool.not_eq_true', Bool.not_eq_false', beq_iff_eq, bne_iff_ne, ne_eq, beq_eq_false_iff_ne, Bool.not_eq_true] at *; omega) | (simp [sel, inK] at *; omega)) (EnvLe.refl _) (by (show bo true = bo _; refine congrArg bo ?_; simp)) rfl rfl rfl (by intro i e h; cases h)
  · cases h

end Go.Proofs.Ytmlnpfkbnldacaa
