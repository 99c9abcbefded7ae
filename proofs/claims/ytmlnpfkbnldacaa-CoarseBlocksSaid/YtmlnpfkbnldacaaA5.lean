/- Coarse blocks. -/
import Derived.Test.YtmlnpfkbnldacaaA2
import Derived.Test.YtmlnpfkbnldacaaA4
set_option linter.unusedVariables false
set_option linter.unusedSimpArgs false
namespace Go.Proofs.Ytmlnpfkbnldacaa
open Go.X


def coarB (xs : List Int) (q : Int) (intra : Bool) : List Int :=
  if intra = true then (xs.map fun x => levS x q intra).set 0 0 else xs.map fun x => levS x q intra
def spCoarB : X.Spec := fun args _ => match args with
  | [.v (.agg [.ints 64 .i64 xs]), .v (.c (.int .i64 q)), .v (.c (.bool intra))] => some ⟨xs.length = 64, .v (.agg [.ints 64 .i64 (coarB xs q intra)]), [], []⟩
  | _ => none
set_option maxRecDepth 100000 in
set_option maxHeartbeats 4000000 in
theorem ok40 : FnOK Try.prog gt0 40 spCoarB := by
  refine fnOK_vals Try.func40 rfl (by kernel_rfl) tt_ok (ktCons ok26 (ktCons ok28 (ktNil))) ?_
  intro args lk r h hp
  unfold spCoarB at h
  split at h
  · rename_i xs q intra
    cases h
    refine ⟨rfl, rfl, fun w0 M ε0 hX => ?_⟩
    repeat' first
      | with_reducible refine rSeq ?_
      | with_reducible refine rThen ?_
      | with_reducible refine rBlock ?_
      | with_reducible refine rThenRet ?_
      | with_reducible refine rThenExit ?_
      | with_reducible refine rInRet ?_
      | with_reducible refine rInNormal ?_
      | with_reducible refine rInHit ?_
      | with_reducible refine rInMiss rfl ?_
      | with_reducible refine rRet ?_
      | with_reducible refine rExit ?_
      | with_reducible refine rSkip ?_
      | with_reducible refine rScope ?_
      | with_reducible refine rNoGotoRet ?_
      | with_reducible refine rNoGotoNormal ?_
      | (with_reducible show SW _ (Code.region _ _ false) _ _ _); refine rRegC md0 hX rfl rfl rfl (by first | trivial | (simp only [sel, inK, true_and, and_true, implies_true, Bool.cond_true_left, Bool.cond_false_right, Bool.or_eq_true, Bool.and_eq_true, Bool.or_eq_false_iff, Bool.and_eq_false_iff, decide_eq_true_eq, decide_eq_false_iff_not, Bool.not_eq_true', Bool.not_eq_false', beq_iff_eq, bne_iff_ne, ne_eq, beq_eq_false_iff_ne, Bool.not_eq_true]; done) | (simp [sel]; done) | (simp only [sel, inK, true_and, and_true, implies_true, Bool.cond_true_left, Bool.cond_false_right, Bool.or_eq_true, Bool.and_eq_true, Bool.or_eq_false_iff, Bool.and_eq_false_iff, decide_eq_true_eq, decide_eq_false_iff_not, Bool.not_eq_true', Bool.not_eq_false', beq_iff_eq, bne_iff_ne, ne_eq, beq_eq_false_iff_ne, Bool.not_eq_true] at *; omega) | (simp [sel, inK] at *; omega)) ?_
      | (with_reducible show SW _ (Code.region _ _ true) _ _ _); refine rDrawC md0 hX mixed rfl rfl rfl rfl (by first | trivial | (simp only [sel, inK, true_and, and_true, implies_true, Bool.cond_true_left, Bool.cond_false_right, Bool.or_eq_true, Bool.and_eq_true, Bool.or_eq_false_iff, Bool.and_eq_false_iff, decide_eq_true_eq, decide_eq_false_iff_not, Bool.not_eq_true', Bool.not_eq_false', beq_iff_eq, bne_iff_ne, ne_eq, beq_eq_false_iff_ne, Bool.not_eq_true]; done) | (simp [sel]; done) | (simp only [sel, inK, true_and, and_true, implies_true, Bool.cond_true_left, Bool.cond_false_right, Bool.or_eq_true, Bool.and_eq_true, Bool.or_eq_false_iff, Bool.and_eq_false_iff, decide_eq_true_eq, decide_eq_false_iff_not, Bool.not_eq_true', Bool.not_eq_false', beq_iff_eq, bne_iff_ne, ne_eq, beq_eq_false_iff_ne, Bool.not_eq_true] at *; omega) | (simp [sel, inK] at *; omega)) ?_
      | (with_reducible show SW _ (Code.cond _ _ _) _ _ _); (refine rCond rfl rfl (by first | trivial | (simp only [sel, inK, true_and, and_true, implies_true, Bool.cond_true_left, Bool.cond_false_right, Bool.or_eq_true, Bool.and_eq_true, Bool.or_eq_false_iff, Bool.and_eq_false_iff, decide_eq_true_eq, decide_eq_false_iff_not, Bool.not_eq_true', Bool.not_eq_false', beq_iff_eq, bne_iff_ne, ne_eq, beq_eq_false_iff_ne, Bool.not_eq_true]; done) | (simp [sel]; done) | (simp only [sel, inK, true_and, and_true, implies_true, Bool.cond_true_left, Bool.cond_false_right, Bool.or_eq_true, Bool.and_eq_true, Bool.or_eq_false_iff, Bool.and_eq_false_iff, decide_eq_true_eq, decide_eq_false_iff_not, Bool.not_eq_true', Bool.not_eq_false', beq_iff_eq, bne_iff_ne, ne_eq, beq_eq_false_iff_ne, Bool.not_eq_true] at *; omega) | (simp [sel, inK] at *; omega)) (fun h => ?_) (fun h => ?_) <;> (try simp only [Bool.cond_true_left, Bool.cond_false_right, Bool.or_eq_true, Bool.and_eq_true, Bool.or_eq_false_iff, Bool.and_eq_false_iff, decide_eq_true_eq, decide_eq_false_iff_not, Bool.not_eq_true', Bool.not_eq_false', beq_iff_eq, bne_iff_ne, ne_eq, beq_eq_false_iff_ne, Bool.not_eq_true] at h) <;> try (exact absurd ‹_› ‹_›))
      | (with_reducible show SQ _ (Post _ _ _ _ _ _ _) .ret _ _); refine rDone hX rfl (by first | trivial | (simp only [sel, inK, true_and, and_true, implies_true, Bool.cond_true_left, Bool.cond_false_right, Bool.or_eq_true, Bool.and_eq_true, Bool.or_eq_false_iff, Bool.and_eq_false_iff, decide_eq_true_eq, decide_eq_false_iff_not, Bool.not_eq_true', Bool.not_eq_false', beq_iff_eq, bne_iff_ne, ne_eq, beq_eq_false_iff_ne, Bool.not_eq_true]; done) | (simp [sel]; done) | (simp only [sel, inK, true_and, and_true, implies_true, Bool.cond_true_left, Bool.cond_false_right, Bool.or_eq_true, Bool.and_eq_true, Bool.or_eq_false_iff, Bool.and_eq_false_iff, decide_eq_true_eq, decide_eq_false_iff_not, Bool.not_eq_true', Bool.not_eq_false', beq_iff_eq, bne_iff_ne, ne_eq, beq_eq_false_iff_ne, Bool.not_eq_true] at *; omega) | (simp [sel, inK] at *; omega)) (EnvLe.refl _) (by rfl) rfl rfl rfl (by intro i e h; cases h)
    · refine rLoop0 (fun i : {i : Nat // i ≤ 64} => ⟨[(1, i64 q), (2, bo intra), (7, .v (.c (.clo 28 []))), (6, .v (.c (.ptr 1 0 0 0 0 0))), (8, .v (.c (.ptr 2 0 0 0 0 0))), (12, .v (.agg [.ints 64 .i64 xs])), (13, i64 (i.1 : Int))],
        [(2, .mem true 39 none (.flat [.ints 64 .i64 (fillTo (fun x => levS x q true) xs i.1)])), (1, .mem true 39 none (.flat [.ints 64 .i64 (List.replicate 64 0)]))], 3⟩) (fun i => 64 - i.1) ⟨0, by omega⟩ (by refine Le.mk ?_ ?_ rfl <;> (repeat' first | exact RLe.nil | refine RLe.cons rfl ?_ ?_ | exact BLe.nil | refine BLe.cons rfl ?_ ?_) <;> (first | exact SVle.refl _ | exact Ele.refl _ | exact SVle.int (by first | omega | (dsimp only; omega)) | exact SVle.bool (by rfl) | exact SVle.ints (by first | rfl | exact (fillTo_zero _ _).symm | exact fillTo_set (fun x => levS x q true) xs _ hp (by first | omega | (dsimp only; omega))) | exact Ele.mem (Ble.ints (by first | rfl | exact (fillTo_zero _ _).symm | exact fillTo_set (fun x => levS x q true) xs _ hp (by first | omega | (dsimp only; omega)))))) ?_
      rintro ⟨i, hi⟩
      repeat' first
        | (with_reducible show SQ _ (Exit.then (Again _ _ _ _ _) _) .normal _ _); refine rAgain0 ⟨i + 1, by omega⟩ (by first | omega | (dsimp only; omega)) (by exact by refine Le.mk ?_ ?_ rfl <;> (repeat' first | exact RLe.nil | refine RLe.cons rfl ?_ ?_ | exact BLe.nil | refine BLe.cons rfl ?_ ?_) <;> (first | exact SVle.refl _ | exact Ele.refl _ | exact SVle.int (by first | omega | (dsimp only; omega)) | exact SVle.bool (by rfl) | exact SVle.ints (by first | rfl | exact (fillTo_zero _ _).symm | exact fillTo_set (fun x => levS x q true) xs _ hp (by first | omega | (dsimp only; omega))) | exact Ele.mem (Ble.ints (by first | rfl | exact (fillTo_zero _ _).symm | exact fillTo_set (fun x => levS x q true) xs _ hp (by first | omega | (dsimp only; omega))))))
        | with_reducible refine rSeq ?_
        | with_reducible refine rThen ?_
        | with_reducible refine rBlock ?_
        | with_reducible refine rThenRet ?_
        | with_reducible refine rThenExit ?_
        | with_reducible refine rInRet ?_
        | with_reducible refine rInNormal ?_
        | with_reducible refine rInHit ?_
        | with_reducible refine rInMiss rfl ?_
        | with_reducible refine rRet ?_
        | with_reducible refine rExit ?_
        | with_reducible refine rSkip ?_
        | with_reducible refine rScope ?_
        | with_reducible refine rNoGotoRet ?_
        | with_reducible refine rNoGotoNormal ?_
        | (with_reducible show SW _ (Code.region _ _ false) _ _ _); refine rRegC md0 hX rfl rfl rfl (by first | trivial | (simp only [sel, inK, true_and, and_true, implies_true, Bool.cond_true_left, Bool.cond_false_right, Bool.or_eq_true, Bool.and_eq_true, Bool.or_eq_false_iff, Bool.and_eq_false_iff, decide_eq_true_eq, decide_eq_false_iff_not, Bool.not_eq_true', Bool.not_eq_false', beq_iff_eq, bne_iff_ne, ne_eq, beq_eq_false_iff_ne, Bool.not_eq_true]; done) | (simp [sel]; done) | (simp only [sel, inK, true_and, and_true, implies_true, Bool.cond_true_left, Bool.cond_false_right, Bool.or_eq_true, Bool.and_eq_true, Bool.or_eq_false_iff, Bool.and_eq_false_iff, decide_eq_true_eq, decide_eq_false_iff_not, Bool.not_eq_true', Bool.not_eq_false', beq_iff_eq, bne_iff_ne, ne_eq, beq_eq_false_iff_ne, Bool.not_eq_true] at *; omega) | (simp [sel, inK] at *; omega)) ?_
        | (with_reducible show SW _ (Code.region _ _ true) _ _ _); refine rDrawC md0 hX mixed rfl rfl rfl rfl (by first | trivial | (simp only [sel, inK, true_and, and_true, implies_true, Bool.cond_true_left, Bool.cond_false_right, Bool.or_eq_true, Bool.and_eq_true, Bool.or_eq_false_iff, Bool.and_eq_false_iff, decide_eq_true_eq, decide_eq_false_iff_not, Bool.not_eq_true', Bool.not_eq_false', beq_iff_eq, bne_iff_ne, ne_eq, beq_eq_false_iff_ne, Bool.not_eq_true]; done) | (simp [sel]; done) | (simp only [sel, inK, true_and, and_true, implies_true, Bool.cond_true_left, Bool.cond_false_right, Bool.or_eq_true, Bool.and_eq_true, Bool.or_eq_false_iff, Bool.and_eq_false_iff, decide_eq_true_eq, decide_eq_false_iff_not, Bool.not_eq_true', Bool.not_eq_false', beq_iff_eq, bne_iff_ne, ne_eq, beq_eq_false_iff_ne, Bool.not_eq_true] at *; omega) | (simp [sel, inK] at *; omega)) ?_
        | (with_reducible show SW _ (Code.cond _ _ _) _ _ _); (refine rCond rfl rfl (by first | trivial | (simp only [sel, inK, true_and, and_true, implies_true, Bool.cond_true_left, Bool.cond_false_right, Bool.or_eq_true, Bool.and_eq_true, Bool.or_eq_false_iff, Bool.and_eq_false_iff, decide_eq_true_eq, decide_eq_false_iff_not, Bool.not_eq_true', Bool.not_eq_false', beq_iff_eq, bne_iff_ne, ne_eq, beq_eq_false_iff_ne, Bool.not_eq_true]; done) | (simp [sel]; done) | (simp only [sel, inK, true_and, and_true, implies_true, Bool.cond_true_left, Bool.cond_false_right, Bool.or_eq_true, Bool.and_eq_true, Bool.or_eq_false_iff, Bool.and_eq_false_iff, decide_eq_true_eq, decide_eq_false_iff_not, Bool.not_eq_true', Bool.not_eq_false', beq_iff_eq, bne_iff_ne, ne_eq, beq_eq_false_iff_ne, Bool.not_eq_true] at *; omega) | (simp [sel, inK] at *; omega)) (fun h => ?_) (fun h => ?_) <;> (try simp only [Bool.cond_true_left, Bool.cond_false_right, Bool.or_eq_true, Bool.and_eq_true, Bool.or_eq_false_iff, Bool.and_eq_false_iff, decide_eq_true_eq, decide_eq_false_iff_not, Bool.not_eq_true', Bool.not_eq_false', beq_iff_eq, bne_iff_ne, ne_eq, beq_eq_false_iff_ne, Bool.not_eq_true] at h) <;> try (exact absurd ‹_› ‹_›))
        | (with_reducible show SQ _ (Post _ _ _ _ _ _ _) .ret _ _); refine rDone hX rfl (by first | trivial | (simp only [sel, inK, true_and, and_true, implies_true, Bool.cond_true_left, Bool.cond_false_right, Bool.or_eq_true, Bool.and_eq_true, Bool.or_eq_false_iff, Bool.and_eq_false_iff, decide_eq_true_eq, decide_eq_false_iff_not, Bool.not_eq_true', Bool.not_eq_false', beq_iff_eq, bne_iff_ne, ne_eq, beq_eq_false_iff_ne, Bool.not_eq_true]; done) | (simp [sel]; done) | (simp only [sel, inK, true_and, and_true, implies_true, Bool.cond_true_left, Bool.cond_false_right, Bool.or_eq_true, Bool.and_eq_true, Bool.or_eq_false_iff, Bool.and_eq_false_iff, decide_eq_true_eq, decide_eq_false_iff_not, Bool.not_eq_true', Bool.not_eq_false', beq_iff_eq, bne_iff_ne, ne_eq, beq_eq_false_iff_ne, Bool.not_eq_true] at *; omega) | (simp [sel, inK] at *; omega)) (EnvLe.refl _) (by (show SV.v (.agg [.ints 64 .i64 (coarB xs q intra)]) = SV.v (.agg [.ints 64 .i64 _]); simp only [coarB]; rw [fillTo_end _ _ _ hp (by first | omega | (dsimp only; omega))]; simp_all)) rfl rfl rfl (by intro i e h; cases h)
    · refine rLoop0 (fun i : {i : Nat // i ≤ 64} => ⟨[(1, i64 q), (2, bo intra), (7, .v (.c (.clo 26 []))), (6, .v (.c (.ptr 1 0 0 0 0 0))), (8, .v (.c (.ptr 2 0 0 0 0 0))), (12, .v (.agg [.ints 64 .i64 xs])), (13, i64 (i.1 : Int))],
        [(2, .mem true 39 none (.flat [.ints 64 .i64 (fillTo (fun x => levS x q false) xs i.1)])), (1, .mem true 39 none (.flat [.ints 64 .i64 (List.replicate 64 0)]))], 3⟩) (fun i => 64 - i.1) ⟨0, by omega⟩ (by refine Le.mk ?_ ?_ rfl <;> (repeat' first | exact RLe.nil | refine RLe.cons rfl ?_ ?_ | exact BLe.nil | refine BLe.cons rfl ?_ ?_) <;> (first | exact SVle.refl _ | exact Ele.refl _ | exact SVle.int (by first | omega | (dsimp only; omega)) | exact SVle.bool (by rfl) | exact SVle.ints (by first | rfl | exact (fillTo_zero _ _).symm | exact fillTo_set (fun x => levS x q false) xs _ hp (by first | omega | (dsimp only; omega))) | exact Ele.mem (Ble.ints (by first | rfl | exact (fillTo_zero _ _).symm | exact fillTo_set (fun x => levS x q false) xs _ hp (by first | omega | (dsimp only; omega)))))) ?_
      rintro ⟨i, hi⟩
      repeat' first
        | (with_reducible show SQ _ (Exit.then (Again _ _ _ _ _) _) .normal _ _); refine rAgain0 ⟨i + 1, by omega⟩ (by first | omega | (dsimp only; omega)) (by exact by refine Le.mk ?_ ?_ rfl <;> (repeat' first | exact RLe.nil | refine RLe.cons rfl ?_ ?_ | exact BLe.nil | refine BLe.cons rfl ?_ ?_) <;> (first | exact SVle.refl _ | exact Ele.refl _ | exact SVle.int (by first | omega | (dsimp only; omega)) | exact SVle.bool (by rfl) | exact SVle.ints (by first | rfl | exact (fillTo_zero _ _).symm | exact fillTo_set (fun x => levS x q false) xs _ hp (by first | omega | (dsimp only; omega))) | exact Ele.mem (Ble.ints (by first | rfl | exact (fillTo_zero _ _).symm | exact fillTo_set (fun x => levS x q false) xs _ hp (by first | omega | (dsimp only; omega))))))
        | with_reducible refine rSeq ?_
        | with_reducible refine rThen ?_
        | with_reducible refine rBlock ?_
        | with_reducible refine rThenRet ?_
        | with_reducible refine rThenExit ?_
        | with_reducible refine rInRet ?_
        | with_reducible refine rInNormal ?_
        | with_reducible refine rInHit ?_
        | with_reducible refine rInMiss rfl ?_
        | with_reducible refine rRet ?_
        | with_reducible refine rExit ?_
        | with_reducible refine rSkip ?_
        | with_reducible refine rScope ?_
        | with_reducible refine rNoGotoRet ?_
        | with_reducible refine rNoGotoNormal ?_
        | (with_reducible show SW _ (Code.region _ _ false) _ _ _); refine rRegC md0 hX rfl rfl rfl (by first | trivial | (simp only [sel, inK, true_and, and_true, implies_true, Bool.cond_true_left, Bool.cond_false_right, Bool.or_eq_true, Bool.and_eq_true, Bool.or_eq_false_iff, Bool.and_eq_false_iff, decide_eq_true_eq, decide_eq_false_iff_not, Bool.not_eq_true', Bool.not_eq_false', beq_iff_eq, bne_iff_ne, ne_eq, beq_eq_false_iff_ne, Bool.not_eq_true]; done) | (simp [sel]; done) | (simp only [sel, inK, true_and, and_true, implies_true, Bool.cond_true_left, Bool.cond_false_right, Bool.or_eq_true, Bool.and_eq_true, Bool.or_eq_false_iff, Bool.and_eq_false_iff, decide_eq_true_eq, decide_eq_false_iff_not, Bool.not_eq_true', Bool.not_eq_false', beq_iff_eq, bne_iff_ne, ne_eq, beq_eq_false_iff_ne, Bool.not_eq_true] at *; omega) | (simp [sel, inK] at *; omega)) ?_
        | (with_reducible show SW _ (Code.region _ _ true) _ _ _); refine rDrawC md0 hX mixed rfl rfl rfl rfl (by first | trivial | (simp only [sel, inK, true_and, and_true, implies_true, Bool.cond_true_left, Bool.cond_false_right, Bool.or_eq_true, Bool.and_eq_true, Bool.or_eq_false_iff, Bool.and_eq_false_iff, decide_eq_true_eq, decide_eq_false_iff_not, Bool.not_eq_true', Bool.not_eq_false', beq_iff_eq, bne_iff_ne, ne_eq, beq_eq_false_iff_ne, Bool.not_eq_true]; done) | (simp [sel]; done) | (simp only [sel, inK, true_and, and_true, implies_true, Bool.cond_true_left, Bool.cond_false_right, Bool.or_eq_true, Bool.and_eq_true, Bool.or_eq_false_iff, Bool.and_eq_false_iff, decide_eq_true_eq, decide_eq_false_iff_not, Bool.not_eq_true', Bool.not_eq_false', beq_iff_eq, bne_iff_ne, ne_eq, beq_eq_false_iff_ne, Bool.not_eq_true] at *; omega) | (simp [sel, inK] at *; omega)) ?_
        | (with_reducible show SW _ (Code.cond _ _ _) _ _ _); (refine rCond rfl rfl (by first | trivial | (simp only [sel, inK, true_and, and_true, implies_true, Bool.cond_true_left, Bool.cond_false_right, Bool.or_eq_true, Bool.and_eq_true, Bool.or_eq_false_iff, Bool.and_eq_false_iff, decide_eq_true_eq, decide_eq_false_iff_not, Bool.not_eq_true', Bool.not_eq_false', beq_iff_eq, bne_iff_ne, ne_eq, beq_eq_false_iff_ne, Bool.not_eq_true]; done) | (simp [sel]; done) | (simp only [sel, inK, true_and, and_true, implies_true, Bool.cond_true_left, Bool.cond_false_right, Bool.or_eq_true, Bool.and_eq_true, Bool.or_eq_false_iff, Bool.and_eq_false_iff, decide_eq_true_eq, decide_eq_false_iff_not, Bool.not_eq_true', Bool.not_eq_false', beq_iff_eq, bne_iff_ne, ne_eq, beq_eq_false_iff_ne, Bool.not_eq_true] at *; omega) | (simp [sel, inK] at *; omega)) (fun h => ?_) (fun h => ?_) <;> (try simp only [Bool.cond_true_left, Bool.cond_false_right, Bool.or_eq_true, Bool.and_eq_true, Bool.or_eq_false_iff, Bool.and_eq_false_iff, decide_eq_true_eq, decide_eq_false_iff_not, Bool.not_eq_true', Bool.not_eq_false', beq_iff_eq, bne_iff_ne, ne_eq, beq_eq_false_iff_ne, Bool.not_eq_true] at h) <;> try (exact absurd ‹_› ‹_›))
        | (with_reducible show SQ _ (Post _ _ _ _ _ _ _) .ret _ _); refine rDone hX rfl (by first | trivial | (simp only [sel, inK, true_and, and_true, implies_true, Bool.cond_true_left, Bool.cond_false_right, Bool.or_eq_true, Bool.and_eq_true, Bool.or_eq_false_iff, Bool.and_eq_false_iff, decide_eq_true_eq, decide_eq_false_iff_not, Bool.not_eq_true', Bool.not_eq_false', beq_iff_eq, bne_iff_ne, ne_eq, beq_eq_false_iff_ne, Bool.not_eq_true]; done) | (simp [sel]; done) | (simp only [sel, inK, true_and, and_true, implies_true, Bool.cond_true_left, Bool.cond_false_right, Bool.or_eq_true, Bool.and_eq_true, Bool.or_eq_false_iff, Bool.and_eq_false_iff, decide_eq_true_eq, decide_eq_false_iff_not, Bool.not_eq_true', Bool.not_eq_false', beq_iff_eq, bne_iff_ne, ne_eq, beq_eq_false_iff_ne, Bool.not_eq_true] at *; omega) | (simp [sel, inK] at *; omega)) (EnvLe.refl _) (by (show SV.v (.agg [.ints 64 .i64 (coarB xs q intra)]) = SV.v (.agg [.ints 64 .i64 _]); simp only [coarB]; rw [fillTo_end _ _ _ hp (by first | omega | (dsimp only; omega))]; simp_all)) rfl rfl rfl (by intro i e h; cases h)
  · cases h

def refC (xs : List Int) (f : Int → Int) (intra : Bool) (i : Nat) : List Int := if intra = true then (fillTo f xs i).set 0 0 else fillTo f xs i
theorem refC_zero (xs : List Int) (f : Int → Int) (intra : Bool) : refC xs f intra 0 = List.replicate 64 0 := by
  unfold refC; rw [fillTo_zero]; split <;> rfl
theorem refC_set (xs : List Int) (f : Int → Int) (intra : Bool) (i : Nat) (hl : xs.length = 64) (hi : i < 64) (h : (i : Int) > 0 ∨ intra = false) :
    (refC xs f intra i).set (Int.toNat (i : Int)) (f (xs.getD (Int.toNat (i : Int)) 0)) = refC xs f intra (i + 1) := by
  have := fillTo_set f xs i hl hi
  unfold refC
  by_cases h1 : intra = true
  · have h0 : 0 < i := by
      rcases h with h | h
      · omega
      · rw [h] at h1; cases h1
    rw [if_pos h1, if_pos h1, ← this, Int.toNat_natCast, List.set_comm _ _ (by omega)]
  · rw [if_neg h1, if_neg h1, this]
theorem refC_skip (xs : List Int) (f : Int → Int) (intra : Bool) (i : Nat) (hl : xs.length = 64) (hi : ¬ (i : Int) > 0) (h : intra = true) : refC xs f intra i = refC xs f intra (i + 1) := by
  have h0 : i = 0 := by omega
  subst h0
  have := fillTo_set f xs 0 hl (by omega)
  unfold refC
  rw [if_pos h, if_pos h, ← this, Int.toNat_natCast, List.set_set]
theorem refC_end (xs : List Int) (q : Int) (intra : Bool) (i : Nat) (hl : xs.length = 64) (hi : 64 ≤ i) : refC xs (fun x => levS x q intra) intra i = coarB xs q intra := by
  unfold refC coarB
  rw [fillTo_end _ _ _ hl hi]
set_option maxRecDepth 100000 in
set_option maxHeartbeats 4000000 in
theorem ok41 : FnOK Try.prog gt0 41 spCoarB := by
  refine fnOK_vals Try.func41 rfl (by kernel_rfl) tt_ok (ktCons ok27 (ktNil)) ?_
  intro args lk r h hp
  unfold spCoarB at h
  split at h
  · rename_i xs q intra
    cases h
    refine ⟨rfl, rfl, fun w0 M ε0 hX => ?_⟩
    repeat' first
      | with_reducible refine rSeq ?_
      | with_reducible refine rThen ?_
      | with_reducible refine rBlock ?_
      | with_reducible refine rThenRet ?_
      | with_reducible refine rThenExit ?_
      | with_reducible refine rInRet ?_
      | with_reducible refine rInNormal ?_
      | with_reducible refine rInHit ?_
      | with_reducible refine rInMiss rfl ?_
      | with_reducible refine rRet ?_
      | with_reducible refine rExit ?_
      | with_reducible refine rSkip ?_
      | with_reducible refine rScope ?_
      | with_reducible refine rNoGotoRet ?_
      | with_reducible refine rNoGotoNormal ?_
      | (with_reducible show SW _ (Code.region _ _ false) _ _ _); refine rRegC md0 hX rfl rfl rfl (by first | trivial | (simp only [sel, inK, true_and, and_true, implies_true, Bool.cond_true_left, Bool.cond_false_right, Bool.or_eq_true, Bool.and_eq_true, Bool.or_eq_false_iff, Bool.and_eq_false_iff, decide_eq_true_eq, decide_eq_false_iff_not, Bool.not_eq_true', Bool.not_eq_false', beq_iff_eq, bne_iff_ne, ne_eq, beq_eq_false_iff_ne, Bool.not_eq_true]; done) | (simp [sel]; done) | (simp only [sel, inK, true_and, and_true, implies_true, Bool.cond_true_left, Bool.cond_false_right, Bool.or_eq_true, Bool.and_eq_true, Bool.or_eq_false_iff, Bool.and_eq_false_iff, decide_eq_true_eq, decide_eq_false_iff_not, Bool.not_eq_true', Bool.not_eq_false', beq_iff_eq, bne_iff_ne, ne_eq, beq_eq_false_iff_ne, Bool.not_eq_true] at *; omega) | (simp [sel, inK] at *; omega)) ?_
      | (with_reducible show SW _ (Code.region _ _ true) _ _ _); refine rDrawC md0 hX mixed rfl rfl rfl rfl (by first | trivial | (simp only [sel, inK, true_and, and_true, implies_true, Bool.cond_true_left, Bool.cond_false_right, Bool.or_eq_true, Bool.and_eq_true, Bool.or_eq_false_iff, Bool.and_eq_false_iff, decide_eq_true_eq, decide_eq_false_iff_not, Bool.not_eq_true', Bool.not_eq_false', beq_iff_eq, bne_iff_ne, ne_eq, beq_eq_false_iff_ne, Bool.not_eq_true]; done) | (simp [sel]; done) | (simp only [sel, inK, true_and, and_true, implies_true, Bool.cond_true_left, Bool.cond_false_right, Bool.or_eq_true, Bool.and_eq_true, Bool.or_eq_false_iff, Bool.and_eq_false_iff, decide_eq_true_eq, decide_eq_false_iff_not, Bool.not_eq_true', Bool.not_eq_false', beq_iff_eq, bne_iff_ne, ne_eq, beq_eq_false_iff_ne, Bool.not_eq_true] at *; omega) | (simp [sel, inK] at *; omega)) ?_
      | (with_reducible show SW _ (Code.cond _ _ _) _ _ _); (refine rCond rfl rfl (by first | trivial | (simp only [sel, inK, true_and, and_true, implies_true, Bool.cond_true_left, Bool.cond_false_right, Bool.or_eq_true, Bool.and_eq_true, Bool.or_eq_false_iff, Bool.and_eq_false_iff, decide_eq_true_eq, decide_eq_false_iff_not, Bool.not_eq_true', Bool.not_eq_false', beq_iff_eq, bne_iff_ne, ne_eq, beq_eq_false_iff_ne, Bool.not_eq_true]; done) | (simp [sel]; done) | (simp only [sel, inK, true_and, and_true, implies_true, Bool.cond_true_left, Bool.cond_false_right, Bool.or_eq_true, Bool.and_eq_true, Bool.or_eq_false_iff, Bool.and_eq_false_iff, decide_eq_true_eq, decide_eq_false_iff_not, Bool.not_eq_true', Bool.not_eq_false', beq_iff_eq, bne_iff_ne, ne_eq, beq_eq_false_iff_ne, Bool.not_eq_true] at *; omega) | (simp [sel, inK] at *; omega)) (fun h => ?_) (fun h => ?_) <;> (try simp only [Bool.cond_true_left, Bool.cond_false_right, Bool.or_eq_true, Bool.and_eq_true, Bool.or_eq_false_iff, Bool.and_eq_false_iff, decide_eq_true_eq, decide_eq_false_iff_not, Bool.not_eq_true', Bool.not_eq_false', beq_iff_eq, bne_iff_ne, ne_eq, beq_eq_false_iff_ne, Bool.not_eq_true] at h) <;> try (exact absurd ‹_› ‹_›))
      | (with_reducible show SQ _ (Post _ _ _ _ _ _ _) .ret _ _); refine rDone hX rfl (by first | trivial | (simp only [sel, inK, true_and, and_true, implies_true, Bool.cond_true_left, Bool.cond_false_right, Bool.or_eq_true, Bool.and_eq_true, Bool.or_eq_false_iff, Bool.and_eq_false_iff, decide_eq_true_eq, decide_eq_false_iff_not, Bool.not_eq_true', Bool.not_eq_false', beq_iff_eq, bne_iff_ne, ne_eq, beq_eq_false_iff_ne, Bool.not_eq_true]; done) | (simp [sel]; done) | (simp only [sel, inK, true_and, and_true, implies_true, Bool.cond_true_left, Bool.cond_false_right, Bool.or_eq_true, Bool.and_eq_true, Bool.or_eq_false_iff, Bool.and_eq_false_iff, decide_eq_true_eq, decide_eq_false_iff_not, Bool.not_eq_true', Bool.not_eq_false', beq_iff_eq, bne_iff_ne, ne_eq, beq_eq_false_iff_ne, Bool.not_eq_true] at *; omega) | (simp [sel, inK] at *; omega)) (EnvLe.refl _) (by rfl) rfl rfl rfl (by intro i e h; cases h)
    refine rLoop0 (fun i : {i : Nat // i ≤ 64} => ⟨[(1, i64 q), (2, bo intra), (3, .v (.c (.ptr 0 0 0 0 0 0))), (6, .v (.c (.ptr 1 0 0 0 0 0))), (7, .v (.c (.ptr 2 0 0 0 0 0))), (8, i64 (i.1 : Int))],
      [(2, .mem true 39 none (.flat [.ints 64 .i64 (refC xs (fun x => levS x q intra) intra i.1)])), (1, .mem true 39 none (.flat [.ints 64 .i64 (List.replicate 64 0)])), (0, .mem true 39 none (.flat [.ints 64 .i64 xs]))], 3⟩) (fun i => 64 - i.1) ⟨0, by omega⟩ (by refine Le.mk ?_ ?_ rfl <;> (repeat' first | exact RLe.nil | refine RLe.cons rfl ?_ ?_ | exact BLe.nil | refine BLe.cons rfl ?_ ?_) <;> (first | exact SVle.refl _ | exact Ele.refl _ | exact SVle.int (by first | omega | (dsimp only; omega)) | exact SVle.bool (by rfl) | exact SVle.ints (by first | rfl | exact (refC_zero _ _ _).symm | exact refC_set xs (fun x => levS x q intra) intra _ hp (by first | omega | (dsimp only; omega)) (by dsimp only; rcases h with h | h <;> first | (left; omega) | (right; simp_all)) | exact refC_skip xs (fun x => levS x q intra) intra _ hp (by dsimp only; first | omega | (rcases h with ⟨h, _⟩; omega)) (by first | assumption | simp_all)) | exact Ele.mem (Ble.ints (by first | rfl | exact (refC_zero _ _ _).symm | exact refC_set xs (fun x => levS x q intra) intra _ hp (by first | omega | (dsimp only; omega)) (by dsimp only; rcases h with h | h <;> first | (left; omega) | (right; simp_all)) | exact refC_skip xs (fun x => levS x q intra) intra _ hp (by dsimp only; first | omega | (rcases h with ⟨h, _⟩; omega)) (by first | assumption | simp_all))))) ?_
    rintro ⟨i, hi⟩
    repeat' first
      | (with_reducible show SQ _ (Exit.then (Again _ _ _ _ _) _) .normal _ _); refine rAgain0 ⟨i + 1, by omega⟩ (by first | omega | (dsimp only; omega)) (by exact by refine Le.mk ?_ ?_ rfl <;> (repeat' first | exact RLe.nil | refine RLe.cons rfl ?_ ?_ | exact BLe.nil | refine BLe.cons rfl ?_ ?_) <;> (first | exact SVle.refl _ | exact Ele.refl _ | exact SVle.int (by first | omega | (dsimp only; omega)) | exact SVle.bool (by rfl) | exact SVle.ints (by first | rfl | exact (refC_zero _ _ _).symm | exact refC_set xs (fun x => levS x q intra) intra _ hp (by first | omega | (dsimp only; omega)) (by dsimp only; rcases h with h | h <;> first | (left; omega) | (right; simp_all)) | exact refC_skip xs (fun x => levS x q intra) intra _ hp (by dsimp only; first | omega | (rcases h with ⟨h, _⟩; omega)) (by first | assumption | simp_all)) | exact Ele.mem (Ble.ints (by first | rfl | exact (refC_zero _ _ _).symm | exact refC_set xs (fun x => levS x q intra) intra _ hp (by first | omega | (dsimp only; omega)) (by dsimp only; rcases h with h | h <;> first | (left; omega) | (right; simp_all)) | exact refC_skip xs (fun x => levS x q intra) intra _ hp (by dsimp only; first | omega | (rcases h with ⟨h, _⟩; omega)) (by first | assumption | simp_all)))))
      | with_reducible refine rSeq ?_
      | with_reducible refine rThen ?_
      | with_reducible refine rBlock ?_
      | with_reducible refine rThenRet ?_
      | with_reducible refine rThenExit ?_
      | with_reducible refine rInRet ?_
      | with_reducible refine rInNormal ?_
      | with_reducible refine rInHit ?_
      | with_reducible refine rInMiss rfl ?_
      | with_reducible refine rRet ?_
      | with_reducible refine rExit ?_
      | with_reducible refine rSkip ?_
      | with_reducible refine rScope ?_
      | with_reducible refine rNoGotoRet ?_
      | with_reducible refine rNoGotoNormal ?_
      | (with_reducible show SW _ (Code.region _ _ false) _ _ _); refine rRegC md0 hX rfl rfl rfl (by first | trivial | (simp only [sel, inK, true_and, and_true, implies_true, Bool.cond_true_left, Bool.cond_false_right, Bool.or_eq_true, Bool.and_eq_true, Bool.or_eq_false_iff, Bool.and_eq_false_iff, decide_eq_true_eq, decide_eq_false_iff_not, Bool.not_eq_true', Bool.not_eq_false', beq_iff_eq, bne_iff_ne, ne_eq, beq_eq_false_iff_ne, Bool.not_eq_true]; done) | (simp [sel]; done) | (simp only [sel, inK, true_and, and_true, implies_true, Bool.cond_true_left, Bool.cond_false_right, Bool.or_eq_true, Bool.and_eq_true, Bool.or_eq_false_iff, Bool.and_eq_false_iff, decide_eq_true_eq, decide_eq_false_iff_not, Bool.not_eq_true', Bool.not_eq_false', beq_iff_eq, bne_iff_ne, ne_eq, beq_eq_false_iff_ne, Bool.not_eq_true] at *; omega) | (simp [sel, inK] at *; omega)) ?_
      | (with_reducible show SW _ (Code.region _ _ true) _ _ _); refine rDrawC md0 hX mixed rfl rfl rfl rfl (by first | trivial | (simp only [sel, inK, true_and, and_true, implies_true, Bool.cond_true_left, Bool.cond_false_right, Bool.or_eq_true, Bool.and_eq_true, Bool.or_eq_false_iff, Bool.and_eq_false_iff, decide_eq_true_eq, decide_eq_false_iff_not, Bool.not_eq_true', Bool.not_eq_false', beq_iff_eq, bne_iff_ne, ne_eq, beq_eq_false_iff_ne, Bool.not_eq_true]; done) | (simp [sel]; done) | (simp only [sel, inK, true_and, and_true, implies_true, Bool.cond_true_left, Bool.cond_false_right, Bool.or_eq_true, Bool.and_eq_true, Bool.or_eq_false_iff, Bool.and_eq_false_iff, decide_eq_true_eq, decide_eq_false_iff_not, Bool.not_eq_true', Bool.not_eq_false', beq_iff_eq, bne_iff_ne, ne_eq, beq_eq_false_iff_ne, Bool.not_eq_true] at *; omega) | (simp [sel, inK] at *; omega)) ?_
      | (with_reducible show SW _ (Code.cond _ _ _) _ _ _); (refine rCond rfl rfl (by first | trivial | (simp only [sel, inK, true_and, and_true, implies_true, Bool.cond_true_left, Bool.cond_false_right, Bool.or_eq_true, Bool.and_eq_true, Bool.or_eq_false_iff, Bool.and_eq_false_iff, decide_eq_true_eq, decide_eq_false_iff_not, Bool.not_eq_true', Bool.not_eq_false', beq_iff_eq, bne_iff_ne, ne_eq, beq_eq_false_iff_ne, Bool.not_eq_true]; done) | (simp [sel]; done) | (simp only [sel, inK, true_and, and_true, implies_true, Bool.cond_true_left, Bool.cond_false_right, Bool.or_eq_true, Bool.and_eq_true, Bool.or_eq_false_iff, Bool.and_eq_false_iff, decide_eq_true_eq, decide_eq_false_iff_not, Bool.not_eq_true', Bool.not_eq_false', beq_iff_eq, bne_iff_ne, ne_eq, beq_eq_false_iff_ne, Bool.not_eq_true] at *; omega) | (simp [sel, inK] at *; omega)) (fun h => ?_) (fun h => ?_) <;> (try simp only [Bool.cond_true_left, Bool.cond_false_right, Bool.or_eq_true, Bool.and_eq_true, Bool.or_eq_false_iff, Bool.and_eq_false_iff, decide_eq_true_eq, decide_eq_false_iff_not, Bool.not_eq_true', Bool.not_eq_false', beq_iff_eq, bne_iff_ne, ne_eq, beq_eq_false_iff_ne, Bool.not_eq_true] at h) <;> try (exact absurd ‹_› ‹_›))
      | (with_reducible show SQ _ (Post _ _ _ _ _ _ _) .ret _ _); refine rDone hX rfl (by first | trivial | (simp only [sel, inK, true_and, and_true, implies_true, Bool.cond_true_left, Bool.cond_false_right, Bool.or_eq_true, Bool.and_eq_true, Bool.or_eq_false_iff, Bool.and_eq_false_iff, decide_eq_true_eq, decide_eq_false_iff_not, Bool.not_eq_true', Bool.not_eq_false', beq_iff_eq, bne_iff_ne, ne_eq, beq_eq_false_iff_ne, Bool.not_eq_true]; done) | (simp [sel]; done) | (simp only [sel, inK, true_and, and_true, implies_true, Bool.cond_true_left, Bool.cond_false_right, Bool.or_eq_true, Bool.and_eq_true, Bool.or_eq_false_iff, Bool.and_eq_false_iff, decide_eq_true_eq, decide_eq_false_iff_not, Bool.not_eq_true', Bool.not_eq_false', beq_iff_eq, bne_iff_ne, ne_eq, beq_eq_false_iff_ne, Bool.not_eq_true] at *; omega) | (simp [sel, inK] at *; omega)) (EnvLe.refl _) (by (show SV.v (.agg [.ints 64 .i64 (coarB xs q intra)]) = SV.v (.agg [.ints 64 .i64 _]); rw [refC_end _ _ _ _ hp (by first | omega | (dsimp only; omega))])) rfl rfl rfl (by intro i e h; cases h)
  · cases h

def spLaw10 : X.Spec := fun args _ => match args with
  | [.v (.agg [.ints 64 .i64 xs]), .v (.c (.int .i64 q)), .v (.c (.bool intra))] => some ⟨xs.length = 64, bo true, [], []⟩
  | _ => none
set_option maxRecDepth 100000 in
set_option maxHeartbeats 4000000 in
theorem ok10 : FnOK Try.prog gt0 10 spLaw10 := by
  refine fnOK_vals Try.func10 rfl (by kernel_rfl) tt_ok (ktCons ok40 (ktCons ok41 (ktCons ok31 (ktNil)))) ?_
  intro args lk r h hp
  unfold spLaw10 at h
  split at h
  · rename_i xs q intra
    cases h
    refine ⟨rfl, rfl, fun w0 M ε0 hX => ?_⟩
    have hp : xs.length = 64 := hp
    repeat' first
      | with_reducible refine rSeq ?_
      | with_reducible refine rThen ?_
      | with_reducible refine rBlock ?_
      | with_reducible refine rThenRet ?_
      | with_reducible refine rThenExit ?_
      | with_reducible refine rInRet ?_
      | with_reducible refine rInNormal ?_
      | with_reducible refine rInHit ?_
      | with_reducible refine rInMiss rfl ?_
      | with_reducible refine rRet ?_
      | with_reducible refine rExit ?_
      | with_reducible refine rSkip ?_
      | with_reducible refine rScope ?_
      | with_reducible refine rNoGotoRet ?_
      | with_reducible refine rNoGotoNormal ?_
      | (with_reducible show SW _ (Code.region _ _ false) _ _ _); refine rRegC md0 hX rfl rfl rfl (by first | trivial | (simp only [sel, inK, true_and, and_true, implies_true, Bool.cond_true_left, Bool.cond_false_right, Bool.or_eq_true, Bool.and_eq_true, Bool.or_eq_false_iff, Bool.and_eq_false_iff, decide_eq_true_eq, decide_eq_false_iff_not, Bool.not_eq_true', Bool.not_eq_false', beq_iff_eq, bne_iff_ne, ne_eq, beq_eq_false_iff_ne, Bool.not_eq_true]; done) | (simp [sel]; done) | (simp only [sel, inK, true_and, and_true, implies_true, Bool.cond_true_left, Bool.cond_false_right, Bool.or_eq_true, Bool.and_eq_true, Bool.or_eq_false_iff, Bool.and_eq_false_iff, decide_eq_true_eq, decide_eq_false_iff_not, Bool.not_eq_true', Bool.not_eq_false', beq_iff_eq, bne_iff_ne, ne_eq, beq_eq_false_iff_ne, Bool.not_eq_true] at *; omega) | (simp [sel, inK] at *; omega)) ?_
      | (with_reducible show SW _ (Code.region _ _ true) _ _ _); refine rDrawC md0 hX mixed rfl rfl rfl rfl (by first | trivial | (simp only [sel, inK, true_and, and_true, implies_true, Bool.cond_true_left, Bool.cond_false_right, Bool.or_eq_true, Bool.and_eq_true, Bool.or_eq_false_iff, Bool.and_eq_false_iff, decide_eq_true_eq, decide_eq_false_iff_not, Bool.not_eq_true', Bool.not_eq_false', beq_iff_eq, bne_iff_ne, ne_eq, beq_eq_false_iff_ne, Bool.not_eq_true]; done) | (simp [sel]; done) | (simp only [sel, inK, true_and, and_true, implies_true, Bool.cond_true_left, Bool.cond_false_right, Bool.or_eq_true, Bool.and_eq_true, Bool.or_eq_false_iff, Bool.and_eq_false_iff, decide_eq_true_eq, decide_eq_false_iff_not, Bool.not_eq_true', Bool.not_eq_false', beq_iff_eq, bne_iff_ne, ne_eq, beq_eq_false_iff_ne, Bool.not_eq_true] at *; omega) | (simp [sel, inK] at *; omega)) ?_
      | (with_reducible show SW _ (Code.cond _ _ _) _ _ _); (refine rCond rfl rfl (by first | trivial | (simp only [sel, inK, true_and, and_true, implies_true, Bool.cond_true_left, Bool.cond_false_right, Bool.or_eq_true, Bool.and_eq_true, Bool.or_eq_false_iff, Bool.and_eq_false_iff, decide_eq_true_eq, decide_eq_false_iff_not, Bool.not_eq_true', Bool.not_eq_false', beq_iff_eq, bne_iff_ne, ne_eq, beq_eq_false_iff_ne, Bool.not_eq_true]; done) | (simp [sel]; done) | (simp only [sel, inK, true_and, and_true, implies_true, Bool.cond_true_left, Bool.cond_false_right, Bool.or_eq_true, Bool.and_eq_true, Bool.or_eq_false_iff, Bool.and_eq_false_iff, decide_eq_true_eq, decide_eq_false_iff_not, Bool.not_eq_true', Bool.not_eq_false', beq_iff_eq, bne_iff_ne, ne_eq, beq_eq_false_iff_ne, Bool.not_eq_true] at *; omega) | (simp [sel, inK] at *; omega)) (fun h => ?_) (fun h => ?_) <;> (try simp only [Bool.cond_true_left, Bool.cond_false_right, Bool.or_eq_true, Bool.and_eq_true, Bool.or_eq_false_iff, Bool.and_eq_false_iff, decide_eq_true_eq, decide_eq_false_iff_not, Bool.not_eq_true', Bool.not_eq_false', beq_iff_eq, bne_iff_ne, ne_eq, beq_eq_false_iff_ne, Bool.not_eq_true] at h) <;> try (exact absurd ‹_› ‹_›))
      | (with_reducible show SQ _ (Post _ _ _ _ _ _ _) .ret _ _); refine rDone hX rfl (by first | trivial | (simp only [sel, inK, true_and, and_true, implies_true, Bool.cond_true_left, Bool.cond_false_right, Bool.or_eq_true, Bool.and_eq_true, Bool.or_eq_false_iff, Bool.and_eq_false_iff, decide_eq_true_eq, decide_eq_false_iff_not, Bool.not_eq_true', Bool.not_eq_false', beq_iff_eq, bne_iff_ne, ne_eq, beq_eq_false_iff_ne, Bool.not_eq_true]; done) | (simp [sel]; done) | (simp only [sel, inK, true_and, and_true, implies_true, Bool.cond_true_left, Bool.cond_false_right, Bool.or_eq_true, Bool.and_eq_true, Bool.or_eq_false_iff, Bool.and_eq_false_iff, decide_eq_true_eq, decide_eq_false_iff_not, Bool.not_eq_true', Bool.not_eq_false', beq_iff_eq, bne_iff_ne, ne_eq, beq_eq_false_iff_ne, Bool.not_eq_true] at *; omega) | (simp [sel, inK] at *; omega)) (EnvLe.refl _) (by (show bo true = bo _; refine congrArg bo ?_; simp)) rfl rfl rfl (by intro i e h; cases h)
  · cases h

end Go.Proofs.Ytmlnpfkbnldacaa
