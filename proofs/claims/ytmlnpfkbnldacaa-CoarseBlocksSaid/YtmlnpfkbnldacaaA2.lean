/- Scaling of blocks. -/
import Derived.Test.YtmlnpfkbnldacaaA1
set_option linter.unusedVariables false
set_option linter.unusedSimpArgs false
namespace Go.Proofs.Ytmlnpfkbnldacaa
open Go.X


def fillTo (f : Int → Int) (xs : List Int) (i : Nat) : List Int := (xs.take i).map f ++ List.replicate (64 - i) 0
theorem fillTo_zero (f : Int → Int) (xs : List Int) : fillTo f xs 0 = List.replicate 64 0 := by simp [fillTo]
theorem fillTo_set (f : Int → Int) (xs : List Int) (i : Nat) (hl : xs.length = 64) (hi : i < 64) : (fillTo f xs i).set (Int.toNat (i : Int)) (f (xs.getD (Int.toNat (i : Int)) 0)) = fillTo f xs (i + 1) := by
  simp only [Int.toNat_natCast]
  unfold fillTo
  rw [List.set_append_right _ _ (by simp; omega)]
  have h1 : i - (List.map f (List.take i xs)).length = 0 := by simp; omega
  rw [h1, show 64 - i = (64 - (i + 1)) + 1 by omega, List.replicate_succ, List.set_cons_zero]
  rw [show List.take (i+1) xs = List.take i xs ++ [xs[i]] from (List.take_append_getElem (by omega)).symm, List.getD_eq_getElem?_getD, List.getElem?_eq_getElem (by omega)]
  simp only [List.map_append, List.map_cons, List.map_nil, List.append_assoc, List.singleton_append, Option.getD_some]
theorem fillTo_end (f : Int → Int) (xs : List Int) (i : Nat) (hl : xs.length = 64) (hi : 64 ≤ i) : fillTo f xs i = xs.map f := by
  unfold fillTo
  rw [List.take_of_length_le (by omega), show 64 - i = 0 by omega]; simp
def scalB (xs : List Int) (q : Int) (intra : Bool) (dc : Int) : List Int :=
  if intra = true then (xs.map fun x => scal x q).set 0 (8 * clipS dc 1 254) else xs.map fun x => scal x q
def spScalB : X.Spec := fun args _ => match args with
  | [.v (.agg [.ints 64 .i64 xs]), .v (.c (.int .i64 q)), .v (.c (.bool intra)), .v (.c (.int .i64 dc))] => some ⟨xs.length = 64, .v (.agg [.ints 64 .i64 (scalB xs q intra dc)]), [], []⟩
  | _ => none
set_option maxRecDepth 100000 in
set_option maxHeartbeats 4000000 in
theorem ok36 : FnOK Try.prog gt0 36 spScalB := by
  refine fnOK_vals Try.func36 rfl (by kernel_rfl) tt_ok (ktCons ok21 (ktCons ok23 (ktNil))) ?_
  intro args lk r h hp
  unfold spScalB at h
  split at h
  · rename_i xs q intra dc
    cases h
    refine ⟨rfl, rfl, fun w0 M ε0 hX => ?_⟩
    repeat' first
      | with_reducible refine rSeq ?_
      | with_reducible refine rThen ?_
      | with_reducible refine rBlock ?_
      | with_reducible refine rThenRet ?_
      | with_reducible refine rThenExit ?_
      | with_reducible refine rInRet ?_
      | with_reducible refine rInNormal ?_
      | with_reducible refine rInHit ?_
      | with_reducible refine rInMiss rfl ?_
      | with_reducible refine rRet ?_
      | with_reducible refine rExit ?_
      | with_reducible refine rSkip ?_
      | with_reducible refine rScope ?_
      | with_reducible refine rNoGotoRet ?_
      | with_reducible refine rNoGotoNormal ?_
      | (with_reducible show SW _ (Code.region _ _ false) _ _ _); refine rRegC md0 hX rfl rfl rfl (by first | trivial | (simp only [sel, inK, true_and, and_true, implies_true, Bool.cond_true_left, Bool.cond_false_right, Bool.or_eq_true, Bool.and_eq_true, Bool.or_eq_false_iff, Bool.and_eq_false_iff, decide_eq_true_eq, decide_eq_false_iff_not, Bool.not_eq_true', Bool.not_eq_false', beq_iff_eq, bne_iff_ne, ne_eq, beq_eq_false_iff_ne, Bool.not_eq_true]; done) | (simp [sel]; done) | (simp only [sel, inK, true_and, and_true, implies_true, Bool.cond_true_left, Bool.cond_false_right, Bool.or_eq_true, Bool.and_eq_true, Bool.or_eq_false_iff, Bool.and_eq_false_iff, decide_eq_true_eq, decide_eq_false_iff_not, Bool.not_eq_true', Bool.not_eq_false', beq_iff_eq, bne_iff_ne, ne_eq, beq_eq_false_iff_ne, Bool.not_eq_true] at *; omega) | (simp [sel, inK] at *; omega)) ?_
      | (with_reducible show SW _ (Code.region _ _ true) _ _ _); refine rDrawC md0 hX mixed rfl rfl rfl rfl (by first | trivial | (simp only [sel, inK, true_and, and_true, implies_true, Bool.cond_true_left, Bool.cond_false_right, Bool.or_eq_true, Bool.and_eq_true, Bool.or_eq_false_iff, Bool.and_eq_false_iff, decide_eq_true_eq, decide_eq_false_iff_not, Bool.not_eq_true', Bool.not_eq_false', beq_iff_eq, bne_iff_ne, ne_eq, beq_eq_false_iff_ne, Bool.not_eq_true]; done) | (simp [sel]; done) | (simp only [sel, inK, true_and, and_true, implies_true, Bool.cond_true_left, Bool.cond_false_right, Bool.or_eq_true, Bool.and_eq_true, Bool.or_eq_false_iff, Bool.and_eq_false_iff, decide_eq_true_eq, decide_eq_false_iff_not, Bool.not_eq_true', Bool.not_eq_false', beq_iff_eq, bne_iff_ne, ne_eq, beq_eq_false_iff_ne, Bool.not_eq_true] at *; omega) | (simp [sel, inK] at *; omega)) ?_
      | (with_reducible show SW _ (Code.cond _ _ _) _ _ _); (refine rCond rfl rfl (by first | trivial | (simp only [sel, inK, true_and, and_true, implies_true, Bool.cond_true_left, Bool.cond_false_right, Bool.or_eq_true, Bool.and_eq_true, Bool.or_eq_false_iff, Bool.and_eq_false_iff, decide_eq_true_eq, decide_eq_false_iff_not, Bool.not_eq_true', Bool.not_eq_false', beq_iff_eq, bne_iff_ne, ne_eq, beq_eq_false_iff_ne, Bool.not_eq_true]; done) | (simp [sel]; done) | (simp only [sel, inK, true_and, and_true, implies_true, Bool.cond_true_left, Bool.cond_false_right, Bool.or_eq_true, Bool.and_eq_true, Bool.or_eq_false_iff, Bool.and_eq_false_iff, decide_eq_true_eq, decide_eq_false_iff_not, Bool.not_eq_true', Bool.not_eq_false', beq_iff_eq, bne_iff_ne, ne_eq, beq_eq_false_iff_ne, Bool.not_eq_true] at *; omega) | (simp [sel, inK] at *; omega)) (fun h => ?_) (fun h => ?_) <;> (try simp only [Bool.cond_true_left, Bool.cond_false_right, Bool.or_eq_true, Bool.and_eq_true, Bool.or_eq_false_iff, Bool.and_eq_false_iff, decide_eq_true_eq, decide_eq_false_iff_not, Bool.not_eq_true', Bool.not_eq_false', beq_iff_eq, bne_iff_ne, ne_eq, beq_eq_false_iff_ne, Bool.not_eq_true] at h) <;> try (exact absurd ‹_› ‹_›))
      | (with_reducible show SQ _ (Post _ _ _ _ _ _ _) .ret _ _); refine rDone hX rfl (by first | trivial | (simp only [sel, inK, true_and, and_true, implies_true, Bool.cond_true_left, Bool.cond_false_right, Bool.or_eq_true, Bool.and_eq_true, Bool.or_eq_false_iff, Bool.and_eq_false_iff, decide_eq_true_eq, decide_eq_false_iff_not, Bool.not_eq_true', Bool.not_eq_false', beq_iff_eq, bne_iff_ne, ne_eq, beq_eq_false_iff_ne, Bool.not_eq_true]; done) | (simp [sel]; done) | (simp only [sel, inK, true_and, and_true, implies_true, Bool.cond_true_left, Bool.cond_false_right, Bool.or_eq_true, Bool.and_eq_true, Bool.or_eq_false_iff, Bool.and_eq_false_iff, decide_eq_true_eq, decide_eq_false_iff_not, Bool.not_eq_true', Bool.not_eq_false', beq_iff_eq, bne_iff_ne, ne_eq, beq_eq_false_iff_ne, Bool.not_eq_true] at *; omega) | (simp [sel, inK] at *; omega)) (EnvLe.refl _) (by rfl) rfl rfl rfl (by intro i e h; cases h)
    refine rLoop0 (fun i : {i : Nat // i ≤ 64} => ⟨[(1, i64 q), (2, bo intra), (3, i64 dc), (8, .v (.c (.ptr 1 0 0 0 0 0))), (9, .v (.c (.ptr 2 0 0 0 0 0))), (12, .v (.agg [.ints 64 .i64 xs])), (13, i64 (i.1 : Int))],
      [(2, .mem true 39 none (.flat [.ints 64 .i64 (fillTo (fun x => scal x q) xs i.1)])), (1, .mem true 39 none (.flat [.ints 64 .i64 (List.replicate 64 0)]))], 3⟩) (fun i => 64 - i.1) ⟨0, by omega⟩ (by refine Le.mk ?_ ?_ rfl <;> (repeat' first | exact RLe.nil | refine RLe.cons rfl ?_ ?_ | exact BLe.nil | refine BLe.cons rfl ?_ ?_) <;> (first | exact SVle.refl _ | exact Ele.refl _ | exact SVle.int (by first | omega | (dsimp only; omega)) | exact SVle.bool (by rfl) | exact SVle.ints (by first | rfl | exact (fillTo_zero _ _).symm | exact fillTo_set (fun x => scal x q) xs _ hp (by first | omega | (dsimp only; omega))) | exact Ele.mem (Ble.ints (by first | rfl | exact (fillTo_zero _ _).symm | exact fillTo_set (fun x => scal x q) xs _ hp (by first | omega | (dsimp only; omega)))))) ?_
    rintro ⟨i, hi⟩
    repeat' first
      | (with_reducible show SQ _ (Exit.then (Again _ _ _ _ _) _) .normal _ _); refine rAgain0 ⟨i + 1, by omega⟩ (by first | omega | (dsimp only; omega)) (by exact by refine Le.mk ?_ ?_ rfl <;> (repeat' first | exact RLe.nil | refine RLe.cons rfl ?_ ?_ | exact BLe.nil | refine BLe.cons rfl ?_ ?_) <;> (first | exact SVle.refl _ | exact Ele.refl _ | exact SVle.int (by first | omega | (dsimp only; omega)) | exact SVle.bool (by rfl) | exact SVle.ints (by first | rfl | exact (fillTo_zero _ _).symm | exact fillTo_set (fun x => scal x q) xs _ hp (by first | omega | (dsimp only; omega))) | exact Ele.mem (Ble.ints (by first | rfl | exact (fillTo_zero _ _).symm | exact fillTo_set (fun x => scal x q) xs _ hp (by first | omega | (dsimp only; omega))))))
      | with_reducible refine rSeq ?_
      | with_reducible refine rThen ?_
      | with_reducible refine rBlock ?_
      | with_reducible refine rThenRet ?_
      | with_reducible refine rThenExit ?_
      | with_reducible refine rInRet ?_
      | with_reducible refine rInNormal ?_
      | with_reducible refine rInHit ?_
      | with_reducible refine rInMiss rfl ?_
      | with_reducible refine rRet ?_
      | with_reducible refine rExit ?_
      | with_reducible refine rSkip ?_
      | with_reducible refine rScope ?_
      | with_reducible refine rNoGotoRet ?_
      | with_reducible refine rNoGotoNormal ?_
      | (with_reducible show SW _ (Code.region _ _ false) _ _ _); refine rRegC md0 hX rfl rfl rfl (by first | trivial | (simp only [sel, inK, true_and, and_true, implies_true, Bool.cond_true_left, Bool.cond_false_right, Bool.or_eq_true, Bool.and_eq_true, Bool.or_eq_false_iff, Bool.and_eq_false_iff, decide_eq_true_eq, decide_eq_false_iff_not, Bool.not_eq_true', Bool.not_eq_false', beq_iff_eq, bne_iff_ne, ne_eq, beq_eq_false_iff_ne, Bool.not_eq_true]; done) | (simp [sel]; done) | (simp only [sel, inK, true_and, and_true, implies_true, Bool.cond_true_left, Bool.cond_false_right, Bool.or_eq_true, Bool.and_eq_true, Bool.or_eq_false_iff, Bool.and_eq_false_iff, decide_eq_true_eq, decide_eq_false_iff_not, Bool.not_eq_true', Bool.not_eq_false', beq_iff_eq, bne_iff_ne, ne_eq, beq_eq_false_iff_ne, Bool.not_eq_true] at *; omega) | (simp [sel, inK] at *; omega)) ?_
      | (with_reducible show SW _ (Code.region _ _ true) _ _ _); refine rDrawC md0 hX mixed rfl rfl rfl rfl (by first | trivial | (simp only [sel, inK, true_and, and_true, implies_true, Bool.cond_true_left, Bool.cond_false_right, Bool.or_eq_true, Bool.and_eq_true, Bool.or_eq_false_iff, Bool.and_eq_false_iff, decide_eq_true_eq, decide_eq_false_iff_not, Bool.not_eq_true', Bool.not_eq_false', beq_iff_eq, bne_iff_ne, ne_eq, beq_eq_false_iff_ne, Bool.not_eq_true]; done) | (simp [sel]; done) | (simp only [sel, inK, true_and, and_true, implies_true, Bool.cond_true_left, Bool.cond_false_right, Bool.or_eq_true, Bool.and_eq_true, Bool.or_eq_false_iff, Bool.and_eq_false_iff, decide_eq_true_eq, decide_eq_false_iff_not, Bool.not_eq_true', Bool.not_eq_false', beq_iff_eq, bne_iff_ne, ne_eq, beq_eq_false_iff_ne, Bool.not_eq_true] at *; omega) | (simp [sel, inK] at *; omega)) ?_
      | (with_reducible show SW _ (Code.cond _ _ _) _ _ _); (refine rCond rfl rfl (by first | trivial | (simp only [sel, inK, true_and, and_true, implies_true, Bool.cond_true_left, Bool.cond_false_right, Bool.or_eq_true, Bool.and_eq_true, Bool.or_eq_false_iff, Bool.and_eq_false_iff, decide_eq_true_eq, decide_eq_false_iff_not, Bool.not_eq_true', Bool.not_eq_false', beq_iff_eq, bne_iff_ne, ne_eq, beq_eq_false_iff_ne, Bool.not_eq_true]; done) | (simp [sel]; done) | (simp only [sel, inK, true_and, and_true, implies_true, Bool.cond_true_left, Bool.cond_false_right, Bool.or_eq_true, Bool.and_eq_true, Bool.or_eq_false_iff, Bool.and_eq_false_iff, decide_eq_true_eq, decide_eq_false_iff_not, Bool.not_eq_true', Bool.not_eq_false', beq_iff_eq, bne_iff_ne, ne_eq, beq_eq_false_iff_ne, Bool.not_eq_true] at *; omega) | (simp [sel, inK] at *; omega)) (fun h => ?_) (fun h => ?_) <;> (try simp only [Bool.cond_true_left, Bool.cond_false_right, Bool.or_eq_true, Bool.and_eq_true, Bool.or_eq_false_iff, Bool.and_eq_false_iff, decide_eq_true_eq, decide_eq_false_iff_not, Bool.not_eq_true', Bool.not_eq_false', beq_iff_eq, bne_iff_ne, ne_eq, beq_eq_false_iff_ne, Bool.not_eq_true] at h) <;> try (exact absurd ‹_› ‹_›))
      | (with_reducible show SQ _ (Post _ _ _ _ _ _ _) .ret _ _); refine rDone hX rfl (by first | trivial | (simp only [sel, inK, true_and, and_true, implies_true, Bool.cond_true_left, Bool.cond_false_right, Bool.or_eq_true, Bool.and_eq_true, Bool.or_eq_false_iff, Bool.and_eq_false_iff, decide_eq_true_eq, decide_eq_false_iff_not, Bool.not_eq_true', Bool.not_eq_false', beq_iff_eq, bne_iff_ne, ne_eq, beq_eq_false_iff_ne, Bool.not_eq_true]; done) | (simp [sel]; done) | (simp only [sel, inK, true_and, and_true, implies_true, Bool.cond_true_left, Bool.cond_false_right, Bool.or_eq_true, Bool.and_eq_true, Bool.or_eq_false_iff, Bool.and_eq_false_iff, decide_eq_true_eq, decide_eq_false_iff_not, Bool.not_eq_true', Bool.not_eq_false', beq_iff_eq, bne_iff_ne, ne_eq, beq_eq_false_iff_ne, Bool.not_eq_true] at *; omega) | (simp [sel, inK] at *; omega)) (EnvLe.refl _) (by first | (show SV.v (.agg [.ints 64 .i64 (scalB xs q intra dc)]) = SV.v (.agg [.ints 64 .i64 _]); simp only [scalB]; rw [fillTo_end _ _ _ hp (by omega)]; simp [h]) | (show SV.v (.agg [.ints 64 .i64 (scalB xs q intra dc)]) = SV.v (.agg [.ints 64 .i64 _]); simp only [scalB]; rw [fillTo_end _ _ _ hp (by omega)]; simp [*])) rfl rfl rfl (by intro i e h; cases h)
  · cases h

end Go.Proofs.Ytmlnpfkbnldacaa
