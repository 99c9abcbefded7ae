/- Levels back. -/
import Derived.Test.YtmlnpfkbnldacaaA1
import Derived.Test.YtmlnpfkbnldacaaA4
set_option linter.unusedVariables false
set_option linter.unusedSimpArgs false
namespace Go.Proofs.Ytmlnpfkbnldacaa
open Go.X


theorem ediv_anti (a b c : Int) (ha : 0 ≤ a) (hb : 0 < b) (hbc : b ≤ c) : a / c ≤ a / b := by
  apply Int.le_ediv_of_mul_le hb
  calc a / c * b ≤ a / c * c := Int.mul_le_mul_of_nonneg_left hbc (Int.ediv_nonneg ha (by omega))
    _ ≤ a := Int.ediv_mul_le a (by omega)
theorem clip_mono (x y lo hi : Int) (h : x ≤ y) (hl : lo ≤ hi) : clipS x lo hi ≤ clipS y lo hi := by
  unfold clipS
  repeat' split
  all_goals omega
theorem cut_mono (n m s t : Int) (hn : n ≤ m) (hs : 0 < s) (ht : s ≤ t) : cut n t ≤ cut m s := by
  unfold cut
  apply clip_mono _ _ _ _ _ (by omega)
  calc max n 0 / t ≤ max n 0 / s := ediv_anti _ _ _ (by omega) hs ht
    _ ≤ max m 0 / s := Int.ediv_le_ediv hs (by omega)
/-- What the quantiser keeps of a value. -/
def absL (value quant : Int) (intra : Bool) : Int := cut (max (clipS value (-2048) 2047) (-(clipS value (-2048) 2047)) - (if intra = true then 0 else clipS quant 1 31 / 2)) (2 * clipS quant 1 31)
theorem levS_abs (a b : Int) (i : Bool) : max (levS a b i) (-(levS a b i)) = absL a b i := by
  have h1 := cut_in (-(clipS a (-2048) 2047) - (if i = true then 0 else clipS b 1 31 / 2)) (2 * clipS b 1 31)
  have h2 := cut_in (clipS a (-2048) 2047 - (if i = true then 0 else clipS b 1 31 / 2)) (2 * clipS b 1 31)
  unfold levS absL
  by_cases hv : clipS a (-2048) 2047 < 0
  · rw [if_pos hv, show max (clipS a (-2048) 2047) (-(clipS a (-2048) 2047)) = -(clipS a (-2048) 2047) by omega]; omega
  · rw [if_neg hv, show max (clipS a (-2048) 2047) (-(clipS a (-2048) 2047)) = clipS a (-2048) 2047 by omega]; omega
theorem absL_mono (a q m : Int) (i : Bool) (hq : 1 ≤ q) (h : q ≤ m) (hm : m ≤ 31) : absL a m i ≤ absL a q i := by
  have e1 : clipS q 1 31 = q := by unfold clipS; repeat' split
                                   all_goals omega
  have e2 : clipS m 1 31 = m := by unfold clipS; repeat' split
                                   all_goals omega
  unfold absL
  rw [e1, e2]
  apply cut_mono _ _ _ _ _ (by omega) (by omega)
  split <;> omega
theorem absL_intra (a q : Int) : absL a q false ≤ absL a q true := by
  have hq := clipS_in q 1 31 (by omega)
  unfold absL
  apply cut_mono _ _ _ _ _ (by omega) (by omega)
  simp only [Bool.false_eq_true, if_false, if_true]
  omega
theorem absL_in (a q : Int) (i : Bool) : absL a q i ≤ 127 := (cut_in _ _).2
theorem clip_id (x lo hi : Int) (h : lo ≤ x ∧ x ≤ hi) : clipS x lo hi = x := by
  unfold clipS; repeat' split
  all_goals omega
theorem clip_strict (x lo hi : Int) (hl : lo ≤ hi) (h1 : lo < clipS x lo hi) (h2 : clipS x lo hi < hi) : clipS x lo hi = x := by
  unfold clipS at *
  (repeat' split at *) <;> omega
theorem cut_back (m q d : Int) (hm : 0 ≤ m ∧ m ≤ 127) (hq : 1 ≤ q ∧ q ≤ 31) (hd : 0 ≤ d ∧ d < 2 * q) : cut (m * (2 * q) + d) (2 * q) = m := by
  have h0 : 0 ≤ m * (2 * q) := Int.mul_nonneg (by omega) (by omega)
  unfold cut
  rw [show max (m * (2 * q) + d) 0 = m * (2 * q) + d by omega, Int.add_comm, Int.add_mul_ediv_right _ _ (by omega), Int.ediv_eq_zero_of_lt hd.1 hd.2, Int.zero_add]
  exact clip_id _ _ _ (by omega)
theorem cut_neg (n s : Int) (h : n ≤ 0) : cut n s = 0 := by
  unfold cut
  rw [show max n 0 = 0 by omega, Int.zero_ediv]; rfl
/-- A level that goes through both ways comes back. -/
theorem lev_back (a q : Int) (i : Bool) (ha : -127 ≤ a ∧ a ≤ 127) (hq : 1 ≤ q ∧ q ≤ 31) (h1 : -2048 < scal a q) (h2 : scal a q < 2047) : levS (scal a q) q i = a := by
  have eq : clipS q 1 31 = q := clip_id _ _ _ hq
  have ea : clipS a (-127) 127 = a := clip_id _ _ _ ha
  have es : scal a q = if a < 0 then -(amt (-a) q) else amt a q := by
    unfold scal at h1 h2 ⊢
    rw [ea, eq] at h1 h2 ⊢
    exact clip_strict _ _ _ (by omega) h1 h2
  have ec : clipS (scal a q) (-2048) 2047 = scal a q := clip_id _ _ _ (by omega)
  have key : ∀ m, 1 ≤ m → m ≤ 127 → 1 ≤ amt m q ∧ cut (amt m q - (if i = true then 0 else q / 2)) (2 * q) = m := by
    intro m hm hm'
    have hp : 1 * 3 ≤ q * (2 * m + 1) := Int.mul_le_mul hq.1 (by omega) (by omega) (by omega)
    have e : q * (2 * m + 1) = m * (2 * q) + q := by rw [Int.mul_add, Int.mul_one, ← Int.mul_assoc, Int.mul_comm q 2, Int.mul_comm (2 * q) m]
    unfold amt
    rw [if_neg (by omega)]
    have step : ∀ d, 0 ≤ d → d < 2 * q → cut (m * (2 * q) + d) (2 * q) = m := fun d h1 h2 => cut_back m q d (by omega) hq ⟨h1, h2⟩
    by_cases hi : i = true
    · simp only [hi, if_true, Int.sub_zero]
      split
      · exact ⟨by omega, by rw [e]; exact step q (by omega) (by omega)⟩
      · refine ⟨by omega, ?_⟩
        rw [e, show m * (2 * q) + q - 1 = m * (2 * q) + (q - 1) by omega]
        exact step _ (by omega) (by omega)
    · simp only [hi, if_false, Bool.false_eq_true]
      split
      · refine ⟨by omega, ?_⟩
        rw [e, show m * (2 * q) + q - q / 2 = m * (2 * q) + (q - q / 2) by omega]
        exact step _ (by omega) (by omega)
      · refine ⟨by omega, ?_⟩
        rw [e, show m * (2 * q) + q - 1 - q / 2 = m * (2 * q) + (q - 1 - q / 2) by omega]
        exact step _ (by omega) (by omega)
  unfold levS
  rw [ec, eq, es]
  rcases Int.lt_trichotomy a 0 with h | h | h
  · obtain ⟨k1, k2⟩ := key (-a) (by omega) (by omega)
    rw [if_pos h, if_pos (by omega), Int.neg_neg, k2]; omega
  · subst h
    have : amt 0 q = 0 := by simp [amt]
    simp only [this, if_neg (show ¬ (0 : Int) < 0 by omega)]
    rw [cut_neg _ _ (by split <;> omega)]
  · obtain ⟨k1, k2⟩ := key a (by omega) (by omega)
    rw [if_neg (by omega), if_neg (by omega), k2]
def spLaw11 : X.Spec := fun args _ => match args with
  | [.v (.c (.int .i64 a)), .v (.agg [.cs [.int .u8 y0, .int .u8 y1]]), .v (.c (.int .i64 v))] => some ⟨(0 ≤ y0 ∧ y0 ≤ 255) ∧ 0 ≤ y1 ∧ y1 ≤ 255, bo true, [], []⟩
  | _ => none
set_option maxRecDepth 100000 in
set_option maxHeartbeats 4000000 in
theorem ok11 : FnOK Try.prog gt0 11 spLaw11 := by
  refine fnOK_vals Try.func11 rfl (by kernel_rfl) tt_ok (ktCons ok21 (ktCons ok26 (ktCons ok28 (ktCons ok31 (ktNil))))) ?_
  intro args lk r h hp
  unfold spLaw11 at h
  split at h
  · rename_i a y0 y1 v
    cases h
    refine ⟨rfl, rfl, fun w0 M ε0 hX => ?_⟩
    have hp : (0 ≤ y0 ∧ y0 ≤ 255) ∧ 0 ≤ y1 ∧ y1 ≤ 255 := hp
    have g1 := fun h1 h2 h3 h4 => lev_back a (1 + y0 % 31) false ⟨h1, h2⟩ (by omega) h3 h4
    have g2 := fun h1 h2 h3 h4 => lev_back a (1 + y0 % 31) true ⟨h1, h2⟩ (by omega) h3 h4
    have m1 := levS_abs v (1 + y0 % 31) false
    have m2 := levS_abs v (1 + y1 % 31) false
    have m3 := levS_abs v (1 + y0 % 31) true
    have m4 := levS_abs v (1 + y1 % 31) true
    have o1 := fun h => absL_mono v (1 + y0 % 31) (1 + y1 % 31) false (by omega) h (by omega)
    have o2 := fun h => absL_mono v (1 + y0 % 31) (1 + y1 % 31) true (by omega) h (by omega)
    have o3 := absL_intra v (1 + y0 % 31)
    have o4 := absL_in v (1 + y0 % 31) true
    have o5 := absL_in v (1 + y0 % 31) false
    have o6 := absL_in v (1 + y1 % 31) true
    have o7 := absL_in v (1 + y1 % 31) false
    have o8 := clipS_in (1 + y0 % 31) 1 31 (by omega)
    repeat' first
      | with_reducible refine rSeq ?_
      | with_reducible refine rThen ?_
      | with_reducible refine rBlock ?_
      | with_reducible refine rThenRet ?_
      | with_reducible refine rThenExit ?_
      | with_reducible refine rInRet ?_
      | with_reducible refine rInNormal ?_
      | with_reducible refine rInHit ?_
      | with_reducible refine rInMiss rfl ?_
      | with_reducible refine rRet ?_
      | with_reducible refine rExit ?_
      | with_reducible refine rSkip ?_
      | with_reducible refine rScope ?_
      | with_reducible refine rNoGotoRet ?_
      | with_reducible refine rNoGotoNormal ?_
      | (with_reducible show SW _ (Code.region _ _ false) _ _ _); refine rRegC md0 hX rfl rfl rfl (by first | trivial | (simp only [sel, inK, true_and, and_true, implies_true, Bool.cond_true_left, Bool.cond_false_right, Bool.or_eq_true, Bool.and_eq_true, Bool.or_eq_false_iff, Bool.and_eq_false_iff, decide_eq_true_eq, decide_eq_false_iff_not, Bool.not_eq_true', Bool.not_eq_false', beq_iff_eq, bne_iff_ne, ne_eq, beq_eq_false_iff_ne, Bool.not_eq_true]; done) | (simp [sel]; done) | (simp only [sel, inK, true_and, and_true, implies_true, Bool.cond_true_left, Bool.cond_false_right, Bool.or_eq_true, Bool.and_eq_true, Bool.or_eq_false_iff, Bool.and_eq_false_iff, decide_eq_true_eq, decide_eq_false_iff_not, Bool.not_eq_true', Bool.not_eq_false', beq_iff_eq, bne_iff_ne, ne_eq, beq_eq_false_iff_ne, Bool.not_eq_true] at *; omega) | (simp [sel, inK] at *; omega)) ?_
      | (with_reducible show SW _ (Code.region _ _ true) _ _ _); refine rDrawC md0 hX mixed rfl rfl rfl rfl (by first | trivial | (simp only [sel, inK, true_and, and_true, implies_true, Bool.cond_true_left, Bool.cond_false_right, Bool.or_eq_true, Bool.and_eq_true, Bool.or_eq_false_iff, Bool.and_eq_false_iff, decide_eq_true_eq, decide_eq_false_iff_not, Bool.not_eq_true', Bool.not_eq_false', beq_iff_eq, bne_iff_ne, ne_eq, beq_eq_false_iff_ne, Bool.not_eq_true]; done) | (simp [sel]; done) | (simp only [sel, inK, true_and, and_true, implies_true, Bool.cond_true_left, Bool.cond_false_right, Bool.or_eq_true, Bool.and_eq_true, Bool.or_eq_false_iff, Bool.and_eq_false_iff, decide_eq_true_eq, decide_eq_false_iff_not, Bool.not_eq_true', Bool.not_eq_false', beq_iff_eq, bne_iff_ne, ne_eq, beq_eq_false_iff_ne, Bool.not_eq_true] at *; omega) | (simp [sel, inK] at *; omega)) ?_
      | (with_reducible show SW _ (Code.cond _ _ _) _ _ _); (refine rCond rfl rfl (by first | trivial | (simp only [sel, inK, true_and, and_true, implies_true, Bool.cond_true_left, Bool.cond_false_right, Bool.or_eq_true, Bool.and_eq_true, Bool.or_eq_false_iff, Bool.and_eq_false_iff, decide_eq_true_eq, decide_eq_false_iff_not, Bool.not_eq_true', Bool.not_eq_false', beq_iff_eq, bne_iff_ne, ne_eq, beq_eq_false_iff_ne, Bool.not_eq_true]; done) | (simp [sel]; done) | (simp only [sel, inK, true_and, and_true, implies_true, Bool.cond_true_left, Bool.cond_false_right, Bool.or_eq_true, Bool.and_eq_true, Bool.or_eq_false_iff, Bool.and_eq_false_iff, decide_eq_true_eq, decide_eq_false_iff_not, Bool.not_eq_true', Bool.not_eq_false', beq_iff_eq, bne_iff_ne, ne_eq, beq_eq_false_iff_ne, Bool.not_eq_true] at *; omega) | (simp [sel, inK] at *; omega)) (fun h => ?_) (fun h => ?_) <;> (try simp only [Bool.cond_true_left, Bool.cond_false_right, Bool.or_eq_true, Bool.and_eq_true, Bool.or_eq_false_iff, Bool.and_eq_false_iff, decide_eq_true_eq, decide_eq_false_iff_not, Bool.not_eq_true', Bool.not_eq_false', beq_iff_eq, bne_iff_ne, ne_eq, beq_eq_false_iff_ne, Bool.not_eq_true] at h) <;> try (exact absurd ‹_› ‹_›))
      | (with_reducible show SQ _ (Post _ _ _ _ _ _ _) .ret _ _); refine rDone hX rfl (by first | trivial | (simp only [sel, inK, true_and, and_true, implies_true, Bool.cond_true_left, Bool.cond_false_right, Bool.or_eq_true, Bool.and_eq_true, Bool.or_eq_false_iff, Bool.and_eq_false_iff, decide_eq_true_eq, decide_eq_false_iff_not, Bool.not_eq_true', Bool.not_eq_false', beq_iff_eq, bne_iff_ne, ne_eq, beq_eq_false_iff_ne, Bool.not_eq_true]; done) | (simp [sel]; done) | (simp only [sel, inK, true_and, and_true, implies_true, Bool.cond_true_left, Bool.cond_false_right, Bool.or_eq_true, Bool.and_eq_true, Bool.or_eq_false_iff, Bool.and_eq_false_iff, decide_eq_true_eq, decide_eq_false_iff_not, Bool.not_eq_true', Bool.not_eq_false', beq_iff_eq, bne_iff_ne, ne_eq, beq_eq_false_iff_ne, Bool.not_eq_true] at *; omega) | (simp [sel, inK] at *; omega)) (EnvLe.refl _) (by first | (exfalso; omega) | (show bo true = bo _; refine congrArg bo (Eq.symm ?_); simp only [Bool.or_false, and_true, true_and, Bool.cond_true_left, Bool.cond_false_right, Bool.or_eq_true, Bool.and_eq_true, Bool.or_eq_false_iff, Bool.and_eq_false_iff, decide_eq_true_eq, decide_eq_false_iff_not, Bool.not_eq_true', Bool.not_eq_false', beq_iff_eq, bne_iff_ne, ne_eq, beq_eq_false_iff_ne, Bool.not_eq_true]; omega)) rfl rfl rfl (by intro i e h; cases h)
  · cases h

end Go.Proofs.Ytmlnpfkbnldacaa
