/- The pure statement of ScaleRises: the scaler keeps sign and order. -/
import Derived.Test.YtmlnpfkbnldacaaPScaleRisesx1
namespace Go.Proofs.Ytmlnpfkbnldacaa.Pure
open Go.RowKit Go.Proofs.Ytmlnpfkbnldacaa.PScaleRises Go.Proofs.YtmlnpfkbnldacaaW.PrintWords Go.Proofs.YtmlnpfkbnldacaaW.PrintLast

namespace SV

def clip (x lo hi : Int) : Int := if x < lo then lo else if x > hi then hi else x

theorem clip_in (x lo hi : Int) (h : lo ≤ hi) : lo ≤ clip x lo hi ∧ clip x lo hi ≤ hi := by
  unfold clip
  by_cases h1 : x < lo
  · rw [if_pos h1]; omega
  · rw [if_neg h1]
    by_cases h2 : x > hi
    · rw [if_pos h2]; omega
    · rw [if_neg h2]; omega

theorem w64 (n : Int) (h : -9223372036854775808 ≤ n ∧ n ≤ 9223372036854775807) : wrap64 n = n := by
  unfold wrap64; omega

theorem whole (k : Nat) (x lo hi : Int) (h : lo ≤ hi) : whole_Clip.f (k+1) x lo hi = some (clip x lo hi) := by
  unfold whole_Clip.f
  rw [if_neg (by omega)]
  unfold whole_Clip.j0 clip
  by_cases h1 : x < lo
  · simp [h1]
  · simp [h1]; split <;> simp_all

def amt (m q : Int) : Int := if m = 0 then 0 else if Int.tmod q 2 = 1 then q * (2 * m + 1) else q * (2 * m + 1) - 1

theorem prod_in (m q : Int) (hm : 0 ≤ m ∧ m ≤ 127) (hq : 1 ≤ q ∧ q ≤ 31) : 0 ≤ q * (2*m+1) ∧ q * (2*m+1) ≤ 7905 := by
  constructor
  · exact Int.mul_nonneg (by omega) (by omega)
  · calc q * (2*m+1) ≤ 31 * (2*m+1) := Int.mul_le_mul_of_nonneg_right (by omega) (by omega)
      _ ≤ 7905 := by omega

def sval (a b : Int) : Int :=
  let v := clip a (-127) 127
  let q := clip b 1 31
  clip (if v < 0 then -(amt (-v) q) else amt v q) (-2048) 2047

theorem mx_abs (v : Int) (h : -127 ≤ v ∧ v ≤ 127) : mx v (wrap64 (-v)) = if v < 0 then -v else v := by
  rw [w64 (-v) (by omega)]; unfold mx; split <;> split <;> omega

theorem tm2 (q : Int) (h : 1 ≤ q ∧ q ≤ 31) : Int.tmod q 2 = 0 ∨ Int.tmod q 2 = 1 := by
  rw [Int.tmod_eq_emod_of_nonneg (by omega)]; omega

theorem scaleV (k : Nat) (a b : Int) : scale_Value.f (k+1) a b = some (sval a b) := by
  have hv := clip_in a (-127) 127 (by omega)
  have hq := clip_in b 1 31 (by omega)
  unfold scale_Value.f sval
  rw [whole k a _ _ (by omega), whole k b _ _ (by omega)]
  simp only [Option.bind_some]
  generalize clip a (-127) 127 = v at *
  generalize clip b 1 31 = q at *
  rw [mx_abs v hv]
  by_cases h0 : v = 0
  · subst h0; simp [amt, clip]
  rw [if_neg h0]
  by_cases hn : v < 0
  · have hp := prod_in (-v) q (by omega) hq
    simp only [hn, if_true, w64 (2 * -v) (by omega), w64 (2 * -v + 1) (by omega), w64 (q * (2 * -v + 1)) (by omega), w64 (q * (2 * -v + 1) - 1) (by omega), w64 (-(q * (2 * -v + 1))) (by omega), w64 (-(q * (2 * -v + 1) - 1)) (by omega), amt, show ¬ (-v = 0) by omega, if_false, whole _ _ (-2048) 2047 (by omega), Option.bind_some]
    rcases tm2 q hq with h | h <;> simp [h]
  · have hp := prod_in v q (by omega) hq
    simp only [hn, w64 (2 * v) (by omega), w64 (2 * v + 1) (by omega), w64 (q * (2 * v + 1)) (by omega), w64 (q * (2 * v + 1) - 1) (by omega), amt, h0, if_false, whole _ _ (-2048) 2047 (by omega), Option.bind_some]
    rcases tm2 q hq with h | h <;> simp [h]

theorem amt_in (m q : Int) (hm : 0 ≤ m ∧ m ≤ 127) (hq : 1 ≤ q ∧ q ≤ 31) : -1 ≤ amt m q ∧ amt m q ≤ 7905 := by
  have hp := prod_in m q hm hq
  unfold amt; split
  · omega
  · split <;> omega

theorem dcV (k : Nat) (a : Int) : scale_Dc.f (k+1) a = some (8 * clip a 1 254) := by
  have := clip_in a 1 254 (by omega)
  unfold scale_Dc.f
  rw [whole k a _ _ (by omega)]; simp only [Option.bind_some]; rw [w64 _ (by omega)]

theorem livesV : overspilllaw12_lives.f 1 = some true := by
  unfold overspilllaw12_lives.f
  simp only [scaleV 0, dcV 0, Option.bind_some]
  decide


/-- The scaled value before its last clip. -/
def raw (v q : Int) : Int := if v < 0 then -(amt (-v) q) else amt v q

theorem amt_pos (m q : Int) (hm : 1 ≤ m ∧ m ≤ 127) (hq : 1 ≤ q ∧ q ≤ 31) : 1 ≤ amt m q := by
  have h : (2*m+1) ≤ q * (2*m+1) := by
    have := Int.mul_le_mul_of_nonneg_right hq.1 (show 0 ≤ 2*m+1 by omega)
    omega
  unfold amt
  rw [if_neg (by omega)]
  split <;> omega

theorem amt_mono (m n q : Int) (hm : 0 ≤ m ∧ m ≤ n ∧ n ≤ 127) (hq : 1 ≤ q ∧ q ≤ 31) : amt m q ≤ amt n q := by
  by_cases h0 : m = 0
  · subst h0
    by_cases h1 : n = 0
    · subst h1; omega
    · have := amt_pos n q (by omega) hq
      have h2 : amt 0 q = 0 := by simp [amt]
      omega
  · have h : q * (2*m+1) ≤ q * (2*n+1) := Int.mul_le_mul_of_nonneg_left (by omega) (by omega)
    unfold amt
    rw [if_neg h0, if_neg (show ¬ n = 0 by omega)]
    split <;> omega

theorem amt_zero (q : Int) : amt 0 q = 0 := by simp [amt]

theorem raw_mono (v u q : Int) (h : v ≤ u) (hv : -127 ≤ v ∧ v ≤ 127) (hu : -127 ≤ u ∧ u ≤ 127) (hq : 1 ≤ q ∧ q ≤ 31) : raw v q ≤ raw u q := by
  unfold raw
  by_cases h1 : v < 0
  · have a1 := amt_pos (-v) q (by omega) hq
    rw [if_pos h1]
    by_cases h2 : u < 0
    · rw [if_pos h2]
      have := amt_mono (-u) (-v) q (by omega) hq
      omega
    · rw [if_neg h2]
      have := amt_mono 0 u q (by omega) hq
      rw [amt_zero] at this
      omega
  · rw [if_neg h1, if_neg (show ¬ u < 0 by omega)]
    exact amt_mono v u q (by omega) hq

theorem clip_mono (x y lo hi : Int) (h : x ≤ y) (hl : lo ≤ hi) : clip x lo hi ≤ clip y lo hi := by
  unfold clip
  by_cases h1 : x < lo
  · rw [if_pos h1]
    by_cases h2 : y < lo
    · rw [if_pos h2]; omega
    · rw [if_neg h2]; by_cases h3 : y > hi
      · rw [if_pos h3]; omega
      · rw [if_neg h3]; omega
  · rw [if_neg h1, if_neg (show ¬ y < lo by omega)]
    by_cases h3 : x > hi
    · rw [if_pos h3, if_pos (show y > hi by omega)]; omega
    · rw [if_neg h3]; by_cases h4 : y > hi
      · rw [if_pos h4]; omega
      · rw [if_neg h4]; omega

theorem sval_mono (a b c : Int) (h : a ≤ b) : sval a c ≤ sval b c :=
  clip_mono _ _ _ _ (raw_mono _ _ _ (clip_mono _ _ _ _ h (by omega)) (clip_in _ _ _ (by omega)) (clip_in _ _ _ (by omega)) (clip_in _ _ _ (by omega))) (by omega)

theorem sval_pos (a c : Int) : 0 < sval a c ↔ 0 < a := by
  have hq := clip_in c 1 31 (by omega)
  have hv := clip_in a (-127) 127 (by omega)
  have e : sval a c = clip (raw (clip a (-127) 127) (clip c 1 31)) (-2048) 2047 := rfl
  rw [e]
  constructor
  · intro h
    apply Decidable.byContradiction; intro hn
    have h1 : clip a (-127) 127 ≤ 0 := by
      have := clip_mono a 0 (-127) 127 (by omega) (by omega)
      simpa [clip] using this
    have h2 := raw_mono _ 0 _ h1 hv (by omega) hq
    have h3 : raw 0 (clip c 1 31) = 0 := by simp [raw, amt]
    rw [h3] at h2
    have := clip_mono _ 0 (-2048) 2047 h2 (by omega)
    have h4 : clip 0 (-2048) 2047 = 0 := by decide
    omega
  · intro h
    have h1 : 1 ≤ clip a (-127) 127 := by
      have := clip_mono 1 a (-127) 127 (by omega) (by omega)
      have h4 : clip 1 (-127) 127 = 1 := by decide
      omega
    have h2 : 1 ≤ raw (clip a (-127) 127) (clip c 1 31) := by
      unfold raw; rw [if_neg (by omega)]
      exact amt_pos _ _ (by omega) hq
    have := clip_mono 1 _ (-2048) 2047 h2 (by omega)
    have h4 : clip 1 (-2048) 2047 = 1 := by decide
    omega

theorem sval_neg (a c : Int) : sval a c < 0 ↔ a < 0 := by
  have hq := clip_in c 1 31 (by omega)
  have hv := clip_in a (-127) 127 (by omega)
  have e : sval a c = clip (raw (clip a (-127) 127) (clip c 1 31)) (-2048) 2047 := rfl
  rw [e]
  constructor
  · intro h
    apply Decidable.byContradiction; intro hn
    have h1 : 0 ≤ clip a (-127) 127 := by
      have := clip_mono 0 a (-127) 127 (by omega) (by omega)
      have h4 : clip 0 (-127) 127 = 0 := by decide
      omega
    have h2 := raw_mono 0 _ _ h1 (by omega) hv hq
    have h3 : raw 0 (clip c 1 31) = 0 := by simp [raw, amt]
    rw [h3] at h2
    have := clip_mono 0 _ (-2048) 2047 h2 (by omega)
    have h4 : clip 0 (-2048) 2047 = 0 := by decide
    omega
  · intro h
    have h1 : clip a (-127) 127 ≤ -1 := by
      have := clip_mono a (-1) (-127) 127 (by omega) (by omega)
      have h4 : clip (-1) (-127) 127 = -1 := by decide
      omega
    have h2 : raw (clip a (-127) 127) (clip c 1 31) ≤ -1 := by
      unfold raw; rw [if_pos (by omega)]
      have := amt_pos (-(clip a (-127) 127)) _ (by omega) hq
      omega
    have := clip_mono _ (-1) (-2048) 2047 h2 (by omega)
    have h4 : clip (-1) (-2048) 2047 = -1 := by decide
    omega

end SV
open SV

theorem ScaleRises : overspilllaw12_ScaleRises.Pure := by
  intro a0 a1 a2 _ _ _
  refine ⟨1, ?_⟩
  unfold overspilllaw12_ScaleRises.f
  have hp := sval_pos a0 a2
  have hn := sval_neg a0 a2
  have hi : -2048 ≤ sval a0 a2 ∧ sval a0 a2 ≤ 2047 := clip_in _ _ _ (by omega)
  have e1 : (decide (sval a0 a2 > 0) != decide (a0 > 0)) = false := by
    have h : decide (sval a0 a2 > 0) = decide (a0 > 0) := decide_eq_decide.mpr hp
    rw [h]; simp
  have e2 : (decide (sval a0 a2 < 0) != decide (a0 < 0)) = false := by
    have h : decide (sval a0 a2 < 0) = decide (a0 < 0) := decide_eq_decide.mpr hn
    rw [h]; simp
  simp only [scaleV 0, livesV, Option.bind_some]
  rw [if_neg (by rw [e1]; simp), if_neg (by rw [e2]; simp)]
  rw [if_pos (show sval a0 a2 ≥ -2048 from hi.1), if_pos hi.2]
  by_cases h : a0 ≤ a1
  · have hm := sval_mono a0 a1 a2 h
    rw [if_pos h, if_neg (by omega)]
  · rw [if_neg h]

end Go.Proofs.Ytmlnpfkbnldacaa.Pure
