/- The pure statement of ScaleValues: both scalers are one bounded product. -/
import Derived.Test.YtmlnpfkbnldacaaPScaleValuesx1
namespace Go.Proofs.Ytmlnpfkbnldacaa.Pure
open Go.RowKit Go.Proofs.Ytmlnpfkbnldacaa.PScaleValues Go.Proofs.YtmlnpfkbnldacaaW.PrintWords Go.Proofs.YtmlnpfkbnldacaaW.PrintLast

namespace SV

def clip (x lo hi : Int) : Int := if x < lo then lo else if x > hi then hi else x

theorem clip_in (x lo hi : Int) (h : lo ≤ hi) : lo ≤ clip x lo hi ∧ clip x lo hi ≤ hi := by
  unfold clip
  by_cases h1 : x < lo
  · rw [if_pos h1]; omega
  · rw [if_neg h1]
    by_cases h2 : x > hi
    · rw [if_pos h2]; omega
    · rw [if_neg h2]; omega

theorem w64 (n : Int) (h : -9223372036854775808 ≤ n ∧ n ≤ 9223372036854775807) : wrap64 n = n := by
  unfold wrap64; omega

theorem whole (k : Nat) (x lo hi : Int) (h : lo ≤ hi) : whole_Clip.f (k+1) x lo hi = some (clip x lo hi) := by
  unfold whole_Clip.f
  rw [if_neg (by omega)]
  unfold whole_Clip.j0 clip
  by_cases h1 : x < lo
  · simp [h1]
  · simp [h1]; split <;> simp_all

theorem ref01 (k : Nat) (x lo hi : Int) (h : lo ≤ hi) : overspillref01_Clip.f (k+1) x lo hi = some (clip x lo hi) := by
  unfold overspillref01_Clip.f
  rw [if_neg (by omega)]
  unfold overspillref01_Clip.j0 clip
  by_cases h1 : x < lo
  · simp [h1]
  · simp [h1]; split <;> simp_all

def amt (m q : Int) : Int := if m = 0 then 0 else if Int.tmod q 2 = 1 then q * (2 * m + 1) else q * (2 * m + 1) - 1

theorem prod_in (m q : Int) (hm : 0 ≤ m ∧ m ≤ 127) (hq : 1 ≤ q ∧ q ≤ 31) : 0 ≤ q * (2*m+1) ∧ q * (2*m+1) ≤ 7905 := by
  constructor
  · exact Int.mul_nonneg (by omega) (by omega)
  · calc q * (2*m+1) ≤ 31 * (2*m+1) := Int.mul_le_mul_of_nonneg_right (by omega) (by omega)
      _ ≤ 7905 := by omega

def sval (a b : Int) : Int :=
  let v := clip a (-127) 127
  let q := clip b 1 31
  clip (if v < 0 then -(amt (-v) q) else amt v q) (-2048) 2047

theorem mx_abs (v : Int) (h : -127 ≤ v ∧ v ≤ 127) : mx v (wrap64 (-v)) = if v < 0 then -v else v := by
  rw [w64 (-v) (by omega)]; unfold mx; split <;> split <;> omega

theorem tm2 (q : Int) (h : 1 ≤ q ∧ q ≤ 31) : Int.tmod q 2 = 0 ∨ Int.tmod q 2 = 1 := by
  rw [Int.tmod_eq_emod_of_nonneg (by omega)]; omega

theorem scaleV (k : Nat) (a b : Int) : scale_Value.f (k+1) a b = some (sval a b) := by
  have hv := clip_in a (-127) 127 (by omega)
  have hq := clip_in b 1 31 (by omega)
  unfold scale_Value.f sval
  rw [whole k a _ _ (by omega), whole k b _ _ (by omega)]
  simp only [Option.bind_some]
  generalize clip a (-127) 127 = v at *
  generalize clip b 1 31 = q at *
  rw [mx_abs v hv]
  by_cases h0 : v = 0
  · subst h0; simp [amt, clip]
  rw [if_neg h0]
  by_cases hn : v < 0
  · have hp := prod_in (-v) q (by omega) hq
    simp only [hn, if_true, w64 (2 * -v) (by omega), w64 (2 * -v + 1) (by omega), w64 (q * (2 * -v + 1)) (by omega), w64 (q * (2 * -v + 1) - 1) (by omega), w64 (-(q * (2 * -v + 1))) (by omega), w64 (-(q * (2 * -v + 1) - 1)) (by omega), amt, show ¬ (-v = 0) by omega, if_false, whole _ _ (-2048) 2047 (by omega), Option.bind_some]
    rcases tm2 q hq with h | h <;> simp [h]
  · have hp := prod_in v q (by omega) hq
    simp only [hn, w64 (2 * v) (by omega), w64 (2 * v + 1) (by omega), w64 (q * (2 * v + 1)) (by omega), w64 (q * (2 * v + 1) - 1) (by omega), amt, h0, if_false, whole _ _ (-2048) 2047 (by omega), Option.bind_some]
    rcases tm2 q hq with h | h <;> simp [h]

theorem amount (m q : Int) (hm : 0 ≤ m ∧ m ≤ 127) (hq : 1 ≤ q ∧ q ≤ 31) : overspillref12_amount.f m q = some (amt m q) := by
  have hp := prod_in m q hm hq
  unfold overspillref12_amount.f amt
  simp only [w64 (2 * m) (by omega), w64 (2 * m + 1) (by omega), w64 (q * (2 * m + 1)) (by omega), w64 (q * (2 * m + 1) - 1) (by omega)]
  split
  · rfl
  · split <;> rfl

theorem amt_in (m q : Int) (hm : 0 ≤ m ∧ m ≤ 127) (hq : 1 ≤ q ∧ q ≤ 31) : -1 ≤ amt m q ∧ amt m q ≤ 7905 := by
  have hp := prod_in m q hm hq
  unfold amt; split
  · omega
  · split <;> omega

theorem refV (k : Nat) (a b : Int) : overspillref12_Value.f (k+1) a b = some (sval a b) := by
  have hv := clip_in a (-127) 127 (by omega)
  have hq := clip_in b 1 31 (by omega)
  unfold overspillref12_Value.f sval
  rw [ref01 k a _ _ (by omega), ref01 k b _ _ (by omega)]
  simp only [Option.bind_some]
  generalize clip a (-127) 127 = v at *
  generalize clip b 1 31 = q at *
  by_cases hn : v < 0
  · have ha := amt_in (-v) q (by omega) hq
    simp only [hn, if_true, w64 (-v) (by omega), amount (-v) q (by omega) hq, Option.bind_some, w64 (-(amt (-v) q)) (by omega), ref01 _ _ (-2048) 2047 (by omega)]
  · have ha := amt_in v q (by omega) hq
    simp only [hn, if_false, amount v q (by omega) hq, Option.bind_some, ref01 _ _ (-2048) 2047 (by omega)]

theorem dcV (k : Nat) (a : Int) : scale_Dc.f (k+1) a = some (8 * clip a 1 254) := by
  have := clip_in a 1 254 (by omega)
  unfold scale_Dc.f
  rw [whole k a _ _ (by omega)]; simp only [Option.bind_some]; rw [w64 _ (by omega)]

theorem dcR (k : Nat) (a : Int) : overspillref12_Dc.f (k+1) a = some (8 * clip a 1 254) := by
  have := clip_in a 1 254 (by omega)
  unfold overspillref12_Dc.f
  rw [ref01 k a _ _ (by omega)]; simp only [Option.bind_some]; rw [w64 _ (by omega)]

theorem livesV : overspilllaw12_lives.f 1 = some true := by
  unfold overspilllaw12_lives.f
  simp only [scaleV 0, dcV 0, Option.bind_some]
  decide

end SV
open SV

theorem ScaleValues : overspilllaw12_ScaleValues.Pure := by
  intro a0 a1 _ _
  refine ⟨1, ?_⟩
  unfold overspilllaw12_ScaleValues.f
  simp only [scaleV 0, refV 0, dcV 0, dcR 0, livesV, Option.bind_some, if_true]

end Go.Proofs.Ytmlnpfkbnldacaa.Pure
