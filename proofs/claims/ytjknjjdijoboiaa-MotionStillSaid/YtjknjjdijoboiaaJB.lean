/- What the printed models answer: plain laws. -/
import Derived.Test.YtjknjjdijoboiaaJ1
set_option linter.unusedVariables false
set_option linter.unusedSimpArgs false
namespace Go.Proofs.Ytjknjjdijoboiaa
open Go.X

theorem inS {i : Nat} (h : i < 4294967296) : inK .i64 ((i : Int) + 1) := in64 (by omega) (by omega)
theorem m2 (x : Int) : 0 ≤ x % 2 ∧ x % 2 ≤ 1 := by omega
/-- A loop that looks whether something holds of all numbers below one. -/
theorem iter_all {body : Int → Option (Int ⊕ (Unit ⊕ Unit))} (n N : Nat) (P : Nat → Bool) (hs : ∀ i, i < n → body (i : Int) = some (bif P i then .inl ((i : Int) + 1) else .inr (.inl ()))) (he : body (n : Int) = some (.inr (.inr ()))) (hN : n < N) :
    iter body N 0 = some (bif (List.range n).all P then .inr () else .inl ()) := by
  rcases first_or (fun j => P j = false) n with h | ⟨k, h1, h2, h3⟩
  · have hP : ∀ i, i < n → P i = true := fun i hi => by simpa using h i hi
    have : (List.range n).all P = true := List.all_eq_true.2 fun i hi => hP i (List.mem_range.1 hi)
    rw [this]
    exact iter_to (fun i => (i : Int)) n rfl (fun i hi => by rw [hs i hi, hP i hi]; rfl) he hN
  · have : (List.range n).all P = false := by
      cases hh : (List.range n).all P with
      | false => rfl
      | true => rw [List.all_eq_true.1 hh k (List.mem_range.2 h1)] at h2; cases h2
    rw [this]
    exact iter_to (fun i => (i : Int)) k rfl (fun i hi => by rw [hs i (by omega), show P i = true by simpa using h3 i hi]; rfl) (by rw [hs k h1, h2]; rfl) (by omega)
abbrev Ev := Bool × (Int × Int)
abbrev Evs := List (List Ev)
theorem in5 {i : Nat} (h : i < 6) : (0 : Int) ≤ (i : Int) ∧ (i : Int) < 6 ∧ ((i : Int)).toNat < 6 := ⟨by omega, by omega, by omega⟩
theorem tab_at {α : Type} {n : Nat} (f : Nat → α) (k : Nat) : (tab n f)[k]? = if k < n then some (f k) else none := by
  unfold tab
  rw [List.getElem?_map]
  by_cases h : k < n
  · rw [List.getElem?_range h, if_pos h]; rfl
  · rw [List.getElem?_eq_none (by simpa using h), if_neg h]; rfl
theorem lay_tab {i : Nat} (hi : i < 6) (g h : Nat → Int) : layL (tab 384 g) (64 * i) (tab 64 h) 64 = tab 384 (fun k => if k / 64 = i then h (k % 64) else g k) := by
  apply List.ext_getElem?
  intro k
  unfold layL
  rw [List.append_assoc, List.getElem?_append, tab_at]
  have l1 : ((tab 384 g).take (64 * i)).length = 64 * i := by rw [List.length_take, tab_len]; omega
  rw [l1]
  by_cases h1 : k < 64 * i
  · rw [if_pos h1, List.getElem?_take, if_pos h1, tab_at, if_pos (by omega), if_pos (by omega), if_neg (by omega)]
  · rw [if_neg h1, List.getElem?_append, tab_len]
    by_cases h2 : k - 64 * i < 64
    · rw [if_pos h2, tab_at, if_pos h2, if_pos (by omega), if_pos (by omega)]
      exact congrArg (fun z => some (h z)) (by omega)
    · rw [if_neg h2, List.getElem?_drop, show 64 * i + 64 + (k - 64 * i - 64) = k by omega, tab_at]
      by_cases h3 : k < 384
      · rw [if_pos h3, if_pos h3, if_neg (by omega)]
      · rw [if_neg h3, if_neg h3]
end Go.Proofs.Ytjknjjdijoboiaa
