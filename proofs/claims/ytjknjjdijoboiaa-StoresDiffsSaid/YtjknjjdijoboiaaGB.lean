/- What the printed models answer: plain laws. -/
import Derived.Test.YtjknjjdijoboiaaG2
set_option linter.unusedVariables false
set_option linter.unusedSimpArgs false
namespace Go.Proofs.Ytjknjjdijoboiaa
open Go.X

theorem inS {i : Nat} (h : i < 4294967296) : inK .i64 ((i : Int) + 1) := in64 (by omega) (by omega)
/-- A loop that looks whether something holds of all numbers below one. -/
theorem iter_all {body : Int → Option (Int ⊕ (Unit ⊕ Unit))} (n N : Nat) (P : Nat → Bool) (hs : ∀ i, i < n → body (i : Int) = some (bif P i then .inl ((i : Int) + 1) else .inr (.inl ()))) (he : body (n : Int) = some (.inr (.inr ()))) (hN : n < N) :
    iter body N 0 = some (bif (List.range n).all P then .inr () else .inl ()) := by
  rcases first_or (fun j => P j = false) n with h | ⟨k, h1, h2, h3⟩
  · have hP : ∀ i, i < n → P i = true := fun i hi => by simpa using h i hi
    have : (List.range n).all P = true := List.all_eq_true.2 fun i hi => hP i (List.mem_range.1 hi)
    rw [this]
    exact iter_to (fun i => (i : Int)) n rfl (fun i hi => by rw [hs i hi, hP i hi]; rfl) he hN
  · have : (List.range n).all P = false := by
      cases hh : (List.range n).all P with
      | false => rfl
      | true => rw [List.all_eq_true.1 hh k (List.mem_range.2 h1)] at h2; cases h2
    rw [this]
    exact iter_to (fun i => (i : Int)) k rfl (fun i hi => by rw [hs i (by omega), show P i = true by simpa using h3 i hi]; rfl) (by rw [hs k h1, h2]; rfl) (by omega)
abbrev Ev := Bool × (Int × Int)
abbrev Evs := List (List Ev)
/-- A loop that may end early. -/
theorem iter_try {S O : Type} {body : S → Option (S ⊕ O)} (st : Nat → S) (n N : Nat) (P : Nat → Bool) (o1 : Nat → O) (o2 : O) {s0 : S} (h0 : s0 = st 0) (hs : ∀ i, i < n → P i = true → body (st i) = some (.inl (st (i + 1)))) (hx : ∀ i, i < n → P i = false → body (st i) = some (.inr (o1 i))) (he : body (st n) = some (.inr o2)) (hN : n < N) :
    ((List.range n).all P = true → iter body N s0 = some o2) ∧ ((List.range n).all P = false → ∃ k, k < n ∧ P k = false ∧ iter body N s0 = some (o1 k)) := by
  rcases first_or (fun j => P j = false) n with h | ⟨k, h1, h2, h3⟩
  · have hP : ∀ i, i < n → P i = true := fun i hi => by simpa using h i hi
    have : (List.range n).all P = true := List.all_eq_true.2 fun i hi => hP i (List.mem_range.1 hi)
    refine ⟨fun _ => iter_to st n h0 (fun i hi => hs i hi (hP i hi)) he hN, fun hf => ?_⟩
    rw [this] at hf; cases hf
  · have : (List.range n).all P = false := by
      cases hh : (List.range n).all P with
      | false => rfl
      | true => rw [List.all_eq_true.1 hh k (List.mem_range.2 h1)] at h2; cases h2
    refine ⟨fun ht => ?_, fun _ => ⟨k, h1, h2, ?_⟩⟩
    · rw [this] at ht; cases ht
    · exact iter_to st k h0 (fun i hi => hs i (by omega) (by simpa using h3 i hi)) (hx k h1 h2) (by omega)
end Go.Proofs.Ytjknjjdijoboiaa
