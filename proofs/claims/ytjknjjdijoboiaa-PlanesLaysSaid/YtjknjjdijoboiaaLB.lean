/- What the printed models answer: plain laws. -/
import Derived.Test.YtjknjjdijoboiaaL2
set_option linter.unusedVariables false
set_option linter.unusedSimpArgs false
namespace Go.Proofs.Ytjknjjdijoboiaa
open Go.X

theorem inS {i : Nat} (h : i < 4294967296) : inK .i64 ((i : Int) + 1) := in64 (by omega) (by omega)
theorem m2 (x : Int) : 0 ≤ x % 2 ∧ x % 2 ≤ 1 := by omega
abbrev Ev := Bool × (Int × Int)
abbrev Evs := List (List Ev)
theorem in5 {i : Nat} (h : i < 6) : (0 : Int) ≤ (i : Int) ∧ (i : Int) < 6 ∧ ((i : Int)).toNat < 6 := ⟨by omega, by omega, by omega⟩
theorem tab_at {α : Type} {n : Nat} (f : Nat → α) (k : Nat) : (tab n f)[k]? = if k < n then some (f k) else none := by
  unfold tab
  rw [List.getElem?_map]
  by_cases h : k < n
  · rw [List.getElem?_range h, if_pos h]; rfl
  · rw [List.getElem?_eq_none (by simpa using h), if_neg h]; rfl
theorem blk_tab {xs : List Int} (h : xs.length = 384) {i : Nat} (hi : i < 6) : (xs.drop (64 * i)).take 64 = tab 64 fun k => xs.getD (64 * i + k) 0 := by
  apply List.ext_getElem?
  intro k
  rw [List.getElem?_take, tab_at]
  by_cases h1 : k < 64
  · rw [if_pos h1, if_pos h1, List.getElem?_drop, List.getD_eq_getElem?_getD, List.getElem?_eq_getElem (by omega)]; rfl
  · rw [if_neg h1, if_neg h1]
end Go.Proofs.Ytjknjjdijoboiaa
