/- What the printed models answer: plain laws. -/
import Derived.Test.YtkfaebbbjahcpaaDoorTB
set_option linter.unusedVariables false
set_option linter.unusedSimpArgs false
namespace Go.Proofs.YtkfaebbbjahcpaaDoor
open Go.X

/-- A loop that may end early. -/
theorem iter_try {S O : Type} {body : S → Option (S ⊕ O)} (st : Nat → S) (n N : Nat) (P : Nat → Bool) (o1 : Nat → O) (o2 : O) {s0 : S} (h0 : s0 = st 0) (hs : ∀ i, i < n → P i = true → body (st i) = some (.inl (st (i + 1)))) (hx : ∀ i, i < n → P i = false → body (st i) = some (.inr (o1 i))) (he : body (st n) = some (.inr o2)) (hN : n < N) :
    ((List.range n).all P = true → iter body N s0 = some o2) ∧ ((List.range n).all P = false → ∃ k, k < n ∧ P k = false ∧ iter body N s0 = some (o1 k)) := by
  rcases first_or (fun j => P j = false) n with h | ⟨k, h1, h2, h3⟩
  · have hP : ∀ i, i < n → P i = true := fun i hi => by simpa using h i hi
    have : (List.range n).all P = true := List.all_eq_true.2 fun i hi => hP i (List.mem_range.1 hi)
    refine ⟨fun _ => iter_to st n h0 (fun i hi => hs i hi (hP i hi)) he hN, fun hf => ?_⟩
    rw [this] at hf; cases hf
  · have : (List.range n).all P = false := by
      cases hh : (List.range n).all P with
      | false => rfl
      | true => rw [List.all_eq_true.1 hh k (List.mem_range.2 h1)] at h2; cases h2
    refine ⟨fun ht => ?_, fun _ => ⟨k, h1, h2, ?_⟩⟩
    · rw [this] at ht; cases ht
    · exact iter_to st k h0 (fun i hi => hs i (by omega) (by simpa using h3 i hi)) (hx k h1 h2) (by omega)
theorem tab_at {α : Type} {n : Nat} (f : Nat → α) (k : Nat) : (tab n f)[k]? = if k < n then some (f k) else none := by
  unfold tab
  rw [List.getElem?_map]
  by_cases h : k < n
  · rw [List.getElem?_range h, if_pos h]; rfl
  · rw [List.getElem?_eq_none (by simpa using h), if_neg h]; rfl
theorem lay_tab {i : Nat} (hi : i < 6) (g h : Nat → Int) : layL (tab 384 g) (64 * i) (tab 64 h) 64 = tab 384 (fun k => if k / 64 = i then h (k % 64) else g k) := by
  apply List.ext_getElem?
  intro k
  unfold layL
  rw [List.append_assoc, List.getElem?_append, tab_at]
  have l1 : ((tab 384 g).take (64 * i)).length = 64 * i := by rw [List.length_take, tab_len]; omega
  rw [l1]
  by_cases h1 : k < 64 * i
  · rw [if_pos h1, List.getElem?_take, if_pos h1, tab_at, if_pos (by omega), if_pos (by omega), if_neg (by omega)]
  · rw [if_neg h1, List.getElem?_append, tab_len]
    by_cases h2 : k - 64 * i < 64
    · rw [if_pos h2, tab_at, if_pos h2, if_pos (by omega), if_pos (by omega)]
      exact congrArg (fun z => some (h z)) (by omega)
    · rw [if_neg h2, List.getElem?_drop, show 64 * i + 64 + (k - 64 * i - 64) = k by omega, tab_at]
      by_cases h3 : k < 384
      · rw [if_pos h3, if_pos h3, if_neg (by omega)]
      · rw [if_neg h3, if_neg h3]
def pl (k : Nat) : Nat := (placesL.getD k 0).toNat
def lp (k : Nat) : Nat := ((List.range 64).findIdx fun j => pl j == k)
theorem pl_facts : ∀ k, k < 64 → 0 ≤ placesL.getD k 0 ∧ placesL.getD k 0 < 64 ∧ lp (pl k) = k := by decide +kernel
theorem lp_facts : ∀ k, k < 64 → lp k < 64 ∧ pl (lp k) = k := by decide +kernel
theorem pl_lt {k : Nat} (h : k < 64) : pl k < 64 := by have := pl_facts k h; unfold pl; omega
theorem raster_eq {N : Nat} (hN : 64 < N) (xs : List Int) : scan_Raster N xs = some (tab 64 fun k => xs.getD (lp k) 0) := by
  unfold scan_Raster
  have hit : iter (scan_Raster_b1 N xs) N (0, (List.replicate 64 0)) = some (tab 64 fun k => xs.getD (lp k) 0) := by
    refine iter_to (fun i => ((i : Int), tab 64 fun k => if lp k < i then xs.getD (lp k) 0 else 0)) 64 ?_ ?_ ?_ hN
    · rw [rep_tab]; simp
    · intro i hi
      have h1 : (i : Int) < 64 := by omega
      have h2 := inS (i := i) (by omega)
      obtain ⟨h3, h4, h6⟩ := pl_facts i hi
      have h5 : (placesL.getD i 0).toNat < 64 := pl_lt hi
      simp only [scan_Raster_b1, h1, h2, hi, h3, h4, h5, decide_true, cond_true, Int.toNat_natCast, and_self, if_true, Int.natCast_nonneg]
      refine congrArg (fun z => some (Sum.inl z)) (Prod.ext (Int.natCast_succ i).symm ?_)
      show (tab 64 _).set (pl i) _ = tab 64 (fun k => if lp k < i + 1 then xs.getD (lp k) 0 else 0)
      rw [tab_set]
      refine tab_ext fun k hk => ?_
      have h7 := (lp_facts k hk).2
      by_cases h8 : k = pl i
      · have : lp k = i := by rw [h8, h6]
        rw [if_pos h8, this, if_pos (by omega)]
      · have : lp k ≠ i := fun e => h8 (by rw [← e, h7])
        by_cases h9 : lp k < i
        · rw [if_neg h8, if_pos h9, if_pos (by omega)]
        · rw [if_neg h8, if_neg h9, if_neg (by omega)]
    · simp only [scan_Raster_b1]
      refine congrArg (fun z => some (Sum.inr z)) (tab_ext fun k hk => ?_)
      rw [if_pos (lp_facts k hk).1]
  rw [hit]; rfl
theorem rlev_ok {N : Nat} (hN : 100 < N) (st : Int) (sk : Bool) (k s : Int) (mv dc : List Int) {evs : Evs} {i : Nat} (hi : i < 6) (q : Int) (hl : (evs.getD i []).length ≤ 100) (ho : okE (bif intraB k then 1 else 0) (evs.getD i []) = true) :
    overspill_residue_cell_levels N st sk k s mv dc evs q (i : Int) = some (tab 64 fun j => (lvs (bif intraB k then 1 else 0) (evs.getD i []) (evs.getD i []).length).getD (lp j) 0) := by
  unfold overspill_residue_cell_levels
  have hc : overspill_residue_cell_intra N st sk k s mv dc evs q = some (intraB k) := rfl
  obtain ⟨g1, g2, g3⟩ := in5 hi
  have hf : (bif intraB k then (1 : Int) else 0) = 0 ∨ (bif intraB k then (1 : Int) else 0) = 1 := by cases intraB k <;> simp
  simp only [hc, Option.isSome_some, Option.getD_some, if_true, Int.toNat_natCast, levels_ok (N := N) hf (show (evs.getD i []).length < 4294967296 by omega) (by omega), ho, g1, g2, hi, and_self, raster_eq (N := N) (by omega)]
end Go.Proofs.YtkfaebbbjahcpaaDoor
