/- What the printed models answer: plain laws. -/
import Derived.Test.YtcfffichdcnlgaaDoorBC
set_option linter.unusedVariables false
set_option linter.unusedSimpArgs false
namespace Go.Proofs.YtcfffichdcnlgaaDoor
open Go.X

theorem or1 {q : Int} (h : 0 ≤ q) (b : Bool) : ((Int.toNat (q * 2 ^ Int.toNat 1) ||| Int.toNat b.toInt : Nat) : Int) = 2 * q + b.toInt := by
  obtain ⟨k, rfl⟩ : ∃ k : Nat, q = k := ⟨q.toNat, by omega⟩
  have e1 : Int.toNat ((k : Int) * 2 ^ Int.toNat 1) = 2 * k := by rw [show (2 : Int) ^ Int.toNat 1 = 2 from rfl]; omega
  rw [e1]
  cases b
  · show ((2 * k ||| 0 : Nat) : Int) = 2 * (k : Int) + 0
    rw [Nat.or_zero]; omega
  · show ((2 * k ||| 1 : Nat) : Int) = 2 * (k : Int) + 1
    have := or_step 0 k
    rw [show 2 ^ (0 + 1) * k = 2 * k by omega, show (2 : Nat) ^ 0 = 1 from rfl] at this
    rw [this]; omega
theorem take1P {N : Nat} (hN : 100 < N) {s : ByteArray} {p i : Nat} (hs : s.size < 4294967296) (h : p + i + 1 ≤ 8 * s.size) : overspill_inbits_Reader_Take N 1 s ((p + i : Nat) : Int) = some ((((unpack (bl s)).drop p).getD i false).toInt, 0, s, ((p + (i + 1) : Nat) : Int)) := by
  have ht := take_ok (N := N) hN (p := p + i) (n := 1) hs (by decide) (by omega)
  rw [show ((1 : Nat) : Int) = 1 from rfl] at ht
  rw [ht]
  have hl : p + i < (unpack (bl s)).length := by rw [unpack_length, bl_length]; omega
  have e : numB (((unpack (bl s)).drop (p + i)).take 1) = (((unpack (bl s)).drop p).getD i false).toInt := by
    have h0 : ((unpack (bl s)).drop (p + i)).take 1 = [((unpack (bl s)).drop p).getD i false] := by
      rw [List.getD_eq_getElem?_getD, List.getElem?_drop, List.getElem?_eq_getElem hl, List.drop_eq_getElem_cons hl]
      rfl
    rw [h0]
    cases ((unpack (bl s)).drop p).getD i false <;> rfl
  rw [e]
  rfl
theorem iter_next {S O : Type} {body : S → Option (S ⊕ O)} {N : Nat} {a b : S} (h : body a = some (.inl b)) : iter body (N + 1) a = iter body N b := by simp only [iter, h]
theorem iter_done {S O : Type} {body : S → Option (S ⊕ O)} {N : Nat} {a : S} {o : O} (h : body a = some (.inr o)) : iter body (N + 1) a = some o := by simp only [iter, h]
theorem fi_some {w : List Bool} : ∀ {n k : Nat}, fi w n = some k → k < n ∧ rowsB.getD k [] = w ∧ fi w k = none := by
  intro n
  induction n with
  | zero => intro k h; cases h
  | succ n ih =>
    intro k h
    simp only [fi] at h
    cases hf : fi w n with
    | some j =>
      rw [hf] at h
      injection h with h
      subst h
      obtain ⟨h1, h2, h3⟩ := ih hf
      exact ⟨by omega, h2, h3⟩
    | none =>
      rw [hf] at h
      simp only at h
      split at h
      · rename_i hr
        injection h with h
        subst h
        exact ⟨by omega, hr, hf⟩
      · cases h
theorem fi_none {w : List Bool} : ∀ {n : Nat}, fi w n = none → ∀ k, k < n → rowsB.getD k [] ≠ w ∧ fi w k = none := by
  intro n
  induction n with
  | zero => intro _ k hk; omega
  | succ n ih =>
    intro h k hk
    simp only [fi] at h
    cases hf : fi w n with
    | some j => rw [hf] at h; cases h
    | none =>
      rw [hf] at h
      simp only at h
      split at h
      · cases h
      · rename_i hr
        by_cases hkn : k = n
        · subst hkn; exact ⟨hr, hf⟩
        · exact ih hf k (by omega)
theorem row_get {k : Nat} (h : k < 103) : (rowsB.map rowT).getD k ⟨#[]⟩ = rowT (rowsB.getD k []) := by
  have hl : k < rowsB.length := by rw [rowsB_len]; exact h
  rw [List.getD_eq_getElem?_getD, List.getD_eq_getElem?_getD, List.getElem?_map, List.getElem?_eq_getElem hl]
  rfl
theorem txt_inj {a b : List Bool} (h : txt a = txt b) : a = b := by rw [← bitsT_txt a, h, bitsT_txt]
theorem rowEq (a b : List Bool) : decide (ByteArray.toList (rowT a) = ByteArray.toList (rowT b)) = decide (a = b) := by
  rw [strEq, bl_rowT, bl_rowT]
  exact decide_eq_decide.2 ⟨txt_inj, fun h => by rw [h]⟩
theorem begins_ok (N : Nat) (r w : List Bool) : ref05_begins N (rowT r) (rowT w) = some (w.isPrefixOf r) := by
  unfold ref05_begins
  have e : (bif decide (((rowT w).size : Int) ≤ ((rowT r).size : Int)) then decide (ByteArray.toList (ByteArray.extract (rowT r) 0 ((rowT w).size : Int).toNat) = ByteArray.toList (rowT w)) else false) = w.isPrefixOf r := by
    rw [rowT_size, rowT_size, Int.toNat_natCast, rowT_extract, rowEq, List.drop_zero, Nat.sub_zero, Bool.eq_iff_iff]
    rw [List.isPrefixOf_iff_prefix]
    by_cases hl : (w.length : Int) ≤ (r.length : Int)
    · rw [decide_eq_true hl, cond_true, decide_eq_true_eq]
      constructor
      · intro h; exact ⟨r.drop w.length, by have := List.take_append_drop w.length r; rw [h] at this; exact this⟩
      · rintro ⟨t, rfl⟩; simp
    · rw [decide_eq_false hl, cond_false]
      constructor
      · intro h; cases h
      · intro h; exact absurd h.length_le (by omega)
  rw [e]
  have e2 : decide (((rowT w).size : Int) ≤ ((rowT r).size : Int)) = true → (0 : Int) ≤ ((rowT w).size : Int) := fun _ => by omega
  have e3 : decide (((rowT w).size : Int) ≤ ((rowT r).size : Int)) = true → ((rowT w).size : Int) ≤ ((rowT r).size : Int) := fun h => of_decide_eq_true h
  rw [if_pos ⟨e2, e3⟩]
/-- The search among the page's rows. -/
theorem rsearch {N : Nat} (hN : 103 < N) {U : List Bool} {p n : Nat} (hn : p + n ≤ U.length) (hU : U.length ≤ 100000) {w : List Bool} (hw : w = (U.drop p).take n) :
    iter (ref05_Take_b2 N 103 (rowT U) (p : Int) (rowsB.map rowT) (n : Int)) N (false, 0) = some (match fi w 103 with | some k => .inl (k : Int) | none => .inr (pa w 103, 103, 103, false)) := by
  have hex : ByteArray.extract (rowT U) p ((p : Int) + (n : Int)).toNat = rowT w := by
    rw [rowT_extract, hw]
    congr 2
    omega
  have step : ∀ i, i < 103 → fi w i = none → rowsB.getD i [] ≠ w → ref05_Take_b2 N 103 (rowT U) (p : Int) (rowsB.map rowT) (n : Int) (pa w i, (i : Int)) = some (.inl (pa w (i + 1), ((i + 1 : Nat) : Int))) := fun i hi _ hne => by
    have g1 : (i : Int) < ((103 : Nat) : Int) := by omega
    have g2 : i < (rowsB.map rowT).length := by rw [List.length_map, rowsB_len]; exact hi
    have g3 : inK .i64 ((p : Int) + (n : Int)) := in64 (by omega) (by omega)
    have g4 : (p : Int) ≤ (p : Int) + (n : Int) := by omega
    have g5 : (p : Int) + (n : Int) ≤ ((rowT U).size : Int) := by rw [rowT_size]; omega
    have g6 := inS (i := i) (by omega)
    have g7 : decide (rowsB.getD i [] = w) = false := decide_eq_false hne
    simp only [ref05_Take_b2, g1, g2, g3, g4, g5, g6, row_get hi, hex, rowEq, g7, begins_ok, decide_true, cond_true, cond_false, Int.natCast_nonneg, Int.toNat_natCast, Option.isSome_some, Option.getD_some, implies_true, and_self, if_true]
    rw [Int.natCast_succ]
    rfl
  cases hf : fi w 103 with
  | some k =>
    obtain ⟨h1, h2, h3⟩ := fi_some hf
    refine iter_to (fun i => (pa w i, (i : Int))) k rfl (fun i hi => ?_) ?_ (by omega)
    · obtain ⟨e1, e2⟩ := fi_none h3 i hi
      exact step i (by omega) e2 e1
    · have g1 : (k : Int) < ((103 : Nat) : Int) := by omega
      have g2 : k < (rowsB.map rowT).length := by rw [List.length_map, rowsB_len]; exact h1
      have g3 : inK .i64 ((p : Int) + (n : Int)) := in64 (by omega) (by omega)
      have g4 : (p : Int) ≤ (p : Int) + (n : Int) := by omega
      have g5 : (p : Int) + (n : Int) ≤ ((rowT U).size : Int) := by rw [rowT_size]; omega
      have g7 : decide (rowsB.getD k [] = w) = true := decide_eq_true h2
      simp only [ref05_Take_b2, g1, g2, g3, g4, g5, row_get h1, hex, rowEq, g7, decide_true, cond_true, Int.natCast_nonneg, Int.toNat_natCast, and_self, if_true]
  | none =>
    refine iter_to (fun i => (pa w i, (i : Int))) 103 rfl (fun i hi => ?_) ?_ (by omega)
    · obtain ⟨e1, e2⟩ := fi_none hf i hi
      exact step i hi e2 e1
    · show ref05_Take_b2 N 103 _ _ _ _ (_, ((103 : Nat) : Int)) = _
      simp only [ref05_Take_b2, Int.lt_irrefl, decide_false, cond_false]
      rfl
/-- What both reading loops come to. -/
inductive Oc
  | e2
  | e3
  | esc
  | ev (j n : Nat)
def okR (M : Nat) (s : ByteArray) (p : Nat) : Oc → ((Int × Bool × Int × Int × ByteArray × Int) ⊕ (ByteArray × Int)) → Prop
  | .e2, x => ∃ q : Nat, q ≤ 8 * s.size ∧ x = .inl (2, false, 0, 0, s, (q : Int))
  | .e3, x => ∃ q : Nat, q ≤ 8 * s.size ∧ x = .inr (s, (q : Int))
  | .esc, x => p + 7 ≤ 8 * s.size ∧ ∃ E, tcoef_escaped (M + 200) s ((p + 7 : Nat) : Int) = some E ∧ x = .inl (E.2.2.2.1, E.1, E.2.1, E.2.2.1, E.2.2.2.2.1, E.2.2.2.2.2)
  | .ev j n, x => 0 < j ∧ j < 103 ∧ p + n ≤ 8 * s.size ∧ 1 ≤ (evJ j).2.2 ∧ (evJ j).2.2 ≤ 127 ∧ (if p + n < 8 * s.size then x = .inl (0, (evJ j).1, (evJ j).2.1, (evJ j).2.2 * (1 - 2 * (((unpack (bl s)).drop p).getD n false).toInt), s, ((p + (n + 1) : Nat) : Int)) else x = .inl (2, false, 0, 0, s, ((p + n : Nat) : Int)))
def okY (p : Nat) : Oc → ((Int × Int × Int) ⊕ Unit) → Prop
  | .e2, y => y = .inl (0, (p : Int), 2)
  | .e3, y => y = .inl (0, (p : Int), 3)
  | .esc, y => y = .inl (0, (p : Int) + 7, 0)
  | .ev j n, y => y = .inl ((j : Int), (p : Int) + (n : Int), 0)
theorem joint {M : Nat} (hesc : ∀ (s : ByteArray) (q : Nat), s.size ≤ 1000 → q ≤ 8 * s.size → ∃ E, tcoef_escaped (M + 200) s (q : Int) = some E) {s : ByteArray} {p : Nat} (hs : s.size ≤ 1000) (hp : p ≤ 8 * s.size) :
    ∀ d i, i + d = 12 → p + i ≤ 8 * s.size → ((unpack (bl s)).drop p).take i ∈ nodesB → ∀ N1 N2, d < N1 → d < N2 → ∃ Z x y, iter (tcoef_read_b1 (M + 200)) N1 (numB (((unpack (bl s)).drop p).take i), (i : Int) + 1, s, ((p + i : Nat) : Int)) = some x ∧ iter (ref05_Take_b1 (M + 200) 103 (rowT (unpack (bl s))) (p : Int) (rowsB.map rowT)) N2 ((i : Int) + 1) = some y ∧ okR M s p Z x ∧ okY p Z y := by
  have hs' : s.size < 4294967296 := by omega
  have hUl : (unpack (bl s)).length = 8 * s.size := by rw [unpack_length, bl_length]
  obtain ⟨U, hU⟩ : ∃ U, U = unpack (bl s) := ⟨_, rfl⟩
  intro d
  induction d with
  | zero =>
    intro i hi hle hnode
    have := List.all_eq_true.1 nodes_len _ hnode
    rw [decide_eq_true_eq, List.length_take, List.length_drop, hUl] at this
    omega
  | succ d ih =>
    intro i hi hle hnode N1 N2 h1 h2
    obtain ⟨n1, rfl⟩ : ∃ n, N1 = n + 1 := ⟨N1 - 1, by omega⟩
    obtain ⟨n2, rfl⟩ : ∃ n, N2 = n + 1 := ⟨N2 - 1, by omega⟩
    have g1 : (i : Int) + 1 ≤ 12 := by omega
    have g2 : (i : Int) + 1 ≤ 25 := by omega
    have g3 : inK .i64 (((rowT (unpack (bl s))).size : Int) - (p : Int)) := by rw [rowT_size, hUl]; exact in64 (by omega) (by omega)
    by_cases hend : p + i = 8 * s.size
    · have ht := take_end (N := M + 200) (s := s) (p := p + i) (n := 1) hs' (by decide) (by omega) (by omega)
      rw [show ((1 : Nat) : Int) = 1 from rfl] at ht
      have d2 : decide ((2 : Int) ≠ 0) = true := rfl
      have g4 : ((rowT (unpack (bl s))).size : Int) - (p : Int) < (i : Int) + 1 := by rw [rowT_size, hUl]; omega
      refine ⟨.e2, _, _, iter_done ?_, iter_done ?_, ⟨p + i, hle, rfl⟩, rfl⟩
      · simp only [tcoef_read_b1, decide_eq_true g1, cond_true, ht, Option.isSome_some, Option.getD_some, if_true, d2]
      · simp only [ref05_Take_b1, decide_eq_true g2, cond_true, g3, if_true, decide_eq_true g4]
    · have hl : i < ((unpack (bl s)).drop p).length := by rw [List.length_drop, hUl]; omega
      obtain ⟨b, hb⟩ : ∃ b, b = ((unpack (bl s)).drop p).getD i false := ⟨_, rfl⟩
      obtain ⟨w, hw⟩ : ∃ w, w = ((unpack (bl s)).drop p).take (i + 1) := ⟨_, rfl⟩
      have hwb : w = ((unpack (bl s)).drop p).take i ++ [b] := by
        rw [hw, hb, List.take_add_one, List.getD_eq_getElem?_getD, List.getElem?_eq_getElem hl]
        rfl
      have hwl : w.length = i + 1 := by rw [hw, List.length_take]; omega
      have hc : chkN (M + 200) w = true := by
        have := List.all_eq_true.1 (ckN M) _ hnode
        simp only [Bool.and_eq_true] at this
        rw [hwb]
        cases b
        · exact this.1
        · exact this.2
      obtain ⟨m1, m2⟩ := numB_take_in ((unpack (bl s)).drop p) i (by omega)
      have hn : ((Int.toNat (numB (((unpack (bl s)).drop p).take i) * 2 ^ Int.toNat 1) ||| Int.toNat (((unpack (bl s)).drop p).getD i false).toInt : Nat) : Int) = numB w := by rw [or1 m1, hw, numB_one _ i hl]
      have i1 : inK .i64 (numB (((unpack (bl s)).drop p).take i) * 2 ^ Int.toNat 1) := by rw [show (2 : Int) ^ Int.toNat 1 = 2 from rfl]; exact in64 (by omega) (by omega)
      have i2 : 0 ≤ numB (((unpack (bl s)).drop p).take i) * 2 ^ Int.toNat 1 := by rw [show (2 : Int) ^ Int.toNat 1 = 2 from rfl]; omega
      have i3 := (bool_in (((unpack (bl s)).drop p).getD i false)).1
      have i4 : inK .i64 ((i : Int) + 1 + 1) := in64 (by omega) (by omega)
      have ht := take1P (N := M + 200) (p := p) (i := i) (by omega) hs' (by omega)
      have d0 : decide ((0 : Int) ≠ 0) = false := rfl
      have g4 : ¬ ((rowT (unpack (bl s))).size : Int) - (p : Int) < (i : Int) + 1 := by rw [rowT_size, hUl]; omega
      have hse := rsearch (N := M + 200) (by omega) (U := unpack (bl s)) (p := p) (n := i + 1) (by rw [hUl]; omega) (by rw [hUl]; omega) hw
      rw [Int.natCast_succ] at hse
      unfold chkN at hc
      rw [hwl] at hc
      cases hx : (decide (i + 1 = 7) && decide (numB w = 3))
      · rw [hx, cond_false] at hc
        have hx' : (bif decide ((i : Int) + 1 = 7) then decide (numB w = 3) else false) = false := by
          by_cases e : i + 1 = 7
          · rw [decide_eq_true e, Bool.true_and] at hx
            rw [decide_eq_true (show (i : Int) + 1 = 7 by omega), cond_true, hx]
          · rw [decide_eq_false (show ¬ (i : Int) + 1 = 7 by omega)]; rfl
        rw [Int.natCast_succ] at hc
        cases hfd : tcoef_find (M + 200) (numB w) ((i : Int) + 1) with
        | none => rw [hfd] at hc; cases hc
        | some am =>
          obtain ⟨a, m⟩ := am
          rw [hfd] at hc
          simp only at hc
          by_cases ha : (0 : Int) ≤ a
          · rw [decide_eq_true ha, cond_true] at hc
            cases hf : fi w 103 with
            | none => rw [hf] at hc; cases hc
            | some j =>
              rw [hf] at hc hse
              simp only [Bool.and_eq_true, decide_eq_true_eq] at hc
              obtain ⟨c1, c2, c3, c4, c5⟩ := hc
              have hj := (fi_some hf).1
              have hy : ref05_Take_b1 (M + 200) 103 (rowT (unpack (bl s))) (p : Int) (rowsB.map rowT) ((i : Int) + 1) = some (.inr (.inl ((j : Int), (p : Int) + ((i + 1 : Nat) : Int), 0))) := by
                simp only [ref05_Take_b1, decide_eq_true g2, cond_true, g3, if_true, decide_eq_false g4, cond_false, hse, Option.bind_some, Sum.elim_inl]
                rw [Int.natCast_succ]
              by_cases hlast : p + (i + 1) < 8 * s.size
              · have ht2 := take1P (N := M + 200) (p := p) (i := i + 1) (by omega) hs' (by omega)
                have hbb := bool_in (((unpack (bl s)).drop p).getD (i + 1) false)
                have i5 : inK .i64 ((2 : Int) * (((unpack (bl s)).drop p).getD (i + 1) false).toInt) := in64 (by omega) (by omega)
                have i6 : inK .i64 ((1 : Int) - 2 * (((unpack (bl s)).drop p).getD (i + 1) false).toInt) := in64 (by omega) (by omega)
                have i7 : inK .i64 ((evJ j).2.2 * ((1 : Int) - 2 * (((unpack (bl s)).drop p).getD (i + 1) false).toInt)) := by
                  cases ((unpack (bl s)).drop p).getD (i + 1) false
                  · show inK .i64 ((evJ j).2.2 * 1)
                    exact in64 (by omega) (by omega)
                  · show inK .i64 ((evJ j).2.2 * (-1))
                    exact in64 (by omega) (by omega)
                refine ⟨.ev j (i + 1), .inl (0, (evJ j).1, (evJ j).2.1, (evJ j).2.2 * (1 - 2 * (((unpack (bl s)).drop p).getD (i + 1) false).toInt), s, ((p + (i + 1 + 1) : Nat) : Int)), _, iter_done ?_, iter_done hy, ⟨c2, hj, by omega, c4, c5, ?_⟩, rfl⟩
                · simp only [tcoef_read_b1, decide_eq_true g1, cond_true, ht, Option.isSome_some, Option.getD_some, if_true, d0, cond_false, i1, i2, i3, and_self, hn, hx', hfd, decide_eq_true ha, ht2, c3, i5, i6, i7]
                · rw [if_pos hlast]
              · have ht2 := take_end (N := M + 200) (s := s) (p := p + (i + 1)) (n := 1) hs' (by decide) (by omega) (by omega)
                rw [show ((1 : Nat) : Int) = 1 from rfl] at ht2
                have d2 : decide ((2 : Int) ≠ 0) = true := rfl
                refine ⟨.ev j (i + 1), .inl (2, false, 0, 0, s, ((p + (i + 1) : Nat) : Int)), _, iter_done ?_, iter_done hy, ⟨c2, hj, by omega, c4, c5, ?_⟩, rfl⟩
                · simp only [tcoef_read_b1, decide_eq_true g1, cond_true, ht, Option.isSome_some, Option.getD_some, if_true, d0, d2, cond_false, i1, i2, i3, and_self, hn, hx', hfd, decide_eq_true ha, ht2]
                · rw [if_neg hlast]
          · rw [decide_eq_false ha, cond_false] at hc
            simp only [Bool.and_eq_true, decide_eq_true_eq] at hc
            obtain ⟨c1, c2, c3, c4⟩ := hc
            rw [c1] at hse
            cases m
            · refine ⟨.e3, _, _, iter_done ?_, iter_done ?_, ⟨p + (i + 1), by omega, rfl⟩, rfl⟩
              · simp only [tcoef_read_b1, decide_eq_true g1, cond_true, ht, Option.isSome_some, Option.getD_some, if_true, d0, cond_false, i1, i2, i3, and_self, hn, hx', hfd, decide_eq_false ha, Bool.not_false]
              · simp only [ref05_Take_b1, decide_eq_true g2, cond_true, g3, if_true, decide_eq_false g4, cond_false, hse, Option.bind_some, Sum.elim_inr, ← c3, Bool.not_false]
            · have hnode2 : ((unpack (bl s)).drop p).take (i + 1) ∈ nodesB := by rw [← hw]; simpa using c4
              obtain ⟨Z, x, y, z1, z2, z3, z4⟩ := ih (i + 1) (by omega) (by omega) hnode2 n1 n2 (by omega) (by omega)
              refine ⟨Z, x, y, ?_, ?_, z3, z4⟩
              · rw [iter_next (b := (numB (((unpack (bl s)).drop p).take (i + 1)), ((i + 1 : Nat) : Int) + 1, s, ((p + (i + 1) : Nat) : Int)))]
                · exact z1
                · simp only [tcoef_read_b1, decide_eq_true g1, cond_true, ht, Option.isSome_some, Option.getD_some, if_true, d0, cond_false, i1, i2, i3, and_self, hn, hx', hfd, decide_eq_false ha, Bool.not_true, i4]
                  rw [hw, Int.natCast_succ]
              · rw [iter_next (b := (((i + 1 : Nat) : Int) + 1))]
                · exact z2
                · simp only [ref05_Take_b1, decide_eq_true g2, cond_true, g3, if_true, decide_eq_false g4, cond_false, hse, Option.bind_some, Sum.elim_inr, ← c3, Bool.not_true, i4]
                  rw [Int.natCast_succ]
      · rw [hx, cond_true] at hc
        have hf0 := of_decide_eq_true hc
        rw [hf0] at hse
        simp only [Bool.and_eq_true, decide_eq_true_eq] at hx
        obtain ⟨x1, x2⟩ := hx
        have hx' : (bif decide ((i : Int) + 1 = 7) then decide (numB w = 3) else false) = true := by
          rw [decide_eq_true (show (i : Int) + 1 = 7 by omega), cond_true, decide_eq_true x2]
        obtain ⟨E, hE⟩ := hesc s (p + 7) hs (by omega)
        have e7 : ((p + (i + 1) : Nat) : Int) = ((p + 7 : Nat) : Int) := by omega
        rw [e7] at ht
        refine ⟨.esc, _, _, iter_done ?_, iter_done ?_, ⟨by omega, E, hE, rfl⟩, rfl⟩
        · simp only [tcoef_read_b1, decide_eq_true g1, cond_true, ht, Option.isSome_some, Option.getD_some, if_true, d0, cond_false, i1, i2, i3, and_self, hn, hx', hE]
        · simp only [ref05_Take_b1, decide_eq_true g2, cond_true, g3, if_true, decide_eq_false g4, cond_false, hse, Option.bind_some, Sum.elim_inl]
          rw [show (p : Int) + ((i : Int) + 1) = (p : Int) + 7 by omega]
          rfl
end Go.Proofs.YtcfffichdcnlgaaDoor
