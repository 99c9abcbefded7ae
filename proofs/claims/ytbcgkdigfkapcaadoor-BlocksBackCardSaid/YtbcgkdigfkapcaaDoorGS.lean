/- BlocksBack: what the models answer. -/
import Derived.Test.YtbcgkdigfkapcaaDoorGR
set_option linter.unusedVariables false
set_option linter.unusedSimpArgs false
namespace Go.Proofs.YtbcgkdigfkapcaaDoor
open Go.X

theorem take1P {N : Nat} (hN : 100 < N) {s : ByteArray} {p i : Nat} (hs : s.size < 4294967296) (h : p + i + 1 ≤ 8 * s.size) : overspill_inbits_Reader_Take N 1 s ((p + i : Nat) : Int) = some ((((unpack (bl s)).drop p).getD i false).toInt, 0, s, ((p + (i + 1) : Nat) : Int)) := by
  rw [take1 hN hs h, List.getD_eq_getElem?_getD, List.getD_eq_getElem?_getD, List.getElem?_drop]
  rfl
/-- One round of reading, up to the search. -/
theorem read_stepP {N : Nat} (hN : 100 < N) {s : ByteArray} {p : Nat} {i : Nat} (hs : s.size < 4294967296) (hi : i < 12) (h : p + i + 1 ≤ 8 * s.size) {w : Int} (hw : w = numB (((unpack (bl s)).drop p).take (i + 1))) (h7 : ¬ (i + 1 = 7 ∧ w = 3)) (hf : tcoef_find N w ((i : Int) + 1) = some (-1, true)) :
    tcoef_read_b1 N (numB (((unpack (bl s)).drop p).take i), (i : Int) + 1, s, ((p + i : Nat) : Int)) = some (.inl (numB (((unpack (bl s)).drop p).take (i + 1)), ((i + 1 : Nat) : Int) + 1, s, ((p + (i + 1) : Nat) : Int))) := by
  have hl : i < ((unpack (bl s)).drop p).length := by rw [List.length_drop, unpack_length, bl_length]; omega
  obtain ⟨n1, n2⟩ := numB_take_in ((unpack (bl s)).drop p) i (by omega)
  have g1 : (i : Int) + 1 ≤ 12 := by omega
  have hn : ((Int.toNat (numB (((unpack (bl s)).drop p).take i) * 2 ^ Int.toNat 1) ||| Int.toNat (((unpack (bl s)).drop p).getD i false).toInt : Nat) : Int) = w := by rw [or1 n1, hw, numB_one _ i hl]
  have i1 : inK .i64 (numB (((unpack (bl s)).drop p).take i) * 2 ^ Int.toNat 1) := by rw [show (2 : Int) ^ Int.toNat 1 = 2 from rfl]; exact in64 (by omega) (by omega)
  have i2 : 0 ≤ numB (((unpack (bl s)).drop p).take i) * 2 ^ Int.toNat 1 := by rw [show (2 : Int) ^ Int.toNat 1 = 2 from rfl]; omega
  have i3 := (bool_in (((unpack (bl s)).drop p).getD i false)).1
  have i4 : inK .i64 ((i : Int) + 1 + 1) := in64 (by omega) (by omega)
  have hx : (bif decide ((i : Int) + 1 = 7) then decide (w = 3) else false) = false := by
    by_cases e : (i : Int) + 1 = 7
    · rw [decide_eq_true e]; exact decide_eq_false fun e3 => h7 ⟨by omega, e3⟩
    · rw [decide_eq_false e]; rfl
  simp only [tcoef_read_b1, decide_eq_true g1, cond_true, take1P hN hs h, Option.isSome_some, Option.getD_some, if_true, ne_eq, not_true, decide_false, cond_false, i1, i2, i3, and_self, hn, hx, hf, show decide ((0 : Int) ≤ -1) = false from rfl, Bool.not_true, i4]
  rw [← hw]
  rfl
theorem read_tableP {M : Nat} {s : ByteArray} {p : Nat} {a : Nat} (ha : a < 102) {l b : Bool} {r k : Int} {B R : List Bool} (hs : s.size < 4294967296) (hB : B = digits (codesL.getD a 0) (lensL.getD a 0).toNat ++ [b]) (hU : (unpack (bl s)).drop p = B ++ R) (hE : tcoef_event (M + 200) (a : Int) = some (l, r, k)) (hk : 1 ≤ k ∧ k ≤ 127) :
    tcoef_read (M + 200) s (p : Int) = some (l, r, k * (1 - 2 * b.toInt), 0, s, ((p + B.length : Nat) : Int)) ∧ 3 ≤ B.length ∧ B.length ≤ 22 := by
  have hc : chkT (M + 200) a = true := List.all_eq_true.1 (ckT M) a (List.mem_range.2 ha)
  unfold chkT at hc
  simp only [Bool.and_eq_true, decide_eq_true_eq, List.all_eq_true, List.mem_range, Bool.not_eq_true', Bool.and_eq_false_iff, decide_eq_false_iff_not] at hc
  obtain ⟨L1, L2, hall⟩ := hc
  generalize hL : (lensL.getD a 0).toNat = L at *
  generalize hC : codesL.getD a 0 = c at *
  have hBl : B.length = L + 1 := by rw [hB, List.length_append, digits_length]; rfl
  have hUl : ((unpack (bl s)).drop p).length = 8 * s.size - p := by rw [List.length_drop, unpack_length, bl_length]
  have hfit : p + (L + 1) ≤ 8 * s.size := by
    have : L + 1 ≤ 8 * s.size - p := by rw [← hUl, hU, List.length_append]; omega
    omega
  have htk : ∀ i, i ≤ L → ((unpack (bl s)).drop p).take i = (digits c L).take i := by
    intro i hi
    rw [hU, hB, List.append_assoc, List.take_append_of_le_length (by rw [digits_length]; omega)]
  refine ⟨?_, by omega, by omega⟩
  obtain ⟨Lm, rfl⟩ : ∃ Lm, L = Lm + 1 := ⟨L - 1, by omega⟩
  have hit : iter (tcoef_read_b1 (M + 200)) (M + 200) (0, 1, s, (p : Int)) = some (.inl (0, l, r, k * (1 - 2 * b.toInt), s, ((p + B.length : Nat) : Int))) := by
    refine iter_to (fun i => (numB (((unpack (bl s)).drop p).take i), (i : Int) + 1, s, ((p + i : Nat) : Int))) Lm (by simp [numB]) ?_ ?_ (by omega)
    · intro i hi
      obtain ⟨q1, q2⟩ := hall i (by omega)
      rw [decide_eq_true (show i + 1 < Lm + 1 by omega), cond_true, decide_eq_true_eq] at q2
      refine read_stepP (p := p) (by omega) hs (by omega) (by omega) rfl ?_ ?_
      · rw [htk _ (by omega)]; intro ⟨e1, e2⟩; rcases q1 with q | q
        · exact q e1
        · exact q e2
      · rw [htk _ (by omega)]; exact q2
    · obtain ⟨q1, q2⟩ := hall Lm (by omega)
      rw [decide_eq_false (show ¬ (Lm + 1 < Lm + 1) by omega), cond_false, decide_eq_true_eq] at q2
      have hl : Lm < ((unpack (bl s)).drop p).length := by omega
      obtain ⟨n1, n2⟩ := numB_take_in ((unpack (bl s)).drop p) Lm (by omega)
      have g1 : (Lm : Int) + 1 ≤ 12 := by omega
      have hn : ((Int.toNat (numB (((unpack (bl s)).drop p).take Lm) * 2 ^ Int.toNat 1) ||| Int.toNat (((unpack (bl s)).drop p).getD Lm false).toInt : Nat) : Int) = numB ((digits c (Lm + 1)).take (Lm + 1)) := by rw [or1 n1, ← htk _ (Nat.le_refl _), numB_one _ Lm hl]
      have i1 : inK .i64 (numB (((unpack (bl s)).drop p).take Lm) * 2 ^ Int.toNat 1) := by rw [show (2 : Int) ^ Int.toNat 1 = 2 from rfl]; exact in64 (by omega) (by omega)
      have i2 : 0 ≤ numB (((unpack (bl s)).drop p).take Lm) * 2 ^ Int.toNat 1 := by rw [show (2 : Int) ^ Int.toNat 1 = 2 from rfl]; omega
      have i3 := (bool_in (((unpack (bl s)).drop p).getD Lm false)).1
      have hx : (bif decide ((Lm : Int) + 1 = 7) then decide (numB ((digits c (Lm + 1)).take (Lm + 1)) = 3) else false) = false := by
        by_cases e : (Lm : Int) + 1 = 7
        · rw [decide_eq_true e]; refine decide_eq_false fun e3 => ?_
          rcases q1 with q | q
          · exact q (by omega)
          · exact q e3
        · rw [decide_eq_false e]; rfl
      obtain ⟨m, hm⟩ : ∃ m, tcoef_find (M + 200) (numB ((digits c (Lm + 1)).take (Lm + 1))) ((Lm : Int) + 1) = some ((a : Int), m) := by
        cases hf : tcoef_find (M + 200) (numB ((digits c (Lm + 1)).take (Lm + 1))) ((Lm : Int) + 1) with
        | none => rw [hf] at q2; cases q2
        | some y =>
          rw [hf] at q2
          obtain ⟨y1, y2⟩ := y
          exact ⟨y2, by rw [show y1 = (a : Int) from Option.some.inj q2]⟩
      have hsign : (((unpack (bl s)).drop p).getD (Lm + 1) false) = b := by
        rw [hU, hB, List.getD_eq_getElem?_getD, List.append_assoc, List.getElem?_append_right (by rw [digits_length]; omega), digits_length, show Lm + 1 - (Lm + 1) = 0 by omega]
        rfl
      have ht2 := take1P (N := M + 200) (p := p) (i := Lm + 1) (by omega) hs (by omega)
      rw [hsign] at ht2
      have hb := bool_in b
      have i5 : inK .i64 ((2 : Int) * b.toInt) := in64 (by omega) (by omega)
      have i6 : inK .i64 ((1 : Int) - 2 * b.toInt) := in64 (by omega) (by omega)
      have i7 : inK .i64 (k * ((1 : Int) - 2 * b.toInt)) := by
        cases b
        · show inK .i64 (k * 1)
          exact in64 (by omega) (by omega)
        · show inK .i64 (k * (-1))
          exact in64 (by omega) (by omega)
      have a0 : (0 : Int) ≤ (a : Int) := by omega
      have hz : decide ((0 : Int) = 0) = true := rfl
      simp only [tcoef_read_b1, decide_eq_true g1, cond_true, take1P (N := M + 200) (p := p) (i := Lm) (by omega) hs (by omega), Option.isSome_some, Option.getD_some, if_true, ne_eq, not_true, decide_false, cond_false, i1, i2, i3, and_self, hn, hx, hm, decide_eq_true a0, ht2, hE, i5, i6, i7]
      rw [hBl]
  unfold tcoef_read
  rw [hit]
  rfl
theorem read_escP {M : Nat} {s : ByteArray} {p : Nat} {l : Bool} {r v : Int} {B R : List Bool} (hs : s.size < 4294967296) (h : rgt r v) (hp : tcoef_place (M + 200) l r (max v (-v)) = some (-1)) (hB : B = digits 3 7 ++ (l :: (digits r 6 ++ digits ((v + 256) % 256) 8))) (hU : (unpack (bl s)).drop p = B ++ R) :
    tcoef_read (M + 200) s (p : Int) = some (l, r, v, 0, s, ((p + 22 : Nat) : Int)) ∧ B.length = 22 := by
  obtain ⟨h1, h2, h3, h4, h5⟩ := id h
  have hBl : B.length = 22 := by rw [hB]; simp [digits_length]
  have hUl : ((unpack (bl s)).drop p).length = 8 * s.size - p := by rw [List.length_drop, unpack_length, bl_length]
  have hfit : p + 22 ≤ 8 * s.size := by
    have : 22 ≤ 8 * s.size - p := by rw [← hUl, hU, List.length_append]; omega
    omega
  have htk : ∀ i, i ≤ 7 → ((unpack (bl s)).drop p).take i = (digits 3 7).take i := by
    intro i hi
    rw [hU, hB, List.append_assoc, List.take_append_of_le_length (by rw [digits_length]; omega)]
  refine ⟨?_, hBl⟩
  -- what stands behind the escape
  have h15 : ((unpack (bl s)).drop (p + 7)).take 15 = l :: (digits r 6 ++ digits ((v + 256) % 256) 8) := by
    rw [← List.drop_drop, hU, hB, List.append_assoc, List.drop_left' (digits_length _ _), List.take_left' (by simp [digits_length])]
  have hV : numB (l :: (digits r 6 ++ digits ((v + 256) % 256) 8)) = l.toInt * 16384 + r * 256 + (v + 256) % 256 := by
    rw [show l :: (digits r 6 ++ digits ((v + 256) % 256) 8) = [l] ++ (digits r 6 ++ digits ((v + 256) % 256) 8) from rfl, numB_append, numB_append, numB_digits r 6 h1 (by omega), numB_digits _ 8 (by omega) (by omega), List.length_append, digits_length, digits_length]
    simp [numB]; omega
  have hesc : tcoef_escaped (M + 200) s ((p + 7 : Nat) : Int) = some (l, r, v, 0, s, ((p + 22 : Nat) : Int)) := by
    have ht := take_ok (N := M + 200) (by omega) (p := p + 7) (n := 15) hs (by decide) (by omega)
    rw [h15, hV, show ((15 : Nat) : Int) = 15 from rfl] at ht
    have hl := bool_in l
    generalize hW : l.toInt * 16384 + r * 256 + (v + 256) % 256 = W at *
    have w0 : 0 ≤ W := by omega
    have w1 : W % 256 = (v + 256) % 256 := by omega
    have w2 : W / 2 ^ Int.toNat 8 = l.toInt * 64 + r := by rw [show (2 : Int) ^ Int.toNat 8 = 256 from rfl]; omega
    have w3 : W / 2 ^ Int.toNat 14 = l.toInt := by rw [show (2 : Int) ^ Int.toNat 14 = 16384 from rfl]; omega
    have w4 : ((Int.toNat (l.toInt * 64 + r) &&& Int.toNat 63 : Nat) : Int) = r := by
      rw [show Int.toNat 63 = 2 ^ 6 - 1 from rfl, Nat.and_two_pow_sub_one_eq_mod]
      omega
    have w5 : decide (l.toInt = 1) = l := by cases l <;> rfl
    have w6 : (bif decide ((128 : Int) ≤ (v + 256) % 256) then (v + 256) % 256 - 256 else (v + 256) % 256) = v := by
      by_cases hv : v < 0
      · rw [decide_eq_true (by omega), cond_true]; omega
      · rw [decide_eq_false (by omega), cond_false]; omega
    have i1 : decide ((128 : Int) ≤ (v + 256) % 256) = true → inK .i64 ((v + 256) % 256 - 256) := fun _ => in64 (by omega) (by omega)
    have i2 : 0 ≤ l.toInt * 64 + r := by omega
    have i3 : inK .i64 (-v) := in64 (by omega) (by omega)
    unfold tcoef_escaped
    rw [ht]
    simp only [Option.isSome_some, Option.getD_some, if_true, ne_eq, not_true, decide_false, cond_false, w0, w1, w2, w3, w4, w5, w6, i2, right_eq, decide_eq_true h, hp, Bool.not_true, Bool.not_false, i3, and_self, implies_true, show decide ((0 : Int) ≤ -1) = false from rfl]
    rw [if_pos i1]
  have hit : iter (tcoef_read_b1 (M + 200)) (M + 200) (0, 1, s, (p : Int)) = some (.inl (0, l, r, v, s, ((p + 22 : Nat) : Int))) := by
    refine iter_to (fun i => (numB (((unpack (bl s)).drop p).take i), (i : Int) + 1, s, ((p + i : Nat) : Int))) 6 (by simp [numB]) ?_ ?_ (by omega)
    · intro i hi
      have q2 := List.all_eq_true.1 (ckE M) i (List.mem_range.2 hi)
      rw [decide_eq_true_eq] at q2
      refine read_stepP (p := p) (by omega) hs (by omega) (by omega) rfl (by omega) ?_
      rw [htk _ (by omega)]; exact q2
    · have hl : 6 < ((unpack (bl s)).drop p).length := by omega
      have hn : ((Int.toNat (numB (((unpack (bl s)).drop p).take 6) * 2 ^ Int.toNat 1) ||| Int.toNat (((unpack (bl s)).drop p).getD 6 false).toInt : Nat) : Int) = 3 := by
        rw [or1 (numB_take_in ((unpack (bl s)).drop p) 6 (by omega)).1, ← numB_one _ 6 hl, htk 7 (Nat.le_refl _)]; rfl
      obtain ⟨n1, n2⟩ := numB_take_in ((unpack (bl s)).drop p) 6 (by omega)
      have i1 : inK .i64 (numB (((unpack (bl s)).drop p).take 6) * 2 ^ Int.toNat 1) := by rw [show (2 : Int) ^ Int.toNat 1 = 2 from rfl]; exact in64 (by omega) (by omega)
      have i2 : 0 ≤ numB (((unpack (bl s)).drop p).take 6) * 2 ^ Int.toNat 1 := by rw [show (2 : Int) ^ Int.toNat 1 = 2 from rfl]; omega
      have i3 := (bool_in (((unpack (bl s)).drop p).getD 6 false)).1
      have g1 : ((6 : Nat) : Int) + 1 ≤ 12 := by decide
      have hx : decide (((6 : Nat) : Int) + 1 = 7) = true := rfl
      have e7 : ((p + (6 + 1) : Nat) : Int) = ((p + 7 : Nat) : Int) := rfl
      simp only [tcoef_read_b1, decide_eq_true g1, cond_true, take1P (N := M + 200) (p := p) (i := 6) (by omega) hs (by omega), Option.isSome_some, Option.getD_some, if_true, ne_eq, not_true, decide_false, cond_false, i1, i2, i3, and_self, hn, hx, e7, hesc, decide_true]
  unfold tcoef_read
  rw [hit]
  rfl


theorem take_ev {M : Nat} {e : Ev} (h : rgt e.2.1 e.2.2) {s : ByteArray} {p : Nat} {R : List Bool} (hs : s.size < 4294967296) (hU : (unpack (bl s)).drop p = RB M e ++ R) :
    tcoef_Take (M + 200) s (p : Int) = some (e.1, e.2.1, e.2.2, 0, s, ((p + (RB M e).length : Nat) : Int)) := by
  obtain ⟨B, hrow, hcase⟩ := row_bits (M := M) (l := e.1) h
  have hB : RB M e = B := by
    unfold RB
    rw [hrow, Option.getD_some, bits_rowT]
  rw [hB] at hU ⊢
  have hread : tcoef_read (M + 200) s (p : Int) = some (e.1, e.2.1, e.2.2, 0, s, ((p + B.length : Nat) : Int)) := by
    obtain ⟨h1, h2, h3, h4, h5⟩ := id h
    rcases hcase with ⟨a, a1, a2, a3, _⟩ | ⟨a2, a3⟩
    · have := (read_tableP (M := M) (a := a) a1 hs a3 hU (event_back h a2) (by omega)).1
      rw [this]
      have e : max e.2.2 (-e.2.2) * (1 - 2 * (decide (e.2.2 < 0)).toInt) = e.2.2 := by
        by_cases hv : e.2.2 < 0
        · rw [decide_eq_true hv]; show max e.2.2 (-e.2.2) * (-1) = e.2.2; omega
        · rw [decide_eq_false hv]; show max e.2.2 (-e.2.2) * 1 = e.2.2; omega
      rw [e]
    · obtain ⟨e1, e2⟩ := read_escP (M := M) hs h a2 a3 hU
      rw [e1, e2]
  unfold tcoef_Take overspill_inbits_Reader_At
  rw [hread]
  simp
theorem cb_split (M : Nat) (l : List Ev) (n : Nat) : ∀ k, ∃ R, cb M l (n + k) = cb M l n ++ R := by
  intro k
  induction k with
  | zero => exact ⟨[], by simp⟩
  | succ k ih =>
    obtain ⟨R, h⟩ := ih
    exact ⟨R ++ RB M (ev l (n + k)), by rw [← Nat.add_assoc]; simp only [cb]; rw [h, List.append_assoc]⟩
theorem events_ok {M : Nat} {f : Int} {l : List Ev} (hf : f = 0 ∨ f = 1) (hl : l.length ≤ 100) (h0 : 0 < l.length) (hg : okE f l = true) {s : ByteArray} {p : Nat} {R : List Bool} (hs : s.size < 4294967296) (hU : (unpack (bl s)).drop p = cb M l l.length ++ R) :
    blocks_events (M + 200) f s (p : Int) = some (l, 0, s, ((p + (cb M l l.length).length : Nat) : Int)) := by
  have hgd := okE_iff.1 hg
  obtain ⟨m, hm⟩ : ∃ m, l.length = m + 1 := ⟨l.length - 1, by omega⟩
  have hUi : ∀ i, i < l.length → ∃ R', (unpack (bl s)).drop (p + (cb M l i).length) = RB M (ev l i) ++ R' := by
    intro i hi
    obtain ⟨R1, h1⟩ := cb_split M l (i + 1) (l.length - (i + 1))
    rw [show i + 1 + (l.length - (i + 1)) = l.length by omega] at h1
    refine ⟨R1 ++ R, ?_⟩
    rw [← List.drop_drop, hU, h1]
    simp only [cb, List.append_assoc]
    rw [List.drop_left' rfl]
  have step : ∀ i, i < l.length → tcoef_Take (M + 200) s ((p + (cb M l i).length : Nat) : Int) = some ((ev l i).1, (ev l i).2.1, (ev l i).2.2, 0, s, ((p + (cb M l (i + 1)).length : Nat) : Int)) := by
    intro i hi
    obtain ⟨R', h'⟩ := hUi i hi
    rw [take_ev (hgd i hi).1 hs h']
    simp only [cb, List.length_append, Nat.add_assoc]
  have htake : ∀ i, i < l.length → l.take i ++ [((ev l i).1, ((ev l i).2.1, (ev l i).2.2))] = l.take (i + 1) := by
    intro i hi
    rw [← List.take_append_getElem hi]
    congr 1
    show [ev l i] = _
    unfold ev
    rw [List.getD_eq_getElem?_getD, List.getElem?_eq_getElem hi]
    rfl
  have hit : iter (blocks_events_b1 (M + 200)) (M + 200) (f, 0, s, (p : Int), []) = some (.inr (l.length, l, s, ((p + (cb M l l.length).length : Nat) : Int))) := by
    refine iter_to (fun i => (posn f l i, i, s, ((p + (cb M l i).length : Nat) : Int), l.take i)) m (by simp [cb, posn]) ?_ ?_ (by omega)
    · intro i hi
      obtain ⟨⟨r1, r2, _⟩, e1, e2⟩ := hgd i (by omega)
      obtain ⟨p1, p2⟩ := posn_in (f := f) (l := l) (by omega) i fun j hj => hgd j (by omega)
      have hlast : (ev l i).1 = false := by rw [e1]; exact decide_eq_false (by omega)
      have i1 : inK .i64 ((ev l i).2.1 + 1) := in64 (by omega) (by omega)
      have i2 : inK .i64 (posn f l i + ((ev l i).2.1 + 1)) := in64 (by omega) (by omega)
      have i3 : ¬ (64 : Int) < posn f l i + ((ev l i).2.1 + 1) := by omega
      have i4 : (l.take i).length = i := by rw [List.length_take]; omega
      have i5 : (i + 1) * 24 ≤ 140737488355328 := by omega
      have i6 : i + 1 ≤ 9223372036854775807 := by omega
      have i7 : posn f l i + ((ev l i).2.1 + 1) = posn f l (i + 1) := by simp only [posn]; omega
      have ht := htake i (by omega)
      rw [hlast] at ht
      rw [i7] at i2 i3
      simp only [blocks_events_b1, step i (by omega), Option.isSome_some, Option.getD_some, if_true, ne_eq, not_true, decide_false, cond_false, i1, i2, and_self, decide_eq_false i3, i4, i5, i6, hlast, ht, i7]
    · obtain ⟨⟨r1, r2, _⟩, e1, e2⟩ := hgd m (by omega)
      obtain ⟨p1, p2⟩ := posn_in (f := f) (l := l) (by omega) m fun j hj => hgd j (by omega)
      have hlast : (ev l m).1 = true := by rw [e1]; exact decide_eq_true (by omega)
      have i1 : inK .i64 ((ev l m).2.1 + 1) := in64 (by omega) (by omega)
      have i2 : inK .i64 (posn f l m + ((ev l m).2.1 + 1)) := in64 (by omega) (by omega)
      have i3 : ¬ (64 : Int) < posn f l m + ((ev l m).2.1 + 1) := by omega
      have i4 : (l.take m).length = m := by rw [List.length_take]; omega
      have i5 : (m + 1) * 24 ≤ 140737488355328 := by omega
      have i6 : m + 1 ≤ 9223372036854775807 := by omega
      have ht := htake m (by omega)
      rw [hlast, ← hm, List.take_length] at ht
      have hst := step m (by omega)
      rw [← hm] at hst
      simp only [blocks_events_b1, hst, Option.isSome_some, Option.getD_some, if_true, ne_eq, not_true, decide_false, cond_false, cond_true, i1, i2, and_self, decide_eq_false i3, i4, i5, i6, hlast, ht]
      rw [← hm]
  unfold blocks_events
  rw [hit]
  simp
theorem first_ok {M : Nat} {dc : Int} (hdc : 1 ≤ dc ∧ dc ≤ 254) {s : ByteArray} {p : Nat} {R : List Bool} (hs : s.size < 4294967296) (hU : (unpack (bl s)).drop p = hd true dc ++ R) : blocks_first (M + 200) s (p : Int) = some (dc, 0, s, ((p + 8 : Nat) : Int)) := by
  have hUl : ((unpack (bl s)).drop p).length = 8 * s.size - p := by rw [List.length_drop, unpack_length, bl_length]
  have h8 : (hd true dc).length = 8 := by unfold hd; simp [digits_length]
  have hfit : p + 8 ≤ 8 * s.size := by
    have : 8 ≤ 8 * s.size - p := by rw [← hUl, hU, List.length_append]; omega
    omega
  obtain ⟨d1, d2⟩ := dcs hdc
  have ht := take_ok (N := M + 200) (by omega) (p := p) (n := 8) hs (by decide) hfit
  rw [hU, List.take_left' h8, show hd true dc = digits (bif decide (dc = 128) then 255 else dc) 8 from rfl, numB_digits _ 8 d1 d2, show ((8 : Nat) : Int) = 8 from rfl] at ht
  unfold blocks_first
  rw [ht]
  by_cases e : dc = 128
  · subst e
    simp
  · have e0 : dc ≠ 0 := by omega
    have e1 : dc ≠ 255 := by omega
    simp [e, e0, e1]
theorem same_ok {N : Nat} {l : List Ev} (hl : l.length < 4294967296) (hN : l.length < N) : ref10_Same N l l = some true := by
  have hit : iter (ref10_Same_b1 N l l) N 0 = some (.inr ()) := by
    refine iter_to (fun i => ((i : Nat) : Int)) l.length rfl ?_ ?_ hN
    · intro i hi
      have g1 : (i : Int) < (l.length : Int) := by omega
      have g2 := inS (i := i) (by omega)
      simp [ref10_Same_b1, g1, hi, g2]
    · simp [ref10_Same_b1]
  unfold ref10_Same
  rw [hit]
  simp

/-! ### the law -/
theorem btake_ok {M : Nat} {b : Bool} {dc : Int} {l : List Ev} (hl : l.length ≤ 100) (hm : mayB b dc l = true) {s : ByteArray} {p : Nat} {R : List Bool} (hs : s.size < 4294967296) (hU : (unpack (bl s)).drop p = hd b dc ++ (cb M l l.length ++ R)) :
    blocks_Take (M + 200) b (decide ((0 : Int) < (l.length : Int))) s (p : Int) = some (dc, l, 0, s, ((p + (hd b dc).length + (cb M l l.length).length : Nat) : Int)) := by
  obtain ⟨hr, hdc⟩ := allR hm
  have hok : okE (bif b then 1 else 0) l = true := by
    unfold mayB at hm
    simp only [Bool.and_eq_true] at hm
    exact hm.1
  have hb0 : b = false → dc = 0 := by
    intro h
    have hm' := hm
    unfold mayB at hm'
    rw [h] at hm'
    simp only [Bool.and_eq_true, cond_false, decide_eq_true_eq] at hm'
    exact hm'.2
  have hfst : (b = true → (blocks_first (M + 200) s (p : Int)).isSome = true) := fun h => by
    subst h
    rw [first_ok (M := M) (hdc rfl) hs hU]; rfl
  have hU2 : (unpack (bl s)).drop (p + (hd b dc).length) = cb M l l.length ++ R := by
    rw [← List.drop_drop, hU, List.drop_left' rfl]
  have e1 : (bif b then ((blocks_first (M + 200) s (p : Int)).getD default).2.1 else 0) = 0 := by
    cases b
    · rfl
    · rw [first_ok (M := M) (hdc rfl) hs hU]; rfl
  have e2 : (bif b then ((blocks_first (M + 200) s (p : Int)).getD default).2.2.1 else s) = s := by
    cases b
    · rfl
    · rw [first_ok (M := M) (hdc rfl) hs hU]; rfl
  have e3 : (bif b then ((blocks_first (M + 200) s (p : Int)).getD default).2.2.2 else (p : Int)) = ((p + (hd b dc).length : Nat) : Int) := by
    cases b
    · simp [hd]
    · rw [first_ok (M := M) (hdc rfl) hs hU]
      have : (hd true dc).length = 8 := by unfold hd; simp [digits_length]
      rw [this]; rfl
  have e4 : (bif b then ((blocks_first (M + 200) s (p : Int)).getD default).1 else 0) = dc := by
    cases b
    · exact (hb0 rfl).symm
    · rw [first_ok (M := M) (hdc rfl) hs hU]; rfl
  have e5 : blocks_from (M + 200) b = some (bif b then 1 else 0) := by cases b <;> rfl
  unfold blocks_Take overspill_inbits_Reader_At
  simp only [Option.isSome_some, Option.getD_some, if_true, e1, e2, e3, e4, e5, decide_true, cond_true]
  rw [if_pos hfst]
  by_cases h0 : 0 < l.length
  · have hev := events_ok (M := M) (f := bif b then 1 else 0) (by cases b <;> simp) hl h0 hok hs hU2
    have g0 : (0 : Int) < (l.length : Int) := by omega
    simp only [decide_eq_true g0, cond_true, hev, Option.isSome_some, Option.getD_some, implies_true, and_self, if_true, ne_eq, not_true, decide_false, cond_false]
  · have hz : l = [] := List.length_eq_zero_iff.1 (by omega)
    subst hz
    simp [cb]
theorem back15_law {M : Nat} (hM : 100000 ≤ M) (b : Bool) (dc : Int) (l : List Ev) (a z : ByteArray) : law15_BlocksBack (M + 200) b dc l a z = some true := by
  unfold law15_BlocksBack
  rw [lives15]
  by_cases h1 : (100 : Int) < (l.length : Int)
  · simp only [decide_eq_true h1, cond_true, Option.isSome_some, Option.getD_some, if_true]
  by_cases h2 : (100 : Int) < (a.size : Int)
  · simp only [decide_eq_false h1, decide_eq_true h2, cond_true, cond_false, Option.isSome_some, Option.getD_some, if_true]
  by_cases h3 : (100 : Int) < (z.size : Int)
  · simp only [decide_eq_false h1, decide_eq_false h2, decide_eq_true h3, cond_true, cond_false, Option.isSome_some, Option.getD_some, if_true]
  simp only [decide_eq_false h1, decide_eq_false h2, decide_eq_false h3, cond_false, outbits_New, Option.isSome_some, Option.getD_some, if_true]
  obtain ⟨ea, A, hA, hAl⟩ : ∃ ea A, overspill_outbits_Writer_Add (M + 200) a [] = some (ea, A) ∧ A.length ≤ 100 := by
    cases hp : plainL (bl a) with
    | true => exact ⟨_, _, add_ok (N := M + 200) (by omega) (by omega) (by simp) hp, by rw [List.nil_append, bitsT_length, bl_length]; omega⟩
    | false => exact ⟨_, _, add_bad (N := M + 200) (by omega) (by omega) hp, by simp⟩
  simp only [hA, Option.isSome_some, Option.getD_some, if_true, len_ok (N := M + 200) (bits := A) (by omega), bput_ok (M := M) (b := b) (dc := dc) (l := l) (bits := A) (by omega) (by omega)]
  cases hm : mayB b dc l with
  | false =>
    simp only [cond_false, show decide ((7 : Int) ≠ 0) = true from rfl, cond_true, len_ok (N := M + 200) (bits := A) (by omega), Option.isSome_some, Option.getD_some, implies_true, and_self, if_true, decide_true]
  | true =>
    obtain ⟨hr, hdc⟩ := allR hm
    have hhl := hd_len b dc
    have hcl := cb_len (M := M) (l := l) l.length hr
    generalize hT : A ++ hd b dc ++ cb M l l.length = T
    have hTl : T.length ≤ 3000 := by rw [← hT, List.length_append, List.length_append]; omega
    obtain ⟨ez, Z, hZ, hZl⟩ : ∃ ez Z, overspill_outbits_Writer_Add (M + 200) z T = some (ez, T ++ Z) ∧ Z.length ≤ 100 := by
      cases hp : plainL (bl z) with
      | true => exact ⟨_, _, add_ok (N := M + 200) (by omega) (by omega) (by omega) hp, by rw [bitsT_length, bl_length]; omega⟩
      | false => exact ⟨1, [], by rw [List.append_nil]; exact add_bad (N := M + 200) (by omega) (by omega) hp, by simp⟩
    generalize hs : bytesOf (packB (T ++ Z)) = s
    have htxt := text_ok (N := M + 200) (bits := T ++ Z) (by rw [List.length_append]; omega)
    rw [hs] at htxt
    have hsz : s.size < 4294967296 := by rw [← hs, bytesOf_size, packB_length, List.length_append]; omega
    have hszA : A.length ≤ 8 * s.size := by rw [← hs, bytesOf_size, packB_length, List.length_append, ← hT, List.length_append, List.length_append]; omega
    have hU : (unpack (bl s)).drop A.length = hd b dc ++ (cb M l l.length ++ (Z ++ List.replicate ((8 - (T ++ Z).length % 8) % 8) false)) := by
      rw [← hs, bl_bytesOf (fun x hx => packB_in _ x hx), unpack_packB, ← hT]
      simp only [List.append_assoc]
      rw [List.drop_left' rfl]
    have hseek : overspill_inbits_Reader_Seek (M + 200) (A.length : Int) s 0 = some (0, s, (A.length : Int)) := by
      unfold overspill_inbits_Reader_Seek
      have g1 : ¬ ((A.length : Int) < 0) := by omega
      have g2 : ¬ ((8 : Int) * (s.size : Int) < (A.length : Int)) := by omega
      have g3 : inK .i64 ((8 : Int) * (s.size : Int)) := in64 (by omega) (by omega)
      simp only [cond_false, decide_eq_false g1, decide_eq_false g2, g3, implies_true, if_true]
    have htake := btake_ok (M := M) (b := b) (dc := dc) (l := l) (by omega) hm hsz hU
    have hsame := same_ok (N := M + 200) (l := l) (by omega) (by omega)
    have hend : ((A.length + (hd b dc).length + (cb M l l.length).length : Nat) : Int) = (T.length : Int) := by
      rw [← hT, List.length_append, List.length_append]
    simp only [cond_true, ne_eq, not_true, decide_false, cond_false, len_ok (N := M + 200) (bits := T) (by omega), Option.isSome_some, Option.getD_some, if_true, hZ, htxt, inbits_New, and_self, hseek, htake, hsame, overspill_inbits_Reader_At, decide_true, implies_true, decide_eq_true hend]
theorem law_blocksBack (N : Nat) (hN : 1099511627776 ≤ N) (y0 : Sh.den (.pair .bool (.pair (.int .i64) (.sl (.pair .bool (.pair (.int .i64) (.int .i64))))))) (w0 : Sh.wf (.pair .bool (.pair (.int .i64) (.sl (.pair .bool (.pair (.int .i64) (.int .i64)))))) y0) (y1 : Sh.den .str) (w1 : Sh.wf .str y1) (y2 : Sh.den .str) (w2 : Sh.wf .str y2) : law15_BlocksBack N (y0.1) (y0.2.1) (y0.2.2) y1 y2 = some true := by
  obtain ⟨M, rfl⟩ : ∃ M, N = M + 200 := ⟨N - 200, by omega⟩
  exact back15_law (by omega) _ _ _ _ _
end Go.Proofs.YtbcgkdigfkapcaaDoor
