/- What the printed models answer: plain laws. -/
import Derived.Test.YtcfffichdcnlgaaDoorBE
set_option linter.unusedVariables false
set_option linter.unusedSimpArgs false
namespace Go.Proofs.YtcfffichdcnlgaaDoor
open Go.X

theorem byteI_row {U : List Bool} {i : Nat} (h : i < U.length) : decide (byteI (rowT U) i = 49) = U.getD i false := by
  rw [byteI_bl, bl_rowT]
  unfold txt
  rw [List.getD_eq_getElem?_getD, List.getD_eq_getElem?_getD, List.getElem?_map, List.getElem?_eq_getElem h]
  cases U[i] <;> rfl
theorem place_or {M : Nat} {l : Bool} {r v : Int} (h : rgt r v) : (∃ a x, 0 ≤ a ∧ tcoef_place (M + 200) l r (max v (-v)) = some a ∧ ref09_has (M + 200) l r (max v (-v)) = some x ∧ bl x ≠ []) ∨ (tcoef_place (M + 200) l r (max v (-v)) = some (-1) ∧ ref09_has (M + 200) l r (max v (-v)) = some ⟨#[]⟩) := by
  obtain ⟨h1, h2, h3, h4, h5⟩ := id h
  obtain ⟨rn, rfl⟩ : ∃ rn : Nat, r = rn := ⟨r.toNat, by omega⟩
  have hrn : rn < 64 := by omega
  have hc : chkH (M + 200) l rn = true := by
    have := List.all_eq_true.1 (ckH M) rn (List.mem_range.2 hrn)
    simp only [Bool.and_eq_true] at this
    cases l
    · exact this.1
    · exact this.2
  unfold chkH at hc
  split at hc
  · rename_i rows n g1 g2
    simp only [Bool.and_eq_true, decide_eq_true_eq, List.all_eq_true, List.mem_range] at hc
    obtain ⟨g3, g4⟩ := hc
    by_cases hn : max v (-v) ≤ n
    · obtain ⟨i, hi⟩ : ∃ i : Nat, max v (-v) = (i : Int) + 1 := ⟨(max v (-v) - 1).toNat, by omega⟩
      obtain ⟨k1, k2⟩ := g4 i (by omega)
      split at k2
      · rename_i a ha
        rw [decide_eq_true_eq] at k2
        refine .inl ⟨a, rows.getD i ⟨#[]⟩, k2, by rw [hi]; exact ha, ?_, k1⟩
        have j1 : ¬ ((rows.length : Int) < (i : Int) + 1) := by omega
        have j2 : (i : Int) + 1 - 1 = i := by omega
        have j3 : inK .i64 (i : Int) := in64 (by omega) (by omega)
        have j4 : i < rows.length := by omega
        rw [hi]
        unfold ref09_has
        rw [g1]
        simp [j1, j2, j3, j4, -List.getD_eq_getElem?_getD]
      · cases k2
    · refine .inr ⟨?_, ?_⟩
      · unfold tcoef_place
        rw [g2]
        have : n < max v (-v) := by omega
        simp [this]
      · have j1 : (rows.length : Int) < max v (-v) := by omega
        unfold ref09_has
        rw [g1]
        simp [j1]
  · cases hc
def escV (x : Int) : Int := bif decide ((128 : Int) ≤ x) then x - 256 else x
def escB (M : Nat) (l : Bool) (r v : Int) : Bool := decide (rgt r v) && decide (tcoef_place (M + 200) l r (max v (-v)) = some (-1))
theorem escaped_end {M : Nat} {s : ByteArray} {q : Nat} (hs : s.size ≤ 1000) (hq : q ≤ 8 * s.size) (h : 8 * s.size < q + 15) : tcoef_escaped (M + 200) s (q : Int) = some (false, 0, 0, 2, s, (q : Int)) := by
  have ht := take_end (N := M + 200) (s := s) (p := q) (n := 15) (by omega) (by decide) (by omega) h
  rw [show ((15 : Nat) : Int) = 15 from rfl] at ht
  unfold tcoef_escaped
  rw [ht]
  rfl
theorem escaped_ok {M : Nat} {s : ByteArray} {q : Nat} (hs : s.size ≤ 1000) (h : q + 15 ≤ 8 * s.size) {l : Bool} {r x : Int} (hl : l = (unpack (bl s)).getD q false) (hr : r = numB (((unpack (bl s)).drop (q + 1)).take 6)) (hx : x = numB (((unpack (bl s)).drop (q + 7)).take 8)) :
    tcoef_escaped (M + 200) s (q : Int) = some (bif escB M l r (escV x) then (l, r, escV x, 0, s, ((q + 15 : Nat) : Int)) else (false, 0, 0, 7, s, ((q + 15 : Nat) : Int))) := by
  have hUl : (unpack (bl s)).length = 8 * s.size := by rw [unpack_length, bl_length]
  have ht := take_ok (N := M + 200) (by omega) (p := q) (n := 15) (by omega) (by decide) h
  have h15 : ((unpack (bl s)).drop q).take 15 = [l] ++ (((unpack (bl s)).drop (q + 1)).take 6 ++ ((unpack (bl s)).drop (q + 7)).take 8) := by
    have e1 : (unpack (bl s)).drop q = l :: (unpack (bl s)).drop (q + 1) := by
      rw [List.drop_eq_getElem_cons (by omega : q < (unpack (bl s)).length), hl, List.getD_eq_getElem?_getD, List.getElem?_eq_getElem (by omega : q < (unpack (bl s)).length)]
      rfl
    rw [e1, List.take_succ_cons]
    show l :: _ = l :: _
    congr 1
    rw [show (14 : Nat) = 6 + 8 from rfl, List.take_add, List.drop_drop]
    rfl
  have r6 : (((unpack (bl s)).drop (q + 1)).take 6).length = 6 := by rw [List.length_take, List.length_drop, hUl]; omega
  have x8 : (((unpack (bl s)).drop (q + 7)).take 8).length = 8 := by rw [List.length_take, List.length_drop, hUl]; omega
  have rb := numB_in (((unpack (bl s)).drop (q + 1)).take 6)
  have xb := numB_in (((unpack (bl s)).drop (q + 7)).take 8)
  rw [r6, ← hr] at rb
  rw [x8, ← hx] at xb
  rw [h15, numB_append, numB_append, List.length_append, r6, x8, ← hr, ← hx, show ((15 : Nat) : Int) = 15 from rfl] at ht
  have hlb := bool_in l
  have hnl : numB [l] = l.toInt := by cases l <;> rfl
  rw [hnl] at ht
  generalize hW : l.toInt * 2 ^ (6 + 8) + (r * 2 ^ 8 + x) = W at *
  have hW' : W = l.toInt * 16384 + (r * 256 + x) := by rw [← hW]; rfl
  have w0 : 0 ≤ W := by omega
  have w1 : W % 256 = x := by omega
  have w2 : W / 2 ^ Int.toNat 8 = l.toInt * 64 + r := by rw [show (2 : Int) ^ Int.toNat 8 = 256 from rfl]; omega
  have w3 : W / 2 ^ Int.toNat 14 = l.toInt := by rw [show (2 : Int) ^ Int.toNat 14 = 16384 from rfl]; omega
  have w4 : ((Int.toNat (l.toInt * 64 + r) &&& Int.toNat 63 : Nat) : Int) = r := by
    rw [show Int.toNat 63 = 2 ^ 6 - 1 from rfl, Nat.and_two_pow_sub_one_eq_mod]
    omega
  have w5 : decide (l.toInt = 1) = l := by cases l <;> rfl
  have i1 : decide ((128 : Int) ≤ x) = true → inK .i64 (x - 256) := fun _ => in64 (by omega) (by omega)
  have i2 : 0 ≤ l.toInt * 64 + r := by omega
  have hv : (bif decide ((128 : Int) ≤ x) then x - 256 else x) = escV x := rfl
  have d0 : decide ((0 : Int) ≠ 0) = false := rfl
  unfold tcoef_escaped
  rw [ht]
  simp only [Option.isSome_some, Option.getD_some, if_true, d0, cond_false, w0, w1, w2, w3, w4, w5, i2, right_eq]
  rw [if_pos i1]
  simp only [hv]
  unfold escB
  by_cases hg : rgt r (escV x)
  · have i3 : inK .i64 (-(escV x)) := by obtain ⟨_, _, _, k1, k2⟩ := hg; exact in64 (by omega) (by omega)
    rw [decide_eq_true hg]
    rcases place_or (M := M) (l := l) hg with ⟨a, y, a0, hpl, _⟩ | ⟨hpl, _⟩
    · have hn1 : decide (tcoef_place (M + 200) l r (max (escV x) (-(escV x))) = some (-1)) = false := by
        rw [hpl]; exact decide_eq_false (fun h => by injection h with h; omega)
      rw [hn1]
      simp only [hpl, Option.isSome_some, Option.getD_some, i3, implies_true, and_self, if_true, decide_eq_true a0, Bool.not_true, cond_false, cond_true, Bool.and_false]
    · have hn1 : decide (tcoef_place (M + 200) l r (max (escV x) (-(escV x))) = some (-1)) = true := decide_eq_true hpl
      rw [hn1]
      simp only [hpl, Option.isSome_some, Option.getD_some, i3, implies_true, and_self, if_true, show decide ((0 : Int) ≤ -1) = false from rfl, Bool.not_true, cond_false, cond_true, Bool.and_self]
  · rw [decide_eq_false hg]
    simp only [Bool.not_false, Bool.not_true, Bool.false_and, cond_true, cond_false, Bool.false_eq_true, false_implies, and_self, if_true]
theorem hesc (M : Nat) (s : ByteArray) (q : Nat) (hs : s.size ≤ 1000) (hq : q ≤ 8 * s.size) : ∃ E, tcoef_escaped (M + 200) s (q : Int) = some E := by
  by_cases h : q + 15 ≤ 8 * s.size
  · exact ⟨_, escaped_ok hs h rfl rfl rfl⟩
  · exact ⟨_, escaped_end hs hq (by omega)⟩
/-- What is taken, and what the page says is taken. -/
theorem take_eq {M : Nat} {s : ByteArray} {p : Nat} (hs : s.size ≤ 1000) (hp : p ≤ 8 * s.size) : ∃ (l : Bool) (r v e : Int) (to : Nat), tcoef_Take (M + 200) s (p : Int) = some (l, r, v, e, s, (to : Int)) ∧ ref09_Take (M + 200) (rowT (unpack (bl s))) (p : Int) = some (l, r, v, (to : Int), e) ∧ to ≤ 8 * s.size ∧ (e = 0 → p < to ∧ 0 ≤ r ∧ r ≤ 63) ∧ (e ≠ 0 → to = p) := by
  have hUl : (unpack (bl s)).length = 8 * s.size := by rw [unpack_length, bl_length]
  have hnil : ([] : List Bool) ∈ nodesB := by decide +kernel
  obtain ⟨Z, x, y, hx, hy, hX, hY⟩ := joint (M := M) (hesc M) hs hp 12 0 rfl (by omega) hnil (M + 200) (M + 200) (by omega) (by omega)
  have hx0 : iter (tcoef_read_b1 (M + 200)) (M + 200) (0, 1, s, (p : Int)) = some x := hx
  have hy0 : iter (ref05_Take_b1 (M + 200) 103 (rowT (unpack (bl s))) (p : Int) (rowsB.map rowT)) (M + 200) 1 = some y := hy
  have fail : ∀ (e : Int) (q : Nat), e ≠ 0 → tcoef_read (M + 200) s (p : Int) = some (false, 0, 0, e, s, (q : Int)) → tcoef_Take (M + 200) s (p : Int) = some (false, 0, 0, e, s, (p : Int)) := fun e q he hr => by
    have de : decide (e ≠ 0) = true := decide_eq_true he
    have b1 : (bif decide ((p : Int) < 0) then true else decide (((8 : Int) * (s.size : Int)) < (p : Int))) = false := by
      rw [decide_eq_false (show ¬ (p : Int) < 0 by omega), decide_eq_false (show ¬ (8 : Int) * (s.size : Int) < (p : Int) by omega)]; rfl
    have b2 : ((!(decide ((p : Int) < 0))) = true → inK .i64 ((8 : Int) * (s.size : Int))) := fun _ => in64 (by omega) (by omega)
    have hsk : overspill_inbits_Reader_Seek (M + 200) (p : Int) s (q : Int) = some (0, s, (p : Int)) := by
      unfold overspill_inbits_Reader_Seek
      simp only [b1, cond_false]
      rw [if_pos b2]
    unfold tcoef_Take overspill_inbits_Reader_At
    simp only [hr, hsk, Option.isSome_some, Option.getD_some, if_true, implies_true, de, cond_true]
  have good : ∀ (l : Bool) (r v : Int) (q : Nat), tcoef_read (M + 200) s (p : Int) = some (l, r, v, 0, s, (q : Int)) → tcoef_Take (M + 200) s (p : Int) = some (l, r, v, 0, s, (q : Int)) := fun l r v q hr => by
    have d0 : decide ((0 : Int) ≠ 0) = false := rfl
    unfold tcoef_Take overspill_inbits_Reader_At
    simp only [hr, Option.isSome_some, Option.getD_some, if_true, d0, Bool.false_eq_true, false_implies, cond_false]
  have hr05 : ref05_Take (M + 200) 103 (rowT (unpack (bl s))) (p : Int) (rowsB.map rowT) = some (Sum.elim (fun v1 => (v1.1, v1.2.1, v1.2.2)) (fun _ => (0, (p : Int), 3)) y) := by
    unfold ref05_Take
    rw [hy0]
    cases y <;> rfl
  have hread : tcoef_read (M + 200) s (p : Int) = some (Sum.elim (fun v1 => (v1.2.1, v1.2.2.1, v1.2.2.2.1, v1.1, v1.2.2.2.2.1, v1.2.2.2.2.2)) (fun v2 => (false, 0, 0, 3, v2.1, v2.2)) x) := by
    unfold tcoef_read
    rw [hx0]
    cases x <;> rfl
  have hr09 : ∀ k to e : Int, ref05_Take (M + 200) 103 (rowT (unpack (bl s))) (p : Int) (rowsB.map rowT) = some (k, to, e) → e ≠ 0 → ref09_Take (M + 200) (rowT (unpack (bl s))) (p : Int) = some (false, 0, 0, (p : Int), e) := fun k to e h he => by
    have de : decide (e ≠ 0) = true := decide_eq_true he
    unfold ref09_Take
    rw [rows_at]
    simp only [Option.bind_some, h, Option.isSome_some, Option.getD_some, if_true, de, cond_true]
  cases Z with
  | e2 =>
    obtain ⟨q, hq, rfl⟩ := hX
    have hY' : y = .inl (0, (p : Int), 2) := hY
    rw [hY'] at hr05
    exact ⟨false, 0, 0, 2, p, fail 2 q (by decide) hread, hr09 _ _ 2 hr05 (by decide), hp, fun h => by omega, fun _ => rfl⟩
  | e3 =>
    obtain ⟨q, hq, rfl⟩ := hX
    have hY' : y = .inl (0, (p : Int), 3) := hY
    rw [hY'] at hr05
    exact ⟨false, 0, 0, 3, p, fail 3 q (by decide) hread, hr09 _ _ 3 hr05 (by decide), hp, fun h => by omega, fun _ => rfl⟩
  | esc =>
    obtain ⟨h7, E, hE, rfl⟩ := hX
    have hY' : y = .inl (0, (p : Int) + 7, 0) := hY
    rw [hY'] at hr05
    have hr05' : ref05_Take (M + 200) 103 (rowT (unpack (bl s))) (p : Int) (rowsB.map rowT) = some (0, (p : Int) + 7, 0) := hr05
    have hread' : tcoef_read (M + 200) s (p : Int) = some E := by rw [hread]; rfl
    have d0 : decide ((0 : Int) ≠ 0) = false := rfl
    have d1 : decide ((0 : Int) < 0) = false := rfl
    have i0 : inK .i64 (((rowT (unpack (bl s))).size : Int) - ((p : Int) + 7)) := by rw [rowT_size, hUl]; exact in64 (by omega) (by omega)
    by_cases h15 : p + 7 + 15 ≤ 8 * s.size
    · obtain ⟨l, hl⟩ : ∃ l, l = (unpack (bl s)).getD (p + 7) false := ⟨_, rfl⟩
      obtain ⟨r, hr⟩ : ∃ r, r = numB (((unpack (bl s)).drop (p + 7 + 1)).take 6) := ⟨_, rfl⟩
      obtain ⟨z, hz⟩ : ∃ z, z = numB (((unpack (bl s)).drop (p + 7 + 7)).take 8) := ⟨_, rfl⟩
      have hes := escaped_ok (M := M) hs h15 hl hr hz
      rw [hE] at hes
      have r6 : (((unpack (bl s)).drop (p + 7 + 1)).take 6).length = 6 := by rw [List.length_take, List.length_drop, hUl]; omega
      have x8 : (((unpack (bl s)).drop (p + 7 + 7)).take 8).length = 8 := by rw [List.length_take, List.length_drop, hUl]; omega
      have rb := numB_in (((unpack (bl s)).drop (p + 7 + 1)).take 6)
      have zb := numB_in (((unpack (bl s)).drop (p + 7 + 7)).take 8)
      rw [r6, ← hr] at rb
      rw [x8, ← hz] at zb
      have n6 := num_ok (N := M + 200) (by omega) (s := rowT (((unpack (bl s)).drop (p + 7 + 1)).take 6)) (plain_rowT _) (by rw [rowT_size, r6]; decide)
      have n8 := num_ok (N := M + 200) (by omega) (s := rowT (((unpack (bl s)).drop (p + 7 + 7)).take 8)) (plain_rowT _) (by rw [rowT_size, x8]; decide)
      rw [bits_rowT, ← hr] at n6
      rw [bits_rowT, ← hz] at n8
      have t1 : ((p : Int) + 7 + 1).toNat = p + 7 + 1 := by omega
      have t2 : ((p : Int) + 7 + 7).toNat = p + 7 + 7 := by omega
      have t3 : ((p : Int) + 7 + 15).toNat = p + 7 + 15 := by omega
      have t0 : ((p : Int) + 7).toNat = p + 7 := by omega
      have x6 : ByteArray.extract (rowT (unpack (bl s))) (p + 7 + 1) (p + 7 + 7) = rowT (((unpack (bl s)).drop (p + 7 + 1)).take 6) := by rw [rowT_extract]; congr 2; omega
      have x9 : ByteArray.extract (rowT (unpack (bl s))) (p + 7 + 7) (p + 7 + 15) = rowT (((unpack (bl s)).drop (p + 7 + 7)).take 8) := by rw [rowT_extract]; congr 2; omega
      have hby : decide (byteI (rowT (unpack (bl s))) (p + 7) = 49) = l := by rw [byteI_row (by omega), hl]
      have hsz : ((rowT (unpack (bl s))).size : Int) = 8 * (s.size : Int) := by rw [rowT_size, hUl]; omega
      have q1 : (0 : Int) ≤ (p : Int) + 7 := by omega
      have q2 : (p : Int) + 7 < 8 * (s.size : Int) := by omega
      have q3 : inK .i64 ((p : Int) + 7 + 1) := in64 (by omega) (by omega)
      have q4 : inK .i64 ((p : Int) + 7 + 7) := in64 (by omega) (by omega)
      have q5 : (0 : Int) ≤ (p : Int) + 7 + 1 := by omega
      have q6 : (p : Int) + 7 + 1 ≤ (p : Int) + 7 + 7 := by omega
      have q7 : (p : Int) + 7 + 7 ≤ 8 * (s.size : Int) := by omega
      have q8 : inK .i64 ((p : Int) + 7 + 15) := in64 (by omega) (by omega)
      have q9 : (0 : Int) ≤ (p : Int) + 7 + 7 := by omega
      have q10 : (p : Int) + 7 + 7 ≤ (p : Int) + 7 + 15 := by omega
      have q11 : (p : Int) + 7 + 15 ≤ 8 * (s.size : Int) := by omega
      have q12 : decide ((127 : Int) < z) = true → inK .i64 (z - 256) := fun _ => in64 (by omega) (by omega)
      have hv : (bif decide ((127 : Int) < z) then z - 256 else z) = escV z := by
        unfold escV
        by_cases h : (127 : Int) < z
        · rw [decide_eq_true h, decide_eq_true (show (128 : Int) ≤ z by omega)]
        · rw [decide_eq_false h, decide_eq_false (show ¬ (128 : Int) ≤ z by omega)]
      have b0' : decide (8 * (s.size : Int) - ((p : Int) + 7) < 15) = false := decide_eq_false (by omega)
      have i0' : inK .i64 (8 * (s.size : Int) - ((p : Int) + 7)) := in64 (by omega) (by omega)
      have body : ref09_Take (M + 200) (rowT (unpack (bl s))) (p : Int) = some (bif escB M l r (escV z) then (l, r, escV z, (p : Int) + 7 + 15, 0) else (false, 0, 0, (p : Int), 7)) := by
        unfold ref09_Take
        rw [rows_at]
        simp only [Option.bind_some, hr05', Option.isSome_some, Option.getD_some, if_true, d0, d1, cond_false, hsz, i0', b0', t0, t1, t2, t3, x6, x9, n6, n8, q1, q2, q3, q4, q5, q6, q7, q8, q9, q10, q11, and_self]
        rw [if_pos q12]
        simp only [hv, hby, rright_eq, Option.isSome_some, Option.getD_some]
        unfold escB
        by_cases hg : rgt r (escV z)
        · obtain ⟨_, _, _, k1, k2⟩ := id hg
          have ham : ref09_amount (M + 200) (escV z) = some (max (escV z) (-(escV z))) := by
            unfold ref09_amount
            by_cases hneg : escV z < 0
            · have i3 : inK .i64 (-(escV z)) := in64 (by omega) (by omega)
              rw [decide_eq_true hneg, cond_true, if_pos i3]
              congr 1; omega
            · rw [decide_eq_false hneg, cond_false]
              congr 1; omega
          rw [decide_eq_true hg]
          rcases place_or (M := M) (l := l) hg with ⟨a, w, a0, hpl, hhas, hne⟩ | ⟨hpl, hhas⟩
          · have hn1 : decide (tcoef_place (M + 200) l r (max (escV z) (-(escV z))) = some (-1)) = false := by
              rw [hpl]; exact decide_eq_false (fun h => by injection h with h; omega)
            have hne' : decide (ByteArray.toList w ≠ ByteArray.toList ⟨#[]⟩) = true := by
              have := strEq w ⟨#[]⟩
              have h0 : decide (bl w = bl ⟨#[]⟩) = false := decide_eq_false (fun h => hne h)
              rw [h0] at this
              exact decide_eq_true (of_decide_eq_false this)
            simp only [ham, hhas, hn1, hne', Option.isSome_some, Option.getD_some, implies_true, and_self, if_true, Bool.not_true, cond_false, cond_true, Bool.and_false]
          · have hn1 : decide (tcoef_place (M + 200) l r (max (escV z) (-(escV z))) = some (-1)) = true := decide_eq_true hpl
            have hne' : decide (ByteArray.toList (⟨#[]⟩ : ByteArray) ≠ ByteArray.toList ⟨#[]⟩) = false := decide_eq_false (fun h => h rfl)
            simp only [ham, hhas, hn1, hne', Option.isSome_some, Option.getD_some, implies_true, and_self, if_true, Bool.not_true, cond_false, cond_true, Bool.and_self, q8]
        · rw [decide_eq_false hg]
          simp only [Bool.not_false, Bool.not_true, Bool.false_and, cond_true, cond_false, Bool.false_eq_true, false_implies, and_self, if_true]
      injection hes with hes
      rw [hes] at hread'
      cases hb : escB M l r (escV z)
      · rw [hb] at hread' body
        exact ⟨false, 0, 0, 7, p, fail 7 (p + 7 + 15) (by decide) hread', body, hp, fun h => by omega, fun _ => rfl⟩
      · rw [hb] at hread' body
        have hg : rgt r (escV z) := by
          unfold escB at hb
          simp only [Bool.and_eq_true, decide_eq_true_eq] at hb
          exact hb.1
        refine ⟨l, r, escV z, 0, p + 7 + 15, good l r _ _ hread', ?_, h15, fun _ => ⟨by omega, hg.1, hg.2.1⟩, fun h => absurd rfl h⟩
        rw [body]
        rfl
    · have hes := escaped_end (M := M) hs h7 (by omega)
      rw [hE] at hes
      injection hes with hes
      rw [hes] at hread'
      have b0 : decide (((rowT (unpack (bl s))).size : Int) - ((p : Int) + 7) < 15) = true := by rw [rowT_size, hUl]; exact decide_eq_true (by omega)
      refine ⟨false, 0, 0, 2, p, fail 2 (p + 7) (by decide) hread', ?_, hp, fun h => by omega, fun _ => rfl⟩
      unfold ref09_Take
      rw [rows_at]
      simp only [Option.bind_some, hr05', Option.isSome_some, Option.getD_some, if_true, d0, d1, cond_false, i0, b0, cond_true]
  | ev j n =>
    obtain ⟨j0, j1, hn, k1, k2, hX⟩ := hX
    have hY' : y = .inl ((j : Int), (p : Int) + (n : Int), 0) := hY
    rw [hY'] at hr05
    have hr05' : ref05_Take (M + 200) 103 (rowT (unpack (bl s))) (p : Int) (rowsB.map rowT) = some ((j : Int), (p : Int) + (n : Int), 0) := hr05
    have d0 : decide ((0 : Int) ≠ 0) = false := rfl
    have dj : decide ((0 : Int) < (j : Int)) = true := decide_eq_true (by omega)
    have hsz : ((rowT (unpack (bl s))).size : Int) = 8 * (s.size : Int) := by rw [rowT_size, hUl]; omega
    by_cases hlast : p + n < 8 * s.size
    · rw [if_pos hlast] at hX
      subst hX
      obtain ⟨b, hb⟩ : ∃ b, b = ((unpack (bl s)).drop p).getD n false := ⟨_, rfl⟩
      have hby : decide (byteI (rowT (unpack (bl s))) (p + n) = 49) = b := by
        rw [byteI_row (by omega), hb, List.getD_eq_getElem?_getD, List.getD_eq_getElem?_getD, List.getElem?_drop]
      have hread' : tcoef_read (M + 200) s (p : Int) = some ((evJ j).1, (evJ j).2.1, (evJ j).2.2 * (1 - 2 * b.toInt), 0, s, ((p + (n + 1) : Nat) : Int)) := by rw [hread, hb]; rfl
      have e1 : decide ((p : Int) + (n : Int) = 8 * (s.size : Int)) = false := decide_eq_false (by omega)
      have e2 : (j : Int) < ((103 : Nat) : Int) := by omega
      have e3 : j < evsB.length := by rw [show evsB.length = 103 from by decide +kernel]; exact j1
      have e4 : (0 : Int) ≤ (p : Int) + (n : Int) := by omega
      have e5 : (p : Int) + (n : Int) < 8 * (s.size : Int) := by omega
      have e6 : ((p : Int) + (n : Int)).toNat = p + n := by omega
      have e7 : inK .i64 ((p : Int) + (n : Int) + 1) := in64 (by omega) (by omega)
      have e8 : inK .i64 (-(evJ j).2.2) := in64 (by omega) (by omega)
      have hej : evsB.getD j (false, ((0 : Int), (0 : Int))) = evJ j := rfl
      have hvv : (bif b then -(evJ j).2.2 else (evJ j).2.2) = (evJ j).2.2 * (1 - 2 * b.toInt) := by
        cases b
        · show (evJ j).2.2 = (evJ j).2.2 * (1 - 2 * 0); omega
        · show -(evJ j).2.2 = (evJ j).2.2 * (1 - 2 * 1); omega
      have hrun : 0 ≤ (evJ j).2.1 ∧ (evJ j).2.1 ≤ 63 := by
        have : ((List.range 103).all fun j => decide (0 ≤ (evJ j).2.1 ∧ (evJ j).2.1 ≤ 63)) = true := by decide +kernel
        simpa using List.all_eq_true.1 this j (List.mem_range.2 j1)
      refine ⟨_, _, _, 0, p + (n + 1), good _ _ _ _ hread', ?_, by omega, fun _ => ⟨by omega, hrun⟩, fun h => absurd rfl h⟩
      unfold ref09_Take
      rw [rows_at]
      simp only [Option.bind_some, hr05', Option.isSome_some, Option.getD_some, if_true, d0, dj, cond_true, cond_false, hsz, e1, e2, e3, e4, e5, e6, e7, e8, hby, hej, hvv, Int.natCast_nonneg, Int.toNat_natCast, implies_true, and_self]
      congr 5
    · rw [if_neg hlast] at hX
      subst hX
      have hread' : tcoef_read (M + 200) s (p : Int) = some (false, 0, 0, 2, s, ((p + n : Nat) : Int)) := by rw [hread]; rfl
      have e1 : decide ((p : Int) + (n : Int) = 8 * (s.size : Int)) = true := decide_eq_true (by omega)
      refine ⟨false, 0, 0, 2, p, fail 2 (p + n) (by decide) hread', ?_, hp, fun h => by omega, fun _ => rfl⟩
      unfold ref09_Take
      rw [rows_at]
      simp only [Option.bind_some, hr05', Option.isSome_some, Option.getD_some, if_true, d0, dj, cond_true, cond_false, hsz, e1]
end Go.Proofs.YtcfffichdcnlgaaDoor
