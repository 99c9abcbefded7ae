/- TcoefBack: reading what was written. -/
import Derived.Test.YtbcgkdigfkapcaaDoorGP
set_option linter.unusedVariables false
set_option linter.unusedSimpArgs false
namespace Go.Proofs.YtbcgkdigfkapcaaDoor
open Go.X

theorem or1 {q : Int} (h : 0 ≤ q) (b : Bool) : ((Int.toNat (q * 2 ^ Int.toNat 1) ||| Int.toNat b.toInt : Nat) : Int) = 2 * q + b.toInt := by
  obtain ⟨m, rfl⟩ : ∃ m : Nat, q = m := ⟨q.toNat, by omega⟩
  rw [show (2 : Int) ^ Int.toNat 1 = 2 from rfl, show ((m : Int) * 2).toNat = 2 * m by omega]
  cases b
  · simp [Bool.toInt]
  · have : (2 * m ||| 1) = 2 * m + 1 := by
      have := Nat.two_pow_add_eq_or_of_lt (i := 1) (b := 1) (by decide) m
      simpa using this.symm
    show ((2 * m ||| Int.toNat 1 : Nat) : Int) = _
    rw [show Int.toNat 1 = 1 from rfl, this]; simp [Bool.toInt]
theorem take1 {N : Nat} (hN : 100 < N) {s : ByteArray} {p : Nat} (hs : s.size < 4294967296) (h : p + 1 ≤ 8 * s.size) : overspill_inbits_Reader_Take N 1 s p = some (((unpack (bl s)).getD p false).toInt, 0, s, ((p + 1 : Nat) : Int)) := by
  have := take_ok hN (n := 1) hs (by decide) h
  rw [show ((1 : Nat) : Int) = 1 from rfl] at this
  rw [this]
  have hl : p < (unpack (bl s)).length := by rw [unpack_length, bl_length]; omega
  rw [List.drop_eq_getElem_cons hl, List.getD_eq_getElem?_getD, List.getElem?_eq_getElem hl, List.take_succ_cons, List.take_zero, Option.getD_some]
  have : ∀ b : Bool, numB [b] = b.toInt := by intro b; cases b <;> rfl
  rw [this]

/-- One round of reading, up to the search. -/
theorem read_step {N : Nat} (hN : 100 < N) {s : ByteArray} {i : Nat} (hs : s.size < 4294967296) (hi : i < 12) (h : i + 1 ≤ 8 * s.size) {w : Int} (hw : w = numB ((unpack (bl s)).take (i + 1))) (h7 : ¬ (i + 1 = 7 ∧ w = 3)) (hf : tcoef_find N w ((i : Int) + 1) = some (-1, true)) :
    tcoef_read_b1 N (numB ((unpack (bl s)).take i), (i : Int) + 1, s, (i : Int)) = some (.inl (numB ((unpack (bl s)).take (i + 1)), ((i + 1 : Nat) : Int) + 1, s, ((i + 1 : Nat) : Int))) := by
  have hl : i < (unpack (bl s)).length := by rw [unpack_length, bl_length]; omega
  obtain ⟨n1, n2⟩ := numB_take_in (unpack (bl s)) i (by omega)
  have g1 : (i : Int) + 1 ≤ 12 := by omega
  have hn : ((Int.toNat (numB ((unpack (bl s)).take i) * 2 ^ Int.toNat 1) ||| Int.toNat ((unpack (bl s)).getD i false).toInt : Nat) : Int) = w := by rw [or1 n1, hw, numB_one _ i hl]
  have i1 : inK .i64 (numB ((unpack (bl s)).take i) * 2 ^ Int.toNat 1) := by rw [show (2 : Int) ^ Int.toNat 1 = 2 from rfl]; exact in64 (by omega) (by omega)
  have i2 : 0 ≤ numB ((unpack (bl s)).take i) * 2 ^ Int.toNat 1 := by rw [show (2 : Int) ^ Int.toNat 1 = 2 from rfl]; omega
  have i3 := (bool_in ((unpack (bl s)).getD i false)).1
  have i4 : inK .i64 ((i : Int) + 1 + 1) := in64 (by omega) (by omega)
  have hx : (bif decide ((i : Int) + 1 = 7) then decide (w = 3) else false) = false := by
    by_cases e : (i : Int) + 1 = 7
    · rw [decide_eq_true e]; exact decide_eq_false fun e3 => h7 ⟨by omega, e3⟩
    · rw [decide_eq_false e]; rfl
  simp only [tcoef_read_b1, decide_eq_true g1, cond_true, take1 hN hs h, Option.isSome_some, Option.getD_some, if_true, ne_eq, not_true, decide_false, cond_false, i1, i2, i3, and_self, hn, hx, hf, show decide ((0 : Int) ≤ -1) = false from rfl, Bool.not_true, i4]
  rw [← hw]
  rfl
theorem read_table {M : Nat} {s : ByteArray} {a : Nat} (ha : a < 102) {l b : Bool} {r k : Int} {B R : List Bool} (hs : s.size < 4294967296) (hB : B = digits (codesL.getD a 0) (lensL.getD a 0).toNat ++ [b]) (hU : unpack (bl s) = B ++ R) (hE : tcoef_event (M + 200) (a : Int) = some (l, r, k)) (hk : 1 ≤ k ∧ k ≤ 127) :
    tcoef_read (M + 200) s 0 = some (l, r, k * (1 - 2 * b.toInt), 0, s, ((B.length : Nat) : Int)) ∧ 3 ≤ B.length ∧ B.length ≤ 22 := by
  have hc : chkT (M + 200) a = true := List.all_eq_true.1 (ckT M) a (List.mem_range.2 ha)
  unfold chkT at hc
  simp only [Bool.and_eq_true, decide_eq_true_eq, List.all_eq_true, List.mem_range, Bool.not_eq_true', Bool.and_eq_false_iff, decide_eq_false_iff_not] at hc
  obtain ⟨L1, L2, hall⟩ := hc
  generalize hL : (lensL.getD a 0).toNat = L at *
  generalize hC : codesL.getD a 0 = c at *
  have hBl : B.length = L + 1 := by rw [hB, List.length_append, digits_length]; rfl
  have hUl : (unpack (bl s)).length = 8 * s.size := by rw [unpack_length, bl_length]
  have hfit : L + 1 ≤ 8 * s.size := by rw [← hUl, hU, List.length_append]; omega
  have htk : ∀ i, i ≤ L → (unpack (bl s)).take i = (digits c L).take i := by
    intro i hi
    rw [hU, hB, List.append_assoc, List.take_append_of_le_length (by rw [digits_length]; omega)]
  refine ⟨?_, by omega, by omega⟩
  obtain ⟨Lm, rfl⟩ : ∃ Lm, L = Lm + 1 := ⟨L - 1, by omega⟩
  have hit : iter (tcoef_read_b1 (M + 200)) (M + 200) (0, 1, s, 0) = some (.inl (0, l, r, k * (1 - 2 * b.toInt), s, ((B.length : Nat) : Int))) := by
    refine iter_to (fun i => (numB ((unpack (bl s)).take i), (i : Int) + 1, s, (i : Int))) Lm (by simp [numB]) ?_ ?_ (by omega)
    · intro i hi
      obtain ⟨q1, q2⟩ := hall i (by omega)
      rw [decide_eq_true (show i + 1 < Lm + 1 by omega), cond_true, decide_eq_true_eq] at q2
      refine read_step (by omega) hs (by omega) (by omega) rfl ?_ ?_
      · rw [htk _ (by omega)]; intro ⟨e1, e2⟩; rcases q1 with q | q
        · exact q e1
        · exact q e2
      · rw [htk _ (by omega)]; exact q2
    · obtain ⟨q1, q2⟩ := hall Lm (by omega)
      rw [decide_eq_false (show ¬ (Lm + 1 < Lm + 1) by omega), cond_false, decide_eq_true_eq] at q2
      have hl : Lm < (unpack (bl s)).length := by omega
      obtain ⟨n1, n2⟩ := numB_take_in (unpack (bl s)) Lm (by omega)
      have g1 : (Lm : Int) + 1 ≤ 12 := by omega
      have hn : ((Int.toNat (numB ((unpack (bl s)).take Lm) * 2 ^ Int.toNat 1) ||| Int.toNat ((unpack (bl s)).getD Lm false).toInt : Nat) : Int) = numB ((digits c (Lm + 1)).take (Lm + 1)) := by rw [or1 n1, ← htk _ (Nat.le_refl _), numB_one _ Lm hl]
      have i1 : inK .i64 (numB ((unpack (bl s)).take Lm) * 2 ^ Int.toNat 1) := by rw [show (2 : Int) ^ Int.toNat 1 = 2 from rfl]; exact in64 (by omega) (by omega)
      have i2 : 0 ≤ numB ((unpack (bl s)).take Lm) * 2 ^ Int.toNat 1 := by rw [show (2 : Int) ^ Int.toNat 1 = 2 from rfl]; omega
      have i3 := (bool_in ((unpack (bl s)).getD Lm false)).1
      have hx : (bif decide ((Lm : Int) + 1 = 7) then decide (numB ((digits c (Lm + 1)).take (Lm + 1)) = 3) else false) = false := by
        by_cases e : (Lm : Int) + 1 = 7
        · rw [decide_eq_true e]; refine decide_eq_false fun e3 => ?_
          rcases q1 with q | q
          · exact q (by omega)
          · exact q e3
        · rw [decide_eq_false e]; rfl
      obtain ⟨m, hm⟩ : ∃ m, tcoef_find (M + 200) (numB ((digits c (Lm + 1)).take (Lm + 1))) ((Lm : Int) + 1) = some ((a : Int), m) := by
        cases hf : tcoef_find (M + 200) (numB ((digits c (Lm + 1)).take (Lm + 1))) ((Lm : Int) + 1) with
        | none => rw [hf] at q2; cases q2
        | some y =>
          rw [hf] at q2
          obtain ⟨y1, y2⟩ := y
          exact ⟨y2, by rw [show y1 = (a : Int) from Option.some.inj q2]⟩
      have hsign : ((unpack (bl s)).getD (Lm + 1) false) = b := by
        rw [hU, hB, List.getD_eq_getElem?_getD, List.append_assoc, List.getElem?_append_right (by rw [digits_length]; omega), digits_length, show Lm + 1 - (Lm + 1) = 0 by omega]
        rfl
      have ht2 := take1 (N := M + 200) (by omega) (p := Lm + 1) hs (by omega)
      rw [hsign] at ht2
      have hb := bool_in b
      have i5 : inK .i64 ((2 : Int) * b.toInt) := in64 (by omega) (by omega)
      have i6 : inK .i64 ((1 : Int) - 2 * b.toInt) := in64 (by omega) (by omega)
      have i7 : inK .i64 (k * ((1 : Int) - 2 * b.toInt)) := by
        cases b
        · show inK .i64 (k * 1)
          exact in64 (by omega) (by omega)
        · show inK .i64 (k * (-1))
          exact in64 (by omega) (by omega)
      have a0 : (0 : Int) ≤ (a : Int) := by omega
      have hz : decide ((0 : Int) = 0) = true := rfl
      simp only [tcoef_read_b1, decide_eq_true g1, cond_true, take1 (N := M + 200) (by omega) hs (show Lm + 1 ≤ 8 * s.size by omega), Option.isSome_some, Option.getD_some, if_true, ne_eq, not_true, decide_false, cond_false, i1, i2, i3, and_self, hn, hx, hm, decide_eq_true a0, ht2, hE, i5, i6, i7]
      rw [hBl]
  unfold tcoef_read
  rw [hit]
  rfl
theorem read_esc {M : Nat} {s : ByteArray} {l : Bool} {r v : Int} {B R : List Bool} (hs : s.size < 4294967296) (h : rgt r v) (hp : tcoef_place (M + 200) l r (max v (-v)) = some (-1)) (hB : B = digits 3 7 ++ (l :: (digits r 6 ++ digits ((v + 256) % 256) 8))) (hU : unpack (bl s) = B ++ R) :
    tcoef_read (M + 200) s 0 = some (l, r, v, 0, s, 22) ∧ B.length = 22 := by
  obtain ⟨h1, h2, h3, h4, h5⟩ := id h
  have hBl : B.length = 22 := by rw [hB]; simp [digits_length]
  have hUl : (unpack (bl s)).length = 8 * s.size := by rw [unpack_length, bl_length]
  have hfit : 22 ≤ 8 * s.size := by rw [← hUl, hU, List.length_append]; omega
  have htk : ∀ i, i ≤ 7 → (unpack (bl s)).take i = (digits 3 7).take i := by
    intro i hi
    rw [hU, hB, List.append_assoc, List.take_append_of_le_length (by rw [digits_length]; omega)]
  refine ⟨?_, hBl⟩
  -- what stands behind the escape
  have h15 : ((unpack (bl s)).drop 7).take 15 = l :: (digits r 6 ++ digits ((v + 256) % 256) 8) := by
    rw [hU, hB, List.append_assoc, List.drop_left' (digits_length _ _), List.take_left' (by simp [digits_length])]
  have hV : numB (l :: (digits r 6 ++ digits ((v + 256) % 256) 8)) = l.toInt * 16384 + r * 256 + (v + 256) % 256 := by
    rw [show l :: (digits r 6 ++ digits ((v + 256) % 256) 8) = [l] ++ (digits r 6 ++ digits ((v + 256) % 256) 8) from rfl, numB_append, numB_append, numB_digits r 6 h1 (by omega), numB_digits _ 8 (by omega) (by omega), List.length_append, digits_length, digits_length]
    simp [numB]; omega
  have hesc : tcoef_escaped (M + 200) s 7 = some (l, r, v, 0, s, 22) := by
    have ht := take_ok (N := M + 200) (by omega) (p := 7) (n := 15) hs (by decide) (by omega)
    rw [h15, hV, show ((15 : Nat) : Int) = 15 from rfl, show ((7 : Nat) : Int) = 7 from rfl] at ht
    have hl := bool_in l
    generalize hW : l.toInt * 16384 + r * 256 + (v + 256) % 256 = W at *
    have w0 : 0 ≤ W := by omega
    have w1 : W % 256 = (v + 256) % 256 := by omega
    have w2 : W / 2 ^ Int.toNat 8 = l.toInt * 64 + r := by rw [show (2 : Int) ^ Int.toNat 8 = 256 from rfl]; omega
    have w3 : W / 2 ^ Int.toNat 14 = l.toInt := by rw [show (2 : Int) ^ Int.toNat 14 = 16384 from rfl]; omega
    have w4 : ((Int.toNat (l.toInt * 64 + r) &&& Int.toNat 63 : Nat) : Int) = r := by
      rw [show Int.toNat 63 = 2 ^ 6 - 1 from rfl, Nat.and_two_pow_sub_one_eq_mod]
      omega
    have w5 : decide (l.toInt = 1) = l := by cases l <;> rfl
    have w6 : (bif decide ((128 : Int) ≤ (v + 256) % 256) then (v + 256) % 256 - 256 else (v + 256) % 256) = v := by
      by_cases hv : v < 0
      · rw [decide_eq_true (by omega), cond_true]; omega
      · rw [decide_eq_false (by omega), cond_false]; omega
    have i1 : decide ((128 : Int) ≤ (v + 256) % 256) = true → inK .i64 ((v + 256) % 256 - 256) := fun _ => in64 (by omega) (by omega)
    have i2 : 0 ≤ l.toInt * 64 + r := by omega
    have i3 : inK .i64 (-v) := in64 (by omega) (by omega)
    unfold tcoef_escaped
    rw [ht]
    simp only [Option.isSome_some, Option.getD_some, if_true, ne_eq, not_true, decide_false, cond_false, w0, w1, w2, w3, w4, w5, w6, i2, right_eq, decide_eq_true h, hp, Bool.not_true, Bool.not_false, i3, and_self, implies_true, show decide ((0 : Int) ≤ -1) = false from rfl]
    rw [if_pos i1]
    rfl
  have hit : iter (tcoef_read_b1 (M + 200)) (M + 200) (0, 1, s, 0) = some (.inl (0, l, r, v, s, 22)) := by
    refine iter_to (fun i => (numB ((unpack (bl s)).take i), (i : Int) + 1, s, (i : Int))) 6 (by simp [numB]) ?_ ?_ (by omega)
    · intro i hi
      have q2 := List.all_eq_true.1 (ckE M) i (List.mem_range.2 hi)
      rw [decide_eq_true_eq] at q2
      refine read_step (by omega) hs (by omega) (by omega) rfl (by omega) ?_
      rw [htk _ (by omega)]; exact q2
    · have hl : 6 < (unpack (bl s)).length := by omega
      have hn : ((Int.toNat (numB ((unpack (bl s)).take 6) * 2 ^ Int.toNat 1) ||| Int.toNat ((unpack (bl s)).getD 6 false).toInt : Nat) : Int) = 3 := by
        rw [or1 (numB_take_in (unpack (bl s)) 6 (by omega)).1, ← numB_one _ 6 hl, htk 7 (Nat.le_refl _)]; rfl
      obtain ⟨n1, n2⟩ := numB_take_in (unpack (bl s)) 6 (by omega)
      have i1 : inK .i64 (numB ((unpack (bl s)).take 6) * 2 ^ Int.toNat 1) := by rw [show (2 : Int) ^ Int.toNat 1 = 2 from rfl]; exact in64 (by omega) (by omega)
      have i2 : 0 ≤ numB ((unpack (bl s)).take 6) * 2 ^ Int.toNat 1 := by rw [show (2 : Int) ^ Int.toNat 1 = 2 from rfl]; omega
      have i3 := (bool_in ((unpack (bl s)).getD 6 false)).1
      have g1 : ((6 : Nat) : Int) + 1 ≤ 12 := by decide
      have hx : decide (((6 : Nat) : Int) + 1 = 7) = true := rfl
      have e7 : ((6 + 1 : Nat) : Int) = 7 := rfl
      simp only [tcoef_read_b1, decide_eq_true g1, cond_true, take1 (N := M + 200) (by omega) hs (show 6 + 1 ≤ 8 * s.size by omega), Option.isSome_some, Option.getD_some, if_true, ne_eq, not_true, decide_false, cond_false, i1, i2, i3, and_self, hn, hx, e7, hesc, decide_true]
  unfold tcoef_read
  rw [hit]
  rfl

theorem event_back {M : Nat} {l : Bool} {r v : Int} (h : rgt r v) {a : Nat} (hp : tcoef_place (M + 200) l r (max v (-v)) = some (a : Int)) : tcoef_event (M + 200) (a : Int) = some (l, r, max v (-v)) := by
  obtain ⟨h1, h2, h3, h4, h5⟩ := id h
  obtain ⟨rn, rfl⟩ : ∃ rn : Nat, r = rn := ⟨r.toNat, by omega⟩
  have hrn : rn < 64 := by omega
  have hc : chkV (M + 200) l rn = true := by
    have := List.all_eq_true.1 (ckV M) rn (List.mem_range.2 hrn)
    simp only [Bool.and_eq_true] at this
    cases l
    · exact this.1
    · exact this.2
  unfold chkV at hc
  split at hc
  · rename_i n hn
    obtain ⟨i, hi⟩ : ∃ i : Nat, max v (-v) = (i : Int) + 1 := ⟨(max v (-v) - 1).toNat, by omega⟩
    by_cases hlt : i < n.toNat
    · have := List.all_eq_true.1 hc i (List.mem_range.2 hlt)
      rw [hi] at hp
      rw [hp] at this
      rw [hi]
      simpa only [decide_eq_true_eq] using this
    · have : tcoef_place (M + 200) l rn (max v (-v)) = some (-1) := by
        unfold tcoef_place
        rw [hn]
        have : n < max v (-v) := by omega
        simp [this]
      rw [this] at hp
      have := Option.some.inj hp
      omega
  · cases hc
theorem back_law {M : Nat} (l : Bool) (r v : Int) (beh : ByteArray) : law09_TcoefBack (M + 200) l r v beh = some true := by
  unfold law09_TcoefBack
  rw [lives9]
  by_cases h60 : (60 : Int) < (beh.size : Int)
  · simp only [decide_eq_true h60, cond_true, Bool.not_true, Option.isSome_some, Option.getD_some, if_true]
    rw [if_pos (by intro h; cases h)]
  · rw [plain_ok (N := M + 200) (by omega) (by omega)]
    simp only [decide_eq_false h60, cond_false, Option.isSome_some, Option.getD_some, implies_true, if_true]
    cases hp : plainL (bl beh) with
    | false => rfl
    | true =>
      simp only [Bool.not_true, cond_false]
      by_cases h : rgt r v
      · obtain ⟨B, hrow, hcase⟩ := row_bits (M := M) (l := l) h
        have hBlen : 3 ≤ B.length ∧ B.length ≤ 22 := by
          rcases hcase with ⟨a, a1, _, a3, _⟩ | ⟨_, a3⟩
          · have hc : chkT (M + 200) a = true := List.all_eq_true.1 (ckT M) a (List.mem_range.2 a1)
            unfold chkT at hc
            simp only [Bool.and_eq_true, decide_eq_true_eq] at hc
            rw [a3, List.length_append, digits_length]
            simp only [List.length_cons, List.length_nil]
            omega
          · rw [a3]; simp [digits_length]
        have hbeh : beh = rowT (bitsT (bl beh)) := (rowT_bits hp).symm
        have hbl : (bitsT (bl beh)).length = beh.size := by rw [bitsT_length, bl_length]
        have hcat : rowT B ++ beh = rowT (B ++ bitsT (bl beh)) := by rw [← rowT_append, ← hbeh]
        have hpk : ref02_Pack (M + 200) (rowT B ++ beh) = some (bytesOf (packB (B ++ bitsT (bl beh)))) := by
          have := pack_ok (N := M + 200) (s := rowT (B ++ bitsT (bl beh))) (by rw [rowT_size, List.length_append]; omega) (by rw [rowT_size, List.length_append]; omega) (plain_rowT _)
          rw [hcat, this, bits_rowT]
        generalize hs : bytesOf (packB (B ++ bitsT (bl beh))) = s at *
        have hU : unpack (bl s) = B ++ (bitsT (bl beh) ++ List.replicate ((8 - (B ++ bitsT (bl beh)).length % 8) % 8) false) := by
          rw [← hs, bl_bytesOf (fun x hx => packB_in _ x hx), unpack_packB, List.append_assoc]
        have hsz : s.size < 4294967296 := by rw [← hs, bytesOf_size, packB_length, List.length_append]; omega
        have hread : tcoef_read (M + 200) s 0 = some (l, r, v, 0, s, (B.length : Int)) := by
          obtain ⟨h1, h2, h3, h4, h5⟩ := id h
          rcases hcase with ⟨a, a1, a2, a3, _⟩ | ⟨a2, a3⟩
          · have := (read_table (M := M) (a := a) a1 hsz a3 hU (event_back h a2) (by omega)).1
            rw [this]
            have e : max v (-v) * (1 - 2 * (decide (v < 0)).toInt) = v := by
              by_cases hv : v < 0
              · rw [decide_eq_true hv]; show max v (-v) * (-1) = v; omega
              · rw [decide_eq_false hv]; show max v (-v) * 1 = v; omega
            rw [e]
          · obtain ⟨e1, e2⟩ := read_esc (M := M) hsz h a2 a3 hU
            rw [e1, e2]; rfl
        have htake : tcoef_Take (M + 200) s 0 = some (l, r, v, 0, s, (B.length : Int)) := by
          unfold tcoef_Take overspill_inbits_Reader_At
          rw [hread]
          simp
        have z1 : ((rowT B).size : Int) + (beh.size : Int) ≤ 9223372036854775807 := by rw [rowT_size]; omega
        have z2 : (3 : Int) ≤ ((rowT B).size : Int) := by rw [rowT_size]; omega
        have z3 : ((rowT B).size : Int) ≤ 22 := by rw [rowT_size]; omega
        have z4 : ((B.length : Nat) : Int) = ((rowT B).size : Int) := by rw [rowT_size]
        simp only [hrow, Option.isSome_some, Option.getD_some, if_true, Bool.not_true, cond_false, hpk, inbits_New, z1, htake, overspill_inbits_Reader_At, and_self, beq_self_eq_true, decide_true, Bool.true_and, cond_true, implies_true, decide_eq_true z4, decide_eq_true z2, decide_eq_true z3]
      · obtain ⟨h1, h2⟩ := row_not (M := M) (l := l) h
        rw [h1, right_eq, decide_eq_false h]
        simp only [Option.isSome_some, Option.getD_some, if_true, Bool.not_false, cond_true, decide_true, implies_true, and_self]
theorem law_tcoefBack (N : Nat) (hN : 1099511627776 ≤ N) (y0 : Sh.den (.pair .bool (.pair (.int .i64) (.int .i64)))) (w0 : Sh.wf (.pair .bool (.pair (.int .i64) (.int .i64))) y0) (y1 : Sh.den .str) (w1 : Sh.wf .str y1) : law09_TcoefBack N (y0.1) (y0.2.1) (y0.2.2) y1 = some true := by
  obtain ⟨M, rfl⟩ : ∃ M, N = M + 200 := ⟨N - 200, by omega⟩
  exact back_law _ _ _ _
end Go.Proofs.YtbcgkdigfkapcaaDoor
