/- What the printed models answer: plain laws. -/
import Derived.Test.YtcfffichdcnlgaaDoorT2
set_option linter.unusedVariables false
set_option linter.unusedSimpArgs false
namespace Go.Proofs.YtcfffichdcnlgaaDoor
open Go.X

theorem and1 {x : Int} (h : 0 ≤ x) : ((Int.toNat x &&& Int.toNat 1 : Nat) : Int) = x % 2 := and_one x h
theorem inI {i : Nat} (h : i < 9223372036854775807) : inK .i64 (i : Int) := in64 (by omega) (by omega)
theorem inS {i : Nat} (h : i < 4294967296) : inK .i64 ((i : Int) + 1) := in64 (by omega) (by omega)
theorem shrP (v : Int) (k : Nat) (h : 0 ≤ v) : 0 ≤ v / 2 ^ k := (shr_in v k h).1
theorem m2 (x : Int) : 0 ≤ x % 2 ∧ x % 2 ≤ 1 := by omega
theorem fits_eq (N : Nat) {v n : Int} : outbits_fits N v n = some (decide (0 ≤ n ∧ n ≤ 32 ∧ 0 ≤ v ∧ v < 2 ^ n.toNat)) := by
  unfold outbits_fits
  by_cases h1 : 0 ≤ n
  · by_cases h2 : n ≤ 32
    · by_cases h3 : 0 ≤ v
      · obtain ⟨m, rfl⟩ : ∃ m : Nat, n = m := ⟨n.toNat, by omega⟩
        have i1 : inK .u64 (m : Int) := inU64 (by omega) (by omega)
        have hm : m ≤ 32 := by omega
        have i2 : inK .i64 ((1 : Int) * 2 ^ m) := by
          have : ∀ m, m ≤ 32 → inK .i64 ((1 : Int) * 2 ^ m) := by decide
          exact this m hm
        have i3 : inK .i64 ((2 : Int) ^ m) := by simpa using i2
        simp [h2, h3, hm, i1, i2, i3]
        try omega
      · simp [h1, h2, h3]
    · simp [h1, h2]
  · simp [h1]
theorem row_ok {N : Nat} (hN : 100 < N) {v : Int} {n : Nat} (h : n ≤ 32) (h0 : 0 ≤ v) (h1 : v < 2 ^ n) : outbits_Row N v n = some (rowT (digits v n), 0) := by
  unfold outbits_Row
  have hf : (0 : Int) ≤ (n : Int) ∧ (n : Int) ≤ 32 ∧ 0 ≤ v ∧ v < 2 ^ (n : Int).toNat := ⟨by omega, by omega, h0, by simpa using h1⟩
  rw [fits_eq, decide_eq_true hf]
  have i1 : inK .i64 ((n : Int) - 1) := in64 (by omega) (by omega)
  have i2 : (n : Int) * 1 ≤ 140737488355328 := by omega
  have hit : iter (outbits_Row_b1 N v) N (0, ((n : Int) - 1), 0, (List.replicate 0 0)) = some (n, n, txt (digits v n)) := by
    refine iter_to (fun j => (j, (n : Int) - 1 - j, j, txt ((digits v n).take j))) n ?_ ?_ ?_ (by omega)
    · simp [txt]
    · intro j hj
      obtain ⟨k, hk⟩ : ∃ k : Nat, (n : Int) - 1 - j = k := ⟨n - 1 - j, by omega⟩
      have hk' : n - 1 - j = k := by omega
      have g1 : (0 : Int) ≤ (k : Int) := by omega
      have g2 : inK .u64 (k : Int) := inU64 (by omega) (by omega)
      have g3 : k ≤ 64 := by omega
      have g4 := shrP v k h0
      obtain ⟨g5, g6⟩ := m2 (v / 2 ^ k)
      have g7 : inK .u8 (v / 2 ^ k % 2) := by unfold inK; omega
      have g8 : inK .u8 (48 + v / 2 ^ k % 2) := by unfold inK; omega
      have g9 : inK .i64 ((k : Int) - 1) := in64 (by omega) (by omega)
      have g10 : j + 1 ≤ 140737488355328 := by omega
      have g11 : j + 1 ≤ 9223372036854775807 := by omega
      simp only [outbits_Row_b1, hk, decide_eq_true g1, cond_true, Int.toNat_natCast, and1 g4, g1, g2, g3, g4, g7, g8, g9, g10, g11, Nat.mul_one, Nat.le_refl, and_self, if_true]
      refine congrArg (fun s => some (Sum.inl s)) (Prod.ext rfl (Prod.ext ?_ (Prod.ext rfl ?_)))
      · show (k : Int) - 1 = _; simp only []; omega
      · show txt ((digits v n).take j) ++ List.take 1 (List.set (List.replicate 1 0) 0 (48 + v / 2 ^ k % 2)) = txt ((digits v n).take (j + 1))
        rw [digits_step v n j hj, txt_append, hk']
        refine congrArg (fun y => txt ((digits v n).take j) ++ y) ?_
        show [48 + v / 2 ^ k % 2] = txt [decide (v / 2 ^ k % 2 = 1)]
        rcases (show v / 2 ^ k % 2 = 0 ∨ v / 2 ^ k % 2 = 1 by omega) with e | e <;> simp [e, txt]
    · have : ¬ (0 : Int) ≤ (n : Int) - 1 - n := by omega
      simp only [outbits_Row_b1, decide_eq_false this, cond_false]
      rw [List.take_of_length_le (by rw [digits_length]; omega)]
  have hl : (txt (digits v n)).length = n := by rw [txt_length, digits_length]
  have i3 : (n : Int) ≤ 9223372036854775807 := by omega
  simp only [Option.isSome_some, Option.getD_some, if_true, Bool.not_true, cond_false, i1, i2, hf.1, and_self, hit, Option.bind_some, Nat.le_refl, i3, true_and]
  rw [List.take_of_length_le (by omega)]
  rfl
theorem rrow_ok {N : Nat} (hN : 100 < N) {v : Int} {n : Nat} (h : n ≤ 32) (h0 : 0 ≤ v) : ref02_Row N v n = some (rowT (digits v n)) := by
  unfold ref02_Row
  rw [iter_to (o := rowT (digits v n)) (fun j => (v / 2 ^ j, rowT (digits v j), (j : Int))) n ?_ ?_ ?_ (by omega)]
  · rfl
  · simp [digits, rowT, txt, bytesOf]
  · intro j hj
    have g1 : (j : Int) < n := by omega
    have g2 := shrP v j h0
    have g3 := inS (i := j) (by omega)
    obtain ⟨g5, g6⟩ := m2 (v / 2 ^ j)
    have g7 : inK .i64 (v / 2 ^ j % 2 + 1) := in64 (by omega) (by omega)
    have hc : ByteArray.extract ⟨#[48, 49]⟩ (v / 2 ^ j % 2).toNat (v / 2 ^ j % 2 + 1).toNat = rowT [decide (v / 2 ^ j % 2 = 1)] := by
      rcases (show v / 2 ^ j % 2 = 0 ∨ v / 2 ^ j % 2 = 1 by omega) with e | e <;> rw [e] <;> rfl
    have g8 : (ByteArray.size ⟨#[48, 49]⟩ : Int) = 2 := rfl
    have g9 : v / 2 ^ j % 2 + 1 ≤ 2 := by omega
    have g10 : v / 2 ^ j % 2 ≤ v / 2 ^ j % 2 + 1 := by omega
    have g11 : ((rowT [decide (v / 2 ^ j % 2 = 1)]).size : Int) + ((rowT (digits v j)).size : Int) ≤ 9223372036854775807 := by
      rw [rowT_size, rowT_size, digits_length]; simp only [List.length_cons, List.length_nil]; omega
    simp only [ref02_Row_b1, decide_eq_true g1, cond_true, g2, g3, g5, g7, hc, g8, g9, g10, g11, and_self, if_true]
    refine congrArg (fun s => some (Sum.inl s)) (Prod.ext ?_ (Prod.ext ?_ ?_))
    · show v / 2 ^ j / 2 = v / 2 ^ (j + 1)
      have hp2 : (0 : Int) < 2 ^ j := Int.pow_pos (by omega)
      rw [Int.ediv_ediv, if_neg (by omega), Int.sub_zero, Int.pow_succ]
    · show rowT [decide (v / 2 ^ j % 2 = 1)] ++ rowT (digits v j) = rowT (digits v (j + 1))
      rw [rowT_append, digits_succ]; rfl
    · exact (Int.natCast_succ j).symm
  · simp [ref02_Row_b1]
theorem num_ok {N : Nat} (hN : 100 < N) {s : ByteArray} (hp : plainL (bl s) = true) (hs : s.size ≤ 32) : ref02_Number N s = some (numB (bitsT (bl s))) := by
  unfold ref02_Number
  have hl : (bitsT (bl s)).length = s.size := by rw [bitsT_length, bl_length]
  rw [iter_to (o := numB (bitsT (bl s))) (fun j => (numB ((bitsT (bl s)).take j), (j : Int))) s.size ?_ ?_ ?_ (by omega)]
  · rfl
  · simp [numB]
  · intro j hj
    have g1 : (j : Int) < s.size := by omega
    have g2 := inS (i := j) (by omega)
    have hb := plain_at hp hj
    obtain ⟨b1, b2⟩ := numB_take_in (bitsT (bl s)) j (by omega)
    have g3 : inK .i64 ((2 : Int) * numB ((bitsT (bl s)).take j)) := in64 (by omega) (by omega)
    have g4 : inK .u8 (byteI s j - 48) := by unfold inK; omega
    have g5 : inK .i64 (byteI s j - 48) := in64 (by omega) (by omega)
    have g6 : inK .i64 (((2 : Int) * numB ((bitsT (bl s)).take j)) + (byteI s j - 48)) := in64 (by omega) (by omega)
    simp only [ref02_Number_b1, decide_eq_true g1, cond_true, Int.toNat_natCast, g1, g2, g3, g4, g5, g6, Int.natCast_nonneg, and_self, if_true]
    refine congrArg (fun s => some (Sum.inl s)) (Prod.ext ?_ (Int.natCast_succ j).symm)
    exact (numB_step hj hb).symm
  · simp only [ref02_Number_b1, decide_eq_false (Int.lt_irrefl _), cond_false]
    rw [List.take_of_length_le (by omega)]
theorem peek_ok {N : Nat} (hN : 100 < N) {s : ByteArray} {p n : Nat} (hs : s.size < 4294967296) (hn : n ≤ 32) (h : p + n ≤ 8 * s.size) :
    overspill_inbits_Reader_Peek N n s p = some (numB (((unpack (bl s)).drop p).take n), 0) := by
  unfold overspill_inbits_Reader_Peek
  have c1 : ¬ ((n : Int) < 0) := by omega
  have c2 : ¬ ((32 : Int) < (n : Int)) := by omega
  have i1 : inK .i64 ((8 : Int) * (s.size : Int)) := in64 (by omega) (by omega)
  have i2 : inK .i64 (((8 : Int) * (s.size : Int)) - p) := in64 (by omega) (by omega)
  have c3 : ¬ (((8 : Int) * (s.size : Int)) - p < (n : Int)) := by omega
  have hlen : (unpack (bl s)).length = 8 * s.size := by rw [unpack_length, bl_length]
  have hit : iter (overspill_inbits_Reader_Peek_b1 N n s p) N (0, 0) = some (numB (((unpack (bl s)).drop p).take n)) := by
    refine iter_to (fun j => (numB (((unpack (bl s)).drop p).take j), (j : Int))) n ?_ ?_ ?_ (by omega)
    · simp [numB]
    · intro j hj
      have g1 : (j : Int) < n := by omega
      have g2 := inS (i := j) (by omega)
      have e1 : (p : Int) + j = ((p + j : Nat) : Int) := by omega
      have e2 : (((p + j : Nat) : Int) / 8) = (((p + j) / 8 : Nat) : Int) := by omega
      have e3 : (((p + j : Nat) : Int) % 8) = (((p + j) % 8 : Nat) : Int) := by omega
      have e4 : (7 : Int) - (((p + j) % 8 : Nat) : Int) = ((7 - (p + j) % 8 : Nat) : Int) := by omega
      have i3 : inK .i64 ((p + j : Nat) : Int) := inI (by omega)
      have i4 : (((p + j) / 8 : Nat) : Int) < (s.size : Int) := by omega
      have i5 : inK .i64 ((7 - (p + j) % 8 : Nat) : Int) := inI (by omega)
      have i6 : inK .u64 ((7 - (p + j) % 8 : Nat) : Int) := inU64 (by omega) (by omega)
      have i7 : 7 - (p + j) % 8 ≤ 8 := by omega
      obtain ⟨b1, b2⟩ := byteI_in s ((p + j) / 8)
      have i8 := shrP (byteI s ((p + j) / 8)) (7 - (p + j) % 8) b1
      obtain ⟨m1, m2'⟩ := m2 (byteI s ((p + j) / 8) / 2 ^ (7 - (p + j) % 8))
      have i9 : inK .i64 (byteI s ((p + j) / 8) / 2 ^ (7 - (p + j) % 8) % 2) := in64 (by omega) (by omega)
      obtain ⟨n1, n2⟩ := numB_take_in ((unpack (bl s)).drop p) j (by omega)
      have i10 : inK .i64 (numB (((unpack (bl s)).drop p).take j) * 2 ^ Int.toNat 1) := by
        rw [show (2 : Int) ^ Int.toNat 1 = 2 from rfl]; exact in64 (by omega) (by omega)
      have i11 : 0 ≤ numB (((unpack (bl s)).drop p).take j) * 2 ^ Int.toNat 1 := by
        rw [show (2 : Int) ^ Int.toNat 1 = 2 from rfl]; omega
      have hbit : (((unpack (bl s)).drop p).getD j false).toInt = byteI s ((p + j) / 8) / 2 ^ (7 - (p + j) % 8) % 2 := by
        rw [List.getD_eq_getElem?_getD, List.getElem?_drop, ← List.getD_eq_getElem?_getD, unpack_getD _ _ (by rw [bl_length]; omega), ← byteI_bl]
        rcases (show byteI s ((p + j) / 8) / 2 ^ (7 - (p + j) % 8) % 2 = 0 ∨ byteI s ((p + j) / 8) / 2 ^ (7 - (p + j) % 8) % 2 = 1 by omega) with e | e <;> simp [e, Bool.toInt]
      have hor : ((Int.toNat (numB (((unpack (bl s)).drop p).take j) * 2 ^ Int.toNat 1) ||| Int.toNat (byteI s ((p + j) / 8) / 2 ^ (7 - (p + j) % 8) % 2) : Nat) : Int) = numB (((unpack (bl s)).drop p).take (j + 1)) := by
        rw [numB_one _ j (by rw [List.length_drop]; omega), hbit]
        obtain ⟨q, hq⟩ : ∃ q : Nat, numB (((unpack (bl s)).drop p).take j) = q := ⟨_, (Int.toNat_of_nonneg n1).symm⟩
        rw [hq, show (2 : Int) ^ Int.toNat 1 = 2 from rfl, show ((q : Int) * 2).toNat = 2 * q by omega]
        rcases (show byteI s ((p + j) / 8) / 2 ^ (7 - (p + j) % 8) % 2 = 0 ∨ byteI s ((p + j) / 8) / 2 ^ (7 - (p + j) % 8) % 2 = 1 by omega) with e | e <;> rw [e]
        · simp
        · have : (2 * q ||| 1) = 2 * q + 1 := by
            have := Nat.two_pow_add_eq_or_of_lt (i := 1) (b := 1) (by decide) q
            simpa using this.symm
          rw [show Int.toNat 1 = 1 from rfl, this]; omega
      simp only [overspill_inbits_Reader_Peek_b1, decide_eq_true g1, cond_true, e1, e2, e3, e4, Int.toNat_natCast, and1 i8, hor, i3, i4, i5, i6, i7, i8, i9, i10, i11, m1, g2, Int.natCast_nonneg, and_self, if_true]
      exact congrArg (fun s => some (Sum.inl s)) (Prod.ext rfl (Int.natCast_succ j).symm)
    · simp [overspill_inbits_Reader_Peek_b1]
  simp only [decide_eq_false c1, decide_eq_false c2, cond_false, i1, i2, and_self, if_true, decide_eq_false c3, hit, Option.bind_some]
theorem peek_end {N : Nat} {s : ByteArray} {p n : Nat} (hs : s.size < 4294967296) (hn : n ≤ 32) (hp : p < 4294967296) (h : 8 * s.size < p + n) : overspill_inbits_Reader_Peek N n s p = some (0, 2) := by
  unfold overspill_inbits_Reader_Peek
  have c1 : ¬ ((n : Int) < 0) := by omega
  have c2 : ¬ ((32 : Int) < (n : Int)) := by omega
  have i1 : inK .i64 ((8 : Int) * (s.size : Int)) := in64 (by omega) (by omega)
  have i2 : inK .i64 (((8 : Int) * (s.size : Int)) - p) := in64 (by omega) (by omega)
  have c3 : ((8 : Int) * (s.size : Int)) - p < (n : Int) := by omega
  simp only [decide_eq_false c1, decide_eq_false c2, cond_false, i1, i2, and_self, if_true, decide_eq_true c3, cond_true]
theorem take_ok {N : Nat} (hN : 100 < N) {s : ByteArray} {p n : Nat} (hs : s.size < 4294967296) (hn : n ≤ 32) (h : p + n ≤ 8 * s.size) :
    overspill_inbits_Reader_Take N n s p = some (numB (((unpack (bl s)).drop p).take n), 0, s, ((p + n : Nat) : Int)) := by
  unfold overspill_inbits_Reader_Take
  rw [peek_ok hN hs hn h]
  have i1 : inK .i64 ((p : Int) + n) := in64 (by omega) (by omega)
  have e : (p : Int) + n = ((p + n : Nat) : Int) := by omega
  simp [i1]
theorem take_end {N : Nat} {s : ByteArray} {p n : Nat} (hs : s.size < 4294967296) (hn : n ≤ 32) (hp : p < 4294967296) (h : 8 * s.size < p + n) : overspill_inbits_Reader_Take N n s p = some (0, 2, s, (p : Int)) := by
  unfold overspill_inbits_Reader_Take
  rw [peek_end hs hn hp h]
  simp
theorem show_ok {N : Nat} {s : ByteArray} (hN : s.size + 100 < N) (hs : s.size ≤ 1000000000) : ref02_Show N s = some (rowT (unpack (bl s))) := by
  have hlen : (unpack (bl s)).length = 8 * s.size := by rw [unpack_length, bl_length]
  unfold ref02_Show
  have hit : iter (ref02_Show_b1 N s) N (0, 0, 0, []) = some (8 * s.size, 8 * s.size, txt (unpack (bl s))) := by
    refine iter_to (fun j => (8 * j, (j : Int), 8 * j, txt ((unpack (bl s)).take (8 * j)))) s.size (by simp [txt]) ?_ ?_ (by omega)
    · intro j hj
      have g1 : (j : Int) < s.size := by omega
      have g2 := inS (i := j) (by omega)
      obtain ⟨b1, b2⟩ := byteI_in s j
      have g3 : inK .i64 (byteI s j) := in64 (by omega) (by omega)
      have hr : ref02_Row N (byteI s j) 8 = some (rowT (digits (byteI s j) 8)) := rrow_ok (n := 8) (by omega) (by omega) b1
      have hz : (rowT (digits (byteI s j) 8)).size = 8 := by rw [rowT_size, digits_length]
      have g4 : 8 * j + 8 ≤ 140737488355328 := by omega
      have g5 : 8 * j + 8 ≤ 9223372036854775807 := by omega
      simp only [ref02_Show_b1, decide_eq_true g1, cond_true, Int.toNat_natCast, hr, hz, bl_rowT, g1, g2, g3, g4, g5, Int.natCast_nonneg, Option.isSome_some, Option.getD_some, Nat.mul_one, and_self, if_true]
      refine congrArg (fun s => some (Sum.inl s)) (Prod.ext rfl (Prod.ext (Int.natCast_succ j).symm (Prod.ext rfl ?_)))
      show txt ((unpack (bl s)).take (8 * j)) ++ txt (digits (byteI s j) 8) = txt ((unpack (bl s)).take (8 * (j + 1)))
      rw [unpack_byte _ _ (by rw [bl_length]; exact hj), ← byteI_bl, txt_append]
    · simp only [ref02_Show_b1, decide_eq_false (Int.lt_irrefl _), cond_false]
      rw [List.take_of_length_le (by omega)]
  have i3 : ((8 * s.size : Nat) : Int) ≤ 9223372036854775807 := by omega
  simp only [hit, Option.bind_some, Nat.le_refl, i3, and_self, if_true]
  rw [List.take_of_length_le (by rw [txt_length]; omega)]
  rfl
/-- A loop that looks whether something holds of all numbers below one. -/
theorem iter_all {body : Int → Option (Int ⊕ (Unit ⊕ Unit))} (n N : Nat) (P : Nat → Bool) (hs : ∀ i, i < n → body (i : Int) = some (bif P i then .inl ((i : Int) + 1) else .inr (.inl ()))) (he : body (n : Int) = some (.inr (.inr ()))) (hN : n < N) :
    iter body N 0 = some (bif (List.range n).all P then .inr () else .inl ()) := by
  rcases first_or (fun j => P j = false) n with h | ⟨k, h1, h2, h3⟩
  · have hP : ∀ i, i < n → P i = true := fun i hi => by simpa using h i hi
    have : (List.range n).all P = true := List.all_eq_true.2 fun i hi => hP i (List.mem_range.1 hi)
    rw [this]
    exact iter_to (fun i => (i : Int)) n rfl (fun i hi => by rw [hs i hi, hP i hi]; rfl) he hN
  · have : (List.range n).all P = false := by
      cases hh : (List.range n).all P with
      | false => rfl
      | true => rw [List.all_eq_true.1 hh k (List.mem_range.2 h1)] at h2; cases h2
    rw [this]
    exact iter_to (fun i => (i : Int)) k rfl (fun i hi => by rw [hs i (by omega), show P i = true by simpa using h3 i hi]; rfl) (by rw [hs k h1, h2]; rfl) (by omega)
theorem cases6 {P : Nat → Prop} (h0 : P 0) (h1 : P 1) (h2 : P 2) (h3 : P 3) (h4 : P 4) (h5 : P 5) : ∀ i, i < 6 → P i := fun i hi => by
  match i, hi with
  | 0, _ => exact h0
  | 1, _ => exact h1
  | 2, _ => exact h2
  | 3, _ => exact h3
  | 4, _ => exact h4
  | 5, _ => exact h5
abbrev Ev := Bool × (Int × Int)
def rgt (r v : Int) : Prop := 0 ≤ r ∧ r ≤ 63 ∧ v ≠ 0 ∧ -127 ≤ v ∧ v ≤ 127
instance (r v : Int) : Decidable (rgt r v) := by unfold rgt; infer_instance
def gd (la : Bool) (r v p : Int) (last : Bool) : Prop := rgt r v ∧ la = last ∧ p + r ≤ 63
instance (la : Bool) (r v p : Int) (last : Bool) : Decidable (gd la r v p last) := by unfold gd; infer_instance
def ev (l : List Ev) (i : Nat) : Ev := l.getD i (false, ((0 : Int), (0 : Int)))
def posn (f : Int) (l : List Ev) : Nat → Int
  | 0 => f
  | i + 1 => posn f l i + (ev l i).2.1 + 1
def gdAt (f : Int) (l : List Ev) (i : Nat) : Prop := gd (ev l i).1 (ev l i).2.1 (ev l i).2.2 (posn f l i) (decide (i + 1 = l.length))
instance (f : Int) (l : List Ev) (i : Nat) : Decidable (gdAt f l i) := by unfold gdAt; infer_instance
theorem posn_in {f : Int} {l : List Ev} (hf : 0 ≤ f ∧ f ≤ 1) : ∀ i, (∀ j, j < i → gdAt f l j) → 0 ≤ posn f l i ∧ posn f l i ≤ 64 := by
  intro i
  induction i with
  | zero => intro _; simp only [posn]; omega
  | succ i ih =>
    intro h
    obtain ⟨h1, h2⟩ := ih fun j hj => h j (by omega)
    obtain ⟨⟨h3, h4, _⟩, _, h5⟩ := h i (by omega)
    simp only [posn]
    omega
def okE (f : Int) (l : List Ev) : Bool := (List.range l.length).all fun i => decide (gdAt f l i)
theorem okE_iff {f : Int} {l : List Ev} : okE f l = true ↔ ∀ i, i < l.length → gdAt f l i := by
  unfold okE
  simp only [List.all_eq_true, List.mem_range, decide_eq_true_eq]
def lvs (f : Int) (l : List Ev) : Nat → List Int
  | 0 => List.replicate 64 0
  | i + 1 => (lvs f l i).set (posn f l i + (ev l i).2.1).toNat (ev l i).2.2
def mayB (b : Bool) (dc : Int) (l : List Ev) : Bool := okE (bif b then 1 else 0) l && (bif b then decide (1 ≤ dc ∧ dc ≤ 254) else decide (dc = 0))
theorem right_eq (N : Nat) (l : Bool) (r v : Int) : tcoef_Right N l r v = some (decide (rgt r v)) := by
  unfold tcoef_Right rgt
  by_cases h1 : 0 ≤ r <;> by_cases h2 : r ≤ 63 <;> by_cases h3 : v = 0 <;> by_cases h4 : -127 ≤ v <;> by_cases h5 : v ≤ 127 <;> simp [h1, h2, h3, h4, h5]
theorem rright_eq (N : Nat) (l : Bool) (r v : Int) : ref09_Right N l r v = some (decide (rgt r v)) := by
  unfold ref09_Right rgt
  by_cases h1 : 0 ≤ r <;> by_cases h2 : r ≤ 63 <;> by_cases h3 : v = 0 <;> by_cases h4 : -127 ≤ v <;> by_cases h5 : v ≤ 127 <;> simp [h1, h2, h3, h4, h5]
theorem digit_eq (N : Nat) (b : Bool) : ∃ d, tcoef_digit N b = some d ∧ d.size = 1 ∧ d = (bif b then ⟨#[49]⟩ else ⟨#[48]⟩) := by cases b <;> exact ⟨_, rfl, rfl, rfl⟩
theorem c37 (M : Nat) : outbits_Row (M + 200) 3 7 = some (⟨#[48, 48, 48, 48, 48, 49, 49]⟩, 0) := by kernel_rfl

def chp (N : Nat) (l : Bool) (r : Nat) : Bool := match tcoef_many N l r with
  | some n => (List.range n.toNat).all fun i => match tcoef_place N l r ((i : Int) + 1) with
    | some a => decide (0 ≤ a) && decide (a < 102)
    | none => false
  | none => false
theorem ckp (M : Nat) : ((List.range 64).all fun r => chp (M + 200) false r && chp (M + 200) true r) = true := by kernel_rfl
theorem chp_at {N : Nat} {l : Bool} {r : Nat} (h : chp N l r = true) : ∃ n, tcoef_many N l r = some n ∧ ∀ i : Nat, (i : Int) < n → ∃ a : Nat, tcoef_place N l r ((i : Int) + 1) = some (a : Int) ∧ a < 102 := by
  unfold chp at h
  split at h
  · rename_i n h1
    simp only [List.all_eq_true, List.mem_range] at h
    refine ⟨n, h1, fun i hi => ?_⟩
    have := h i (by omega)
    split at this
    · rename_i a ha
      simp only [Bool.and_eq_true, decide_eq_true_eq] at this
      exact ⟨a.toNat, by rw [ha, Int.toNat_of_nonneg this.1], by omega⟩
    · cases this
  · cases h
theorem row_not {M : Nat} {l : Bool} {r v : Int} (h : ¬ rgt r v) : tcoef_Row (M + 200) l r v = some (⟨#[]⟩, false) := by
  unfold tcoef_Row; rw [right_eq, decide_eq_false h]; rfl
theorem lens_tab : ∀ an, an < 102 → 0 ≤ lensL.getD an 0 ∧ 2 ≤ lensL.getD an 0 ∧ lensL.getD an 0 ≤ 12 ∧ 0 ≤ codesL.getD an 0 ∧ codesL.getD an 0 < 2 ^ (lensL.getD an 0).toNat := by decide +kernel
theorem row_bits {M : Nat} {l : Bool} {r v : Int} (h : rgt r v) : ∃ B, tcoef_Row (M + 200) l r v = some (rowT B, true) ∧
    3 ≤ B.length ∧ B.length ≤ 22 := by
  obtain ⟨h1, h2, h3, h4, h5⟩ := id h
  obtain ⟨rn, rfl⟩ : ∃ rn : Nat, r = rn := ⟨r.toNat, by omega⟩
  have hrn : rn < 64 := by omega
  have hc : chp (M + 200) l rn = true := by
    have := List.all_eq_true.1 (ckp M) rn (List.mem_range.2 hrn)
    simp only [Bool.and_eq_true] at this
    cases l
    · exact this.1
    · exact this.2
  obtain ⟨n, g2, g4⟩ := chp_at hc
  have i1 : inK .i64 (-v) := in64 (by omega) (by omega)
  obtain ⟨d, hd, hds, hdv⟩ := digit_eq (M + 200) (decide (v < 0))
  have hdr : d = rowT [decide (v < 0)] := by rw [hdv]; cases decide (v < 0) <;> rfl
  by_cases hn : max v (-v) ≤ n
  · obtain ⟨i, hi⟩ : ∃ i : Nat, max v (-v) = (i : Int) + 1 := ⟨(max v (-v) - 1).toNat, by omega⟩
    obtain ⟨an, k1, k3⟩ := g4 i (by omega)
    obtain ⟨t1, t2', t2, t3, t4⟩ := lens_tab an k3
    have k4 := row_ok (N := M + 200) (by omega) (n := (lensL.getD an 0).toNat) (by omega) t3 t4
    rw [Int.toNat_of_nonneg t1] at k4
    obtain ⟨x, hx⟩ : ∃ x, x = rowT (digits (codesL.getD an 0) (lensL.getD an 0).toNat) := ⟨_, rfl⟩
    rw [← hx] at k4
    have hxs : x.size = (lensL.getD an 0).toNat := by rw [hx, rowT_size, digits_length]
    have k2 : (0 : Int) ≤ (an : Int) := by omega
    refine ⟨digits (codesL.getD an 0) (lensL.getD an 0).toNat ++ [decide (v < 0)], ?_, by rw [List.length_append, digits_length]; simp only [List.length_cons, List.length_nil]; omega, by rw [List.length_append, digits_length]; simp only [List.length_cons, List.length_nil]; omega⟩
    have hsz : (x.size : Int) + (d.size : Int) ≤ 9223372036854775807 := by omega
    have k8 : an < 102 := by omega
    have k9 : (an : Int) < 102 := by omega
    unfold tcoef_Row
    rw [right_eq, decide_eq_true h, hi, k1]
    simp [i1, k2, k3, k4, k8, k9, hd, hsz, -List.getD_eq_getElem?_getD]
    rw [hx, hdr, rowT_append]
  · have hp : tcoef_place (M + 200) l rn (max v (-v)) = some (-1) := by
      unfold tcoef_place
      rw [g2]
      have : n < max v (-v) := by omega
      simp [this]
    refine ⟨digits 3 7 ++ (l :: (digits rn 6 ++ digits ((v + 256) % 256) 8)), ?_, by simp [digits_length], by simp [digits_length]⟩
    have p1 := row_ok (N := M + 200) (by omega) (v := (rn : Int)) (n := 6) (by omega) (by omega) (by omega)
    have q1 := row_ok (N := M + 200) (by omega) (v := (v + 256) % 256) (n := 8) (by omega) (by omega) (by omega)
    obtain ⟨b, hb, hbs, hbv⟩ := digit_eq (M + 200) l
    have hbr : b = rowT [l] := by rw [hbv]; cases l <;> rfl
    have s7 : (⟨#[48, 48, 48, 48, 48, 49, 49]⟩ : ByteArray) = rowT (digits 3 7) := rfl
    have i2 : inK .i64 (v + 256) := in64 (by omega) (by omega)
    have i3 : 0 ≤ v + 256 := by omega
    have p1' : outbits_Row (M + 200) (rn : Int) 6 = some (rowT (digits rn 6), 0) := p1
    have q1' : outbits_Row (M + 200) ((v + 256) % 256) 8 = some (rowT (digits ((v + 256) % 256) 8), 0) := q1
    unfold tcoef_Row
    rw [right_eq, decide_eq_true h, hp, c37, p1', q1', hb, hbr, s7]
    have z1 : (((rowT (digits 3 7)).size : Int)) + ((rowT [l]).size : Int) ≤ 9223372036854775807 := by rw [rowT_size, rowT_size, digits_length]; simp
    have z2 : ((rowT (digits 3 7) ++ rowT [l]).size : Int) + ((rowT (digits rn 6)).size : Int) ≤ 9223372036854775807 := by rw [rowT_append, rowT_size, rowT_size, List.length_append, digits_length, digits_length]; simp
    have z3 : ((rowT (digits 3 7) ++ rowT [l] ++ rowT (digits rn 6)).size : Int) + ((rowT (digits ((v + 256) % 256) 8)).size : Int) ≤ 9223372036854775807 := by rw [rowT_append, rowT_append, rowT_size, rowT_size, List.length_append, List.length_append, digits_length, digits_length, digits_length]; simp
    simp only [Option.getD_some, Option.isSome_some, if_true, Bool.not_true, cond_false, i1, i2, i3, and_self, show decide ((0 : Int) ≤ -1) = false from rfl, z1, z2, z3]
    rw [rowT_append, rowT_append, rowT_append]
    simp

def RB (M : Nat) (e : Ev) : List Bool := bitsT (bl ((tcoef_Row (M + 200) e.1 e.2.1 e.2.2).getD default).1)
theorem rb_ok {M : Nat} {e : Ev} (h : rgt e.2.1 e.2.2) : tcoef_Row (M + 200) e.1 e.2.1 e.2.2 = some (rowT (RB M e), true) ∧ 3 ≤ (RB M e).length ∧ (RB M e).length ≤ 22 := by
  obtain ⟨B, hrow, h1, h2⟩ := row_bits (M := M) (l := e.1) h
  have hB : RB M e = B := by
    unfold RB
    rw [hrow, Option.getD_some, bits_rowT]
  rw [hB, hrow]
  exact ⟨rfl, h1, h2⟩
end Go.Proofs.YtcfffichdcnlgaaDoor
