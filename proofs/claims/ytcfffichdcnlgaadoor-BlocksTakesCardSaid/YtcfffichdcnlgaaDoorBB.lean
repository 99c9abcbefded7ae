/- What the printed models answer: plain laws. -/
import Derived.Test.YtcfffichdcnlgaaDoorB2
set_option linter.unusedVariables false
set_option linter.unusedSimpArgs false
namespace Go.Proofs.YtcfffichdcnlgaaDoor
open Go.X

theorem and1 {x : Int} (h : 0 ≤ x) : ((Int.toNat x &&& Int.toNat 1 : Nat) : Int) = x % 2 := and_one x h
theorem inI {i : Nat} (h : i < 9223372036854775807) : inK .i64 (i : Int) := in64 (by omega) (by omega)
theorem inS {i : Nat} (h : i < 4294967296) : inK .i64 ((i : Int) + 1) := in64 (by omega) (by omega)
theorem shrP (v : Int) (k : Nat) (h : 0 ≤ v) : 0 ≤ v / 2 ^ k := (shr_in v k h).1
theorem m2 (x : Int) : 0 ≤ x % 2 ∧ x % 2 ≤ 1 := by omega
theorem rrow_ok {N : Nat} (hN : 100 < N) {v : Int} {n : Nat} (h : n ≤ 32) (h0 : 0 ≤ v) : ref02_Row N v n = some (rowT (digits v n)) := by
  unfold ref02_Row
  rw [iter_to (o := rowT (digits v n)) (fun j => (v / 2 ^ j, rowT (digits v j), (j : Int))) n ?_ ?_ ?_ (by omega)]
  · rfl
  · simp [digits, rowT, txt, bytesOf]
  · intro j hj
    have g1 : (j : Int) < n := by omega
    have g2 := shrP v j h0
    have g3 := inS (i := j) (by omega)
    obtain ⟨g5, g6⟩ := m2 (v / 2 ^ j)
    have g7 : inK .i64 (v / 2 ^ j % 2 + 1) := in64 (by omega) (by omega)
    have hc : ByteArray.extract ⟨#[48, 49]⟩ (v / 2 ^ j % 2).toNat (v / 2 ^ j % 2 + 1).toNat = rowT [decide (v / 2 ^ j % 2 = 1)] := by
      rcases (show v / 2 ^ j % 2 = 0 ∨ v / 2 ^ j % 2 = 1 by omega) with e | e <;> rw [e] <;> rfl
    have g8 : (ByteArray.size ⟨#[48, 49]⟩ : Int) = 2 := rfl
    have g9 : v / 2 ^ j % 2 + 1 ≤ 2 := by omega
    have g10 : v / 2 ^ j % 2 ≤ v / 2 ^ j % 2 + 1 := by omega
    have g11 : ((rowT [decide (v / 2 ^ j % 2 = 1)]).size : Int) + ((rowT (digits v j)).size : Int) ≤ 9223372036854775807 := by
      rw [rowT_size, rowT_size, digits_length]; simp only [List.length_cons, List.length_nil]; omega
    simp only [ref02_Row_b1, decide_eq_true g1, cond_true, g2, g3, g5, g7, hc, g8, g9, g10, g11, and_self, if_true]
    refine congrArg (fun s => some (Sum.inl s)) (Prod.ext ?_ (Prod.ext ?_ ?_))
    · show v / 2 ^ j / 2 = v / 2 ^ (j + 1)
      have hp2 : (0 : Int) < 2 ^ j := Int.pow_pos (by omega)
      rw [Int.ediv_ediv, if_neg (by omega), Int.sub_zero, Int.pow_succ]
    · show rowT [decide (v / 2 ^ j % 2 = 1)] ++ rowT (digits v j) = rowT (digits v (j + 1))
      rw [rowT_append, digits_succ]; rfl
    · exact (Int.natCast_succ j).symm
  · simp [ref02_Row_b1]
theorem num_ok {N : Nat} (hN : 100 < N) {s : ByteArray} (hp : plainL (bl s) = true) (hs : s.size ≤ 32) : ref02_Number N s = some (numB (bitsT (bl s))) := by
  unfold ref02_Number
  have hl : (bitsT (bl s)).length = s.size := by rw [bitsT_length, bl_length]
  rw [iter_to (o := numB (bitsT (bl s))) (fun j => (numB ((bitsT (bl s)).take j), (j : Int))) s.size ?_ ?_ ?_ (by omega)]
  · rfl
  · simp [numB]
  · intro j hj
    have g1 : (j : Int) < s.size := by omega
    have g2 := inS (i := j) (by omega)
    have hb := plain_at hp hj
    obtain ⟨b1, b2⟩ := numB_take_in (bitsT (bl s)) j (by omega)
    have g3 : inK .i64 ((2 : Int) * numB ((bitsT (bl s)).take j)) := in64 (by omega) (by omega)
    have g4 : inK .u8 (byteI s j - 48) := by unfold inK; omega
    have g5 : inK .i64 (byteI s j - 48) := in64 (by omega) (by omega)
    have g6 : inK .i64 (((2 : Int) * numB ((bitsT (bl s)).take j)) + (byteI s j - 48)) := in64 (by omega) (by omega)
    simp only [ref02_Number_b1, decide_eq_true g1, cond_true, Int.toNat_natCast, g1, g2, g3, g4, g5, g6, Int.natCast_nonneg, and_self, if_true]
    refine congrArg (fun s => some (Sum.inl s)) (Prod.ext ?_ (Int.natCast_succ j).symm)
    exact (numB_step hj hb).symm
  · simp only [ref02_Number_b1, decide_eq_false (Int.lt_irrefl _), cond_false]
    rw [List.take_of_length_le (by omega)]
theorem peek_ok {N : Nat} (hN : 100 < N) {s : ByteArray} {p n : Nat} (hs : s.size < 4294967296) (hn : n ≤ 32) (h : p + n ≤ 8 * s.size) :
    overspill_inbits_Reader_Peek N n s p = some (numB (((unpack (bl s)).drop p).take n), 0) := by
  unfold overspill_inbits_Reader_Peek
  have c1 : ¬ ((n : Int) < 0) := by omega
  have c2 : ¬ ((32 : Int) < (n : Int)) := by omega
  have i1 : inK .i64 ((8 : Int) * (s.size : Int)) := in64 (by omega) (by omega)
  have i2 : inK .i64 (((8 : Int) * (s.size : Int)) - p) := in64 (by omega) (by omega)
  have c3 : ¬ (((8 : Int) * (s.size : Int)) - p < (n : Int)) := by omega
  have hlen : (unpack (bl s)).length = 8 * s.size := by rw [unpack_length, bl_length]
  have hit : iter (overspill_inbits_Reader_Peek_b1 N n s p) N (0, 0) = some (numB (((unpack (bl s)).drop p).take n)) := by
    refine iter_to (fun j => (numB (((unpack (bl s)).drop p).take j), (j : Int))) n ?_ ?_ ?_ (by omega)
    · simp [numB]
    · intro j hj
      have g1 : (j : Int) < n := by omega
      have g2 := inS (i := j) (by omega)
      have e1 : (p : Int) + j = ((p + j : Nat) : Int) := by omega
      have e2 : (((p + j : Nat) : Int) / 8) = (((p + j) / 8 : Nat) : Int) := by omega
      have e3 : (((p + j : Nat) : Int) % 8) = (((p + j) % 8 : Nat) : Int) := by omega
      have e4 : (7 : Int) - (((p + j) % 8 : Nat) : Int) = ((7 - (p + j) % 8 : Nat) : Int) := by omega
      have i3 : inK .i64 ((p + j : Nat) : Int) := inI (by omega)
      have i4 : (((p + j) / 8 : Nat) : Int) < (s.size : Int) := by omega
      have i5 : inK .i64 ((7 - (p + j) % 8 : Nat) : Int) := inI (by omega)
      have i6 : inK .u64 ((7 - (p + j) % 8 : Nat) : Int) := inU64 (by omega) (by omega)
      have i7 : 7 - (p + j) % 8 ≤ 8 := by omega
      obtain ⟨b1, b2⟩ := byteI_in s ((p + j) / 8)
      have i8 := shrP (byteI s ((p + j) / 8)) (7 - (p + j) % 8) b1
      obtain ⟨m1, m2'⟩ := m2 (byteI s ((p + j) / 8) / 2 ^ (7 - (p + j) % 8))
      have i9 : inK .i64 (byteI s ((p + j) / 8) / 2 ^ (7 - (p + j) % 8) % 2) := in64 (by omega) (by omega)
      obtain ⟨n1, n2⟩ := numB_take_in ((unpack (bl s)).drop p) j (by omega)
      have i10 : inK .i64 (numB (((unpack (bl s)).drop p).take j) * 2 ^ Int.toNat 1) := by
        rw [show (2 : Int) ^ Int.toNat 1 = 2 from rfl]; exact in64 (by omega) (by omega)
      have i11 : 0 ≤ numB (((unpack (bl s)).drop p).take j) * 2 ^ Int.toNat 1 := by
        rw [show (2 : Int) ^ Int.toNat 1 = 2 from rfl]; omega
      have hbit : (((unpack (bl s)).drop p).getD j false).toInt = byteI s ((p + j) / 8) / 2 ^ (7 - (p + j) % 8) % 2 := by
        rw [List.getD_eq_getElem?_getD, List.getElem?_drop, ← List.getD_eq_getElem?_getD, unpack_getD _ _ (by rw [bl_length]; omega), ← byteI_bl]
        rcases (show byteI s ((p + j) / 8) / 2 ^ (7 - (p + j) % 8) % 2 = 0 ∨ byteI s ((p + j) / 8) / 2 ^ (7 - (p + j) % 8) % 2 = 1 by omega) with e | e <;> simp [e, Bool.toInt]
      have hor : ((Int.toNat (numB (((unpack (bl s)).drop p).take j) * 2 ^ Int.toNat 1) ||| Int.toNat (byteI s ((p + j) / 8) / 2 ^ (7 - (p + j) % 8) % 2) : Nat) : Int) = numB (((unpack (bl s)).drop p).take (j + 1)) := by
        rw [numB_one _ j (by rw [List.length_drop]; omega), hbit]
        obtain ⟨q, hq⟩ : ∃ q : Nat, numB (((unpack (bl s)).drop p).take j) = q := ⟨_, (Int.toNat_of_nonneg n1).symm⟩
        rw [hq, show (2 : Int) ^ Int.toNat 1 = 2 from rfl, show ((q : Int) * 2).toNat = 2 * q by omega]
        rcases (show byteI s ((p + j) / 8) / 2 ^ (7 - (p + j) % 8) % 2 = 0 ∨ byteI s ((p + j) / 8) / 2 ^ (7 - (p + j) % 8) % 2 = 1 by omega) with e | e <;> rw [e]
        · simp
        · have : (2 * q ||| 1) = 2 * q + 1 := by
            have := Nat.two_pow_add_eq_or_of_lt (i := 1) (b := 1) (by decide) q
            simpa using this.symm
          rw [show Int.toNat 1 = 1 from rfl, this]; omega
      simp only [overspill_inbits_Reader_Peek_b1, decide_eq_true g1, cond_true, e1, e2, e3, e4, Int.toNat_natCast, and1 i8, hor, i3, i4, i5, i6, i7, i8, i9, i10, i11, m1, g2, Int.natCast_nonneg, and_self, if_true]
      exact congrArg (fun s => some (Sum.inl s)) (Prod.ext rfl (Int.natCast_succ j).symm)
    · simp [overspill_inbits_Reader_Peek_b1]
  simp only [decide_eq_false c1, decide_eq_false c2, cond_false, i1, i2, and_self, if_true, decide_eq_false c3, hit, Option.bind_some]
theorem peek_end {N : Nat} {s : ByteArray} {p n : Nat} (hs : s.size < 4294967296) (hn : n ≤ 32) (hp : p < 4294967296) (h : 8 * s.size < p + n) : overspill_inbits_Reader_Peek N n s p = some (0, 2) := by
  unfold overspill_inbits_Reader_Peek
  have c1 : ¬ ((n : Int) < 0) := by omega
  have c2 : ¬ ((32 : Int) < (n : Int)) := by omega
  have i1 : inK .i64 ((8 : Int) * (s.size : Int)) := in64 (by omega) (by omega)
  have i2 : inK .i64 (((8 : Int) * (s.size : Int)) - p) := in64 (by omega) (by omega)
  have c3 : ((8 : Int) * (s.size : Int)) - p < (n : Int) := by omega
  simp only [decide_eq_false c1, decide_eq_false c2, cond_false, i1, i2, and_self, if_true, decide_eq_true c3, cond_true]
theorem take_ok {N : Nat} (hN : 100 < N) {s : ByteArray} {p n : Nat} (hs : s.size < 4294967296) (hn : n ≤ 32) (h : p + n ≤ 8 * s.size) :
    overspill_inbits_Reader_Take N n s p = some (numB (((unpack (bl s)).drop p).take n), 0, s, ((p + n : Nat) : Int)) := by
  unfold overspill_inbits_Reader_Take
  rw [peek_ok hN hs hn h]
  have i1 : inK .i64 ((p : Int) + n) := in64 (by omega) (by omega)
  have e : (p : Int) + n = ((p + n : Nat) : Int) := by omega
  simp [i1]
theorem take_end {N : Nat} {s : ByteArray} {p n : Nat} (hs : s.size < 4294967296) (hn : n ≤ 32) (hp : p < 4294967296) (h : 8 * s.size < p + n) : overspill_inbits_Reader_Take N n s p = some (0, 2, s, (p : Int)) := by
  unfold overspill_inbits_Reader_Take
  rw [peek_end hs hn hp h]
  simp
theorem show_ok {N : Nat} {s : ByteArray} (hN : s.size + 100 < N) (hs : s.size ≤ 1000000000) : ref02_Show N s = some (rowT (unpack (bl s))) := by
  have hlen : (unpack (bl s)).length = 8 * s.size := by rw [unpack_length, bl_length]
  unfold ref02_Show
  have hit : iter (ref02_Show_b1 N s) N (0, 0, 0, []) = some (8 * s.size, 8 * s.size, txt (unpack (bl s))) := by
    refine iter_to (fun j => (8 * j, (j : Int), 8 * j, txt ((unpack (bl s)).take (8 * j)))) s.size (by simp [txt]) ?_ ?_ (by omega)
    · intro j hj
      have g1 : (j : Int) < s.size := by omega
      have g2 := inS (i := j) (by omega)
      obtain ⟨b1, b2⟩ := byteI_in s j
      have g3 : inK .i64 (byteI s j) := in64 (by omega) (by omega)
      have hr : ref02_Row N (byteI s j) 8 = some (rowT (digits (byteI s j) 8)) := rrow_ok (n := 8) (by omega) (by omega) b1
      have hz : (rowT (digits (byteI s j) 8)).size = 8 := by rw [rowT_size, digits_length]
      have g4 : 8 * j + 8 ≤ 140737488355328 := by omega
      have g5 : 8 * j + 8 ≤ 9223372036854775807 := by omega
      simp only [ref02_Show_b1, decide_eq_true g1, cond_true, Int.toNat_natCast, hr, hz, bl_rowT, g1, g2, g3, g4, g5, Int.natCast_nonneg, Option.isSome_some, Option.getD_some, Nat.mul_one, and_self, if_true]
      refine congrArg (fun s => some (Sum.inl s)) (Prod.ext rfl (Prod.ext (Int.natCast_succ j).symm (Prod.ext rfl ?_)))
      show txt ((unpack (bl s)).take (8 * j)) ++ txt (digits (byteI s j) 8) = txt ((unpack (bl s)).take (8 * (j + 1)))
      rw [unpack_byte _ _ (by rw [bl_length]; exact hj), ← byteI_bl, txt_append]
    · simp only [ref02_Show_b1, decide_eq_false (Int.lt_irrefl _), cond_false]
      rw [List.take_of_length_le (by omega)]
  have i3 : ((8 * s.size : Nat) : Int) ≤ 9223372036854775807 := by omega
  simp only [hit, Option.bind_some, Nat.le_refl, i3, and_self, if_true]
  rw [List.take_of_length_le (by rw [txt_length]; omega)]
  rfl
abbrev Ev := Bool × (Int × Int)
def rgt (r v : Int) : Prop := 0 ≤ r ∧ r ≤ 63 ∧ v ≠ 0 ∧ -127 ≤ v ∧ v ≤ 127
instance (r v : Int) : Decidable (rgt r v) := by unfold rgt; infer_instance
def ev (l : List Ev) (i : Nat) : Ev := l.getD i (false, ((0 : Int), (0 : Int)))
theorem right_eq (N : Nat) (l : Bool) (r v : Int) : tcoef_Right N l r v = some (decide (rgt r v)) := by
  unfold tcoef_Right rgt
  by_cases h1 : 0 ≤ r <;> by_cases h2 : r ≤ 63 <;> by_cases h3 : v = 0 <;> by_cases h4 : -127 ≤ v <;> by_cases h5 : v ≤ 127 <;> simp [h1, h2, h3, h4, h5]
theorem rright_eq (N : Nat) (l : Bool) (r v : Int) : ref09_Right N l r v = some (decide (rgt r v)) := by
  unfold ref09_Right rgt
  by_cases h1 : 0 ≤ r <;> by_cases h2 : r ≤ 63 <;> by_cases h3 : v = 0 <;> by_cases h4 : -127 ≤ v <;> by_cases h5 : v ≤ 127 <;> simp [h1, h2, h3, h4, h5]
def hd (b : Bool) (dc : Int) : List Bool := bif b then digits (bif decide (dc = 128) then 255 else dc) 8 else []
end Go.Proofs.YtcfffichdcnlgaaDoor
