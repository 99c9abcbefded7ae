/- What the printed models answer: plain laws. -/
import Derived.Test.YtngghhpbjppkcaaF2
set_option linter.unusedVariables false
set_option linter.unusedSimpArgs false
namespace Go.Proofs.Ytngghhpbjppkcaa
open Go.X

theorem and1 {x : Int} (h : 0 ≤ x) : ((Int.toNat x &&& Int.toNat 1 : Nat) : Int) = x % 2 := and_one x h
theorem inI {i : Nat} (h : i < 9223372036854775807) : inK .i64 (i : Int) := in64 (by omega) (by omega)
theorem inS {i : Nat} (h : i < 4294967296) : inK .i64 ((i : Int) + 1) := in64 (by omega) (by omega)
theorem shrP (v : Int) (k : Nat) (h : 0 ≤ v) : 0 ≤ v / 2 ^ k := (shr_in v k h).1
theorem m2 (x : Int) : 0 ≤ x % 2 ∧ x % 2 ≤ 1 := by omega
theorem fits_eq (N : Nat) {v n : Int} : outbits_fits N v n = some (decide (0 ≤ n ∧ n ≤ 32 ∧ 0 ≤ v ∧ v < 2 ^ n.toNat)) := by
  unfold outbits_fits
  by_cases h1 : 0 ≤ n
  · by_cases h2 : n ≤ 32
    · by_cases h3 : 0 ≤ v
      · obtain ⟨m, rfl⟩ : ∃ m : Nat, n = m := ⟨n.toNat, by omega⟩
        have i1 : inK .u64 (m : Int) := inU64 (by omega) (by omega)
        have hm : m ≤ 32 := by omega
        have i2 : inK .i64 ((1 : Int) * 2 ^ m) := by
          have : ∀ m, m ≤ 32 → inK .i64 ((1 : Int) * 2 ^ m) := by decide
          exact this m hm
        have i3 : inK .i64 ((2 : Int) ^ m) := by simpa using i2
        simp [h2, h3, hm, i1, i2, i3]
        try omega
      · simp [h1, h2, h3]
    · simp [h1, h2]
  · simp [h1]
theorem rrow_ok {N : Nat} (hN : 100 < N) {v : Int} {n : Nat} (h : n ≤ 32) (h0 : 0 ≤ v) : ref02_Row N v n = some (rowT (digits v n)) := by
  unfold ref02_Row
  rw [iter_to (o := rowT (digits v n)) (fun j => (v / 2 ^ j, rowT (digits v j), (j : Int))) n ?_ ?_ ?_ (by omega)]
  · rfl
  · simp [digits, rowT, txt, bytesOf]
  · intro j hj
    have g1 : (j : Int) < n := by omega
    have g2 := shrP v j h0
    have g3 := inS (i := j) (by omega)
    obtain ⟨g5, g6⟩ := m2 (v / 2 ^ j)
    have g7 : inK .i64 (v / 2 ^ j % 2 + 1) := in64 (by omega) (by omega)
    have hc : ByteArray.extract ⟨#[48, 49]⟩ (v / 2 ^ j % 2).toNat (v / 2 ^ j % 2 + 1).toNat = rowT [decide (v / 2 ^ j % 2 = 1)] := by
      rcases (show v / 2 ^ j % 2 = 0 ∨ v / 2 ^ j % 2 = 1 by omega) with e | e <;> rw [e] <;> rfl
    have g8 : (ByteArray.size ⟨#[48, 49]⟩ : Int) = 2 := rfl
    have g9 : v / 2 ^ j % 2 + 1 ≤ 2 := by omega
    have g10 : v / 2 ^ j % 2 ≤ v / 2 ^ j % 2 + 1 := by omega
    have g11 : ((rowT [decide (v / 2 ^ j % 2 = 1)]).size : Int) + ((rowT (digits v j)).size : Int) ≤ 9223372036854775807 := by
      rw [rowT_size, rowT_size, digits_length]; simp only [List.length_cons, List.length_nil]; omega
    simp only [ref02_Row_b1, decide_eq_true g1, cond_true, g2, g3, g5, g7, hc, g8, g9, g10, g11, and_self, if_true]
    refine congrArg (fun s => some (Sum.inl s)) (Prod.ext ?_ (Prod.ext ?_ ?_))
    · show v / 2 ^ j / 2 = v / 2 ^ (j + 1)
      have hp2 : (0 : Int) < 2 ^ j := Int.pow_pos (by omega)
      rw [Int.ediv_ediv, if_neg (by omega), Int.sub_zero, Int.pow_succ]
    · show rowT [decide (v / 2 ^ j % 2 = 1)] ++ rowT (digits v j) = rowT (digits v (j + 1))
      rw [rowT_append, digits_succ]; rfl
    · exact (Int.natCast_succ j).symm
  · simp [ref02_Row_b1]
theorem num_ok {N : Nat} (hN : 100 < N) {s : ByteArray} (hp : plainL (bl s) = true) (hs : s.size ≤ 32) : ref02_Number N s = some (numB (bitsT (bl s))) := by
  unfold ref02_Number
  have hl : (bitsT (bl s)).length = s.size := by rw [bitsT_length, bl_length]
  rw [iter_to (o := numB (bitsT (bl s))) (fun j => (numB ((bitsT (bl s)).take j), (j : Int))) s.size ?_ ?_ ?_ (by omega)]
  · rfl
  · simp [numB]
  · intro j hj
    have g1 : (j : Int) < s.size := by omega
    have g2 := inS (i := j) (by omega)
    have hb := plain_at hp hj
    obtain ⟨b1, b2⟩ := numB_take_in (bitsT (bl s)) j (by omega)
    have g3 : inK .i64 ((2 : Int) * numB ((bitsT (bl s)).take j)) := in64 (by omega) (by omega)
    have g4 : inK .u8 (byteI s j - 48) := by unfold inK; omega
    have g5 : inK .i64 (byteI s j - 48) := in64 (by omega) (by omega)
    have g6 : inK .i64 (((2 : Int) * numB ((bitsT (bl s)).take j)) + (byteI s j - 48)) := in64 (by omega) (by omega)
    simp only [ref02_Number_b1, decide_eq_true g1, cond_true, Int.toNat_natCast, g1, g2, g3, g4, g5, g6, Int.natCast_nonneg, and_self, if_true]
    refine congrArg (fun s => some (Sum.inl s)) (Prod.ext ?_ (Int.natCast_succ j).symm)
    exact (numB_step hj hb).symm
  · simp only [ref02_Number_b1, decide_eq_false (Int.lt_irrefl _), cond_false]
    rw [List.take_of_length_le (by omega)]
theorem plain_ok {N : Nat} {s : ByteArray} (hN : s.size < N) (hs : s.size < 4294967296) : ref02_Plain N s = some (plainL (bl s)) := by
  have st : ∀ j, j < s.size → (byteI s j = 48 ∨ byteI s j = 49) → ref02_Plain_b1 N s (j : Int) = some (.inl ((j + 1 : Nat) : Int)) := by
    intro j hj hb
    have g1 : (j : Int) < s.size := by omega
    have g2 := inS (i := j) (by omega)
    rcases hb with hb | hb <;> simp [ref02_Plain_b1, g1, hj, hb, g2]
  unfold ref02_Plain
  rcases first_or (fun j => ¬ (byteI s j = 48 ∨ byteI s j = 49)) s.size with h | ⟨k, h1, h2, h3⟩
  · have hp : plainL (bl s) = true := by
      have : ∀ j, j ≤ s.size → plainL ((bl s).take j) = true := by
        intro j
        induction j with
        | zero => intro _; simp [plainL]
        | succ j ih =>
          intro hj
          rw [plain_step (by omega), ih (by omega)]
          have := Classical.not_not.mp (h j (by omega))
          rcases this with e | e <;> simp [e]
      have h' := this s.size (Nat.le_refl _)
      rwa [plain_all (Nat.le_refl _)] at h'
    have hit : iter (ref02_Plain_b1 N s) N 0 = some (.inr ()) := iter_to (fun i => ((i : Nat) : Int)) s.size rfl (fun i hi => st i hi (Classical.not_not.mp (h i hi))) (by simp [ref02_Plain_b1]) (by omega)
    rw [hit, hp]; rfl
  · have hit : iter (ref02_Plain_b1 N s) N 0 = some (.inl ()) := by
      refine iter_to (fun i => ((i : Nat) : Int)) k rfl (fun i hi => st i (by omega) (Classical.not_not.mp (h3 i hi))) ?_ (by omega)
      have g1 : (k : Int) < s.size := by omega
      have n1 : byteI s k ≠ 48 := fun e => h2 (.inl e)
      have n2 : byteI s k ≠ 49 := fun e => h2 (.inr e)
      simp [ref02_Plain_b1, g1, h1, n1, n2]
    rw [hit, plain_bad h1 (fun e => h2 (.inl e)) (fun e => h2 (.inr e))]; rfl
theorem peek_ok {N : Nat} (hN : 100 < N) {s : ByteArray} {p n : Nat} (hs : s.size < 4294967296) (hn : n ≤ 32) (h : p + n ≤ 8 * s.size) :
    overspill_inbits_Reader_Peek N n s p = some (numB (((unpack (bl s)).drop p).take n), 0) := by
  unfold overspill_inbits_Reader_Peek
  have c1 : ¬ ((n : Int) < 0) := by omega
  have c2 : ¬ ((32 : Int) < (n : Int)) := by omega
  have i1 : inK .i64 ((8 : Int) * (s.size : Int)) := in64 (by omega) (by omega)
  have i2 : inK .i64 (((8 : Int) * (s.size : Int)) - p) := in64 (by omega) (by omega)
  have c3 : ¬ (((8 : Int) * (s.size : Int)) - p < (n : Int)) := by omega
  have hlen : (unpack (bl s)).length = 8 * s.size := by rw [unpack_length, bl_length]
  have hit : iter (overspill_inbits_Reader_Peek_b1 N n s p) N (0, 0) = some (numB (((unpack (bl s)).drop p).take n)) := by
    refine iter_to (fun j => (numB (((unpack (bl s)).drop p).take j), (j : Int))) n ?_ ?_ ?_ (by omega)
    · simp [numB]
    · intro j hj
      have g1 : (j : Int) < n := by omega
      have g2 := inS (i := j) (by omega)
      have e1 : (p : Int) + j = ((p + j : Nat) : Int) := by omega
      have e2 : (((p + j : Nat) : Int) / 8) = (((p + j) / 8 : Nat) : Int) := by omega
      have e3 : (((p + j : Nat) : Int) % 8) = (((p + j) % 8 : Nat) : Int) := by omega
      have e4 : (7 : Int) - (((p + j) % 8 : Nat) : Int) = ((7 - (p + j) % 8 : Nat) : Int) := by omega
      have i3 : inK .i64 ((p + j : Nat) : Int) := inI (by omega)
      have i4 : (((p + j) / 8 : Nat) : Int) < (s.size : Int) := by omega
      have i5 : inK .i64 ((7 - (p + j) % 8 : Nat) : Int) := inI (by omega)
      have i6 : inK .u64 ((7 - (p + j) % 8 : Nat) : Int) := inU64 (by omega) (by omega)
      have i7 : 7 - (p + j) % 8 ≤ 8 := by omega
      obtain ⟨b1, b2⟩ := byteI_in s ((p + j) / 8)
      have i8 := shrP (byteI s ((p + j) / 8)) (7 - (p + j) % 8) b1
      obtain ⟨m1, m2'⟩ := m2 (byteI s ((p + j) / 8) / 2 ^ (7 - (p + j) % 8))
      have i9 : inK .i64 (byteI s ((p + j) / 8) / 2 ^ (7 - (p + j) % 8) % 2) := in64 (by omega) (by omega)
      obtain ⟨n1, n2⟩ := numB_take_in ((unpack (bl s)).drop p) j (by omega)
      have i10 : inK .i64 (numB (((unpack (bl s)).drop p).take j) * 2 ^ Int.toNat 1) := by
        rw [show (2 : Int) ^ Int.toNat 1 = 2 from rfl]; exact in64 (by omega) (by omega)
      have i11 : 0 ≤ numB (((unpack (bl s)).drop p).take j) * 2 ^ Int.toNat 1 := by
        rw [show (2 : Int) ^ Int.toNat 1 = 2 from rfl]; omega
      have hbit : (((unpack (bl s)).drop p).getD j false).toInt = byteI s ((p + j) / 8) / 2 ^ (7 - (p + j) % 8) % 2 := by
        rw [List.getD_eq_getElem?_getD, List.getElem?_drop, ← List.getD_eq_getElem?_getD, unpack_getD _ _ (by rw [bl_length]; omega), ← byteI_bl]
        rcases (show byteI s ((p + j) / 8) / 2 ^ (7 - (p + j) % 8) % 2 = 0 ∨ byteI s ((p + j) / 8) / 2 ^ (7 - (p + j) % 8) % 2 = 1 by omega) with e | e <;> simp [e, Bool.toInt]
      have hor : orI (numB (((unpack (bl s)).drop p).take j) * 2 ^ Int.toNat 1) (byteI s ((p + j) / 8) / 2 ^ (7 - (p + j) % 8) % 2) = numB (((unpack (bl s)).drop p).take (j + 1)) := by
        rw [orI_eq i11 m1]
        rw [numB_one _ j (by rw [List.length_drop]; omega), hbit]
        obtain ⟨q, hq⟩ : ∃ q : Nat, numB (((unpack (bl s)).drop p).take j) = q := ⟨_, (Int.toNat_of_nonneg n1).symm⟩
        rw [hq, show (2 : Int) ^ Int.toNat 1 = 2 from rfl, show ((q : Int) * 2).toNat = 2 * q by omega]
        rcases (show byteI s ((p + j) / 8) / 2 ^ (7 - (p + j) % 8) % 2 = 0 ∨ byteI s ((p + j) / 8) / 2 ^ (7 - (p + j) % 8) % 2 = 1 by omega) with e | e <;> rw [e]
        · simp
        · have : (2 * q ||| 1) = 2 * q + 1 := by
            have := Nat.two_pow_add_eq_or_of_lt (i := 1) (b := 1) (by decide) q
            simpa using this.symm
          rw [show Int.toNat 1 = 1 from rfl, this]; omega
      simp only [overspill_inbits_Reader_Peek_b1, decide_eq_true g1, cond_true, e1, e2, e3, e4, Int.toNat_natCast, and1 i8, hor, i3, i4, i5, i6, i7, i8, i9, i10, i11, m1, g2, Int.natCast_nonneg, and_self, if_true]
      exact congrArg (fun s => some (Sum.inl s)) (Prod.ext rfl (Int.natCast_succ j).symm)
    · simp [overspill_inbits_Reader_Peek_b1]
  simp only [decide_eq_false c1, decide_eq_false c2, cond_false, i1, i2, and_self, if_true, decide_eq_false c3, hit, Option.bind_some]
theorem peek_end {N : Nat} {s : ByteArray} {p n : Nat} (hs : s.size < 4294967296) (hn : n ≤ 32) (hp : p < 4294967296) (h : 8 * s.size < p + n) : overspill_inbits_Reader_Peek N n s p = some (0, 2) := by
  unfold overspill_inbits_Reader_Peek
  have c1 : ¬ ((n : Int) < 0) := by omega
  have c2 : ¬ ((32 : Int) < (n : Int)) := by omega
  have i1 : inK .i64 ((8 : Int) * (s.size : Int)) := in64 (by omega) (by omega)
  have i2 : inK .i64 (((8 : Int) * (s.size : Int)) - p) := in64 (by omega) (by omega)
  have c3 : ((8 : Int) * (s.size : Int)) - p < (n : Int) := by omega
  simp only [decide_eq_false c1, decide_eq_false c2, cond_false, i1, i2, and_self, if_true, decide_eq_true c3, cond_true]
theorem take_ok {N : Nat} (hN : 100 < N) {s : ByteArray} {p n : Nat} (hs : s.size < 4294967296) (hn : n ≤ 32) (h : p + n ≤ 8 * s.size) :
    overspill_inbits_Reader_Take N n s p = some (numB (((unpack (bl s)).drop p).take n), 0, s, ((p + n : Nat) : Int)) := by
  unfold overspill_inbits_Reader_Take
  rw [peek_ok hN hs hn h]
  have i1 : inK .i64 ((p : Int) + n) := in64 (by omega) (by omega)
  have e : (p : Int) + n = ((p + n : Nat) : Int) := by omega
  simp [i1]
theorem take_end {N : Nat} {s : ByteArray} {p n : Nat} (hs : s.size < 4294967296) (hn : n ≤ 32) (hp : p < 4294967296) (h : 8 * s.size < p + n) : overspill_inbits_Reader_Take N n s p = some (0, 2, s, (p : Int)) := by
  unfold overspill_inbits_Reader_Take
  rw [peek_end hs hn hp h]
  simp
theorem unpB_packB (bits : List Bool) : unpB (packB bits) bits.length = bits := by
  unfold unpB
  rw [unpack_packB, Int.toNat_natCast, List.take_left' rfl]
set_option maxRecDepth 20000 in
theorem bit_ok (N : Nat) (b : Bool) {bits : List Bool} (h : bits.length ≤ 1099511627776) : overspill_outbits_Writer_bit N b bits = some (bits ++ [b]) := by
  have i1 : (bits.length : Int) ≤ 9223372036854775800 := by omega
  have i2 : (0 : Int) ≤ (bits.length : Int) := by omega
  have e1 : ((bits.length : Int) / 8).toNat = bits.length / 8 := by omega
  have i3 : (0 : Int) ≤ ((bits.length : Int) / 8) := by omega
  have i4 : inK .i64 ((7 : Int) - ((bits.length : Int) % 8)) := in64 (by omega) (by omega)
  have i5 : inK .u64 ((7 : Int) - ((bits.length : Int) % 8)) := inU64 (by omega) (by omega)
  have i6 : (0 : Int) ≤ ((7 : Int) - ((bits.length : Int) % 8)) := by omega
  have i7 : (((7 : Int) - ((bits.length : Int) % 8))).toNat ≤ 8 := by omega
  have i8 : inK .u8 ((1 : Int) * 2 ^ (Int.toNat ((7 : Int) - ((bits.length : Int) % 8)))) := by
    have : ∀ m, m < 8 → inK .u8 ((1 : Int) * 2 ^ m) := by decide
    exact this _ (by omega)
  have i9 : (0 : Int) ≤ ((1 : Int) * 2 ^ (Int.toNat ((7 : Int) - ((bits.length : Int) % 8)))) := by
    have := i8; unfold inK at this; exact this.1
  have i10 : inK .i64 ((bits.length : Int) + 1) := in64 (by omega) (by omega)
  have hrl := roomy_length bits
  have hpos : 0 ≤ (roomy bits).getD (bits.length / 8) 0 := by
    rw [List.getD_eq_getElem?_getD, roomy_get, if_pos (Nat.le_refl _)]; exact (byteAt_in _ _).1
  have K : ∀ m : Nat, m = bits.length / 8 + 1 → (if (b = true → (0 : Int) ≤ (bits.length : Int)) ∧ (b = true → (0 : Int) ≤ ((bits.length : Int) / 8)) ∧ (b = true → ((bits.length : Int) / 8) < (m : Int)) ∧ (b = true → ((bits.length : Int) / 8).toNat < m) ∧ (b = true → inK .i64 ((7 : Int) - ((bits.length : Int) % 8))) ∧ (b = true → inK .u64 ((7 : Int) - ((bits.length : Int) % 8))) ∧ (b = true → (0 : Int) ≤ ((7 : Int) - ((bits.length : Int) % 8))) ∧ (b = true → (((7 : Int) - ((bits.length : Int) % 8))).toNat ≤ 8) ∧ (b = true → inK .u8 ((1 : Int) * 2 ^ (Int.toNat ((7 : Int) - ((bits.length : Int) % 8))))) ∧ (b = true → (0 : Int) ≤ ((roomy bits).getD ((bits.length : Int) / 8).toNat 0)) ∧ (b = true → (0 : Int) ≤ ((1 : Int) * 2 ^ (Int.toNat ((7 : Int) - ((bits.length : Int) % 8))))) then
          let x1 := (bif b then ((roomy bits).set ((bits.length : Int) / 8).toNat (orI ((roomy bits).getD ((bits.length : Int) / 8).toNat 0) ((1 : Int) * 2 ^ (Int.toNat ((7 : Int) - ((bits.length : Int) % 8)))))) else (roomy bits))
          if inK .i64 ((bits.length : Int) + 1) then
            if packB (unpB x1 ((bits.length : Int) + 1)) = x1 ∧ ((unpB x1 ((bits.length : Int) + 1)).length : Int) = ((bits.length : Int) + 1) then
              some (unpB x1 ((bits.length : Int) + 1))
            else none
          else none
        else none) = some (bits ++ [b]) := by
    intro m hm
    have j1 : ((bits.length : Int) / 8) < (m : Int) := by omega
    have j2 : bits.length / 8 < m := by omega
    have hx : (bif b then ((roomy bits).set ((bits.length : Int) / 8).toNat (orI ((roomy bits).getD ((bits.length : Int) / 8).toNat 0) ((1 : Int) * 2 ^ (Int.toNat ((7 : Int) - ((bits.length : Int) % 8)))))) else (roomy bits)) = packB (bits ++ [b]) := by
      rw [e1, orI_eq hpos i9]
      cases b
      · exact (packB_zero bits).symm
      · exact (packB_one bits).symm
    have hl : (bits.length : Int) + 1 = ((bits ++ [b]).length : Int) := by simp
    have hu : unpB (packB (bits ++ [b])) ((bits.length : Int) + 1) = bits ++ [b] := by rw [hl]; exact unpB_packB _
    rw [if_pos ⟨fun _ => i2, fun _ => i3, fun _ => j1, fun _ => (by rw [e1]; exact j2), fun _ => i4, fun _ => i5, fun _ => i6, fun _ => i7, fun _ => i8, fun _ => (by rw [e1]; exact hpos), fun _ => i9⟩]
    simp only [hx, hu, i10, if_true, true_and]
    rw [if_pos hl.symm]
  unfold overspill_outbits_Writer_bit
  rw [if_pos i1, if_pos i2]
  dsimp only [joinK]
  by_cases h8 : (bits.length : Int) % 8 = 0
  · have e2 : (bits.length + 7) / 8 + 1 = bits.length / 8 + 1 := by omega
    have hr : packB bits ++ (((List.replicate 1 (0 : Int)).set 0 0).take 1) = roomy bits := by unfold roomy; rw [if_pos (by omega)]; rfl
    rw [decide_eq_true h8, cond_true, if_pos ⟨Nat.le_refl _, by omega, by omega⟩]
    simp only [hr, true_and]
    exact K _ e2
  · have e2 : (bits.length + 7) / 8 = bits.length / 8 + 1 := by omega
    have hr : packB bits = roomy bits := by unfold roomy; rw [if_neg (by omega)]
    rw [decide_eq_false h8, cond_false]
    simp only [hr, true_and]
    exact K _ e2
theorem put_ok {N : Nat} (hN : 100 < N) {v : Int} {n : Nat} {bits : List Bool} (hb : bits.length ≤ 1000000000000) (h : n ≤ 32) (h0 : 0 ≤ v) (h1 : v < 2 ^ n) : overspill_outbits_Writer_Put N v n bits = some (0, bits ++ digits v n) := by
  unfold overspill_outbits_Writer_Put
  have hf : (0 : Int) ≤ (n : Int) ∧ (n : Int) ≤ 32 ∧ 0 ≤ v ∧ v < 2 ^ (n : Int).toNat := ⟨by omega, by omega, h0, by simpa using h1⟩
  rw [fits_eq, decide_eq_true hf]
  have i1 : inK .i64 ((n : Int) - 1) := in64 (by omega) (by omega)
  have hit : iter (overspill_outbits_Writer_Put_b1 N v) N ((n : Int) - 1, bits) = some (bits ++ digits v n) := by
    refine iter_to (fun j => ((n : Int) - 1 - j, bits ++ (digits v n).take j)) n ?_ ?_ ?_ (by omega)
    · simp
    · intro j hj
      obtain ⟨k, hk⟩ : ∃ k : Nat, (n : Int) - 1 - j = k := ⟨n - 1 - j, by omega⟩
      have hk' : n - 1 - j = k := by omega
      have g1 : (0 : Int) ≤ (k : Int) := by omega
      have g2 : inK .u64 (k : Int) := inU64 (by omega) (by omega)
      have g3 : k ≤ 64 := by omega
      have g4 := shrP v k h0
      have g9 : inK .i64 ((k : Int) - 1) := in64 (by omega) (by omega)
      have hl : (bits ++ (digits v n).take j).length ≤ 1099511627776 := by rw [List.length_append, List.length_take, digits_length]; omega
      simp only [overspill_outbits_Writer_Put_b1, hk, decide_eq_true g1, cond_true, Int.toNat_natCast, and1 g4, bit_ok N _ hl, g1, g2, g3, g4, g9, Option.isSome_some, Option.getD_some, and_self, if_true]
      refine congrArg (fun s => some (Sum.inl s)) (Prod.ext ?_ ?_)
      · show (k : Int) - 1 = _; simp only []; omega
      · show bits ++ (digits v n).take j ++ [decide (v / 2 ^ k % 2 = 1)] = bits ++ (digits v n).take (j + 1)
        rw [digits_step v n j hj, hk', List.append_assoc]
    · have : ¬ (0 : Int) ≤ (n : Int) - 1 - n := by omega
      simp only [overspill_outbits_Writer_Put_b1, decide_eq_false this, cond_false]
      rw [List.take_of_length_le (by rw [digits_length]; omega)]
  simp only [Option.isSome_some, Option.getD_some, implies_true, if_true, Bool.not_true, cond_false, i1, hit, Option.bind_some]
theorem put_bad {N : Nat} {v n : Int} {bits : List Bool} (h : ¬ (0 ≤ n ∧ n ≤ 32 ∧ 0 ≤ v ∧ v < 2 ^ n.toNat)) : overspill_outbits_Writer_Put N v n bits = some (1, bits) := by
  unfold overspill_outbits_Writer_Put
  rw [fits_eq, decide_eq_false h]
  rfl
theorem oplain_ok {N : Nat} {s : ByteArray} (hN : s.size < N) (hs : s.size < 4294967296) : outbits_plain N s = some (plainL (bl s)) := by
  have big : (s.size : Int) ≤ 9223372036854775807 := by omega
  have st : ∀ j, j < s.size → (byteI s j = 48 ∨ byteI s j = 49) → outbits_plain_b1 N s j = some (.inl (j + 1)) := by
    intro j hj hb
    obtain ⟨d1, d2⟩ := decode_plain hj (show byteI s j < 128 by omega)
    rcases hb with hb | hb <;> simp [outbits_plain_b1, big, hj, d1, d2, hb]
  unfold outbits_plain
  rcases first_or (fun j => ¬ (byteI s j = 48 ∨ byteI s j = 49)) s.size with h | ⟨k, h1, h2, h3⟩
  · have hp : plainL (bl s) = true := by
      have : ∀ j, j ≤ s.size → plainL ((bl s).take j) = true := by
        intro j
        induction j with
        | zero => intro _; simp [plainL]
        | succ j ih =>
          intro hj
          rw [plain_step (by omega), ih (by omega)]
          have := Classical.not_not.mp (h j (by omega))
          rcases this with e | e <;> simp [e]
      have h' := this s.size (Nat.le_refl _)
      rwa [plain_all (Nat.le_refl _)] at h'
    have hit : iter (outbits_plain_b1 N s) N 0 = some (.inr ()) := iter_to (fun i => i) s.size rfl (fun i hi => st i hi (Classical.not_not.mp (h i hi))) (by simp [outbits_plain_b1, big]) (by omega)
    rw [hit, hp]; rfl
  · have hit : iter (outbits_plain_b1 N s) N 0 = some (.inl ()) := by
      refine iter_to (fun i => i) k rfl (fun i hi => st i (by omega) (Classical.not_not.mp (h3 i hi))) ?_ (by omega)
      have n1 : byteI s k ≠ 48 := fun e => h2 (.inl e)
      have n2 : byteI s k ≠ 49 := fun e => h2 (.inr e)
      rcases rune_cases s k with r | r | r
      · exact absurd h1 r
      · exact absurd r.1 h2
      · simp [outbits_plain_b1, big, h1, r.2.2.1, r.2.2.2]
    rw [hit, plain_bad h1 (fun e => h2 (.inl e)) (fun e => h2 (.inr e))]; rfl
theorem add_ok {N : Nat} {s : ByteArray} {bits : List Bool} (hN : s.size < N) (hs : s.size ≤ 1000000000) (hb : bits.length ≤ 1000000000000) (hp : plainL (bl s) = true) : overspill_outbits_Writer_Add N s bits = some (0, bits ++ bitsT (bl s)) := by
  have big : (s.size : Int) ≤ 9223372036854775807 := by omega
  have hl : (bitsT (bl s)).length = s.size := by rw [bitsT_length, bl_length]
  unfold overspill_outbits_Writer_Add
  rw [oplain_ok hN (by omega), hp]
  have hit : iter (overspill_outbits_Writer_Add_b1 N s) N (bits, 0) = some (bits ++ bitsT (bl s)) := by
    refine iter_to (fun j => (bits ++ (bitsT (bl s)).take j, j)) s.size (by simp) ?_ ?_ hN
    · intro j hj
      have hbj := plain_at hp hj
      obtain ⟨d1, d2⟩ := decode_plain hj (show byteI s j < 128 by omega)
      have hlen : (bits ++ (bitsT (bl s)).take j).length ≤ 1099511627776 := by rw [List.length_append, List.length_take]; omega
      simp only [overspill_outbits_Writer_Add_b1, big, if_true, decide_eq_true hj, cond_true, d1, d2, bit_ok N _ hlen, Option.isSome_some, Option.getD_some]
      refine congrArg (fun s => some (Sum.inl s)) (Prod.ext ?_ rfl)
      show bits ++ (bitsT (bl s)).take j ++ [decide (byteI s j = 49)] = _
      rw [List.append_assoc, ← bits_step hj]
    · simp only [overspill_outbits_Writer_Add_b1, big, if_true, decide_eq_false (Nat.lt_irrefl _), cond_false]
      rw [List.take_of_length_le (by omega)]
  simp only [Option.isSome_some, implies_true, if_true, Option.getD_some, Bool.not_true, cond_false, hit, Option.bind_some]
theorem add_bad {N : Nat} {s : ByteArray} {bits : List Bool} (hN : s.size < N) (hs : s.size ≤ 1000000000) (hp : plainL (bl s) = false) : overspill_outbits_Writer_Add N s bits = some (1, bits) := by
  unfold overspill_outbits_Writer_Add
  rw [oplain_ok hN (by omega), hp]
  rfl
theorem text_ok {N : Nat} {bits : List Bool} (hb : bits.length ≤ 1099511627776) : overspill_outbits_Writer_Text N bits = some (bytesOf (packB bits), bits) := by
  have i1 : (bits.length : Int) ≤ 9223372036854775800 := by omega
  have i2 : (((bits.length + 7) / 8) : Int) ≤ 9223372036854775807 := by omega
  unfold overspill_outbits_Writer_Text
  rw [if_pos i1, if_pos (by omega), List.take_of_length_le (by rw [packB_length]; omega)]
theorem len_ok {N : Nat} {bits : List Bool} (hb : bits.length ≤ 1099511627776) : overspill_outbits_Writer_Len N bits = some ((bits.length : Int), bits) := by
  have i1 : (bits.length : Int) ≤ 9223372036854775800 := by omega
  unfold overspill_outbits_Writer_Len
  rw [if_pos i1]
theorem pack_ok {N : Nat} {s : ByteArray} (hN : s.size + 100 < N) (hs : s.size ≤ 1000000000) (hp : plainL (bl s) = true) : ref02_Pack N s = some (bytesOf (packB (bitsT (bl s)))) := by
  let B := bitsT (bl s)
  have hB : B.length = s.size := by show (bitsT (bl s)).length = _; rw [bitsT_length, bl_length]
  have hs' : s = rowT B := (rowT_bits hp).symm
  let k := (8 - s.size % 8) % 8
  let C := B ++ List.replicate k false
  have hC : C.length = s.size + k := by show (B ++ List.replicate k false).length = _; rw [List.length_append, List.length_replicate, hB]
  have hk : k = (8 - s.size % 8) % 8 := rfl
  have hpad : iter (ref02_Pack_b2 N) N s = some (rowT C) := by
    refine iter_to (fun j => rowT (B ++ List.replicate j false)) k (by simpa using hs') ?_ ?_ (by omega)
    · intro j hj
      have hsz : (rowT (B ++ List.replicate j false)).size = s.size + j := by rw [rowT_size, List.length_append, List.length_replicate, hB]
      have g1 : ((s.size + j : Nat) : Int) % 8 ≠ 0 := by omega
      have g2 : ((s.size + j : Nat) : Int) + 1 ≤ 9223372036854775807 := by omega
      have g3 : (ByteArray.size ⟨#[48]⟩ : Int) = 1 := rfl
      simp only [ref02_Pack_b2, hsz, Int.natCast_nonneg, if_true, decide_eq_true g1, cond_true, g3, g2]
      refine congrArg (fun s => some (Sum.inl s)) ?_
      rw [show (⟨#[48]⟩ : ByteArray) = rowT [false] from rfl, rowT_append, List.append_assoc, ← List.replicate_succ']
    · have hsz : (rowT (B ++ List.replicate k false)).size = s.size + k := by rw [rowT_size, List.length_append, List.length_replicate, hB]
      have g1 : ¬ (((s.size + k : Nat) : Int) % 8 ≠ 0) := by omega
      simp only [ref02_Pack_b2, hsz, Int.natCast_nonneg, if_true, decide_eq_false g1, cond_false]
      rfl
  obtain ⟨m, hm⟩ : ∃ m, C.length = 8 * m := ⟨(s.size + k) / 8, by omega⟩
  have hpk : packB C = packB B := packB_pad B k (by omega) (by rw [hB]; omega)
  have hml : (packB C).length = m := by rw [packB_length]; omega
  have hit : iter (ref02_Pack_b1 N (rowT C)) N (0, 0, 0, []) = some (m, m, packB C) := by
    refine iter_to (fun j => (j, ((8 * j : Nat) : Int), j, (packB C).take j)) m (by simp) ?_ ?_ (by omega)
    · intro j hj
      have hsz : (rowT C).size = 8 * m := by rw [rowT_size, hm]
      have g1 : ((8 * j : Nat) : Int) < ((8 * m : Nat) : Int) := by omega
      have e1 : ((8 * j : Nat) : Int) + 8 = ((8 * j + 8 : Nat) : Int) := by omega
      have g2 : inK .i64 ((8 * j + 8 : Nat) : Int) := inI (by omega)
      have g3 : ((8 * j : Nat) : Int) ≤ ((8 * j + 8 : Nat) : Int) := by omega
      have g4 : ((8 * j + 8 : Nat) : Int) ≤ ((8 * m : Nat) : Int) := by omega
      have hx : (rowT C).extract (8 * j) (8 * j + 8) = rowT ((C.drop (8 * j)).take 8) := by rw [rowT_extract]; congr 2; omega
      have hxl : ((C.drop (8 * j)).take 8).length = 8 := by rw [List.length_take, List.length_drop]; omega
      have hnum : ref02_Number N (rowT ((C.drop (8 * j)).take 8)) = some (numB ((C.drop (8 * j)).take 8)) := by
        rw [num_ok (by omega) (plain_rowT _) (by rw [rowT_size]; omega), bits_rowT]
      have hin := numB_in ((C.drop (8 * j)).take 8)
      rw [hxl] at hin
      have g5 : inK .u8 (numB ((C.drop (8 * j)).take 8)) := by unfold inK; omega
      have g6 : j + 1 ≤ 140737488355328 := by omega
      have g7 : j + 1 ≤ 9223372036854775807 := by omega
      simp only [ref02_Pack_b1, hsz, decide_eq_true g1, cond_true, e1, Int.toNat_natCast, hx, hnum, g2, g3, g4, g5, g6, g7, Int.natCast_nonneg, Option.isSome_some, Option.getD_some, Nat.le_refl, Nat.mul_one, and_self, if_true]
      refine congrArg (fun s => some (Sum.inl s)) (Prod.ext rfl (Prod.ext ?_ (Prod.ext rfl ?_)))
      · show ((8 * j + 8 : Nat) : Int) = ((8 * (j + 1) : Nat) : Int); omega
      · show (packB C).take j ++ List.take 1 (List.set (List.replicate 1 0) 0 (numB ((C.drop (8 * j)).take 8))) = (packB C).take (j + 1)
        rw [packB_take_step C j (by omega)]; rfl
    · have hsz : (rowT C).size = 8 * m := by rw [rowT_size, hm]
      simp only [ref02_Pack_b1, hsz, decide_eq_false (Int.lt_irrefl _), cond_false]
      rw [List.take_of_length_le (by omega)]
  have i3 : (m : Int) ≤ 9223372036854775807 := by omega
  unfold ref02_Pack
  rw [hpad]
  simp only [Option.bind_some, hit, Nat.le_refl, i3, and_self, if_true]
  rw [List.take_of_length_le (by omega), hpk]
theorem show_ok {N : Nat} {s : ByteArray} (hN : s.size + 100 < N) (hs : s.size ≤ 1000000000) : ref02_Show N s = some (rowT (unpack (bl s))) := by
  have hlen : (unpack (bl s)).length = 8 * s.size := by rw [unpack_length, bl_length]
  unfold ref02_Show
  have hit : iter (ref02_Show_b1 N s) N (0, 0, 0, []) = some (8 * s.size, 8 * s.size, txt (unpack (bl s))) := by
    refine iter_to (fun j => (8 * j, (j : Int), 8 * j, txt ((unpack (bl s)).take (8 * j)))) s.size (by simp [txt]) ?_ ?_ (by omega)
    · intro j hj
      have g1 : (j : Int) < s.size := by omega
      have g2 := inS (i := j) (by omega)
      obtain ⟨b1, b2⟩ := byteI_in s j
      have g3 : inK .i64 (byteI s j) := in64 (by omega) (by omega)
      have hr : ref02_Row N (byteI s j) 8 = some (rowT (digits (byteI s j) 8)) := rrow_ok (n := 8) (by omega) (by omega) b1
      have hz : (rowT (digits (byteI s j) 8)).size = 8 := by rw [rowT_size, digits_length]
      have g4 : 8 * j + 8 ≤ 140737488355328 := by omega
      have g5 : 8 * j + 8 ≤ 9223372036854775807 := by omega
      simp only [ref02_Show_b1, decide_eq_true g1, cond_true, Int.toNat_natCast, hr, hz, bl_rowT, g1, g2, g3, g4, g5, Int.natCast_nonneg, Option.isSome_some, Option.getD_some, Nat.mul_one, and_self, if_true]
      refine congrArg (fun s => some (Sum.inl s)) (Prod.ext rfl (Prod.ext (Int.natCast_succ j).symm (Prod.ext rfl ?_)))
      show txt ((unpack (bl s)).take (8 * j)) ++ txt (digits (byteI s j) 8) = txt ((unpack (bl s)).take (8 * (j + 1)))
      rw [unpack_byte _ _ (by rw [bl_length]; exact hj), ← byteI_bl, txt_append]
    · simp only [ref02_Show_b1, decide_eq_false (Int.lt_irrefl _), cond_false]
      rw [List.take_of_length_le (by omega)]
  have i3 : ((8 * s.size : Nat) : Int) ≤ 9223372036854775807 := by omega
  simp only [hit, Option.bind_some, Nat.le_refl, i3, and_self, if_true]
  rw [List.take_of_length_le (by rw [txt_length]; omega)]
  rfl
end Go.Proofs.Ytngghhpbjppkcaa
