/- What the printed models answer: plain laws. -/
import Derived.Test.YtlcjjaglbcfbbaaDoorE3
set_option linter.unusedVariables false
set_option linter.unusedSimpArgs false
namespace Go.Proofs.YtlcjjaglbcfbbaaDoor
open Go.X

theorem and1 {x : Int} (h : 0 ≤ x) : ((Int.toNat x &&& Int.toNat 1 : Nat) : Int) = x % 2 := and_one x h
theorem inS {i : Nat} (h : i < 4294967296) : inK .i64 ((i : Int) + 1) := in64 (by omega) (by omega)
theorem shrP (v : Int) (k : Nat) (h : 0 ≤ v) : 0 ≤ v / 2 ^ k := (shr_in v k h).1
theorem m2 (x : Int) : 0 ≤ x % 2 ∧ x % 2 ≤ 1 := by omega
theorem fits_eq (N : Nat) {v n : Int} : outbits_fits N v n = some (decide (0 ≤ n ∧ n ≤ 32 ∧ 0 ≤ v ∧ v < 2 ^ n.toNat)) := by
 unfold outbits_fits
 by_cases h1 : 0 ≤ n
 ·
  by_cases h2 : n ≤ 32
  ·
   by_cases h3 : 0 ≤ v
   ·
    obtain ⟨m, rfl⟩ : ∃ m : Nat, n = m := ⟨n.toNat, by omega⟩
    have i1 : inK .u64 (m : Int) := inU64 (by omega) (by omega)
    have hm : m ≤ 32 := by omega
    have i2 : inK .i64 ((1 : Int) * 2 ^ m) := by
     have : ∀ m, m ≤ 32 → inK .i64 ((1 : Int) * 2 ^ m) := by decide
     exact this m hm
    have i3 : inK .i64 ((2 : Int) ^ m) := by simpa using i2
    simp [h2, h3, hm, i1, i2, i3]
    try omega
   ·
    simp [h1, h2, h3]
  ·
   simp [h1, h2]
 ·
  simp [h1]
theorem row_ok {N : Nat} (hN : 100 < N) {v : Int} {n : Nat} (h : n ≤ 32) (h0 : 0 ≤ v) (h1 : v < 2 ^ n) : outbits_Row N v n = some (rowT (digits v n), 0) := by
 unfold outbits_Row
 have hf : (0 : Int) ≤ (n : Int) ∧ (n : Int) ≤ 32 ∧ 0 ≤ v ∧ v < 2 ^ (n : Int).toNat := ⟨by omega, by omega, h0, by simpa using h1⟩
 rw [fits_eq, decide_eq_true hf]
 have i1 : inK .i64 ((n : Int) - 1) := in64 (by omega) (by omega)
 have i2 : (n : Int) * 1 ≤ 140737488355328 := by omega
 have hit : iter (outbits_Row_b1 N v) N (0, ((n : Int) - 1), 0, (List.replicate 0 0)) = some (n, n, txt (digits v n)) := by
  refine iter_to (fun j => (j, (n : Int) - 1 - j, j, txt ((digits v n).take j))) n ?_ ?_ ?_ (by omega)
  ·
   simp [txt]
  ·
   intro j hj
   obtain ⟨k, hk⟩ : ∃ k : Nat, (n : Int) - 1 - j = k := ⟨n - 1 - j, by omega⟩
   have hk' : n - 1 - j = k := by omega
   have g1 : (0 : Int) ≤ (k : Int) := by omega
   have g2 : inK .u64 (k : Int) := inU64 (by omega) (by omega)
   have g3 : k ≤ 64 := by omega
   have g4 := shrP v k h0
   obtain ⟨g5, g6⟩ := m2 (v / 2 ^ k)
   have g7 : inK .u8 (v / 2 ^ k % 2) := by unfold inK; omega
   have g8 : inK .u8 (48 + v / 2 ^ k % 2) := by unfold inK; omega
   have g9 : inK .i64 ((k : Int) - 1) := in64 (by omega) (by omega)
   have g10 : j + 1 ≤ 140737488355328 := by omega
   have g11 : j + 1 ≤ 9223372036854775807 := by omega
   simp only [outbits_Row_b1, hk, decide_eq_true g1, cond_true, Int.toNat_natCast, and1 g4, g1, g2, g3, g4, g7, g8, g9, g10, g11, Nat.mul_one, Nat.le_refl, and_self, if_true]
   refine congrArg (fun s => some (Sum.inl s)) (Prod.ext rfl (Prod.ext ?_ (Prod.ext rfl ?_)))
   ·
    show (k : Int) - 1 = _; simp only []; omega
   ·
    show txt ((digits v n).take j) ++ List.take 1 (List.set (List.replicate 1 0) 0 (48 + v / 2 ^ k % 2)) = txt ((digits v n).take (j + 1))
    rw [digits_step v n j hj, txt_append, hk']
    refine congrArg (fun y => txt ((digits v n).take j) ++ y) ?_
    show [48 + v / 2 ^ k % 2] = txt [decide (v / 2 ^ k % 2 = 1)]
    rcases (show v / 2 ^ k % 2 = 0 ∨ v / 2 ^ k % 2 = 1 by omega) with e | e <;> simp [e, txt]
  ·
   have : ¬ (0 : Int) ≤ (n : Int) - 1 - n := by omega
   simp only [outbits_Row_b1, decide_eq_false this, cond_false]
   rw [List.take_of_length_le (by rw [digits_length]; omega)]
 have hl : (txt (digits v n)).length = n := by rw [txt_length, digits_length]
 have i3 : (n : Int) ≤ 9223372036854775807 := by omega
 simp only [Option.isSome_some, Option.getD_some, if_true, Bool.not_true, cond_false, i1, i2, hf.1, and_self, hit, Option.bind_some, Nat.le_refl, i3, true_and]
 rw [List.take_of_length_le (by omega)]
 rfl
theorem unpB_packB (bits : List Bool) : unpB (packB bits) bits.length = bits := by
 unfold unpB
 rw [unpack_packB, Int.toNat_natCast, List.take_left' rfl]
set_option maxRecDepth 20000 in
theorem bit_ok (N : Nat) (b : Bool) {bits : List Bool} (h : bits.length ≤ 1099511627776) : overspill_outbits_Writer_bit N b bits = some (bits ++ [b]) := by
 have i1 : (bits.length : Int) ≤ 9223372036854775800 := by omega
 have i2 : (0 : Int) ≤ (bits.length : Int) := by omega
 have e1 : ((bits.length : Int) / 8).toNat = bits.length / 8 := by omega
 have i3 : (0 : Int) ≤ ((bits.length : Int) / 8) := by omega
 have i4 : inK .i64 ((7 : Int) - ((bits.length : Int) % 8)) := in64 (by omega) (by omega)
 have i5 : inK .u64 ((7 : Int) - ((bits.length : Int) % 8)) := inU64 (by omega) (by omega)
 have i6 : (0 : Int) ≤ ((7 : Int) - ((bits.length : Int) % 8)) := by omega
 have i7 : (((7 : Int) - ((bits.length : Int) % 8))).toNat ≤ 8 := by omega
 have i8 : inK .u8 ((1 : Int) * 2 ^ (Int.toNat ((7 : Int) - ((bits.length : Int) % 8)))) := by
  have : ∀ m, m < 8 → inK .u8 ((1 : Int) * 2 ^ m) := by decide
  exact this _ (by omega)
 have i9 : (0 : Int) ≤ ((1 : Int) * 2 ^ (Int.toNat ((7 : Int) - ((bits.length : Int) % 8)))) := by
  have := i8; unfold inK at this; exact this.1
 have i10 : inK .i64 ((bits.length : Int) + 1) := in64 (by omega) (by omega)
 have hrl := roomy_length bits
 have hpos : 0 ≤ (roomy bits).getD (bits.length / 8) 0 := by
  rw [List.getD_eq_getElem?_getD, roomy_get, if_pos (Nat.le_refl _)]; exact (byteAt_in _ _).1
 have K : ∀ m : Nat, m = bits.length / 8 + 1 → (if (b = true → (0 : Int) ≤ (bits.length : Int)) ∧ (b = true → (0 : Int) ≤ ((bits.length : Int) / 8)) ∧ (b = true → ((bits.length : Int) / 8) < (m : Int)) ∧ (b = true → ((bits.length : Int) / 8).toNat < m) ∧ (b = true → inK .i64 ((7 : Int) - ((bits.length : Int) % 8))) ∧ (b = true → inK .u64 ((7 : Int) - ((bits.length : Int) % 8))) ∧ (b = true → (0 : Int) ≤ ((7 : Int) - ((bits.length : Int) % 8))) ∧ (b = true → (((7 : Int) - ((bits.length : Int) % 8))).toNat ≤ 8) ∧ (b = true → inK .u8 ((1 : Int) * 2 ^ (Int.toNat ((7 : Int) - ((bits.length : Int) % 8))))) ∧ (b = true → (0 : Int) ≤ ((roomy bits).getD ((bits.length : Int) / 8).toNat 0)) ∧ (b = true → (0 : Int) ≤ ((1 : Int) * 2 ^ (Int.toNat ((7 : Int) - ((bits.length : Int) % 8))))) then
     let x1 := (bif b then ((roomy bits).set ((bits.length : Int) / 8).toNat (orI ((roomy bits).getD ((bits.length : Int) / 8).toNat 0) ((1 : Int) * 2 ^ (Int.toNat ((7 : Int) - ((bits.length : Int) % 8)))))) else (roomy bits))
     if inK .i64 ((bits.length : Int) + 1) then
      if packB (unpB x1 ((bits.length : Int) + 1)) = x1 ∧ ((unpB x1 ((bits.length : Int) + 1)).length : Int) = ((bits.length : Int) + 1) then
       some (unpB x1 ((bits.length : Int) + 1))
      else none
     else none
    else none) = some (bits ++ [b]) := by
  intro m hm
  have j1 : ((bits.length : Int) / 8) < (m : Int) := by omega
  have j2 : bits.length / 8 < m := by omega
  have hx : (bif b then ((roomy bits).set ((bits.length : Int) / 8).toNat (orI ((roomy bits).getD ((bits.length : Int) / 8).toNat 0) ((1 : Int) * 2 ^ (Int.toNat ((7 : Int) - ((bits.length : Int) % 8)))))) else (roomy bits)) = packB (bits ++ [b]) := by
   rw [e1, orI_eq hpos i9]
   cases b
   ·
    exact (packB_zero bits).symm
   ·
    exact (packB_one bits).symm
  have hl : (bits.length : Int) + 1 = ((bits ++ [b]).length : Int) := by simp
  have hu : unpB (packB (bits ++ [b])) ((bits.length : Int) + 1) = bits ++ [b] := by rw [hl]; exact unpB_packB _
  rw [if_pos ⟨fun _ => i2, fun _ => i3, fun _ => j1, fun _ => (by rw [e1]; exact j2), fun _ => i4, fun _ => i5, fun _ => i6, fun _ => i7, fun _ => i8, fun _ => (by rw [e1]; exact hpos), fun _ => i9⟩]
  simp only [hx, hu, i10, if_true, true_and]
  rw [if_pos hl.symm]
 unfold overspill_outbits_Writer_bit
 rw [if_pos i1, if_pos i2]
 dsimp only [joinK]
 by_cases h8 : (bits.length : Int) % 8 = 0
 ·
  have e2 : (bits.length + 7) / 8 + 1 = bits.length / 8 + 1 := by omega
  have hr : packB bits ++ (((List.replicate 1 (0 : Int)).set 0 0).take 1) = roomy bits := by unfold roomy; rw [if_pos (by omega)]; rfl
  rw [decide_eq_true h8, cond_true, if_pos ⟨Nat.le_refl _, by omega, by omega⟩]
  simp only [hr, true_and]
  exact K _ e2
 ·
  have e2 : (bits.length + 7) / 8 = bits.length / 8 + 1 := by omega
  have hr : packB bits = roomy bits := by unfold roomy; rw [if_neg (by omega)]
  rw [decide_eq_false h8, cond_false]
  simp only [hr, true_and]
  exact K _ e2
theorem put_ok {N : Nat} (hN : 100 < N) {v : Int} {n : Nat} {bits : List Bool} (hb : bits.length ≤ 1000000000000) (h : n ≤ 32) (h0 : 0 ≤ v) (h1 : v < 2 ^ n) : overspill_outbits_Writer_Put N v n bits = some (0, bits ++ digits v n) := by
 unfold overspill_outbits_Writer_Put
 have hf : (0 : Int) ≤ (n : Int) ∧ (n : Int) ≤ 32 ∧ 0 ≤ v ∧ v < 2 ^ (n : Int).toNat := ⟨by omega, by omega, h0, by simpa using h1⟩
 rw [fits_eq, decide_eq_true hf]
 have i1 : inK .i64 ((n : Int) - 1) := in64 (by omega) (by omega)
 have hit : iter (overspill_outbits_Writer_Put_b1 N v) N ((n : Int) - 1, bits) = some (bits ++ digits v n) := by
  refine iter_to (fun j => ((n : Int) - 1 - j, bits ++ (digits v n).take j)) n ?_ ?_ ?_ (by omega)
  ·
   simp
  ·
   intro j hj
   obtain ⟨k, hk⟩ : ∃ k : Nat, (n : Int) - 1 - j = k := ⟨n - 1 - j, by omega⟩
   have hk' : n - 1 - j = k := by omega
   have g1 : (0 : Int) ≤ (k : Int) := by omega
   have g2 : inK .u64 (k : Int) := inU64 (by omega) (by omega)
   have g3 : k ≤ 64 := by omega
   have g4 := shrP v k h0
   have g9 : inK .i64 ((k : Int) - 1) := in64 (by omega) (by omega)
   have hl : (bits ++ (digits v n).take j).length ≤ 1099511627776 := by rw [List.length_append, List.length_take, digits_length]; omega
   simp only [overspill_outbits_Writer_Put_b1, hk, decide_eq_true g1, cond_true, Int.toNat_natCast, and1 g4, bit_ok N _ hl, g1, g2, g3, g4, g9, Option.isSome_some, Option.getD_some, and_self, if_true]
   refine congrArg (fun s => some (Sum.inl s)) (Prod.ext ?_ ?_)
   ·
    show (k : Int) - 1 = _; simp only []; omega
   ·
    show bits ++ (digits v n).take j ++ [decide (v / 2 ^ k % 2 = 1)] = bits ++ (digits v n).take (j + 1)
    rw [digits_step v n j hj, hk', List.append_assoc]
  ·
   have : ¬ (0 : Int) ≤ (n : Int) - 1 - n := by omega
   simp only [overspill_outbits_Writer_Put_b1, decide_eq_false this, cond_false]
   rw [List.take_of_length_le (by rw [digits_length]; omega)]
 simp only [Option.isSome_some, Option.getD_some, implies_true, if_true, Bool.not_true, cond_false, i1, hit, Option.bind_some]
theorem oplain_ok {N : Nat} {s : ByteArray} (hN : s.size < N) (hs : s.size < 4294967296) : outbits_plain N s = some (plainL (bl s)) := by
 have big : (s.size : Int) ≤ 9223372036854775807 := by omega
 have st : ∀ j, j < s.size → (byteI s j = 48 ∨ byteI s j = 49) → outbits_plain_b1 N s j = some (.inl (j + 1)) := by
  intro j hj hb
  obtain ⟨d1, d2⟩ := decode_plain hj (show byteI s j < 128 by omega)
  rcases hb with hb | hb <;> simp [outbits_plain_b1, big, hj, d1, d2, hb]
 unfold outbits_plain
 rcases first_or (fun j => ¬ (byteI s j = 48 ∨ byteI s j = 49)) s.size with h | ⟨k, h1, h2, h3⟩
 ·
  have hp : plainL (bl s) = true := by
   have : ∀ j, j ≤ s.size → plainL ((bl s).take j) = true := by
    intro j
    induction j with
    | zero => intro _; simp [plainL]
    | succ j ih =>
     intro hj
     rw [plain_step (by omega), ih (by omega)]
     have := Classical.not_not.mp (h j (by omega))
     rcases this with e | e <;> simp [e]
   have h' := this s.size (Nat.le_refl _)
   rwa [plain_all (Nat.le_refl _)] at h'
  have hit : iter (outbits_plain_b1 N s) N 0 = some (.inr ()) := iter_to (fun i => i) s.size rfl (fun i hi => st i hi (Classical.not_not.mp (h i hi))) (by simp [outbits_plain_b1, big]) (by omega)
  rw [hit, hp]; rfl
 ·
  have hit : iter (outbits_plain_b1 N s) N 0 = some (.inl ()) := by
   refine iter_to (fun i => i) k rfl (fun i hi => st i (by omega) (Classical.not_not.mp (h3 i hi))) ?_ (by omega)
   have n1 : byteI s k ≠ 48 := fun e => h2 (.inl e)
   have n2 : byteI s k ≠ 49 := fun e => h2 (.inr e)
   rcases rune_cases s k with r | r | r
   ·
    exact absurd h1 r
   ·
    exact absurd r.1 h2
   ·
    simp [outbits_plain_b1, big, h1, r.2.2.1, r.2.2.2]
  rw [hit, plain_bad h1 (fun e => h2 (.inl e)) (fun e => h2 (.inr e))]; rfl
theorem add_ok {N : Nat} {s : ByteArray} {bits : List Bool} (hN : s.size < N) (hs : s.size ≤ 1000000000) (hb : bits.length ≤ 1000000000000) (hp : plainL (bl s) = true) : overspill_outbits_Writer_Add N s bits = some (0, bits ++ bitsT (bl s)) := by
 have big : (s.size : Int) ≤ 9223372036854775807 := by omega
 have hl : (bitsT (bl s)).length = s.size := by rw [bitsT_length, bl_length]
 unfold overspill_outbits_Writer_Add
 rw [oplain_ok hN (by omega), hp]
 have hit : iter (overspill_outbits_Writer_Add_b1 N s) N (bits, 0) = some (bits ++ bitsT (bl s)) := by
  refine iter_to (fun j => (bits ++ (bitsT (bl s)).take j, j)) s.size (by simp) ?_ ?_ hN
  ·
   intro j hj
   have hbj := plain_at hp hj
   obtain ⟨d1, d2⟩ := decode_plain hj (show byteI s j < 128 by omega)
   have hlen : (bits ++ (bitsT (bl s)).take j).length ≤ 1099511627776 := by rw [List.length_append, List.length_take]; omega
   simp only [overspill_outbits_Writer_Add_b1, big, if_true, decide_eq_true hj, cond_true, d1, d2, bit_ok N _ hlen, Option.isSome_some, Option.getD_some]
   refine congrArg (fun s => some (Sum.inl s)) (Prod.ext ?_ rfl)
   show bits ++ (bitsT (bl s)).take j ++ [decide (byteI s j = 49)] = _
   rw [List.append_assoc, ← bits_step hj]
  ·
   simp only [overspill_outbits_Writer_Add_b1, big, if_true, decide_eq_false (Nat.lt_irrefl _), cond_false]
   rw [List.take_of_length_le (by omega)]
 simp only [Option.isSome_some, implies_true, if_true, Option.getD_some, Bool.not_true, cond_false, hit, Option.bind_some]
end Go.Proofs.YtlcjjaglbcfbbaaDoor
