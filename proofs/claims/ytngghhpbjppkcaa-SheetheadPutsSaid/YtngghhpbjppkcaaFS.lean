/- What the printed models answer: plain laws. -/
import Derived.Test.YtngghhpbjppkcaaFD
set_option linter.unusedVariables false
set_option linter.unusedSimpArgs false
namespace Go.Proofs.Ytngghhpbjppkcaa
open Go.X

/-! ### heads of sheets: reading -/
def bv (U : List Bool) (p n : Nat) : Int := numB ((U.drop p).take n)
theorem bv_in (U : List Bool) (p n : Nat) : 0 ≤ bv U p n ∧ bv U p n < 2 ^ n := by
  obtain ⟨h1, h2⟩ := numB_in ((U.drop p).take n)
  have hl : ((U.drop p).take n).length ≤ n := by rw [List.length_take]; omega
  have h3 : (2 : Int) ^ ((U.drop p).take n).length ≤ 2 ^ n := by exact_mod_cast Nat.pow_le_pow_right (by decide : 0 < 2) hl
  exact ⟨h1, Int.lt_of_lt_of_le h2 h3⟩
theorem bv_split {U : List Bool} {p a b : Nat} (h : p + a + b ≤ U.length) : bv U p (a + b) = bv U p a * 2 ^ b + bv U (p + a) b := by
  have hl : ((U.drop (p + a)).take b).length = b := by rw [List.length_take, List.length_drop]; omega
  unfold bv
  rw [List.take_add, numB_append, List.drop_drop, hl]
theorem bv1 {U : List Bool} {p : Nat} (h : p < U.length) : bv U p 1 = (U.getD p false).toInt := by
  have := numB_one (U.drop p) 0 (by rw [List.length_drop]; omega)
  unfold bv
  rw [this]
  simp [numB, List.getD, List.getElem?_drop]
theorem sk_ok (N : Nat) {s : ByteArray} {p : Nat} (hs : s.size ≤ 1000) (hp : p ≤ 8 * s.size) (q : Int) : overspill_inbits_Reader_Seek N (p : Int) s q = some (0, s, (p : Int)) := by
  have b1 : (bif decide ((p : Int) < 0) then true else decide (((8 : Int) * (s.size : Int)) < (p : Int))) = false := by
    rw [decide_eq_false (show ¬ (p : Int) < 0 by omega), decide_eq_false (show ¬ (8 : Int) * (s.size : Int) < (p : Int) by omega)]; rfl
  have b2 : ((!(decide ((p : Int) < 0))) = true → inK .i64 ((8 : Int) * (s.size : Int))) := fun _ => in64 (by omega) (by omega)
  unfold overspill_inbits_Reader_Seek
  simp only [b1, cond_false]
  rw [if_pos b2]
theorem rd {N : Nat} (hN : 100 < N) {s : ByteArray} {p n : Nat} (hs : s.size ≤ 1000) (hn : n ≤ 32) (hp : p ≤ 8 * s.size) : overspill_inbits_Reader_Take N n s p = some (bif decide (8 * s.size < p + n) then (0, 2, s, (p : Int)) else (bv (unpack (bl s)) p n, 0, s, ((p + n : Nat) : Int))) := by
  by_cases h : 8 * s.size < p + n
  · rw [decide_eq_true h]; exact take_end (by omega) hn (by omega) h
  · rw [decide_eq_false h]; exact take_ok hN (by omega) hn (by omega)
theorem rnum {N : Nat} (hN : 100 < N) {U : List Bool} {p n : Nat} (hn : n ≤ 32) : ref02_Number N ((rowT U).extract p (p + n)) = some (bv U p n) := by
  rw [rowT_extract, Nat.add_sub_cancel_left, num_ok hN (plain_rowT _) (by rw [rowT_size, List.length_take]; omega), bits_rowT]; rfl
def hmE (U : List Bool) (p : Nat) : Int := bif decide (U.length < p + 22) then 2 else bif decide (bv U p 17 = 1) then 0 else 4
def hmV (U : List Bool) (p : Nat) : Int := bif decide (U.length < p + 22) then 0 else bif decide (bv U p 17 = 1) then bv U (p + 17) 5 else 0
theorem hm_len {U : List Bool} {p : Nat} (h : hmE U p = 0) : p + 22 ≤ U.length := by
  unfold hmE at h
  by_cases hs : U.length < p + 22
  · rw [decide_eq_true hs] at h; cases h
  · omega
theorem mark_ok {N : Nat} (hN : 100 < N) {s : ByteArray} {p : Nat} (hs : s.size ≤ 1000) (hp : p ≤ 8 * s.size) : marks_At N s p = some (hmV (unpack (bl s)) p, hmE (unpack (bl s)) p) := by
  have hUl : (unpack (bl s)).length = 8 * s.size := by rw [unpack_length, bl_length]
  have hr := rd hN (s := s) (p := p) (n := 22) hs (by decide) hp
  rw [show ((22 : Nat) : Int) = 22 from rfl] at hr
  have d0 : decide ((0 : Int) ≠ 0) = false := rfl
  have d2 : decide ((2 : Int) ≠ 0) = true := rfl
  unfold marks_At inbits_New hmE hmV
  rw [hUl]
  simp only [Option.isSome_some, Option.getD_some, if_true, sk_ok N hs hp, d0, cond_false, hr]
  by_cases h : 8 * s.size < p + 22
  · simp only [decide_eq_true h, cond_true, d2]
  · have hsp := bv_split (U := unpack (bl s)) (p := p) (a := 17) (b := 5) (by omega)
    obtain ⟨b1, b2⟩ := bv_in (unpack (bl s)) (p + 17) 5
    obtain ⟨b3, b4⟩ := bv_in (unpack (bl s)) p 17
    have hsp' : bv (unpack (bl s)) p 22 = bv (unpack (bl s)) p 17 * 32 + bv (unpack (bl s)) (p + 17) 5 := hsp
    have e32 : (2 : Int) ^ Int.toNat 5 = 32 := rfl
    have hv0 : 0 ≤ bv (unpack (bl s)) p 22 := by omega
    have hdiv : bv (unpack (bl s)) p 22 / 32 = bv (unpack (bl s)) p 17 := by omega
    have hand : ((Int.toNat (bv (unpack (bl s)) p 22) &&& Int.toNat 31 : Nat) : Int) = bv (unpack (bl s)) (p + 17) 5 := by
      rw [show Int.toNat 31 = 2 ^ 5 - 1 from rfl, Nat.and_two_pow_sub_one_eq_mod]
      omega
    simp only [decide_eq_false h, cond_false, d0, e32, hdiv, hand, hv0, if_true]
    by_cases h1 : bv (unpack (bl s)) p 17 = 1
    · simp only [h1, ne_eq, not_true, decide_false, cond_false, decide_true, cond_true]
    · simp only [h1, ne_eq, not_false_eq_true, decide_false, cond_false, decide_true, cond_true]
theorem rowEq' (a b : List Bool) : decide (ByteArray.toList (rowT a) ≠ ByteArray.toList (rowT b)) = !decide (a = b) := by
  have h : (ByteArray.toList (rowT a) = ByteArray.toList (rowT b)) ↔ a = b := ⟨fun h => rowT_inj (by
    have := strEq (rowT a) (rowT b)
    rw [decide_eq_true h] at this
    exact bl_inj (of_decide_eq_true this.symm)), fun h => by rw [h]⟩
  by_cases e : a = b
  · rw [decide_eq_true e]; simp [h.2 e]
  · rw [decide_eq_false e]; simp [mt h.1 e]
theorem row17 : (⟨#[48, 48, 48, 48, 48, 48, 48, 48, 48, 48, 48, 48, 48, 48, 48, 48, 49]⟩ : ByteArray) = rowT (digits 1 17) := by kernel_rfl

theorem rmark_ok {N : Nat} (hN : 100 < N) {U : List Bool} {p : Nat} (hU : U.length ≤ 8000) (hp : p ≤ U.length) : ref04_At N (rowT U) p = some (hmV U p, hmE U p) := by
  have hsz : ((rowT U).size : Int) = (U.length : Int) := by rw [rowT_size]
  have b1 : (bif decide ((p : Int) < 0) then true else decide (((rowT U).size : Int) < (p : Int))) = false := by
    rw [decide_eq_false (show ¬ (p : Int) < 0 by omega), cond_false, decide_eq_false (show ¬ ((rowT U).size : Int) < (p : Int) by omega)]
  have i1 : inK .i64 (((rowT U).size : Int) - p) := in64 (by omega) (by omega)
  unfold ref04_At
  rw [b1, cond_false, if_pos i1]
  by_cases h : U.length < p + 22
  · have h' : ((rowT U).size : Int) - p < 22 := by omega
    rw [decide_eq_true h', cond_true]
    unfold hmE hmV
    rw [decide_eq_true h]; rfl
  · have h' : ¬ ((rowT U).size : Int) - p < 22 := by omega
    have e1 : ((p : Int) + 17).toNat = p + 17 := by omega
    have e2 : ((p : Int) + 22).toNat = (p + 17) + 5 := by omega
    have hx : (rowT U).extract (p : Int).toNat ((p : Int) + 17).toNat = rowT ((U.drop p).take 17) := by rw [e1, Int.toNat_natCast, rowT_extract, Nat.add_sub_cancel_left]
    have hl : ((U.drop p).take 17).length = 17 := by rw [List.length_take, List.length_drop]; omega
    have hx1 : decide (ByteArray.toList (ByteArray.extract (rowT U) (p : Int).toNat ((p : Int) + 17).toNat) ≠ ByteArray.toList ⟨#[48, 48, 48, 48, 48, 48, 48, 48, 48, 48, 48, 48, 48, 48, 48, 48, 49]⟩) = !decide ((U.drop p).take 17 = digits 1 17) := by
      rw [row17, hx]; exact rowEq' _ _
    have hnum : ref02_Number N (ByteArray.extract (rowT U) ((p : Int) + 17).toNat ((p : Int) + 22).toNat) = some (bv U (p + 17) 5) := by
      rw [e1, e2]; exact rnum hN (by decide)
    have hiff : ((U.drop p).take 17 = digits 1 17) ↔ bv U p 17 = 1 := by
      constructor
      · intro e; unfold bv; rw [e]; exact numB_digits 1 17 (by decide) (by decide)
      · intro e
        have := digits_numB ((U.drop p).take 17)
        rw [hl] at this
        unfold bv at e
        rw [e] at this
        exact this.symm
    rw [decide_eq_false h', cond_false]
    show (if _ then _ else _) = _
    rw [if_pos ⟨in64 (by omega) (by omega), by omega, by omega, by omega⟩, hx1]
    unfold hmE hmV
    rw [decide_eq_false h, cond_false, cond_false]
    by_cases h1 : bv U p 17 = 1
    · rw [decide_eq_true h1, decide_eq_true (hiff.2 h1), Bool.not_true, cond_false]
      show (if _ then _ else _) = _
      rw [if_pos ⟨in64 (by omega) (by omega), in64 (by omega) (by omega), by omega, by omega, by omega, by rw [hnum]; rfl⟩, hnum]; rfl
    · rw [decide_eq_false h1, decide_eq_false (mt hiff.1 h1), Bool.not_false, cond_true]; rfl
def smE (U : List Bool) (p : Nat) : Int := bif decide (p % 8 ≠ 0) then 4 else bif decide (hmE U p ≠ 0) then hmE U p else bif decide (hmV U p ≠ 0) then 4 else 0
theorem smark_ok {N : Nat} (hN : 100 < N) {s : ByteArray} {p : Nat} (hs : s.size ≤ 1000) (hp : p ≤ 8 * s.size) : sheethead_mark N s p = some (smE (unpack (bl s)) p, s, (((bif decide (smE (unpack (bl s)) p = 0) then p + 22 else p) : Nat) : Int)) := by
  have hUl : (unpack (bl s)).length = 8 * s.size := by rw [unpack_length, bl_length]
  have hr := rd hN (s := s) (p := p) (n := 22) hs (by decide) hp
  rw [show ((22 : Nat) : Int) = 22 from rfl] at hr
  have e8 : decide ((p : Int) % 8 ≠ 0) = decide (p % 8 ≠ 0) := decide_eq_decide.2 (by omega)
  have g1 : (0 : Int) ≤ (p : Int) := by omega
  have d4 : decide ((4 : Int) = 0) = false := rfl
  unfold sheethead_mark overspill_inbits_Reader_At overspill_inbits_Reader_Text smE
  simp only [Option.isSome_some, Option.getD_some, g1, and_self, if_true, e8, mark_ok hN hs hp]
  by_cases h8 : p % 8 ≠ 0
  · simp only [decide_eq_true h8, cond_true, d4, cond_false]
  · simp only [decide_eq_false h8, cond_false]
    by_cases he : hmE (unpack (bl s)) p = 0
    · have hlen := hm_len he
      have hsh : ¬ 8 * s.size < p + 22 := by omega
      by_cases hv : hmV (unpack (bl s)) p = 0
      · simp only [he, hv, hr, decide_eq_false hsh, ne_eq, not_true, decide_true, decide_false, cond_true, cond_false, Option.isSome_some, Option.getD_some, implies_true, if_true]
      · simp only [he, hv, ne_eq, not_true, not_false_eq_true, decide_true, decide_false, cond_true, cond_false, d4]
    · simp only [he, hr, ne_eq, not_false_eq_true, decide_true, decide_false, cond_true, cond_false, Option.isSome_some, Option.getD_some, Bool.false_eq_true, false_implies, if_true]
def prt (s : ByteArray) (n : Nat) (c : Int → Int) (e : Int) (p : Nat) : Int × Int × ByteArray × Int := bif decide (e ≠ 0) then (0, e, s, (p : Int)) else bif decide (8 * s.size < p + n) then (0, 2, s, (p : Int)) else (bv (unpack (bl s)) p n, c (bv (unpack (bl s)) p n), s, ((p + n : Nat) : Int))
theorem prt_or {s : ByteArray} {n : Nat} (c : Int → Int) (e : Int) {p : Nat} (hp : p ≤ 8 * s.size) : ∃ v e' p', prt s n c e p = (v, e', s, ((p' : Nat) : Int)) ∧ p' ≤ 8 * s.size ∧ ((e ≠ 0 ∧ e' = e) ∨ (e = 0 ∧ 8 * s.size < p + n ∧ e' = 2) ∨ (e = 0 ∧ p + n ≤ 8 * s.size ∧ v = bv (unpack (bl s)) p n ∧ e' = c v ∧ p' = p + n)) := by
  unfold prt
  by_cases he : e = 0
  · by_cases h : 8 * s.size < p + n
    · exact ⟨0, 2, p, by simp only [he, decide_eq_true h, ne_eq, not_true, decide_false, cond_true, cond_false], hp, .inr (.inl ⟨he, h, rfl⟩)⟩
    · exact ⟨_, _, p + n, by simp only [he, decide_eq_false h, ne_eq, not_true, decide_false, cond_false], by omega, .inr (.inr ⟨he, by omega, rfl, rfl, rfl⟩)⟩
  · exact ⟨0, e, p, by simp only [he, ne_eq, not_false_eq_true, decide_true, cond_true], hp, .inl ⟨he, rfl⟩⟩
theorem part0 {N : Nat} (hN : 100 < N) {s : ByteArray} (hs : s.size ≤ 1000) {p : Nat} (hp : p ≤ 8 * s.size) (e : Int) {n : Nat} (hn : n ≤ 32) : sheethead_read_1 N n e s p = some (prt s n (fun _ => 0) e p) := by
  unfold sheethead_read_1 prt
  by_cases he : e = 0
  · simp only [he, rd hN hs hn hp, ne_eq, not_true, decide_false, cond_false, Option.isSome_some, Option.getD_some, if_true]
    by_cases h : 8 * s.size < p + n
    · simp only [decide_eq_true h, cond_true, show decide ((2 : Int) = 0) = false from rfl, cond_false]
    · simp only [decide_eq_false h, cond_true, cond_false, Bool.not_true, decide_true]
  · simp only [he, ne_eq, not_false_eq_true, decide_true, cond_true]
theorem part2 {N : Nat} (hN : 100 < N) {s : ByteArray} (hs : s.size ≤ 1000) {p : Nat} (hp : p ≤ 8 * s.size) (e : Int) {n : Nat} (hn : n ≤ 32) (a b : Int) : sheethead_read_1_read_2_1 N n a b e s p = some (prt s n (fun v => bif decide (v = a) then 0 else b) e p) := by
  have h21 : ∀ v : Int, sheethead_read_2_1 N v a b = some (bif decide (v = a) then 0 else b) := fun v => by unfold sheethead_read_2_1; cases decide (v = a) <;> rfl
  unfold sheethead_read_1_read_2_1 prt
  by_cases he : e = 0
  · simp only [he, rd hN hs hn hp, h21, ne_eq, not_true, decide_false, cond_false, Option.isSome_some, Option.getD_some, implies_true, if_true]
    by_cases h : 8 * s.size < p + n
    · simp only [decide_eq_true h, cond_true, show decide ((2 : Int) = 0) = false from rfl, cond_false]
    · simp only [decide_eq_false h, cond_true, cond_false, Bool.not_false, decide_true]
  · simp only [he, ne_eq, not_false_eq_true, decide_true, cond_true]
theorem part3 {N : Nat} (hN : 100 < N) {s : ByteArray} (hs : s.size ≤ 1000) {p : Nat} (hp : p ≤ 8 * s.size) (e : Int) {n : Nat} (hn : n ≤ 32) : sheethead_read_1_read_3 N n e s p = some (prt s n (fun v => bif !decide (fA v ≠ 0) then 5 else 0) e p) := by
  have h21 : ∀ v : Int, sheethead_read_3 N v = some (bif !decide (fA v ≠ 0) then 5 else 0) := fun v => by
    unfold sheethead_read_3
    simp only [size_eq, Option.isSome_some, Option.getD_some, if_true]
    cases !decide (fA v ≠ 0) <;> rfl
  unfold sheethead_read_1_read_3 prt
  by_cases he : e = 0
  · simp only [he, rd hN hs hn hp, h21, ne_eq, not_true, decide_false, cond_false, Option.isSome_some, Option.getD_some, implies_true, if_true]
    by_cases h : 8 * s.size < p + n
    · simp only [decide_eq_true h, cond_true, show decide ((2 : Int) = 0) = false from rfl, cond_false]
    · simp only [decide_eq_false h, cond_true, cond_false, Bool.not_false, decide_true]
  · simp only [he, ne_eq, not_false_eq_true, decide_true, cond_true]
theorem part4 {N : Nat} (hN : 100 < N) {s : ByteArray} (hs : s.size ≤ 1000) {p : Nat} (hp : p ≤ 8 * s.size) (e : Int) {n : Nat} (hn : n ≤ 32) : sheethead_read_1_read_4 N n e s p = some (prt s n (fun v => bif decide (v = 0) then 9 else 0) e p) := by
  have h21 : ∀ v : Int, sheethead_read_4 N v = some (bif decide (v = 0) then 9 else 0) := fun v => by unfold sheethead_read_4; cases decide (v = 0) <;> rfl
  unfold sheethead_read_1_read_4 prt
  by_cases he : e = 0
  · simp only [he, rd hN hs hn hp, h21, ne_eq, not_true, decide_false, cond_false, Option.isSome_some, Option.getD_some, implies_true, if_true]
    by_cases h : 8 * s.size < p + n
    · simp only [decide_eq_true h, cond_true, show decide ((2 : Int) = 0) = false from rfl, cond_false]
    · simp only [decide_eq_false h, cond_true, cond_false, Bool.not_false, decide_true]
  · simp only [he, ne_eq, not_false_eq_true, decide_true, cond_true]
theorem nx {a b E : Int} (h : a ≠ 0 → b = a) (ha : a = E) (hE : E ≠ 0) : b = E := by rw [h (by rw [ha]; exact hE), ha]
theorem nx_of {e e' v : Int} {P Q R S : Prop} (h : (e ≠ 0 ∧ e' = e) ∨ (e = 0 ∧ P ∧ e' = 2) ∨ (e = 0 ∧ Q ∧ R ∧ e' = v ∧ S)) : e ≠ 0 → e' = e := fun he => by
  rcases h with h | h | h
  · exact h.2
  · exact absurd h.1 he
  · exact absurd h.1 he
/-- Where a head's parts begin. -/
def hdP (p : Nat) : Nat → Nat
  | 0 => p + 22
  | 1 => p + 30
  | 2 => p + 32
  | 3 => p + 35
  | 4 => p + 38
  | 5 => p + 39
  | 6 => p + 43
  | 7 => p + 48
  | _ => p + 49
theorem it_next {S O : Type} {body : S → Option (S ⊕ O)} {N : Nat} {a b : S} (h : body a = some (.inl b)) : iter body (N + 1) a = iter body N b := by simp only [iter, h]
theorem it_done {S O : Type} {body : S → Option (S ⊕ O)} {N : Nat} {a : S} {o : O} (h : body a = some (.inr o)) : iter body (N + 1) a = some o := by simp only [iter, h]
/-- The loop of the additions, the code's. -/
theorem loop_err {N : Nat} {s : ByteArray} {p : Nat} {e : Int} (he : e ≠ 0) (k k' : Nat) (l : List Int) : iter (sheethead_read_b1 (N + 1)) (N + 1) (k, e, s, (p : Int), k', l) = some (Sum.inr (k, e, s, (p : Int), k', l)) := by
  have h1 : sheethead_read_1 (N + 1) 1 e s p = some (0, e, s, (p : Int)) := by
    unfold sheethead_read_1
    rw [decide_eq_true he]; rfl
  refine it_done ?_
  simp only [sheethead_read_b1, h1, Option.getD_some, Option.isSome_some, if_true, show decide ((0 : Int) = 1) = false from rfl, cond_false]
theorem read_eq {M : Nat} {s : ByteArray} {p : Nat} (hs : s.size ≤ 1000) (hp : p ≤ 8 * s.size) : ∃ em pm v0 e0 p0 v1 e1 p1 v2 e2 p2 v3 e3 p3 v4 e4 p4 v5 e5 p5 v6 e6 p6 v7 e7 p7, em = smE (unpack (bl s)) p ∧ pm = (bif decide (em = 0) then p + 22 else p) ∧
    ((em ≠ 0 ∧ e0 = em) ∨ (em = 0 ∧ 8 * s.size < pm + 8 ∧ e0 = 2) ∨ (em = 0 ∧ pm + 8 ≤ 8 * s.size ∧ v0 = bv (unpack (bl s)) pm 8 ∧ e0 = (fun _ => 0) v0 ∧ p0 = pm + 8)) ∧
    ((e0 ≠ 0 ∧ e1 = e0) ∨ (e0 = 0 ∧ 8 * s.size < p0 + 2 ∧ e1 = 2) ∨ (e0 = 0 ∧ p0 + 2 ≤ 8 * s.size ∧ v1 = bv (unpack (bl s)) p0 2 ∧ e1 = (fun v => bif decide (v = 2) then 0 else 5) v1 ∧ p1 = p0 + 2)) ∧
    ((e1 ≠ 0 ∧ e2 = e1) ∨ (e1 = 0 ∧ 8 * s.size < p1 + 3 ∧ e2 = 2) ∨ (e1 = 0 ∧ p1 + 3 ≤ 8 * s.size ∧ v2 = bv (unpack (bl s)) p1 3 ∧ e2 = (fun _ => 0) v2 ∧ p2 = p1 + 3)) ∧
    ((e2 ≠ 0 ∧ e3 = e2) ∨ (e2 = 0 ∧ 8 * s.size < p2 + 3 ∧ e3 = 2) ∨ (e2 = 0 ∧ p2 + 3 ≤ 8 * s.size ∧ v3 = bv (unpack (bl s)) p2 3 ∧ e3 = (fun v => bif !decide (fA v ≠ 0) then 5 else 0) v3 ∧ p3 = p2 + 3)) ∧
    ((e3 ≠ 0 ∧ e4 = e3) ∨ (e3 = 0 ∧ 8 * s.size < p3 + 1 ∧ e4 = 2) ∨ (e3 = 0 ∧ p3 + 1 ≤ 8 * s.size ∧ v4 = bv (unpack (bl s)) p3 1 ∧ e4 = (fun _ => 0) v4 ∧ p4 = p3 + 1)) ∧
    ((e4 ≠ 0 ∧ e5 = e4) ∨ (e4 = 0 ∧ 8 * s.size < p4 + 4 ∧ e5 = 2) ∨ (e4 = 0 ∧ p4 + 4 ≤ 8 * s.size ∧ v5 = bv (unpack (bl s)) p4 4 ∧ e5 = (fun v => bif decide (v = 0) then 0 else 6) v5 ∧ p5 = p4 + 4)) ∧
    ((e5 ≠ 0 ∧ e6 = e5) ∨ (e5 = 0 ∧ 8 * s.size < p5 + 5 ∧ e6 = 2) ∨ (e5 = 0 ∧ p5 + 5 ≤ 8 * s.size ∧ v6 = bv (unpack (bl s)) p5 5 ∧ e6 = (fun v => bif decide (v = 0) then 9 else 0) v6 ∧ p6 = p5 + 5)) ∧
    ((e6 ≠ 0 ∧ e7 = e6) ∨ (e6 = 0 ∧ 8 * s.size < p6 + 1 ∧ e7 = 2) ∨ (e6 = 0 ∧ p6 + 1 ≤ 8 * s.size ∧ v7 = bv (unpack (bl s)) p6 1 ∧ e7 = (fun v => bif decide (v = 0) then 0 else 6) v7 ∧ p7 = p6 + 1)) ∧ p7 ≤ 8 * s.size ∧
    sheethead_read (M + 200) s p = ((iter (sheethead_read_b1 (M + 200)) (M + 200) (0, e7, s, (p7 : Int), 0, [])).bind fun w1 =>
      (Sum.elim (fun v1 => if v1.1 = v1.2.2.2.2.length then some (v0, v2, v3, (decide (v4 = 1)), v6, v1.2.2.2.2, 0, 13, v1.2.1, v1.2.2.1) else none)
        (fun v2' => if v2'.1 = v2'.2.2.2.2.2.length then some (v0, v2, v3, (decide (v4 = 1)), v6, v2'.2.2.2.2.2, 0, v2'.2.1, v2'.2.2.1, v2'.2.2.2.1) else none)) w1) := by
  have hm := smark_ok (N := M + 200) (by omega) hs hp
  have hUl : (unpack (bl s)).length = 8 * s.size := by rw [unpack_length, bl_length]
  have hpm : (bif decide (smE (unpack (bl s)) p = 0) then p + 22 else p) ≤ 8 * s.size := by
    by_cases h : smE (unpack (bl s)) p = 0
    · rw [decide_eq_true h]
      have : hmE (unpack (bl s)) p = 0 := by
        unfold smE at h
        by_cases h8 : p % 8 ≠ 0
        · rw [decide_eq_true h8] at h; cases h
        · rw [decide_eq_false h8, cond_false] at h
          by_cases h0 : hmE (unpack (bl s)) p = 0
          · exact h0
          · rw [decide_eq_true h0, cond_true] at h; exact h
      have := hm_len this
      show p + 22 ≤ _
      omega
    · rw [decide_eq_false h]; exact hp
  obtain ⟨v0, e0, p0, q0, hp0, f0⟩ := prt_or (s := s) (n := 8) (fun _ => 0) (smE (unpack (bl s)) p) hpm
  have k0 := part0 (N := M + 200) (by omega) hs hpm (smE (unpack (bl s)) p) (n := 8) (by decide)
  rw [q0] at k0
  obtain ⟨v1, e1, p1, q1, hp1, f1⟩ := prt_or (s := s) (n := 2) (fun v => bif decide (v = 2) then 0 else 5) e0 hp0
  have k1 := part2 (N := M + 200) (by omega) hs hp0 e0 (n := 2) (by decide) 2 5
  rw [q1] at k1
  obtain ⟨v2, e2, p2, q2, hp2, f2⟩ := prt_or (s := s) (n := 3) (fun _ => 0) e1 hp1
  have k2 := part0 (N := M + 200) (by omega) hs hp1 e1 (n := 3) (by decide)
  rw [q2] at k2
  obtain ⟨v3, e3, p3, q3, hp3, f3⟩ := prt_or (s := s) (n := 3) (fun v => bif !decide (fA v ≠ 0) then 5 else 0) e2 hp2
  have k3 := part3 (N := M + 200) (by omega) hs hp2 e2 (n := 3) (by decide)
  rw [q3] at k3
  obtain ⟨v4, e4, p4, q4, hp4, f4⟩ := prt_or (s := s) (n := 1) (fun _ => 0) e3 hp3
  have k4 := part0 (N := M + 200) (by omega) hs hp3 e3 (n := 1) (by decide)
  rw [q4] at k4
  obtain ⟨v5, e5, p5, q5, hp5, f5⟩ := prt_or (s := s) (n := 4) (fun v => bif decide (v = 0) then 0 else 6) e4 hp4
  have k5 := part2 (N := M + 200) (by omega) hs hp4 e4 (n := 4) (by decide) 0 6
  rw [q5] at k5
  obtain ⟨v6, e6, p6, q6, hp6, f6⟩ := prt_or (s := s) (n := 5) (fun v => bif decide (v = 0) then 9 else 0) e5 hp5
  have k6 := part4 (N := M + 200) (by omega) hs hp5 e5 (n := 5) (by decide)
  rw [q6] at k6
  obtain ⟨v7, e7, p7, q7, hp7, f7⟩ := prt_or (s := s) (n := 1) (fun v => bif decide (v = 0) then 0 else 6) e6 hp6
  have k7 := part2 (N := M + 200) (by omega) hs hp6 e6 (n := 1) (by decide) 0 6
  rw [q7] at k7
  have k0' : sheethead_read_1 (M + 200) 8 (smE (unpack (bl s)) p) s (((bif decide (smE (unpack (bl s)) p = 0) then p + 22 else p) : Nat) : Int) = some (v0, e0, s, (p0 : Int)) := k0
  have k1' : sheethead_read_1_read_2_1 (M + 200) 2 2 5 e0 s (p0 : Int) = some (v1, e1, s, (p1 : Int)) := k1
  have k2' : sheethead_read_1 (M + 200) 3 e1 s (p1 : Int) = some (v2, e2, s, (p2 : Int)) := k2
  have k3' : sheethead_read_1_read_3 (M + 200) 3 e2 s (p2 : Int) = some (v3, e3, s, (p3 : Int)) := k3
  have k4' : sheethead_read_1 (M + 200) 1 e3 s (p3 : Int) = some (v4, e4, s, (p4 : Int)) := k4
  have k5' : sheethead_read_1_read_2_1 (M + 200) 4 0 6 e4 s (p4 : Int) = some (v5, e5, s, (p5 : Int)) := k5
  have k6' : sheethead_read_1_read_4 (M + 200) 5 e5 s (p5 : Int) = some (v6, e6, s, (p6 : Int)) := k6
  have k7' : sheethead_read_1_read_2_1 (M + 200) 1 0 6 e6 s (p6 : Int) = some (v7, e7, s, (p7 : Int)) := k7
  refine ⟨_, _, v0, e0, p0, v1, e1, p1, v2, e2, p2, v3, e3, p3, v4, e4, p4, v5, e5, p5, v6, e6, p6, v7, e7, p7, rfl, rfl, f0, f1, f2, f3, f4, f5, f6, f7, hp7, ?_⟩
  have c25 : sheethead_read_2 (M + 200) 2 5 = some (2, 5) := rfl
  have c06 : sheethead_read_2 (M + 200) 0 6 = some (0, 6) := rfl
  unfold sheethead_read
  simp only [hm, k0', k1', k2', k3', k4', k5', k6', k7', c25, c06, Option.isSome_some, Option.getD_some, and_self, if_true]
abbrev shW : List Int := (((((((((List.replicate 8 0).set 0 8).set 1 2).set 2 3).set 3 3).set 4 1).set 5 4).set 6 5).set 7 1)
theorem many0 (f : Int) : decide (fA f * fD f = 0) = !decide (fA f ≠ 0) := by
  rcases fmt_or f with ⟨h1, h2⟩ | ⟨h1, _, h2, _⟩
  · simp [h1]
  · have := Int.mul_pos (show 0 < fA f by omega) (show 0 < fD f by omega)
    have e1 : ¬ fA f * fD f = 0 := by omega
    have e2 : fA f ≠ 0 := by omega
    simp [e1, e2]
theorem rst0 {N : Nat} (hN : 100 < N) {U : List Bool} (hU : U.length ≤ 8000) {q : Nat} (hq : q ≤ U.length) (l : List Int) {v : Int} (hv : v = bv U q 8) : ref24_Take_b2 N (rowT U) shW ((q : Int), 0, 0, 0, l) = some (bif decide (U.length < q + 8) then Sum.inr (Sum.inl 2) else Sum.inl (((q + 8 : Nat) : Int), 1, 1, 1, l ++ [v])) := by
  have hsz : ((rowT U).size : Int) = (U.length : Int) := by rw [rowT_size]
  have hw : shW.getD (0 : Int).toNat 0 = 8 := rfl
  have e1 : ((q : Int) + 8).toNat = q + 8 := by omega
  have hnum : ref02_Number N (ByteArray.extract (rowT U) q (q + 8)) = some v := by rw [hv]; exact rnum hN (by decide)
  have d8 : decide ((0 : Int) < 8) = true := rfl
  have d1 : decide ((0 : Int) = 1) = false := rfl
  have d3 : decide ((0 : Int) = 3) = false := rfl
  have d5 : decide ((0 : Int) = 5) = false := rfl
  have d6 : decide ((0 : Int) = 6) = false := rfl
  have d7 : decide ((0 : Int) = 7) = false := rfl
  have i1 : inK .i64 ((U.length : Int) - q) := in64 (by omega) (by omega)
  have t1 : (0 : Int) ≤ 0 := by decide
  have t2 : (0 : Int) < 8 := by decide
  have t3 : (0 : Int).toNat < 8 := by decide
  have t4 : inK .i64 ((0 : Int) + 1) := by decide
  have t5 : (0 + 1) * 8 ≤ 140737488355328 := by decide
  have t6 : 0 + 1 ≤ 9223372036854775807 := by decide
  unfold ref24_Take_b2
  by_cases h : U.length < q + 8
  · have h' : (U.length : Int) - q < 8 := by omega
    simp only [hsz, decide_true, d8, cond_true, i1, t1, t2, t3, and_self, if_true, hw, decide_eq_true h', decide_eq_true h]
  · have h' : ¬ (U.length : Int) - q < 8 := by omega
    have g1 : inK .i64 ((q : Int) + 8) := in64 (by omega) (by omega)
    have g2 : (0 : Int) ≤ (q : Int) := by omega
    have g3 : (q : Int) ≤ (q : Int) + 8 := by omega
    have g4 : (q : Int) + 8 ≤ (U.length : Int) := by omega
    have e2 : (((q + 8 : Nat) : Int)) = (q : Int) + 8 := by omega
    simp only [hsz, decide_true, decide_false, d8, d1, d3, d5, d6, d7, cond_true, cond_false, i1, t1, t2, t3, t4, t5, t6, g1, g2, g3, g4, e1, e2, Int.toNat_natCast, and_self, if_true, hw, decide_eq_false h', decide_eq_false h, hnum, rmany_eq, many0, Option.isSome_some, Option.getD_some, implies_true, Nat.le_refl]
    first | done | rfl | simp
theorem rst1 {N : Nat} (hN : 100 < N) {U : List Bool} (hU : U.length ≤ 8000) {q : Nat} (hq : q ≤ U.length) (l : List Int) {v : Int} (hv : v = bv U q 2) : ref24_Take_b2 N (rowT U) shW ((q : Int), 1, 1, 1, l) = some (bif decide (U.length < q + 2) then Sum.inr (Sum.inl 2) else bif decide ((bif decide (v = 2) then (0 : Int) else 5) ≠ 0) then Sum.inr (Sum.inl (bif decide (v = 2) then (0 : Int) else 5)) else Sum.inl (((q + 2 : Nat) : Int), 2, 2, 2, l ++ [v])) := by
  have hsz : ((rowT U).size : Int) = (U.length : Int) := by rw [rowT_size]
  have hw : shW.getD (1 : Int).toNat 0 = 2 := rfl
  have e1 : ((q : Int) + 2).toNat = q + 2 := by omega
  have hnum : ref02_Number N (ByteArray.extract (rowT U) q (q + 2)) = some v := by rw [hv]; exact rnum hN (by decide)
  have d8 : decide ((1 : Int) < 8) = true := rfl
  have d1 : decide ((1 : Int) = 1) = true := rfl
  have d3 : decide ((1 : Int) = 3) = false := rfl
  have d5 : decide ((1 : Int) = 5) = false := rfl
  have d6 : decide ((1 : Int) = 6) = false := rfl
  have d7 : decide ((1 : Int) = 7) = false := rfl
  have i1 : inK .i64 ((U.length : Int) - q) := in64 (by omega) (by omega)
  have t1 : (0 : Int) ≤ 1 := by decide
  have t2 : (1 : Int) < 8 := by decide
  have t3 : (1 : Int).toNat < 8 := by decide
  have t4 : inK .i64 ((1 : Int) + 1) := by decide
  have t5 : (1 + 1) * 8 ≤ 140737488355328 := by decide
  have t6 : 1 + 1 ≤ 9223372036854775807 := by decide
  unfold ref24_Take_b2
  by_cases h : U.length < q + 2
  · have h' : (U.length : Int) - q < 2 := by omega
    simp only [hsz, decide_true, d8, cond_true, i1, t1, t2, t3, and_self, if_true, hw, decide_eq_true h', decide_eq_true h]
  · have h' : ¬ (U.length : Int) - q < 2 := by omega
    have g1 : inK .i64 ((q : Int) + 2) := in64 (by omega) (by omega)
    have g2 : (0 : Int) ≤ (q : Int) := by omega
    have g3 : (q : Int) ≤ (q : Int) + 2 := by omega
    have g4 : (q : Int) + 2 ≤ (U.length : Int) := by omega
    have e2 : (((q + 2 : Nat) : Int)) = (q : Int) + 2 := by omega
    simp only [hsz, decide_true, decide_false, d8, d1, d3, d5, d6, d7, cond_true, cond_false, i1, t1, t2, t3, t4, t5, t6, g1, g2, g3, g4, e1, e2, Int.toNat_natCast, and_self, if_true, hw, decide_eq_false h', decide_eq_false h, hnum, rmany_eq, many0, Option.isSome_some, Option.getD_some, implies_true, Nat.le_refl]
    by_cases hc : v = 2
    · simp [hc]
    · simp [hc]
theorem rst2 {N : Nat} (hN : 100 < N) {U : List Bool} (hU : U.length ≤ 8000) {q : Nat} (hq : q ≤ U.length) (l : List Int) {v : Int} (hv : v = bv U q 3) : ref24_Take_b2 N (rowT U) shW ((q : Int), 2, 2, 2, l) = some (bif decide (U.length < q + 3) then Sum.inr (Sum.inl 2) else Sum.inl (((q + 3 : Nat) : Int), 3, 3, 3, l ++ [v])) := by
  have hsz : ((rowT U).size : Int) = (U.length : Int) := by rw [rowT_size]
  have hw : shW.getD (2 : Int).toNat 0 = 3 := rfl
  have e1 : ((q : Int) + 3).toNat = q + 3 := by omega
  have hnum : ref02_Number N (ByteArray.extract (rowT U) q (q + 3)) = some v := by rw [hv]; exact rnum hN (by decide)
  have d8 : decide ((2 : Int) < 8) = true := rfl
  have d1 : decide ((2 : Int) = 1) = false := rfl
  have d3 : decide ((2 : Int) = 3) = false := rfl
  have d5 : decide ((2 : Int) = 5) = false := rfl
  have d6 : decide ((2 : Int) = 6) = false := rfl
  have d7 : decide ((2 : Int) = 7) = false := rfl
  have i1 : inK .i64 ((U.length : Int) - q) := in64 (by omega) (by omega)
  have t1 : (0 : Int) ≤ 2 := by decide
  have t2 : (2 : Int) < 8 := by decide
  have t3 : (2 : Int).toNat < 8 := by decide
  have t4 : inK .i64 ((2 : Int) + 1) := by decide
  have t5 : (2 + 1) * 8 ≤ 140737488355328 := by decide
  have t6 : 2 + 1 ≤ 9223372036854775807 := by decide
  unfold ref24_Take_b2
  by_cases h : U.length < q + 3
  · have h' : (U.length : Int) - q < 3 := by omega
    simp only [hsz, decide_true, d8, cond_true, i1, t1, t2, t3, and_self, if_true, hw, decide_eq_true h', decide_eq_true h]
  · have h' : ¬ (U.length : Int) - q < 3 := by omega
    have g1 : inK .i64 ((q : Int) + 3) := in64 (by omega) (by omega)
    have g2 : (0 : Int) ≤ (q : Int) := by omega
    have g3 : (q : Int) ≤ (q : Int) + 3 := by omega
    have g4 : (q : Int) + 3 ≤ (U.length : Int) := by omega
    have e2 : (((q + 3 : Nat) : Int)) = (q : Int) + 3 := by omega
    simp only [hsz, decide_true, decide_false, d8, d1, d3, d5, d6, d7, cond_true, cond_false, i1, t1, t2, t3, t4, t5, t6, g1, g2, g3, g4, e1, e2, Int.toNat_natCast, and_self, if_true, hw, decide_eq_false h', decide_eq_false h, hnum, rmany_eq, many0, Option.isSome_some, Option.getD_some, implies_true, Nat.le_refl]
    first | done | rfl | simp
theorem rst3 {N : Nat} (hN : 100 < N) {U : List Bool} (hU : U.length ≤ 8000) {q : Nat} (hq : q ≤ U.length) (l : List Int) {v : Int} (hv : v = bv U q 3) : ref24_Take_b2 N (rowT U) shW ((q : Int), 3, 3, 3, l) = some (bif decide (U.length < q + 3) then Sum.inr (Sum.inl 2) else bif decide ((bif !decide (fA v ≠ 0) then (5 : Int) else 0) ≠ 0) then Sum.inr (Sum.inl (bif !decide (fA v ≠ 0) then (5 : Int) else 0)) else Sum.inl (((q + 3 : Nat) : Int), 4, 4, 4, l ++ [v])) := by
  have hsz : ((rowT U).size : Int) = (U.length : Int) := by rw [rowT_size]
  have hw : shW.getD (3 : Int).toNat 0 = 3 := rfl
  have e1 : ((q : Int) + 3).toNat = q + 3 := by omega
  have hnum : ref02_Number N (ByteArray.extract (rowT U) q (q + 3)) = some v := by rw [hv]; exact rnum hN (by decide)
  have d8 : decide ((3 : Int) < 8) = true := rfl
  have d1 : decide ((3 : Int) = 1) = false := rfl
  have d3 : decide ((3 : Int) = 3) = true := rfl
  have d5 : decide ((3 : Int) = 5) = false := rfl
  have d6 : decide ((3 : Int) = 6) = false := rfl
  have d7 : decide ((3 : Int) = 7) = false := rfl
  have i1 : inK .i64 ((U.length : Int) - q) := in64 (by omega) (by omega)
  have t1 : (0 : Int) ≤ 3 := by decide
  have t2 : (3 : Int) < 8 := by decide
  have t3 : (3 : Int).toNat < 8 := by decide
  have t4 : inK .i64 ((3 : Int) + 1) := by decide
  have t5 : (3 + 1) * 8 ≤ 140737488355328 := by decide
  have t6 : 3 + 1 ≤ 9223372036854775807 := by decide
  unfold ref24_Take_b2
  by_cases h : U.length < q + 3
  · have h' : (U.length : Int) - q < 3 := by omega
    simp only [hsz, decide_true, d8, cond_true, i1, t1, t2, t3, and_self, if_true, hw, decide_eq_true h', decide_eq_true h]
  · have h' : ¬ (U.length : Int) - q < 3 := by omega
    have g1 : inK .i64 ((q : Int) + 3) := in64 (by omega) (by omega)
    have g2 : (0 : Int) ≤ (q : Int) := by omega
    have g3 : (q : Int) ≤ (q : Int) + 3 := by omega
    have g4 : (q : Int) + 3 ≤ (U.length : Int) := by omega
    have e2 : (((q + 3 : Nat) : Int)) = (q : Int) + 3 := by omega
    simp only [hsz, decide_true, decide_false, d8, d1, d3, d5, d6, d7, cond_true, cond_false, i1, t1, t2, t3, t4, t5, t6, g1, g2, g3, g4, e1, e2, Int.toNat_natCast, and_self, if_true, hw, decide_eq_false h', decide_eq_false h, hnum, rmany_eq, many0, Option.isSome_some, Option.getD_some, implies_true, Nat.le_refl]
    by_cases hc : fA v = 0
    · simp [hc]
    · simp [hc]
theorem rst4 {N : Nat} (hN : 100 < N) {U : List Bool} (hU : U.length ≤ 8000) {q : Nat} (hq : q ≤ U.length) (l : List Int) {v : Int} (hv : v = bv U q 1) : ref24_Take_b2 N (rowT U) shW ((q : Int), 4, 4, 4, l) = some (bif decide (U.length < q + 1) then Sum.inr (Sum.inl 2) else Sum.inl (((q + 1 : Nat) : Int), 5, 5, 5, l ++ [v])) := by
  have hsz : ((rowT U).size : Int) = (U.length : Int) := by rw [rowT_size]
  have hw : shW.getD (4 : Int).toNat 0 = 1 := rfl
  have e1 : ((q : Int) + 1).toNat = q + 1 := by omega
  have hnum : ref02_Number N (ByteArray.extract (rowT U) q (q + 1)) = some v := by rw [hv]; exact rnum hN (by decide)
  have d8 : decide ((4 : Int) < 8) = true := rfl
  have d1 : decide ((4 : Int) = 1) = false := rfl
  have d3 : decide ((4 : Int) = 3) = false := rfl
  have d5 : decide ((4 : Int) = 5) = false := rfl
  have d6 : decide ((4 : Int) = 6) = false := rfl
  have d7 : decide ((4 : Int) = 7) = false := rfl
  have i1 : inK .i64 ((U.length : Int) - q) := in64 (by omega) (by omega)
  have t1 : (0 : Int) ≤ 4 := by decide
  have t2 : (4 : Int) < 8 := by decide
  have t3 : (4 : Int).toNat < 8 := by decide
  have t4 : inK .i64 ((4 : Int) + 1) := by decide
  have t5 : (4 + 1) * 8 ≤ 140737488355328 := by decide
  have t6 : 4 + 1 ≤ 9223372036854775807 := by decide
  unfold ref24_Take_b2
  by_cases h : U.length < q + 1
  · have h' : (U.length : Int) - q < 1 := by omega
    simp only [hsz, decide_true, d8, cond_true, i1, t1, t2, t3, and_self, if_true, hw, decide_eq_true h', decide_eq_true h]
  · have h' : ¬ (U.length : Int) - q < 1 := by omega
    have g1 : inK .i64 ((q : Int) + 1) := in64 (by omega) (by omega)
    have g2 : (0 : Int) ≤ (q : Int) := by omega
    have g3 : (q : Int) ≤ (q : Int) + 1 := by omega
    have g4 : (q : Int) + 1 ≤ (U.length : Int) := by omega
    have e2 : (((q + 1 : Nat) : Int)) = (q : Int) + 1 := by omega
    simp only [hsz, decide_true, decide_false, d8, d1, d3, d5, d6, d7, cond_true, cond_false, i1, t1, t2, t3, t4, t5, t6, g1, g2, g3, g4, e1, e2, Int.toNat_natCast, and_self, if_true, hw, decide_eq_false h', decide_eq_false h, hnum, rmany_eq, many0, Option.isSome_some, Option.getD_some, implies_true, Nat.le_refl]
    first | done | rfl | simp
theorem rst5 {N : Nat} (hN : 100 < N) {U : List Bool} (hU : U.length ≤ 8000) {q : Nat} (hq : q ≤ U.length) (l : List Int) {v : Int} (hv : v = bv U q 4) : ref24_Take_b2 N (rowT U) shW ((q : Int), 5, 5, 5, l) = some (bif decide (U.length < q + 4) then Sum.inr (Sum.inl 2) else bif decide ((bif decide (v = 0) then (0 : Int) else 6) ≠ 0) then Sum.inr (Sum.inl (bif decide (v = 0) then (0 : Int) else 6)) else Sum.inl (((q + 4 : Nat) : Int), 6, 6, 6, l ++ [v])) := by
  have hsz : ((rowT U).size : Int) = (U.length : Int) := by rw [rowT_size]
  have hw : shW.getD (5 : Int).toNat 0 = 4 := rfl
  have e1 : ((q : Int) + 4).toNat = q + 4 := by omega
  have hnum : ref02_Number N (ByteArray.extract (rowT U) q (q + 4)) = some v := by rw [hv]; exact rnum hN (by decide)
  have d8 : decide ((5 : Int) < 8) = true := rfl
  have d1 : decide ((5 : Int) = 1) = false := rfl
  have d3 : decide ((5 : Int) = 3) = false := rfl
  have d5 : decide ((5 : Int) = 5) = true := rfl
  have d6 : decide ((5 : Int) = 6) = false := rfl
  have d7 : decide ((5 : Int) = 7) = false := rfl
  have i1 : inK .i64 ((U.length : Int) - q) := in64 (by omega) (by omega)
  have t1 : (0 : Int) ≤ 5 := by decide
  have t2 : (5 : Int) < 8 := by decide
  have t3 : (5 : Int).toNat < 8 := by decide
  have t4 : inK .i64 ((5 : Int) + 1) := by decide
  have t5 : (5 + 1) * 8 ≤ 140737488355328 := by decide
  have t6 : 5 + 1 ≤ 9223372036854775807 := by decide
  unfold ref24_Take_b2
  by_cases h : U.length < q + 4
  · have h' : (U.length : Int) - q < 4 := by omega
    simp only [hsz, decide_true, d8, cond_true, i1, t1, t2, t3, and_self, if_true, hw, decide_eq_true h', decide_eq_true h]
  · have h' : ¬ (U.length : Int) - q < 4 := by omega
    have g1 : inK .i64 ((q : Int) + 4) := in64 (by omega) (by omega)
    have g2 : (0 : Int) ≤ (q : Int) := by omega
    have g3 : (q : Int) ≤ (q : Int) + 4 := by omega
    have g4 : (q : Int) + 4 ≤ (U.length : Int) := by omega
    have e2 : (((q + 4 : Nat) : Int)) = (q : Int) + 4 := by omega
    simp only [hsz, decide_true, decide_false, d8, d1, d3, d5, d6, d7, cond_true, cond_false, i1, t1, t2, t3, t4, t5, t6, g1, g2, g3, g4, e1, e2, Int.toNat_natCast, and_self, if_true, hw, decide_eq_false h', decide_eq_false h, hnum, rmany_eq, many0, Option.isSome_some, Option.getD_some, implies_true, Nat.le_refl]
    by_cases hc : v = 0
    · simp [hc]
    · simp [hc]
theorem rst6 {N : Nat} (hN : 100 < N) {U : List Bool} (hU : U.length ≤ 8000) {q : Nat} (hq : q ≤ U.length) (l : List Int) {v : Int} (hv : v = bv U q 5) : ref24_Take_b2 N (rowT U) shW ((q : Int), 6, 6, 6, l) = some (bif decide (U.length < q + 5) then Sum.inr (Sum.inl 2) else bif decide ((bif decide (v = 0) then (9 : Int) else 0) ≠ 0) then Sum.inr (Sum.inl (bif decide (v = 0) then (9 : Int) else 0)) else Sum.inl (((q + 5 : Nat) : Int), 7, 7, 7, l ++ [v])) := by
  have hsz : ((rowT U).size : Int) = (U.length : Int) := by rw [rowT_size]
  have hw : shW.getD (6 : Int).toNat 0 = 5 := rfl
  have e1 : ((q : Int) + 5).toNat = q + 5 := by omega
  have hnum : ref02_Number N (ByteArray.extract (rowT U) q (q + 5)) = some v := by rw [hv]; exact rnum hN (by decide)
  have d8 : decide ((6 : Int) < 8) = true := rfl
  have d1 : decide ((6 : Int) = 1) = false := rfl
  have d3 : decide ((6 : Int) = 3) = false := rfl
  have d5 : decide ((6 : Int) = 5) = false := rfl
  have d6 : decide ((6 : Int) = 6) = true := rfl
  have d7 : decide ((6 : Int) = 7) = false := rfl
  have i1 : inK .i64 ((U.length : Int) - q) := in64 (by omega) (by omega)
  have t1 : (0 : Int) ≤ 6 := by decide
  have t2 : (6 : Int) < 8 := by decide
  have t3 : (6 : Int).toNat < 8 := by decide
  have t4 : inK .i64 ((6 : Int) + 1) := by decide
  have t5 : (6 + 1) * 8 ≤ 140737488355328 := by decide
  have t6 : 6 + 1 ≤ 9223372036854775807 := by decide
  unfold ref24_Take_b2
  by_cases h : U.length < q + 5
  · have h' : (U.length : Int) - q < 5 := by omega
    simp only [hsz, decide_true, d8, cond_true, i1, t1, t2, t3, and_self, if_true, hw, decide_eq_true h', decide_eq_true h]
  · have h' : ¬ (U.length : Int) - q < 5 := by omega
    have g1 : inK .i64 ((q : Int) + 5) := in64 (by omega) (by omega)
    have g2 : (0 : Int) ≤ (q : Int) := by omega
    have g3 : (q : Int) ≤ (q : Int) + 5 := by omega
    have g4 : (q : Int) + 5 ≤ (U.length : Int) := by omega
    have e2 : (((q + 5 : Nat) : Int)) = (q : Int) + 5 := by omega
    simp only [hsz, decide_true, decide_false, d8, d1, d3, d5, d6, d7, cond_true, cond_false, i1, t1, t2, t3, t4, t5, t6, g1, g2, g3, g4, e1, e2, Int.toNat_natCast, and_self, if_true, hw, decide_eq_false h', decide_eq_false h, hnum, rmany_eq, many0, Option.isSome_some, Option.getD_some, implies_true, Nat.le_refl]
    by_cases hc : v = 0
    · simp [hc]
    · simp [hc]
theorem rst7 {N : Nat} (hN : 100 < N) {U : List Bool} (hU : U.length ≤ 8000) {q : Nat} (hq : q ≤ U.length) (l : List Int) {v : Int} (hv : v = bv U q 1) : ref24_Take_b2 N (rowT U) shW ((q : Int), 7, 7, 7, l) = some (bif decide (U.length < q + 1) then Sum.inr (Sum.inl 2) else bif decide ((bif decide (v = 0) then (0 : Int) else 6) ≠ 0) then Sum.inr (Sum.inl (bif decide (v = 0) then (0 : Int) else 6)) else Sum.inl (((q + 1 : Nat) : Int), 8, 8, 8, l ++ [v])) := by
  have hsz : ((rowT U).size : Int) = (U.length : Int) := by rw [rowT_size]
  have hw : shW.getD (7 : Int).toNat 0 = 1 := rfl
  have e1 : ((q : Int) + 1).toNat = q + 1 := by omega
  have hnum : ref02_Number N (ByteArray.extract (rowT U) q (q + 1)) = some v := by rw [hv]; exact rnum hN (by decide)
  have d8 : decide ((7 : Int) < 8) = true := rfl
  have d1 : decide ((7 : Int) = 1) = false := rfl
  have d3 : decide ((7 : Int) = 3) = false := rfl
  have d5 : decide ((7 : Int) = 5) = false := rfl
  have d6 : decide ((7 : Int) = 6) = false := rfl
  have d7 : decide ((7 : Int) = 7) = true := rfl
  have i1 : inK .i64 ((U.length : Int) - q) := in64 (by omega) (by omega)
  have t1 : (0 : Int) ≤ 7 := by decide
  have t2 : (7 : Int) < 8 := by decide
  have t3 : (7 : Int).toNat < 8 := by decide
  have t4 : inK .i64 ((7 : Int) + 1) := by decide
  have t5 : (7 + 1) * 8 ≤ 140737488355328 := by decide
  have t6 : 7 + 1 ≤ 9223372036854775807 := by decide
  unfold ref24_Take_b2
  by_cases h : U.length < q + 1
  · have h' : (U.length : Int) - q < 1 := by omega
    simp only [hsz, decide_true, d8, cond_true, i1, t1, t2, t3, and_self, if_true, hw, decide_eq_true h', decide_eq_true h]
  · have h' : ¬ (U.length : Int) - q < 1 := by omega
    have g1 : inK .i64 ((q : Int) + 1) := in64 (by omega) (by omega)
    have g2 : (0 : Int) ≤ (q : Int) := by omega
    have g3 : (q : Int) ≤ (q : Int) + 1 := by omega
    have g4 : (q : Int) + 1 ≤ (U.length : Int) := by omega
    have e2 : (((q + 1 : Nat) : Int)) = (q : Int) + 1 := by omega
    simp only [hsz, decide_true, decide_false, d8, d1, d3, d5, d6, d7, cond_true, cond_false, i1, t1, t2, t3, t4, t5, t6, g1, g2, g3, g4, e1, e2, Int.toNat_natCast, and_self, if_true, hw, decide_eq_false h', decide_eq_false h, hnum, rmany_eq, many0, Option.isSome_some, Option.getD_some, implies_true, Nat.le_refl]
    by_cases hc : v = 0
    · simp [hc]
    · simp [hc]
theorem rbyte {U : List Bool} {q : Nat} (h : q < U.length) : decide (byteI (rowT U) q = 48) = !U.getD q false := by
  rw [rowT_byte U q h]; cases U.getD q false <;> rfl
theorem supp_eq {M : Nat} {s : ByteArray} (hs : s.size ≤ 1000) (a2 q0 : Int) (vs : List Int) : ∀ (d : Nat) (l : List Int) (q N1 N2 : Nat), l.length + d = 8 → q ≤ 8 * s.size → d + 2 < N1 → d + 1 < N2 →
    (∃ E, E ≠ 0 ∧ ((∃ k q' k' l', iter (sheethead_read_b1 (M + 200)) N1 (l.length, 0, s, (q : Int), l.length, l) = some (Sum.inr (k, E, s, q', k', l')) ∧ k = l'.length) ∨ (∃ k q' k' l', iter (sheethead_read_b1 (M + 200)) N1 (l.length, 0, s, (q : Int), l.length, l) = some (Sum.inl (k, s, q', k', l')) ∧ E = 13 ∧ k = l'.length)) ∧
      iter (ref24_Take_b1 (M + 200) (rowT (unpack (bl s))) a2 (q0, 8, 8, vs)) N2 ((q : Int), l.length, l.length, l) = some (a2, E, 0, 0, 0, false, 0, [])) ∨
    (∃ l' q', iter (sheethead_read_b1 (M + 200)) N1 (l.length, 0, s, (q : Int), l.length, l) = some (Sum.inr (l'.length, 0, s, ((q' : Nat) : Int), l'.length, l')) ∧
      iter (ref24_Take_b1 (M + 200) (rowT (unpack (bl s))) a2 (q0, 8, 8, vs)) N2 ((q : Int), l.length, l.length, l) = some ((q' : Int), 0, vs.getD 0 0, vs.getD 2 0, vs.getD 3 0, decide (vs.getD 4 0 = 1), vs.getD 6 0, l') ∧ q' ≤ 8 * s.size ∧ l'.length ≤ 8) := by
  have hUl : (unpack (bl s)).length = 8 * s.size := by rw [unpack_length, bl_length]
  have hsz : ((rowT (unpack (bl s))).size : Int) = 8 * (s.size : Int) := by rw [rowT_size, hUl]; omega
  have d01 : decide ((0 : Int) = 1) = false := rfl
  have d00 : decide ((0 : Int) = 0) = true := rfl
  have d11 : decide ((1 : Int) = 1) = true := rfl
  intro d
  induction d with
  | zero =>
    intro l q N1 N2 hl hq h1 h2
    obtain ⟨n1, rfl⟩ : ∃ n, N1 = n + 1 := ⟨N1 - 1, by omega⟩
    obtain ⟨n2, rfl⟩ : ∃ n, N2 = n + 1 := ⟨N2 - 1, by omega⟩
    have p1 := part0 (N := M + 200) (by omega) hs hq 0 (n := 1) (by decide)
    have i1 : inK .i64 (8 * (s.size : Int) - (q : Int)) := in64 (by omega) (by omega)
    unfold prt at p1
    rw [show ((1 : Nat) : Int) = 1 from rfl] at p1
    simp only [ne_eq, not_true, decide_false, cond_false] at p1
    by_cases h : 8 * s.size < q + 1
    · rw [decide_eq_true h, cond_true] at p1
      have h' : 8 * (s.size : Int) - (q : Int) < 1 := by omega
      refine .inl ⟨2, by decide, .inl ⟨l.length, (q : Int), l.length, l, it_done ?_, rfl⟩, it_done ?_⟩
      · simp only [sheethead_read_b1, p1, Option.getD_some, Option.isSome_some, if_true, d01, cond_false]
      · simp only [ref24_Take_b1, hsz, i1, if_true, decide_eq_true h', cond_true]
    · rw [decide_eq_false h, cond_false, bv1 (by omega)] at p1
      have h' : ¬ 8 * (s.size : Int) - (q : Int) < 1 := by omega
      have g1 : inK .i64 ((q : Int) + 1) := in64 (by omega) (by omega)
      have e1 : (q : Int) + 1 - 1 = q := by omega
      have g2 : inK .i64 (q : Int) := in64 (by omega) (by omega)
      have g3 : (0 : Int) ≤ (q : Int) := by omega
      have g4 : (q : Int) < 8 * (s.size : Int) := by omega
      have hb := rbyte (U := unpack (bl s)) (q := q) (by omega)
      cases hbit : (unpack (bl s)).getD q false with
      | false =>
        rw [hbit] at p1 hb
        refine .inr ⟨l, q + 1, it_done ?_, it_done ?_, by omega, by omega⟩
        · simp only [sheethead_read_b1, p1, Option.getD_some, Option.isSome_some, if_true, show Bool.toInt false = 0 from rfl, d01, cond_false]
        · simp only [ref24_Take_b1, hsz, i1, if_true, decide_eq_false h', cond_false, g1, e1, g2, g3, g4, and_self, Int.toNat_natCast, hb, Bool.not_false, cond_true, Int.natCast_succ]
          rfl
      | true =>
        rw [hbit] at p1 hb
        have k8 : decide ((l.length : Int) = 8) = true := decide_eq_true (by omega)
        refine .inl ⟨13, by decide, .inr ⟨l.length, ((q + 1 : Nat) : Int), l.length, l, it_done ?_, rfl, rfl⟩, it_done ?_⟩
        · simp only [sheethead_read_b1, p1, Option.getD_some, Option.isSome_some, if_true, show Bool.toInt true = 1 from rfl, d11, d00, cond_true, k8]
          rfl
        · simp only [ref24_Take_b1, hsz, i1, if_true, decide_eq_false h', cond_false, g1, e1, g2, g3, g4, and_self, Int.toNat_natCast, hb, Bool.not_true, k8, cond_true]
  | succ d ih =>
    intro l q N1 N2 hl hq h1 h2
    obtain ⟨n1, rfl⟩ : ∃ n, N1 = n + 1 := ⟨N1 - 1, by omega⟩
    obtain ⟨n2, rfl⟩ : ∃ n, N2 = n + 1 := ⟨N2 - 1, by omega⟩
    have p1 := part0 (N := M + 200) (by omega) hs hq 0 (n := 1) (by decide)
    have i1 : inK .i64 (8 * (s.size : Int) - (q : Int)) := in64 (by omega) (by omega)
    unfold prt at p1
    rw [show ((1 : Nat) : Int) = 1 from rfl] at p1
    simp only [ne_eq, not_true, decide_false, cond_false] at p1
    by_cases h : 8 * s.size < q + 1
    · rw [decide_eq_true h, cond_true] at p1
      have h' : 8 * (s.size : Int) - (q : Int) < 1 := by omega
      refine .inl ⟨2, by decide, .inl ⟨l.length, (q : Int), l.length, l, it_done ?_, rfl⟩, it_done ?_⟩
      · simp only [sheethead_read_b1, p1, Option.getD_some, Option.isSome_some, if_true, d01, cond_false]
      · simp only [ref24_Take_b1, hsz, i1, if_true, decide_eq_true h', cond_true]
    · rw [decide_eq_false h, cond_false, bv1 (by omega)] at p1
      have h' : ¬ 8 * (s.size : Int) - (q : Int) < 1 := by omega
      have g1 : inK .i64 ((q : Int) + 1) := in64 (by omega) (by omega)
      have e1 : (q : Int) + 1 - 1 = q := by omega
      have g2 : inK .i64 (q : Int) := in64 (by omega) (by omega)
      have g3 : (0 : Int) ≤ (q : Int) := by omega
      have g4 : (q : Int) < 8 * (s.size : Int) := by omega
      have hb := rbyte (U := unpack (bl s)) (q := q) (by omega)
      cases hbit : (unpack (bl s)).getD q false with
      | false =>
        rw [hbit] at p1 hb
        refine .inr ⟨l, q + 1, it_done ?_, it_done ?_, by omega, by omega⟩
        · simp only [sheethead_read_b1, p1, Option.getD_some, Option.isSome_some, if_true, show Bool.toInt false = 0 from rfl, d01, cond_false]
        · simp only [ref24_Take_b1, hsz, i1, if_true, decide_eq_false h', cond_false, g1, e1, g2, g3, g4, and_self, Int.toNat_natCast, hb, Bool.not_false, cond_true, Int.natCast_succ]
          rfl
      | true =>
        rw [hbit] at p1 hb
        have k8 : decide ((l.length : Int) = 8) = false := decide_eq_false (by omega)
        have p2 := part0 (N := M + 200) (by omega) hs (p := q + 1) (by omega) 0 (n := 8) (by decide)
        unfold prt at p2
        rw [show ((8 : Nat) : Int) = 8 from rfl] at p2
        simp only [ne_eq, not_true, decide_false, cond_false] at p2
        have i2 : inK .i64 (8 * (s.size : Int) - ((q : Int) + 1)) := in64 (by omega) (by omega)
        have t1 : (l.length + 1) * 8 ≤ 140737488355328 := by omega
        have t2 : l.length + 1 ≤ 9223372036854775807 := by omega
        by_cases hh : 8 * s.size < q + 1 + 8
        · rw [decide_eq_true hh, cond_true] at p2
          have hh' : 8 * (s.size : Int) - ((q : Int) + 1) < 8 := by omega
          obtain ⟨n1, rfl⟩ : ∃ n, n1 = n + 1 := ⟨n1 - 1, by omega⟩
          have hC : sheethead_read_b1 (M + 200) (l.length, 0, s, (q : Int), l.length, l) = some (Sum.inl (l.length + 1, 2, s, ((q + 1 : Nat) : Int), l.length + 1, l ++ [0])) := by
            simp only [sheethead_read_b1, p1, p2, Option.getD_some, Option.isSome_some, if_true, show Bool.toInt true = 1 from rfl, d11, d00, cond_true, k8, cond_false, Nat.le_refl, and_self, t1, t2]
            rfl
          have h2 : sheethead_read_1 (M + 200) 1 2 s ((q + 1 : Nat) : Int) = some (0, 2, s, ((q + 1 : Nat) : Int)) := rfl
          refine .inl ⟨2, by decide, .inl ⟨l.length + 1, ((q + 1 : Nat) : Int), l.length + 1, l ++ [0], (it_next hC).trans (it_done ?_), by simp⟩, it_done ?_⟩
          · simp only [sheethead_read_b1, h2, Option.getD_some, Option.isSome_some, if_true, d01, cond_false]
          · simp only [ref24_Take_b1, hsz, i1, if_true, decide_eq_false h', cond_false, g1, e1, g2, g3, g4, and_self, Int.toNat_natCast, hb, Bool.not_true, k8, i2, decide_eq_true hh', cond_true]
        · rw [decide_eq_false hh, cond_false] at p2
          have hh' : ¬ 8 * (s.size : Int) - ((q : Int) + 1) < 8 := by omega
          have e2 : ((q : Int) + 1).toNat = q + 1 := by omega
          have e3 : ((q : Int) + 1 + 8).toNat = q + 1 + 8 := by omega
          have g5 : inK .i64 ((q : Int) + 1 + 8) := in64 (by omega) (by omega)
          have g6 : (0 : Int) ≤ (q : Int) + 1 := by omega
          have g7 : (q : Int) + 1 ≤ (q : Int) + 1 + 8 := by omega
          have g8 : (q : Int) + 1 + 8 ≤ 8 * (s.size : Int) := by omega
          have e4 : (q : Int) + 1 + 8 = ((q + 1 + 8 : Nat) : Int) := by omega
          have hn := rnum (N := M + 200) (by omega) (U := unpack (bl s)) (p := q + 1) (n := 8) (by decide)
          have hC : sheethead_read_b1 (M + 200) (l.length, 0, s, (q : Int), l.length, l) = some (Sum.inl (l.length + 1, 0, s, ((q + 1 + 8 : Nat) : Int), l.length + 1, l ++ [bv (unpack (bl s)) (q + 1) 8])) := by
            simp only [sheethead_read_b1, p1, p2, Option.getD_some, Option.isSome_some, if_true, show Bool.toInt true = 1 from rfl, d11, d00, cond_true, k8, cond_false, Nat.le_refl, and_self, t1, t2]
            rfl
          have hR : ref24_Take_b1 (M + 200) (rowT (unpack (bl s))) a2 (q0, 8, 8, vs) ((q : Int), l.length, l.length, l) = some (Sum.inl (((q + 1 + 8 : Nat) : Int), l.length + 1, l.length + 1, l ++ [bv (unpack (bl s)) (q + 1) 8])) := by
            simp only [ref24_Take_b1, hsz, i1, if_true, decide_eq_false h', cond_false, g1, e1, g2, g3, g4, and_self, Int.toNat_natCast, hb, Bool.not_true, k8, i2, decide_eq_false hh', e2, e3, hn, Option.isSome_some, Option.getD_some, g5, g6, g7, g8, t1, t2, Nat.le_refl]
            rw [e4]; rfl
          have hll : (l ++ [bv (unpack (bl s)) (q + 1) 8]).length = l.length + 1 := by simp
          have := ih (l ++ [bv (unpack (bl s)) (q + 1) 8]) (q + 1 + 8) n1 n2 (by rw [hll]; omega) (by omega) (by omega) (by omega)
          rw [hll] at this
          rw [it_next hC, it_next hR]
          exact this
theorem htake_eq {M : Nat} (hM : 1000 ≤ M) {s : ByteArray} {p : Nat} (hs : s.size ≤ 1000) (hp : p ≤ 8 * s.size) : ∃ (a b c : Int) (d : Bool) (f : Int) (l : List Int) (e : Int) (to : Nat), sheethead_Take (M + 200) s p = some (a, b, c, d, f, l, 0, e, s, (to : Int)) ∧ ref24_Take (M + 200) (rowT (unpack (bl s))) p = some (a, b, c, d, f, l, 0, (to : Int), e) ∧ l.length ≤ 8 := by
  have hUl : (unpack (bl s)).length = 8 * s.size := by rw [unpack_length, bl_length]
  have hU8 : (unpack (bl s)).length ≤ 8000 := by omega
  obtain ⟨em, pm, v0, e0, p0, v1, e1, p1, v2, e2, p2, v3, e3, p3, v4, e4, p4, v5, e5, p5, v6, e6, p6, v7, e7, p7, hem, hpm, f0, f1, f2, f3, f4, f5, f6, f7, hp7, hread⟩ := read_eq (M := M) hs hp
  have hfailR : ∀ E : Int, E ≠ 0 → (∃ (a b c : Int) (d : Bool) (f : Int) (l : List Int) (z q : Int), sheethead_read (M + 200) s p = some (a, b, c, d, f, l, z, E, s, q)) → ref24_Take (M + 200) (rowT (unpack (bl s))) p = some (0, 0, 0, false, 0, [], 0, (p : Int), E) → ∃ (a b c : Int) (d : Bool) (f : Int) (l : List Int) (e : Int) (to : Nat), sheethead_Take (M + 200) s p = some (a, b, c, d, f, l, 0, e, s, (to : Int)) ∧ ref24_Take (M + 200) (rowT (unpack (bl s))) p = some (a, b, c, d, f, l, 0, (to : Int), e) ∧ l.length ≤ 8 := by
    rintro E hE ⟨a, b, c, d, f, l, z, q, hrd⟩ hR
    refine ⟨0, 0, 0, false, 0, [], E, p, ?_, hR, by simp⟩
    unfold sheethead_Take overspill_inbits_Reader_At
    simp only [hrd, Option.isSome_some, Option.getD_some, if_true, decide_eq_true hE, cond_true, sk_ok (M + 200) hs hp]
  have hfail : ∀ E : Int, E ≠ 0 → e7 = E → ref24_Take (M + 200) (rowT (unpack (bl s))) p = some (0, 0, 0, false, 0, [], 0, (p : Int), E) → ∃ (a b c : Int) (d : Bool) (f : Int) (l : List Int) (e : Int) (to : Nat), sheethead_Take (M + 200) s p = some (a, b, c, d, f, l, 0, e, s, (to : Int)) ∧ ref24_Take (M + 200) (rowT (unpack (bl s))) p = some (a, b, c, d, f, l, 0, (to : Int), e) ∧ l.length ≤ 8 := by
    intro E hE he hR
    refine hfailR E hE ⟨v0, v2, v3, decide (v4 = 1), v6, [], 0, (p7 : Int), ?_⟩ hR
    rw [hread, he, loop_err (N := M + 199) hE 0 0 []]
    rfl
  have hm := rmark_ok (N := M + 200) (by omega) (p := p) hU8 (by omega)
  have g0 : (0 : Int) ≤ (p : Int) := by omega
  by_cases h8 : p % 8 ≠ 0
  · have hE : (4 : Int) ≠ 0 := by decide
    have h4 : em = 4 := by rw [hem]; unfold smE; rw [decide_eq_true h8]; rfl
    refine hfail 4 hE (nx (nx_of f7) (nx (nx_of f6) (nx (nx_of f5) (nx (nx_of f4) (nx (nx_of f3) (nx (nx_of f2) (nx (nx_of f1) (nx (nx_of f0) h4 hE) hE) hE) hE) hE) hE) hE) hE) ?_
    unfold ref24_Take
    rw [if_pos g0, decide_eq_true (show (p : Int) % 8 ≠ 0 by omega)]
    rfl
  have d8 : decide ((p : Int) % 8 ≠ 0) = false := decide_eq_false (by omega)
  by_cases hme : hmE (unpack (bl s)) p ≠ 0
  · have hE := hme
    have h4 : em = hmE (unpack (bl s)) p := by rw [hem]; unfold smE; rw [decide_eq_false h8, cond_false, decide_eq_true hme]; rfl
    refine hfail _ hE (nx (nx_of f7) (nx (nx_of f6) (nx (nx_of f5) (nx (nx_of f4) (nx (nx_of f3) (nx (nx_of f2) (nx (nx_of f1) (nx (nx_of f0) h4 hE) hE) hE) hE) hE) hE) hE) hE) ?_
    unfold ref24_Take
    simp only [g0, if_true, d8, cond_false, hm, Option.isSome_some, Option.getD_some, decide_eq_true hme, cond_true]
  by_cases hmv : hmV (unpack (bl s)) p ≠ 0
  · have hE : (4 : Int) ≠ 0 := by decide
    have h4 : em = 4 := by rw [hem]; unfold smE; rw [decide_eq_false h8, cond_false, decide_eq_false hme, cond_false, decide_eq_true hmv]; rfl
    refine hfail 4 hE (nx (nx_of f7) (nx (nx_of f6) (nx (nx_of f5) (nx (nx_of f4) (nx (nx_of f3) (nx (nx_of f2) (nx (nx_of f1) (nx (nx_of f0) h4 hE) hE) hE) hE) hE) hE) hE) hE) ?_
    unfold ref24_Take
    simp only [g0, if_true, d8, cond_false, hm, Option.isSome_some, Option.getD_some, decide_eq_false hme, decide_eq_true hmv, cond_true]
  have h0 : em = 0 := by rw [hem]; unfold smE; rw [decide_eq_false h8, cond_false, decide_eq_false hme, cond_false, decide_eq_false hmv]; rfl
  rw [h0] at hpm
  have hpm : pm = p + 22 := hpm
  have hlen := hm_len (Classical.not_not.1 hme)
  have e22 : (p : Int) + 22 = ((p + 22 : Nat) : Int) := by omega
  have i22 : inK .i64 ((p + 22 : Nat) : Int) := in64 (by omega) (by omega)
  have rfin : ∀ E : Int, iter (ref24_Take_b2 (M + 200) (rowT (unpack (bl s))) shW) (M + 200) (((p + 22 : Nat) : Int), 0, 0, 0, []) = some (Sum.inl E) → ref24_Take (M + 200) (rowT (unpack (bl s))) p = some (0, 0, 0, false, 0, [], 0, (p : Int), E) := by
    intro E hit
    unfold ref24_Take
    simp only [g0, if_true, d8, cond_false, hm, Option.isSome_some, Option.getD_some, decide_eq_false hme, decide_eq_false hmv, e22, i22]
    rw [hit]; rfl
  have rok : ∀ (q : Int) (vs : List Int), iter (ref24_Take_b2 (M + 200) (rowT (unpack (bl s))) shW) (M + 200) (((p + 22 : Nat) : Int), 0, 0, 0, []) = some (Sum.inr (q, 8, 8, vs)) → ref24_Take (M + 200) (rowT (unpack (bl s))) p = (iter (ref24_Take_b1 (M + 200) (rowT (unpack (bl s))) p (q, 8, 8, vs)) (M + 200) (q, 0, 0, [])).bind fun v3 => some (v3.2.2.1, v3.2.2.2.1, v3.2.2.2.2.1, v3.2.2.2.2.2.1, v3.2.2.2.2.2.2.1, v3.2.2.2.2.2.2.2, 0, v3.1, v3.2.1) := by
    intro q vs hit
    unfold ref24_Take
    simp only [g0, if_true, d8, cond_false, hm, Option.isSome_some, Option.getD_some, decide_eq_false hme, decide_eq_false hmv, e22, i22]
    rw [hit]; rfl
  clear hm
  rcases f0 with ⟨A, _⟩ | ⟨_, hsh, E⟩ | ⟨_, hlg, V, E, P⟩
  · exact absurd h0 A
  · have hE : (2 : Int) ≠ 0 := by decide
    rw [hpm] at hsh
    have R := rst0 (N := M + 200) (by omega) hU8 (q := p + 22) (by omega) ([] : List Int) rfl
    rw [decide_eq_true (show (unpack (bl s)).length < p + 22 + 8 by omega), cond_true] at R
    exact hfail 2 hE (nx (nx_of f7) (nx (nx_of f6) (nx (nx_of f5) (nx (nx_of f4) (nx (nx_of f3) (nx (nx_of f2) (nx (nx_of f1) E hE) hE) hE) hE) hE) hE) hE) (rfin 2 (it_done (N := M + 199) R))
  rw [hpm] at hlg V P
  have R := rst0 (N := M + 200) (by omega) hU8 (q := p + 22) (by omega) ([] : List Int) V
  rw [decide_eq_false (show ¬ (unpack (bl s)).length < p + 22 + 8 by omega), cond_false] at R
  replace E : e0 = 0 := E
  have z0 : e0 = 0 := E
  rw [← P] at R
  have it1 : iter (ref24_Take_b2 (M + 200) (rowT (unpack (bl s))) shW) (M + 200) (((p + 22 : Nat) : Int), 0, 0, 0, []) = iter (ref24_Take_b2 (M + 200) (rowT (unpack (bl s))) shW) (M + 199) ((p0 : Int), 1, 1, 1, (([] : List Int) ++ [v0])) := it_next (N := M + 199) R
  clear R
  rcases f1 with ⟨A, _⟩ | ⟨_, hsh, E⟩ | ⟨_, hlg, V, E, P⟩
  · exact absurd z0 A
  · have hE : (2 : Int) ≠ 0 := by decide
    have R := rst1 (N := M + 200) (by omega) hU8 (q := p0) (by omega) (([] : List Int) ++ [v0]) rfl
    rw [decide_eq_true (show (unpack (bl s)).length < p0 + 2 by omega), cond_true] at R
    exact hfail 2 hE (nx (nx_of f7) (nx (nx_of f6) (nx (nx_of f5) (nx (nx_of f4) (nx (nx_of f3) (nx (nx_of f2) E hE) hE) hE) hE) hE) hE) (rfin 2 (it1.trans (it_done (N := M + 198) R)))
  have R := rst1 (N := M + 200) (by omega) hU8 (q := p0) (by omega) (([] : List Int) ++ [v0]) V
  rw [decide_eq_false (show ¬ (unpack (bl s)).length < p0 + 2 by omega), cond_false] at R
  replace E : e1 = (bif decide (v1 = 2) then (0 : Int) else 5) := E
  by_cases hc1 : (bif decide (v1 = 2) then (0 : Int) else 5) ≠ 0
  · have hE := hc1
    rw [decide_eq_true hc1, cond_true] at R
    exact hfail _ hE (nx (nx_of f7) (nx (nx_of f6) (nx (nx_of f5) (nx (nx_of f4) (nx (nx_of f3) (nx (nx_of f2) E hE) hE) hE) hE) hE) hE) (rfin _ (it1.trans (it_done (N := M + 198) R)))
  rw [decide_eq_false hc1, cond_false] at R
  have z1 : e1 = 0 := by rw [E]; exact Classical.not_not.1 hc1
  rw [← P] at R
  have it2 : iter (ref24_Take_b2 (M + 200) (rowT (unpack (bl s))) shW) (M + 200) (((p + 22 : Nat) : Int), 0, 0, 0, []) = iter (ref24_Take_b2 (M + 200) (rowT (unpack (bl s))) shW) (M + 198) ((p1 : Int), 2, 2, 2, ((([] : List Int) ++ [v0]) ++ [v1])) := it1.trans (it_next (N := M + 198) R)
  clear R
  rcases f2 with ⟨A, _⟩ | ⟨_, hsh, E⟩ | ⟨_, hlg, V, E, P⟩
  · exact absurd z1 A
  · have hE : (2 : Int) ≠ 0 := by decide
    have R := rst2 (N := M + 200) (by omega) hU8 (q := p1) (by omega) ((([] : List Int) ++ [v0]) ++ [v1]) rfl
    rw [decide_eq_true (show (unpack (bl s)).length < p1 + 3 by omega), cond_true] at R
    exact hfail 2 hE (nx (nx_of f7) (nx (nx_of f6) (nx (nx_of f5) (nx (nx_of f4) (nx (nx_of f3) E hE) hE) hE) hE) hE) (rfin 2 (it2.trans (it_done (N := M + 197) R)))
  have R := rst2 (N := M + 200) (by omega) hU8 (q := p1) (by omega) ((([] : List Int) ++ [v0]) ++ [v1]) V
  rw [decide_eq_false (show ¬ (unpack (bl s)).length < p1 + 3 by omega), cond_false] at R
  replace E : e2 = 0 := E
  have z2 : e2 = 0 := E
  rw [← P] at R
  have it3 : iter (ref24_Take_b2 (M + 200) (rowT (unpack (bl s))) shW) (M + 200) (((p + 22 : Nat) : Int), 0, 0, 0, []) = iter (ref24_Take_b2 (M + 200) (rowT (unpack (bl s))) shW) (M + 197) ((p2 : Int), 3, 3, 3, (((([] : List Int) ++ [v0]) ++ [v1]) ++ [v2])) := it2.trans (it_next (N := M + 197) R)
  clear R
  rcases f3 with ⟨A, _⟩ | ⟨_, hsh, E⟩ | ⟨_, hlg, V, E, P⟩
  · exact absurd z2 A
  · have hE : (2 : Int) ≠ 0 := by decide
    have R := rst3 (N := M + 200) (by omega) hU8 (q := p2) (by omega) (((([] : List Int) ++ [v0]) ++ [v1]) ++ [v2]) rfl
    rw [decide_eq_true (show (unpack (bl s)).length < p2 + 3 by omega), cond_true] at R
    exact hfail 2 hE (nx (nx_of f7) (nx (nx_of f6) (nx (nx_of f5) (nx (nx_of f4) E hE) hE) hE) hE) (rfin 2 (it3.trans (it_done (N := M + 196) R)))
  have R := rst3 (N := M + 200) (by omega) hU8 (q := p2) (by omega) (((([] : List Int) ++ [v0]) ++ [v1]) ++ [v2]) V
  rw [decide_eq_false (show ¬ (unpack (bl s)).length < p2 + 3 by omega), cond_false] at R
  replace E : e3 = (bif !decide (fA v3 ≠ 0) then (5 : Int) else 0) := E
  by_cases hc3 : (bif !decide (fA v3 ≠ 0) then (5 : Int) else 0) ≠ 0
  · have hE := hc3
    rw [decide_eq_true hc3, cond_true] at R
    exact hfail _ hE (nx (nx_of f7) (nx (nx_of f6) (nx (nx_of f5) (nx (nx_of f4) E hE) hE) hE) hE) (rfin _ (it3.trans (it_done (N := M + 196) R)))
  rw [decide_eq_false hc3, cond_false] at R
  have z3 : e3 = 0 := by rw [E]; exact Classical.not_not.1 hc3
  rw [← P] at R
  have it4 : iter (ref24_Take_b2 (M + 200) (rowT (unpack (bl s))) shW) (M + 200) (((p + 22 : Nat) : Int), 0, 0, 0, []) = iter (ref24_Take_b2 (M + 200) (rowT (unpack (bl s))) shW) (M + 196) ((p3 : Int), 4, 4, 4, ((((([] : List Int) ++ [v0]) ++ [v1]) ++ [v2]) ++ [v3])) := it3.trans (it_next (N := M + 196) R)
  clear R
  rcases f4 with ⟨A, _⟩ | ⟨_, hsh, E⟩ | ⟨_, hlg, V, E, P⟩
  · exact absurd z3 A
  · have hE : (2 : Int) ≠ 0 := by decide
    have R := rst4 (N := M + 200) (by omega) hU8 (q := p3) (by omega) ((((([] : List Int) ++ [v0]) ++ [v1]) ++ [v2]) ++ [v3]) rfl
    rw [decide_eq_true (show (unpack (bl s)).length < p3 + 1 by omega), cond_true] at R
    exact hfail 2 hE (nx (nx_of f7) (nx (nx_of f6) (nx (nx_of f5) E hE) hE) hE) (rfin 2 (it4.trans (it_done (N := M + 195) R)))
  have R := rst4 (N := M + 200) (by omega) hU8 (q := p3) (by omega) ((((([] : List Int) ++ [v0]) ++ [v1]) ++ [v2]) ++ [v3]) V
  rw [decide_eq_false (show ¬ (unpack (bl s)).length < p3 + 1 by omega), cond_false] at R
  replace E : e4 = 0 := E
  have z4 : e4 = 0 := E
  rw [← P] at R
  have it5 : iter (ref24_Take_b2 (M + 200) (rowT (unpack (bl s))) shW) (M + 200) (((p + 22 : Nat) : Int), 0, 0, 0, []) = iter (ref24_Take_b2 (M + 200) (rowT (unpack (bl s))) shW) (M + 195) ((p4 : Int), 5, 5, 5, (((((([] : List Int) ++ [v0]) ++ [v1]) ++ [v2]) ++ [v3]) ++ [v4])) := it4.trans (it_next (N := M + 195) R)
  clear R
  rcases f5 with ⟨A, _⟩ | ⟨_, hsh, E⟩ | ⟨_, hlg, V, E, P⟩
  · exact absurd z4 A
  · have hE : (2 : Int) ≠ 0 := by decide
    have R := rst5 (N := M + 200) (by omega) hU8 (q := p4) (by omega) (((((([] : List Int) ++ [v0]) ++ [v1]) ++ [v2]) ++ [v3]) ++ [v4]) rfl
    rw [decide_eq_true (show (unpack (bl s)).length < p4 + 4 by omega), cond_true] at R
    exact hfail 2 hE (nx (nx_of f7) (nx (nx_of f6) E hE) hE) (rfin 2 (it5.trans (it_done (N := M + 194) R)))
  have R := rst5 (N := M + 200) (by omega) hU8 (q := p4) (by omega) (((((([] : List Int) ++ [v0]) ++ [v1]) ++ [v2]) ++ [v3]) ++ [v4]) V
  rw [decide_eq_false (show ¬ (unpack (bl s)).length < p4 + 4 by omega), cond_false] at R
  replace E : e5 = (bif decide (v5 = 0) then (0 : Int) else 6) := E
  by_cases hc5 : (bif decide (v5 = 0) then (0 : Int) else 6) ≠ 0
  · have hE := hc5
    rw [decide_eq_true hc5, cond_true] at R
    exact hfail _ hE (nx (nx_of f7) (nx (nx_of f6) E hE) hE) (rfin _ (it5.trans (it_done (N := M + 194) R)))
  rw [decide_eq_false hc5, cond_false] at R
  have z5 : e5 = 0 := by rw [E]; exact Classical.not_not.1 hc5
  rw [← P] at R
  have it6 : iter (ref24_Take_b2 (M + 200) (rowT (unpack (bl s))) shW) (M + 200) (((p + 22 : Nat) : Int), 0, 0, 0, []) = iter (ref24_Take_b2 (M + 200) (rowT (unpack (bl s))) shW) (M + 194) ((p5 : Int), 6, 6, 6, ((((((([] : List Int) ++ [v0]) ++ [v1]) ++ [v2]) ++ [v3]) ++ [v4]) ++ [v5])) := it5.trans (it_next (N := M + 194) R)
  clear R
  rcases f6 with ⟨A, _⟩ | ⟨_, hsh, E⟩ | ⟨_, hlg, V, E, P⟩
  · exact absurd z5 A
  · have hE : (2 : Int) ≠ 0 := by decide
    have R := rst6 (N := M + 200) (by omega) hU8 (q := p5) (by omega) ((((((([] : List Int) ++ [v0]) ++ [v1]) ++ [v2]) ++ [v3]) ++ [v4]) ++ [v5]) rfl
    rw [decide_eq_true (show (unpack (bl s)).length < p5 + 5 by omega), cond_true] at R
    exact hfail 2 hE (nx (nx_of f7) E hE) (rfin 2 (it6.trans (it_done (N := M + 193) R)))
  have R := rst6 (N := M + 200) (by omega) hU8 (q := p5) (by omega) ((((((([] : List Int) ++ [v0]) ++ [v1]) ++ [v2]) ++ [v3]) ++ [v4]) ++ [v5]) V
  rw [decide_eq_false (show ¬ (unpack (bl s)).length < p5 + 5 by omega), cond_false] at R
  replace E : e6 = (bif decide (v6 = 0) then (9 : Int) else 0) := E
  by_cases hc6 : (bif decide (v6 = 0) then (9 : Int) else 0) ≠ 0
  · have hE := hc6
    rw [decide_eq_true hc6, cond_true] at R
    exact hfail _ hE (nx (nx_of f7) E hE) (rfin _ (it6.trans (it_done (N := M + 193) R)))
  rw [decide_eq_false hc6, cond_false] at R
  have z6 : e6 = 0 := by rw [E]; exact Classical.not_not.1 hc6
  rw [← P] at R
  have it7 : iter (ref24_Take_b2 (M + 200) (rowT (unpack (bl s))) shW) (M + 200) (((p + 22 : Nat) : Int), 0, 0, 0, []) = iter (ref24_Take_b2 (M + 200) (rowT (unpack (bl s))) shW) (M + 193) ((p6 : Int), 7, 7, 7, (((((((([] : List Int) ++ [v0]) ++ [v1]) ++ [v2]) ++ [v3]) ++ [v4]) ++ [v5]) ++ [v6])) := it6.trans (it_next (N := M + 193) R)
  clear R
  rcases f7 with ⟨A, _⟩ | ⟨_, hsh, E⟩ | ⟨_, hlg, V, E, P⟩
  · exact absurd z6 A
  · have hE : (2 : Int) ≠ 0 := by decide
    have R := rst7 (N := M + 200) (by omega) hU8 (q := p6) (by omega) (((((((([] : List Int) ++ [v0]) ++ [v1]) ++ [v2]) ++ [v3]) ++ [v4]) ++ [v5]) ++ [v6]) rfl
    rw [decide_eq_true (show (unpack (bl s)).length < p6 + 1 by omega), cond_true] at R
    exact hfail 2 hE E (rfin 2 (it7.trans (it_done (N := M + 192) R)))
  have R := rst7 (N := M + 200) (by omega) hU8 (q := p6) (by omega) (((((((([] : List Int) ++ [v0]) ++ [v1]) ++ [v2]) ++ [v3]) ++ [v4]) ++ [v5]) ++ [v6]) V
  rw [decide_eq_false (show ¬ (unpack (bl s)).length < p6 + 1 by omega), cond_false] at R
  replace E : e7 = (bif decide (v7 = 0) then (0 : Int) else 6) := E
  by_cases hc7 : (bif decide (v7 = 0) then (0 : Int) else 6) ≠ 0
  · have hE := hc7
    rw [decide_eq_true hc7, cond_true] at R
    exact hfail _ hE E (rfin _ (it7.trans (it_done (N := M + 192) R)))
  rw [decide_eq_false hc7, cond_false] at R
  have z7 : e7 = 0 := by rw [E]; exact Classical.not_not.1 hc7
  rw [← P] at R
  have it8 : iter (ref24_Take_b2 (M + 200) (rowT (unpack (bl s))) shW) (M + 200) (((p + 22 : Nat) : Int), 0, 0, 0, []) = iter (ref24_Take_b2 (M + 200) (rowT (unpack (bl s))) shW) (M + 192) ((p7 : Int), 8, 8, 8, ((((((((([] : List Int) ++ [v0]) ++ [v1]) ++ [v2]) ++ [v3]) ++ [v4]) ++ [v5]) ++ [v6]) ++ [v7])) := it7.trans (it_next (N := M + 192) R)
  clear R
  have hend : iter (ref24_Take_b2 (M + 200) (rowT (unpack (bl s))) shW) (M + 200) (((p + 22 : Nat) : Int), 0, 0, 0, []) = some (Sum.inr ((p7 : Int), 8, 8, ((((((((([] : List Int) ++ [v0]) ++ [v1]) ++ [v2]) ++ [v3]) ++ [v4]) ++ [v5]) ++ [v6]) ++ [v7]))) := it8.trans (it_done (N := M + 191) (by
    unfold ref24_Take_b2
    simp only [show decide ((8 : Int) < 8) = false from rfl, cond_false]))
  have hR := rok _ _ hend
  rw [z7] at hread
  rcases supp_eq (M := M) hs (p : Int) (p7 : Int) ((((((((([] : List Int) ++ [v0]) ++ [v1]) ++ [v2]) ++ [v3]) ++ [v4]) ++ [v5]) ++ [v6]) ++ [v7]) 8 [] p7 (M + 200) (M + 200) rfl hp7 (by omega) (by omega) with ⟨E, hE, hC, hT⟩ | ⟨l', q', hC, hT, hq', hl'⟩
  · have hT' : iter (ref24_Take_b1 (M + 200) (rowT (unpack (bl s))) p ((p7 : Int), 8, 8, ((((((((([] : List Int) ++ [v0]) ++ [v1]) ++ [v2]) ++ [v3]) ++ [v4]) ++ [v5]) ++ [v6]) ++ [v7]))) (M + 200) ((p7 : Int), 0, 0, []) = some ((p : Int), E, 0, 0, 0, false, 0, []) := hT
    refine hfailR E hE ?_ (by rw [hR, hT']; rfl)
    rcases hC with ⟨k, q', k', l', hC, hk⟩ | ⟨k, q', k', l', hC, hk1, hk2⟩
    · have hC' : iter (sheethead_read_b1 (M + 200)) (M + 200) (0, 0, s, (p7 : Int), 0, []) = some (Sum.inr (k, E, s, q', k', l')) := hC
      exact ⟨v0, v2, v3, decide (v4 = 1), v6, l', 0, q', by rw [hread, hC']; show (if k = l'.length then _ else _) = _; rw [if_pos hk]⟩
    · have hC' : iter (sheethead_read_b1 (M + 200)) (M + 200) (0, 0, s, (p7 : Int), 0, []) = some (Sum.inl (k, s, q', k', l')) := hC
      exact ⟨v0, v2, v3, decide (v4 = 1), v6, l', 0, q', by rw [hread, hC', hk1]; show (if k = l'.length then _ else _) = _; rw [if_pos hk2]⟩
  · have hT' : iter (ref24_Take_b1 (M + 200) (rowT (unpack (bl s))) p ((p7 : Int), 8, 8, ((((((((([] : List Int) ++ [v0]) ++ [v1]) ++ [v2]) ++ [v3]) ++ [v4]) ++ [v5]) ++ [v6]) ++ [v7]))) (M + 200) ((p7 : Int), 0, 0, []) = some ((q' : Int), 0, v0, v2, v3, decide (v4 = 1), v6, l') := hT
    have hC' : iter (sheethead_read_b1 (M + 200)) (M + 200) (0, 0, s, (p7 : Int), 0, []) = some (Sum.inr (l'.length, 0, s, (q' : Int), l'.length, l')) := hC
    have hrd : sheethead_read (M + 200) s p = some (v0, v2, v3, decide (v4 = 1), v6, l', 0, 0, s, (q' : Int)) := by
      rw [hread, hC']; show (if l'.length = l'.length then _ else _) = _; rw [if_pos rfl]
    refine ⟨v0, v2, v3, decide (v4 = 1), v6, l', 0, q', ?_, by rw [hR, hT']; rfl, hl'⟩
    unfold sheethead_Take overspill_inbits_Reader_At
    simp only [hrd, Option.isSome_some, Option.getD_some, if_true, ne_eq, not_true, decide_false, cond_false]
theorem hsame_ok {N : Nat} {a b c : Int} {d : Bool} {f : Int} {l : List Int} {z : Int} (hN : 1000 < N) (hl : l.length ≤ 100) : ref24_Same N a b c d f l z a b c d f l z = some true := by
  unfold ref24_Same
  have hit : iter (ref24_Same_b1 N l l) N 0 = some (Sum.inr ()) := by
    refine iter_to (fun i => ((i : Nat) : Int)) l.length rfl (fun i hi => ?_) ?_ (by omega)
    · have g1 : (i : Int) < (l.length : Int) := by omega
      have g4 := inS (i := i) (by omega)
      simp only [ref24_Same_b1, g1, decide_true, cond_true, Int.natCast_nonneg, Int.toNat_natCast, ne_eq, not_true, decide_false, cond_false, and_self, if_true, g4, Int.natCast_succ]
    · simp only [ref24_Same_b1, Int.lt_irrefl, decide_false, cond_false]
  rw [hit]
  simp
theorem lives24 (M : Nat) : law24_lives (M + 200) = some true := by kernel_rfl
theorem htakes_law {M : Nat} (hM : 100000 ≤ M) (s : ByteArray) (f : Int) : law24_SheetheadTakes (M + 200) s f = some true := by
  unfold law24_SheetheadTakes
  have jk2 : ∀ {α β : Type} (F : α → Option β) (G : (α → Option β) → Option β), joinK F G = G F := fun _ _ => rfl
  have c1 : inbits_New (M + 200) s = some (s, 0) := rfl
  have c8 : sheethead_Take_v1 (M + 200) = some (0, 0, 0, false, 0, 0, 1) := rfl
  rw [lives24 M, c1, c8]
  simp only [jk2, Option.isSome_some, Option.getD_some, if_true]
  by_cases hs : (200 : Int) < (s.size : Int)
  · simp only [decide_eq_true hs, Bool.not_true, Bool.false_eq_true, false_implies, if_true, cond_false, cond_true]
  · have b2 : ((!(decide (f < 0))) = true → inK .i64 ((8 : Int) * (s.size : Int))) := fun _ => in64 (by omega) (by omega)
    by_cases hf : 0 ≤ f ∧ f ≤ 8 * (s.size : Int)
    · obtain ⟨p, rfl⟩ : ∃ p : Nat, f = p := ⟨f.toNat, by omega⟩
      have hsk := sk_ok (M + 200) (s := s) (p := p) (by omega) (by omega) 0
      obtain ⟨a, b, c, d, g, l, e, to, t1, t2, t3⟩ := htake_eq (M := M) (by omega) (s := s) (p := p) (by omega) (by omega)
      have hsh := show_ok (N := M + 200) (s := s) (by omega) (by omega)
      have hsm := hsame_ok (N := M + 200) (a := a) (b := b) (c := c) (d := d) (f := g) (l := l) (z := 0) (by omega) (by omega)
      have d0 : decide ((0 : Int) ≠ 0) = false := rfl
      unfold overspill_inbits_Reader_At
      simp only [decide_eq_false hs, hsk, t1, t2, hsh, hsm, d0, Bool.not_false, Option.isSome_some, Option.getD_some, implies_true, if_true, cond_true, cond_false, decide_true, and_self]
    · have b1 : (bif decide (f < 0) then true else decide (((8 : Int) * (s.size : Int)) < f)) = true := by
        by_cases h1 : f < 0
        · rw [decide_eq_true h1]; rfl
        · rw [decide_eq_true (show (8 : Int) * (s.size : Int) < f by omega)]; cases decide (f < 0) <;> rfl
      have hsk : overspill_inbits_Reader_Seek (M + 200) f s 0 = some (1, s, 0) := by
        unfold overspill_inbits_Reader_Seek
        simp only [b1, cond_true]
        rw [if_pos b2]
      have d1 : decide ((1 : Int) ≠ 0) = true := rfl
      simp only [decide_eq_false hs, hsk, d1, Bool.not_false, Option.isSome_some, Option.getD_some, implies_true, if_true, cond_true, cond_false]
theorem law_sheetheadTakes (N : Nat) (hN : 1099511627776 ≤ N) (y0 : Sh.den .str) (w0 : Sh.wf .str y0) (y1 : Sh.den (.int .i64)) (w1 : Sh.wf (.int .i64) y1) : law24_SheetheadTakes N y0 y1 = some true := by
  obtain ⟨M, rfl⟩ : ∃ M, N = M + 200 := ⟨N - 200, by omega⟩
  exact htakes_law (by omega) y0 y1
end Go.Proofs.Ytngghhpbjppkcaa
