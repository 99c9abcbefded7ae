/- What the printed models answer: plain laws. -/
import Derived.Test.YtngghhpbjppkcaaFS
set_option linter.unusedVariables false
set_option linter.unusedSimpArgs false
namespace Go.Proofs.Ytngghhpbjppkcaa
open Go.X

/-! ### heads of sheets: writing -/
theorem fA_in {f : Int} (h : fA f ≠ 0) : 1 ≤ f ∧ f ≤ 6 := by
  unfold fA at h
  by_cases h1 : f = 1
  · omega
  by_cases h2 : f = 2
  · omega
  by_cases h3 : f = 3
  · omega
  by_cases h4 : f = 4
  · omega
  by_cases h5 : f = 5
  · omega
  by_cases h6 : f = 6
  · omega
  simp [h1, h2, h3, h4, h5, h6] at h
def headB (a1 a2 a3 a5 : Int) (a6 : List Int) : Bool := (decide (fA a3 ≠ 0) && (decide (0 ≤ a1) && (decide (a1 ≤ 255) && (decide (0 ≤ a2) && (decide (a2 ≤ 7) && (decide (1 ≤ a5) && (decide (a5 ≤ 31) && decide ((a6.length : Int) ≤ 8)))))))) && (List.range a6.length).all fun j => decide (0 ≤ a6.getD j 0 ∧ a6.getD j 0 ≤ 255)
theorem condF (a b : Bool) : (bif a then b else false) = (a && b) := by cases a <;> rfl
theorem all_succ (n : Nat) (P : Nat → Bool) : (List.range (n + 1)).all P = ((List.range n).all P && P n) := by
  rw [List.range_succ, List.all_append]; simp
theorem hmay_ok {N : Nat} (hN : 100 < N) (a1 a2 a3 : Int) (a4 : Bool) (a5 : Int) {a6 : List Int} (a7 : Zt1) (a8 : Int) (h6 : a6.length ≤ 100) : sheethead_may_v1 N a1 a2 a3 a4 a5 a6 a7 a8 = some (headB a1 a2 a3 a5 a6) := by
  unfold sheethead_may_v1
  simp only [size_eq, Option.isSome_some, Option.getD_some, if_true, condF]
  generalize hX : (((((((decide (fA a3 ≠ 0) && decide (0 ≤ a1)) && decide (a1 ≤ 255)) && decide (0 ≤ a2)) && decide (a2 ≤ 7)) && decide (1 ≤ a5)) && decide (a5 ≤ 31)) && decide ((a6.length : Int) ≤ 8)) = X
  have hit : iter (sheethead_may_v1_b1 N a6) N (X, 0) = some (X && (List.range a6.length).all fun j => decide (0 ≤ a6.getD j 0 ∧ a6.getD j 0 ≤ 255)) := by
    refine iter_to (fun j => (X && (List.range j).all (fun j => decide (0 ≤ a6.getD j 0 ∧ a6.getD j 0 ≤ 255)), ((j : Nat) : Int))) a6.length (by simp) ?_ ?_ (by omega)
    · intro j hj
      have g1 : (j : Int) < (a6.length : Int) := by omega
      have g2 := inS (i := j) (by omega)
      simp only [sheethead_may_v1_b1, decide_eq_true g1, cond_true, decide_true, g1, Int.natCast_nonneg, and_self, if_true, Int.toNat_natCast, g2, condF]
      refine congrArg (fun s => some (Sum.inl s)) (Prod.ext ?_ (Int.natCast_succ j).symm)
      simp only [all_succ, Bool.decide_and, Bool.and_assoc]
    · simp only [sheethead_may_v1_b1, decide_eq_false (Int.lt_irrefl _), cond_false]
  rw [hit]
  subst hX
  simp only [headB, Option.bind_some, Bool.and_assoc]
theorem rhead_ok {N : Nat} (hN : 200 < N) (a1 a2 a3 : Int) (a4 : Bool) (a5 : Int) {a6 : List Int} (a7 : Zt1) (a8 : Int) (h6 : a6.length ≤ 100) : ref24_Right N a1 a2 a3 a4 a5 a6 a7 a8 = some (headB a1 a2 a3 a5 a6) := by
  unfold ref24_Right
  have hit : iter (ref24_Right_b1 N a6) N 0 = some (bif (List.range a6.length).all (fun j => decide (0 ≤ a6.getD j 0 ∧ a6.getD j 0 ≤ 255)) then .inr () else .inl ()) := by
    refine iter_all a6.length N (fun j => decide (0 ≤ a6.getD j 0 ∧ a6.getD j 0 ≤ 255)) ?_ ?_ (by omega)
    · intro j hj
      have g1 : (j : Int) < (a6.length : Int) := by omega
      have g2 := inS (i := j) (by omega)
      by_cases h1 : a6.getD j 0 < 0
      · have : ¬ 0 ≤ a6.getD j 0 := by omega
        simp [ref24_Right_b1, hj, h1, this, -List.getD_eq_getElem?_getD]
      · by_cases h2 : (255 : Int) < a6.getD j 0
        · have : ¬ a6.getD j 0 ≤ 255 := by omega
          simp [ref24_Right_b1, hj, h1, h2, this, -List.getD_eq_getElem?_getD]
        · have e1 : 0 ≤ a6.getD j 0 := by omega
          have e2 : a6.getD j 0 ≤ 255 := by omega
          simp [ref24_Right_b1, hj, h1, h2, e1, e2, g2, -List.getD_eq_getElem?_getD]
    · simp [ref24_Right_b1]
  have hf : decide (fA a3 * fD a3 = 0) = decide (fA a3 = 0) := by
    refine decide_eq_decide.2 ?_
    rcases fmt_or a3 with ⟨h1, h2⟩ | ⟨h1, _, h2, _⟩
    · simp [h1]
    · have := Int.mul_pos (show 0 < fA a3 by omega) (show 0 < fD a3 by omega); omega
  simp only [rmany_eq, Option.isSome_some, implies_true, if_true, Option.getD_some, hf, hit, headB]
  by_cases h1 : a1 < 0
  · have e : ¬ 0 ≤ a1 := by omega
    simp [h1, e]
  by_cases h2 : (255 : Int) < a1
  · have e : ¬ a1 ≤ 255 := by omega
    simp [h1, h2, e]
  by_cases h3 : a2 < 0
  · have e : ¬ 0 ≤ a2 := by omega
    simp [h1, h2, h3, e]
  by_cases h4 : (7 : Int) < a2
  · have e : ¬ a2 ≤ 7 := by omega
    simp [h1, h2, h3, h4, e]
  by_cases h5 : fA a3 = 0
  · simp [h1, h2, h3, h4, h5]
  by_cases h7 : a5 < 1
  · have e : ¬ 1 ≤ a5 := by omega
    simp [h1, h2, h3, h4, h5, h7, e]
  by_cases h8 : (31 : Int) < a5
  · have e : ¬ a5 ≤ 31 := by omega
    simp [h1, h2, h3, h4, h5, h7, h8, e]
  by_cases h9 : (8 : Int) < (a6.length : Int)
  · have e : ¬ (a6.length : Int) ≤ 8 := by omega
    simp only [decide_eq_false h1, decide_eq_false h2, decide_eq_false h3, decide_eq_false h4, decide_eq_false h5, decide_eq_false h7, decide_eq_false h8, decide_eq_true h9, cond_true, cond_false, decide_eq_false e, Bool.and_false, Bool.false_and]
  have e1 : 0 ≤ a1 := by omega
  have e2 : a1 ≤ 255 := by omega
  have e3 : 0 ≤ a2 := by omega
  have e4 : a2 ≤ 7 := by omega
  have e7 : 1 ≤ a5 := by omega
  have e8 : a5 ≤ 31 := by omega
  have e9 : (a6.length : Int) ≤ 8 := by omega
  simp only [decide_eq_false h1, decide_eq_false h2, decide_eq_false h3, decide_eq_false h4, decide_eq_false h5, decide_eq_false h7, decide_eq_false h8, decide_eq_false h9, cond_true, cond_false, decide_eq_true e1, decide_eq_true e2, decide_eq_true e3, decide_eq_true e4, decide_eq_true e7, decide_eq_true e8, decide_eq_true e9, ne_eq, h5, not_false_eq_true, decide_true, Bool.true_and]
  cases (List.range a6.length).all fun j => decide (0 ≤ a6.getD j 0 ∧ a6.getD j 0 ≤ 255) <;> rfl
def sbA (b0 : List Bool) (a6 : List Int) : Nat → List Bool
  | 0 => b0
  | j + 1 => sbA b0 a6 j ++ digits (orI 256 (a6.getD j 0)) 9
theorem sbA_len (b0 : List Bool) (a6 : List Int) : ∀ j, (sbA b0 a6 j).length = b0.length + 9 * j
  | 0 => rfl
  | j + 1 => by simp only [sbA, List.length_append, sbA_len b0 a6 j, digits_length]; omega
theorem or256 {v : Int} (h0 : 0 ≤ v) (h1 : v ≤ 255) : 0 ≤ orI 256 v ∧ orI 256 v < 2 ^ 9 := by
  rw [orI_eq (by decide) h0]
  have h2 : v.toNat < 2 ^ 9 := by omega
  exact ⟨Int.natCast_nonneg _, Int.ofNat_lt.2 (Nat.or_lt_two_pow (x := (256 : Int).toNat) (n := 9) (by decide) h2)⟩
def padB (b : List Bool) : List Bool := List.replicate ((8 - b.length % 8) % 8) false
theorem padB_len (b : List Bool) : (padB b).length = (8 - b.length % 8) % 8 := List.length_replicate ..
theorem fill_ok (N : Nat) {b : List Bool} (hb : b.length ≤ 1000) : ∃ k, overspill_outbits_Writer_Fill N b = some (k, b ++ padB b) := by
  have hn : (((8 : Int) - ((b.length : Int) % 8)) % 8) = (((8 - b.length % 8) % 8 : Nat) : Int) := by omega
  have hu : unpB (packB b) ((b.length : Int) + (((8 - b.length % 8) % 8 : Nat) : Int)) = b ++ padB b := by
    unfold unpB
    rw [unpack_packB]
    refine List.take_of_length_le ?_
    rw [List.length_append, List.length_replicate]; omega
  have hp : packB (b ++ padB b) = packB b := packB_pad b _ (Nat.mod_lt _ (by decide)) (by omega)
  have hl : ((b ++ padB b).length : Int) = (b.length : Int) + (((8 - b.length % 8) % 8 : Nat) : Int) := by rw [List.length_append, padB_len]; omega
  refine ⟨((((8 - b.length % 8) % 8 : Nat)) : Int), ?_⟩
  unfold overspill_outbits_Writer_Fill
  rw [if_pos (by omega), if_pos ⟨by omega, in64 (by omega) (by omega), by omega⟩]
  rw [hn, hu, hp, hl, if_pos (in64 (by omega) (by omega)), if_pos ⟨rfl, rfl⟩]
theorem mput_ok {N : Nat} (hN : 100 < N) {b : List Bool} (hb : b.length ≤ 1000) : marks_Put N 0 b = some (0, b ++ padB b ++ digits 32 22) := by
  obtain ⟨k, hk⟩ := fill_ok N hb
  have hl := padB_len b
  have hp := put_ok hN (v := 32) (n := 22) (bits := b ++ padB b) (by rw [List.length_append]; omega) (by decide) (by decide) (by decide)
  have hp' : overspill_outbits_Writer_Put N (orI 32 0) 22 (b ++ padB b) = some (0, b ++ padB b ++ digits 32 22) := hp
  unfold marks_Put
  simp only [hk, hp', Option.isSome_some, Option.getD_some, if_true, Int.le_refl, and_self, show decide ((0 : Int) < 0) = false from rfl, show decide ((31 : Int) < 0) = false from rfl, cond_false]
def hT (a1 a2 a3 : Int) (a4 : Bool) (a5 : Int) (b : List Bool) : List Bool := (((((((((b ++ padB b) ++ digits 32 22) ++ digits a1 8) ++ digits 2 2) ++ digits a2 3) ++ digits a3 3) ++ digits (bif a4 then 1 else 0) 1) ++ digits 0 4) ++ digits a5 5) ++ digits 0 1
theorem hT_len (a1 a2 a3 : Int) (a4 : Bool) (a5 : Int) (b : List Bool) : (hT a1 a2 a3 a4 a5 b).length = b.length + (8 - b.length % 8) % 8 + 49 := by
  unfold hT
  simp only [List.length_append, digits_length, padB_len]
theorem hput_bad {M : Nat} {a1 a2 a3 : Int} {a4 : Bool} {a5 : Int} {a6 : List Int} (a7 : Zt1) (a8 : Int) (b : List Bool) (h6 : a6.length ≤ 100) (hh : headB a1 a2 a3 a5 a6 = false) : sheethead_Put_v1 (M + 200) a1 a2 a3 a4 a5 a6 a7 a8 b = some (12, b) := by
  unfold sheethead_Put_v1
  rw [hmay_ok (N := M + 200) (by omega) a1 a2 a3 a4 a5 a7 a8 h6, hh]; rfl
theorem hput_ok {M : Nat} {a1 a2 a3 : Int} {a4 : Bool} {a5 : Int} {a6 : List Int} (a7 : Zt1) (a8 : Int) {b : List Bool} (hb : b.length ≤ 100) (h6 : a6.length ≤ 100) (hh : headB a1 a2 a3 a5 a6 = true) : sheethead_Put_v1 (M + 200) a1 a2 a3 a4 a5 a6 a7 a8 b = some (0, sbA (hT a1 a2 a3 a4 a5 b) a6 a6.length ++ digits 0 1) := by
  unfold sheethead_Put_v1
  rw [hmay_ok (N := M + 200) (by omega) a1 a2 a3 a4 a5 a7 a8 h6, hh]
  unfold headB at hh
  simp only [Bool.and_eq_true, decide_eq_true_eq, List.all_eq_true, List.mem_range] at hh
  obtain ⟨⟨f1, f2, f3, f4, f5, f6, f7, f8⟩, f9⟩ := hh
  obtain ⟨f10, f11⟩ := fA_in f1
  have hpd := padB_len b
  have k2 := mput_ok (N := M + 200) (by omega) (b := b) (by omega)
  have k3 : overspill_outbits_Writer_Put (M + 200) a1 8 ((b ++ padB b) ++ digits 32 22) = some (0, ((b ++ padB b) ++ digits 32 22) ++ digits a1 8) := put_ok (N := M + 200) (by omega) (v := a1) (n := 8) (by simp only [List.length_append, digits_length]; omega) (by omega) (by omega) (by omega)
  have k4 : overspill_outbits_Writer_Put (M + 200) 2 2 (((b ++ padB b) ++ digits 32 22) ++ digits a1 8) = some (0, (((b ++ padB b) ++ digits 32 22) ++ digits a1 8) ++ digits 2 2) := put_ok (N := M + 200) (by omega) (v := 2) (n := 2) (by simp only [List.length_append, digits_length]; omega) (by omega) (by omega) (by omega)
  have k5 : overspill_outbits_Writer_Put (M + 200) a2 3 ((((b ++ padB b) ++ digits 32 22) ++ digits a1 8) ++ digits 2 2) = some (0, ((((b ++ padB b) ++ digits 32 22) ++ digits a1 8) ++ digits 2 2) ++ digits a2 3) := put_ok (N := M + 200) (by omega) (v := a2) (n := 3) (by simp only [List.length_append, digits_length]; omega) (by omega) (by omega) (by omega)
  have k6 : overspill_outbits_Writer_Put (M + 200) a3 3 (((((b ++ padB b) ++ digits 32 22) ++ digits a1 8) ++ digits 2 2) ++ digits a2 3) = some (0, (((((b ++ padB b) ++ digits 32 22) ++ digits a1 8) ++ digits 2 2) ++ digits a2 3) ++ digits a3 3) := put_ok (N := M + 200) (by omega) (v := a3) (n := 3) (by simp only [List.length_append, digits_length]; omega) (by omega) (by omega) (by omega)
  have k7 : overspill_outbits_Writer_Put (M + 200) (bif a4 then (1 : Int) else 0) 1 ((((((b ++ padB b) ++ digits 32 22) ++ digits a1 8) ++ digits 2 2) ++ digits a2 3) ++ digits a3 3) = some (0, ((((((b ++ padB b) ++ digits 32 22) ++ digits a1 8) ++ digits 2 2) ++ digits a2 3) ++ digits a3 3) ++ digits (bif a4 then 1 else 0) 1) := put_ok (N := M + 200) (by omega) (v := (bif a4 then (1 : Int) else 0)) (n := 1) (by simp only [List.length_append, digits_length]; omega) (by omega) (by cases a4 <;> decide) (by cases a4 <;> decide)
  have k8 : overspill_outbits_Writer_Put (M + 200) 0 4 (((((((b ++ padB b) ++ digits 32 22) ++ digits a1 8) ++ digits 2 2) ++ digits a2 3) ++ digits a3 3) ++ digits (bif a4 then 1 else 0) 1) = some (0, (((((((b ++ padB b) ++ digits 32 22) ++ digits a1 8) ++ digits 2 2) ++ digits a2 3) ++ digits a3 3) ++ digits (bif a4 then 1 else 0) 1) ++ digits 0 4) := put_ok (N := M + 200) (by omega) (v := 0) (n := 4) (by simp only [List.length_append, digits_length]; omega) (by omega) (by omega) (by omega)
  have k9 : overspill_outbits_Writer_Put (M + 200) a5 5 ((((((((b ++ padB b) ++ digits 32 22) ++ digits a1 8) ++ digits 2 2) ++ digits a2 3) ++ digits a3 3) ++ digits (bif a4 then 1 else 0) 1) ++ digits 0 4) = some (0, ((((((((b ++ padB b) ++ digits 32 22) ++ digits a1 8) ++ digits 2 2) ++ digits a2 3) ++ digits a3 3) ++ digits (bif a4 then 1 else 0) 1) ++ digits 0 4) ++ digits a5 5) := put_ok (N := M + 200) (by omega) (v := a5) (n := 5) (by simp only [List.length_append, digits_length]; omega) (by omega) (by omega) (by omega)
  have k10 : overspill_outbits_Writer_Put (M + 200) 0 1 (((((((((b ++ padB b) ++ digits 32 22) ++ digits a1 8) ++ digits 2 2) ++ digits a2 3) ++ digits a3 3) ++ digits (bif a4 then 1 else 0) 1) ++ digits 0 4) ++ digits a5 5) = some (0, (((((((((b ++ padB b) ++ digits 32 22) ++ digits a1 8) ++ digits 2 2) ++ digits a2 3) ++ digits a3 3) ++ digits (bif a4 then 1 else 0) 1) ++ digits 0 4) ++ digits a5 5) ++ digits 0 1) := put_ok (N := M + 200) (by omega) (v := 0) (n := 1) (by simp only [List.length_append, digits_length]; omega) (by omega) (by omega) (by omega)
  have hL := hT_len a1 a2 a3 a4 a5 b
  have hM : a6.length < M + 200 := by omega
  have hit : iter (sheethead_Put_v1_b1 (M + 200) a6) (M + 200) (0, hT a1 a2 a3 a4 a5 b) = some (sbA (hT a1 a2 a3 a4 a5 b) a6 a6.length) := by
    refine iter_to (fun j => (((j : Nat) : Int), sbA (hT a1 a2 a3 a4 a5 b) a6 j)) a6.length rfl ?_ ?_ hM
    · intro j hj
      have g1 : (j : Int) < (a6.length : Int) := by omega
      have g2 := inS (i := j) (by omega)
      obtain ⟨p1, p2⟩ := f9 j hj
      obtain ⟨o1, o2⟩ := or256 p1 p2
      have hl := sbA_len (hT a1 a2 a3 a4 a5 b) a6 j
      have hp := put_ok (N := M + 200) (by omega) (v := orI 256 (a6.getD j 0)) (n := 9) (bits := sbA (hT a1 a2 a3 a4 a5 b) a6 j) (by omega) (by omega) o1 o2
      have hp' : overspill_outbits_Writer_Put (M + 200) (orI 256 (a6.getD j 0)) 9 (sbA (hT a1 a2 a3 a4 a5 b) a6 j) = some (0, sbA (hT a1 a2 a3 a4 a5 b) a6 (j + 1)) := hp
      simp only [sheethead_Put_v1_b1, decide_eq_true g1, cond_true, decide_true, g1, Int.natCast_nonneg, and_self, if_true, Int.toNat_natCast, hp', p1, Option.isSome_some, Option.getD_some, g2, Int.natCast_succ]
    · simp only [sheethead_Put_v1_b1, decide_eq_false (Int.lt_irrefl _), cond_false]
  have hl := sbA_len (hT a1 a2 a3 a4 a5 b) a6 a6.length
  have k11 : overspill_outbits_Writer_Put (M + 200) 0 1 (sbA (hT a1 a2 a3 a4 a5 b) a6 a6.length) = some (0, sbA (hT a1 a2 a3 a4 a5 b) a6 a6.length ++ digits 0 1) := put_ok (N := M + 200) (by omega) (v := 0) (n := 1) (by omega) (by omega) (by omega) (by omega)
  unfold hT at hit k11
  simp only [Option.isSome_some, Option.getD_some, if_true, Bool.not_true, cond_false, k2, k3, k4, k5, k6, k7, k8, k9, k10, hit, Option.bind_some, k11]
  rfl
theorem or9 {v : Int} (h0 : 0 ≤ v) (h1 : v ≤ 255) : digits (orI 256 v) 9 = digits 1 1 ++ digits v 8 := by
  have h2 : v.toNat < 2 ^ 8 := by omega
  have e : orI 256 v = 256 + v := by
    rw [orI_eq (by decide) h0]
    have := Nat.two_pow_add_eq_or_of_lt h2 1
    have h3 : (256 : Int).toNat ||| v.toNat = 256 + v.toNat := this.symm
    rw [h3]; omega
  have hn : numB (digits 1 1 ++ digits v 8) = 256 + v := by
    rw [numB_append, digits_length, numB_digits 1 1 (by decide) (by decide), numB_digits v 8 h0 (by omega)]; omega
  have hl : (digits 1 1 ++ digits v 8).length = 9 := by rw [List.length_append, digits_length, digits_length]
  have := digits_numB (digits 1 1 ++ digits v 8)
  rw [hn, hl] at this
  rw [e]; exact this
theorem bv_at {U A R : List Bool} {p n : Nat} {v : Int} (hU : U = A ++ (digits v n ++ R)) (hp : A.length = p) (h0 : 0 ≤ v) (h1 : v < 2 ^ n) : bv U p n = v := by
  subst hp
  unfold bv
  rw [hU, List.drop_left, List.take_left' (digits_length v n), numB_digits v n h0 h1]
theorem sbA_at (b0 : List Bool) (a6 : List Int) (j : Nat) : ∀ d, ∃ R, sbA b0 a6 (j + 1 + d) = sbA b0 a6 j ++ (digits (orI 256 (a6.getD j 0)) 9 ++ R)
  | 0 => ⟨[], by rw [List.append_nil]; rfl⟩
  | d + 1 => by
    obtain ⟨R, h⟩ := sbA_at b0 a6 j d
    exact ⟨R ++ digits (orI 256 (a6.getD (j + 1 + d) 0)) 9, by
      have e : sbA b0 a6 (j + 1 + (d + 1)) = sbA b0 a6 (j + 1 + d) ++ digits (orI 256 (a6.getD (j + 1 + d) 0)) 9 := rfl
      rw [e, h]; simp only [List.append_assoc]⟩
theorem sbA_app (b0 : List Bool) (a6 : List Int) : ∀ j, ∃ R, sbA b0 a6 j = b0 ++ R
  | 0 => ⟨[], (List.append_nil _).symm⟩
  | j + 1 => by
    obtain ⟨R, h⟩ := sbA_app b0 a6 j
    exact ⟨R ++ digits (orI 256 (a6.getD j 0)) 9, by show sbA b0 a6 j ++ _ = _; rw [h]; simp only [List.append_assoc]⟩
theorem take_snoc' {l : List Int} {j : Nat} (h : j < l.length) : l.take j ++ [l.getD j 0] = l.take (j + 1) := by
  rw [List.take_add_one, List.getD_eq_getElem?_getD, List.getElem?_eq_getElem h]; rfl
theorem supp_ok {M : Nat} {s : ByteArray} (hs : s.size ≤ 1000) {b0 : List Bool} {a6 : List Int} {Z : List Bool} (hU : unpack (bl s) = sbA b0 a6 a6.length ++ (digits 0 1 ++ Z)) (h6 : a6.length ≤ 8) (h9 : ∀ j, j < a6.length → 0 ≤ a6.getD j 0 ∧ a6.getD j 0 ≤ 255) : iter (sheethead_read_b1 (M + 200)) (M + 200) (0, 0, s, (b0.length : Int), 0, []) = some (Sum.inr (a6.length, 0, s, ((b0.length + 9 * a6.length + 1 : Nat) : Int), a6.length, a6)) := by
  have hUl : (unpack (bl s)).length = 8 * s.size := by rw [unpack_length, bl_length]
  have hUl' := hUl
  rw [hU] at hUl'
  simp only [List.length_append, digits_length, sbA_len] at hUl'
  have d01 : decide ((0 : Int) = 1) = false := rfl
  have d00 : decide ((0 : Int) = 0) = true := rfl
  have d11 : decide ((1 : Int) = 1) = true := rfl
  refine iter_to (fun j => (j, 0, s, ((b0.length + 9 * j : Nat) : Int), j, a6.take j)) a6.length rfl (fun j hj => ?_) ?_ (by omega)
  · obtain ⟨R, hR⟩ := sbA_at b0 a6 j (a6.length - (j + 1))
    rw [show j + 1 + (a6.length - (j + 1)) = a6.length by omega] at hR
    obtain ⟨h0, h1⟩ := h9 j hj
    rw [hR, or9 h0 h1] at hU
    have v1 : bv (unpack (bl s)) (b0.length + 9 * j) 1 = 1 := bv_at (A := sbA b0 a6 j) (R := digits (a6.getD j 0) 8 ++ (R ++ (digits 0 1 ++ Z))) (by rw [hU]; simp only [List.append_assoc]) (sbA_len ..) (by decide) (by decide)
    have v2 : bv (unpack (bl s)) (b0.length + 9 * j + 1) 8 = a6.getD j 0 := bv_at (A := sbA b0 a6 j ++ digits 1 1) (R := R ++ (digits 0 1 ++ Z)) (by rw [hU]; simp only [List.append_assoc]) (by rw [List.length_append, sbA_len, digits_length]) h0 (by omega)
    have p1 := part0 (N := M + 200) (by omega) hs (p := b0.length + 9 * j) (by omega) 0 (n := 1) (by decide)
    have p2 := part0 (N := M + 200) (by omega) hs (p := b0.length + 9 * j + 1) (by omega) 0 (n := 8) (by decide)
    unfold prt at p1 p2
    rw [show ((1 : Nat) : Int) = 1 from rfl] at p1
    rw [show ((8 : Nat) : Int) = 8 from rfl] at p2
    simp only [ne_eq, not_true, decide_false, cond_false, decide_eq_false (show ¬ 8 * s.size < b0.length + 9 * j + 1 by omega), v1] at p1
    simp only [ne_eq, not_true, decide_false, cond_false, decide_eq_false (show ¬ 8 * s.size < b0.length + 9 * j + 1 + 8 by omega), v2] at p2
    have k8 : decide ((j : Int) = 8) = false := decide_eq_false (by omega)
    have t1 : (j + 1) * 8 ≤ 140737488355328 := by omega
    have t2 : j + 1 ≤ 9223372036854775807 := by omega
    show sheethead_read_b1 (M + 200) (j, 0, s, ((b0.length + 9 * j : Nat) : Int), j, a6.take j) = some (.inl (j + 1, 0, s, ((b0.length + 9 * (j + 1) : Nat) : Int), j + 1, a6.take (j + 1)))
    simp only [sheethead_read_b1, p1, p2, Option.getD_some, Option.isSome_some, if_true, d11, d00, cond_true, k8, cond_false, Nat.le_refl, and_self, t1, t2]
    rw [← take_snoc' hj, show b0.length + 9 * (j + 1) = b0.length + 9 * j + 1 + 8 by omega]
    rfl
  · have v1 : bv (unpack (bl s)) (b0.length + 9 * a6.length) 1 = 0 := bv_at (A := sbA b0 a6 a6.length) (R := Z) hU (sbA_len ..) (by decide) (by decide)
    have p1 := part0 (N := M + 200) (by omega) hs (p := b0.length + 9 * a6.length) (by omega) 0 (n := 1) (by decide)
    unfold prt at p1
    rw [show ((1 : Nat) : Int) = 1 from rfl] at p1
    simp only [ne_eq, not_true, decide_false, cond_false, decide_eq_false (show ¬ 8 * s.size < b0.length + 9 * a6.length + 1 by omega), v1] at p1
    show sheethead_read_b1 (M + 200) (a6.length, 0, s, ((b0.length + 9 * a6.length : Nat) : Int), a6.length, a6.take a6.length) = _
    simp only [sheethead_read_b1, p1, Option.getD_some, Option.isSome_some, if_true, d01, cond_false, List.take_length]
theorem htake_ok {M : Nat} {a1 a2 a3 : Int} {a4 : Bool} {a5 : Int} {a6 : List Int} {b Z : List Bool} {s : ByteArray} {p : Nat} (hs : s.size ≤ 1000) (hp : p = b.length + (8 - b.length % 8) % 8) (hh : headB a1 a2 a3 a5 a6 = true) (hU : unpack (bl s) = sbA (hT a1 a2 a3 a4 a5 b) a6 a6.length ++ (digits 0 1 ++ Z)) : sheethead_Take (M + 200) s p = some (a1, a2, a3, a4, a5, a6, 0, 0, s, ((p + 49 + 9 * a6.length + 1 : Nat) : Int)) := by
  unfold headB at hh
  simp only [Bool.and_eq_true, decide_eq_true_eq, List.all_eq_true, List.mem_range] at hh
  obtain ⟨⟨f1, f2, f3, f4, f5, f6, f7, f8⟩, f9⟩ := hh
  obtain ⟨f10, f11⟩ := fA_in f1
  have hL := hT_len a1 a2 a3 a4 a5 b
  have hpd := padB_len b
  have hUl : (unpack (bl s)).length = 8 * s.size := by rw [unpack_length, bl_length]
  have hUl' := hUl
  rw [hU] at hUl'
  simp only [List.length_append, digits_length, sbA_len] at hUl'
  have hsu := supp_ok (M := M) hs hU (by omega) f9
  obtain ⟨Q, hQ⟩ := sbA_app (hT a1 a2 a3 a4 a5 b) a6 a6.length
  rw [hQ] at hU
  unfold hT at hU
  have w0 : bv (unpack (bl s)) (p + 0) 22 = 32 := bv_at (A := b ++ padB b) (R := digits a1 8 ++ (digits 2 2 ++ (digits a2 3 ++ (digits a3 3 ++ (digits (bif a4 then 1 else 0) 1 ++ (digits 0 4 ++ (digits a5 5 ++ (digits 0 1 ++ (Q ++ (digits 0 1 ++ Z)))))))))) (by rw [hU]; simp only [List.append_assoc]) (by simp only [List.length_append, digits_length]; omega) (by omega) (by omega)
  have w1 : bv (unpack (bl s)) (p + 22) 8 = a1 := bv_at (A := (b ++ padB b) ++ digits 32 22) (R := digits 2 2 ++ (digits a2 3 ++ (digits a3 3 ++ (digits (bif a4 then 1 else 0) 1 ++ (digits 0 4 ++ (digits a5 5 ++ (digits 0 1 ++ (Q ++ (digits 0 1 ++ Z))))))))) (by rw [hU]; simp only [List.append_assoc]) (by simp only [List.length_append, digits_length]; omega) (by omega) (by omega)
  have w2 : bv (unpack (bl s)) (p + 30) 2 = 2 := bv_at (A := ((b ++ padB b) ++ digits 32 22) ++ digits a1 8) (R := digits a2 3 ++ (digits a3 3 ++ (digits (bif a4 then 1 else 0) 1 ++ (digits 0 4 ++ (digits a5 5 ++ (digits 0 1 ++ (Q ++ (digits 0 1 ++ Z)))))))) (by rw [hU]; simp only [List.append_assoc]) (by simp only [List.length_append, digits_length]; omega) (by omega) (by omega)
  have w3 : bv (unpack (bl s)) (p + 32) 3 = a2 := bv_at (A := (((b ++ padB b) ++ digits 32 22) ++ digits a1 8) ++ digits 2 2) (R := digits a3 3 ++ (digits (bif a4 then 1 else 0) 1 ++ (digits 0 4 ++ (digits a5 5 ++ (digits 0 1 ++ (Q ++ (digits 0 1 ++ Z))))))) (by rw [hU]; simp only [List.append_assoc]) (by simp only [List.length_append, digits_length]; omega) (by omega) (by omega)
  have w4 : bv (unpack (bl s)) (p + 35) 3 = a3 := bv_at (A := ((((b ++ padB b) ++ digits 32 22) ++ digits a1 8) ++ digits 2 2) ++ digits a2 3) (R := digits (bif a4 then 1 else 0) 1 ++ (digits 0 4 ++ (digits a5 5 ++ (digits 0 1 ++ (Q ++ (digits 0 1 ++ Z)))))) (by rw [hU]; simp only [List.append_assoc]) (by simp only [List.length_append, digits_length]; omega) (by omega) (by omega)
  have w5 : bv (unpack (bl s)) (p + 38) 1 = (bif a4 then (1 : Int) else 0) := bv_at (A := (((((b ++ padB b) ++ digits 32 22) ++ digits a1 8) ++ digits 2 2) ++ digits a2 3) ++ digits a3 3) (R := digits 0 4 ++ (digits a5 5 ++ (digits 0 1 ++ (Q ++ (digits 0 1 ++ Z))))) (by rw [hU]; simp only [List.append_assoc]) (by simp only [List.length_append, digits_length]; omega) (by cases a4 <;> decide) (by cases a4 <;> decide)
  have w6 : bv (unpack (bl s)) (p + 39) 4 = 0 := bv_at (A := ((((((b ++ padB b) ++ digits 32 22) ++ digits a1 8) ++ digits 2 2) ++ digits a2 3) ++ digits a3 3) ++ digits (bif a4 then 1 else 0) 1) (R := digits a5 5 ++ (digits 0 1 ++ (Q ++ (digits 0 1 ++ Z)))) (by rw [hU]; simp only [List.append_assoc]) (by simp only [List.length_append, digits_length]; omega) (by omega) (by omega)
  have w7 : bv (unpack (bl s)) (p + 43) 5 = a5 := bv_at (A := (((((((b ++ padB b) ++ digits 32 22) ++ digits a1 8) ++ digits 2 2) ++ digits a2 3) ++ digits a3 3) ++ digits (bif a4 then 1 else 0) 1) ++ digits 0 4) (R := digits 0 1 ++ (Q ++ (digits 0 1 ++ Z))) (by rw [hU]; simp only [List.append_assoc]) (by simp only [List.length_append, digits_length]; omega) (by omega) (by omega)
  have w8 : bv (unpack (bl s)) (p + 48) 1 = 0 := bv_at (A := ((((((((b ++ padB b) ++ digits 32 22) ++ digits a1 8) ++ digits 2 2) ++ digits a2 3) ++ digits a3 3) ++ digits (bif a4 then 1 else 0) 1) ++ digits 0 4) ++ digits a5 5) (R := Q ++ (digits 0 1 ++ Z)) (by rw [hU]; simp only [List.append_assoc]) (by simp only [List.length_append, digits_length]; omega) (by omega) (by omega)
  have hsm : smE (unpack (bl s)) p = 0 := by
    have hsp := bv_split (U := unpack (bl s)) (p := p) (a := 17) (b := 5) (by omega)
    obtain ⟨b1, b2⟩ := bv_in (unpack (bl s)) (p + 17) 5
    have w0' : bv (unpack (bl s)) p 22 = 32 := w0
    have hsp' : bv (unpack (bl s)) p 22 = bv (unpack (bl s)) p 17 * 32 + bv (unpack (bl s)) (p + 17) 5 := hsp
    have e1 : bv (unpack (bl s)) p 17 = 1 := by omega
    have e2 : bv (unpack (bl s)) (p + 17) 5 = 0 := by omega
    have h8 : ¬ (p % 8 ≠ 0) := by omega
    have hsh : ¬ (unpack (bl s)).length < p + 22 := by omega
    unfold smE hmE hmV
    simp only [decide_eq_false h8, decide_eq_false hsh, e1, e2, cond_false, decide_true, cond_true, ne_eq, not_true, decide_false]
  obtain ⟨em, pm, v0, e0, p0, v1, e1, p1, v2, e2, p2, v3, e3, p3, v4, e4, p4, v5, e5, p5, v6, e6, p6, v7, e7, p7, hem, hpm, g0, g1, g2, g3, g4, g5, g6, g7, hp7, hread⟩ := read_eq (M := M) hs (p := p) (by omega)
  rw [hsm] at hem
  subst hem
  have hpm' : pm = p + 22 := hpm
  subst hpm'
  rcases g0 with ⟨A, _⟩ | ⟨_, hsh, _⟩ | ⟨_, _, V, E, P⟩
  · exact absurd rfl A
  · exact absurd hsh (by omega)
  replace V : v0 = a1 := V.trans w1
  replace E : e0 = 0 := E
  replace P : p0 = p + 30 := P
  replace V := V.symm
  subst V E P
  rcases g1 with ⟨A, _⟩ | ⟨_, hsh, _⟩ | ⟨_, _, V, E, P⟩
  · exact absurd rfl A
  · exact absurd hsh (by omega)
  replace V : v1 = 2 := V.trans w2
  replace E : e1 = 0 := by rw [E, V]; rfl
  replace P : p1 = p + 32 := P
  replace V := V.symm
  subst V E P
  rcases g2 with ⟨A, _⟩ | ⟨_, hsh, _⟩ | ⟨_, _, V, E, P⟩
  · exact absurd rfl A
  · exact absurd hsh (by omega)
  replace V : v2 = a2 := V.trans w3
  replace E : e2 = 0 := E
  replace P : p2 = p + 35 := P
  replace V := V.symm
  subst V E P
  rcases g3 with ⟨A, _⟩ | ⟨_, hsh, _⟩ | ⟨_, _, V, E, P⟩
  · exact absurd rfl A
  · exact absurd hsh (by omega)
  replace V : v3 = a3 := V.trans w4
  replace E : e3 = 0 := by rw [E, V]; simp [f1]
  replace P : p3 = p + 38 := P
  replace V := V.symm
  subst V E P
  rcases g4 with ⟨A, _⟩ | ⟨_, hsh, _⟩ | ⟨_, _, V, E, P⟩
  · exact absurd rfl A
  · exact absurd hsh (by omega)
  replace V : v4 = (bif a4 then (1 : Int) else 0) := V.trans w5
  replace E : e4 = 0 := E
  replace P : p4 = p + 39 := P
  replace V := V.symm
  subst V E P
  rcases g5 with ⟨A, _⟩ | ⟨_, hsh, _⟩ | ⟨_, _, V, E, P⟩
  · exact absurd rfl A
  · exact absurd hsh (by omega)
  replace V : v5 = 0 := V.trans w6
  replace E : e5 = 0 := by rw [E, V]; rfl
  replace P : p5 = p + 43 := P
  replace V := V.symm
  subst V E P
  rcases g6 with ⟨A, _⟩ | ⟨_, hsh, _⟩ | ⟨_, _, V, E, P⟩
  · exact absurd rfl A
  · exact absurd hsh (by omega)
  replace V : v6 = a5 := V.trans w7
  replace E : e6 = 0 := by rw [E, V]; simp [show ¬ a5 = 0 by omega]
  replace P : p6 = p + 48 := P
  replace V := V.symm
  subst V E P
  rcases g7 with ⟨A, _⟩ | ⟨_, hsh, _⟩ | ⟨_, _, V, E, P⟩
  · exact absurd rfl A
  · exact absurd hsh (by omega)
  replace V : v7 = 0 := V.trans w8
  replace E : e7 = 0 := by rw [E, V]; rfl
  replace P : p7 = p + 49 := P
  replace V := V.symm
  subst V E P
  rw [hL, ← hp] at hsu
  have hsu' : iter (sheethead_read_b1 (M + 200)) (M + 200) (0, 0, s, ((p + 49 : Nat) : Int), 0, []) = some (Sum.inr (a6.length, 0, s, ((p + 49 + 9 * a6.length + 1 : Nat) : Int), a6.length, a6)) := hsu
  have h4 : decide ((bif a4 then (1 : Int) else 0) = 1) = a4 := by cases a4 <;> rfl
  rw [hsu', h4] at hread
  have hrd : sheethead_read (M + 200) s p = some (a1, a2, a3, a4, a5, a6, 0, 0, s, ((p + 49 + 9 * a6.length + 1 : Nat) : Int)) := by
    rw [hread]; show (if a6.length = a6.length then _ else _) = _; rw [if_pos rfl]
  unfold sheethead_Take overspill_inbits_Reader_At
  simp only [hrd, Option.isSome_some, Option.getD_some, if_true, ne_eq, not_true, decide_false, cond_false]
theorem lit0 : (⟨#[48]⟩ : ByteArray) = rowT [false] := by kernel_rfl
theorem lit1 : (⟨#[49]⟩ : ByteArray) = rowT (digits 1 1) := by kernel_rfl
theorem lit0d : (⟨#[48]⟩ : ByteArray) = rowT (digits 0 1) := by kernel_rfl
theorem lit2 : (⟨#[49, 48]⟩ : ByteArray) = rowT (digits 2 2) := by kernel_rfl
theorem lit4 : (⟨#[48, 48, 48, 48]⟩ : ByteArray) = rowT (digits 0 4) := by kernel_rfl
theorem litb (b : Bool) : (bif b then (⟨#[49]⟩ : ByteArray) else ⟨#[48]⟩) = rowT (digits (bif b then 1 else 0) 1) := by cases b <;> kernel_rfl
theorem digs32 : digits 1 17 ++ digits 0 5 = digits 32 22 := by kernel_rfl
theorem mrow_ok {N : Nat} (hN : 100 < N) : ref04_Row N 0 = some (rowT (digits 32 22)) := by
  have h := rrow_ok hN (v := 0) (n := 5) (by decide) (by decide)
  have h' : ref02_Row N 0 5 = some (rowT (digits 0 5)) := h
  have e : digits 1 17 ++ digits 0 5 = digits 32 22 := digs32
  unfold ref04_Row
  rw [h', row17]
  show (if _ then _ else _) = _
  rw [if_pos ⟨rfl, by show ((rowT (digits 1 17)).size : Int) + ((rowT (digits 0 5)).size : Int) ≤ _; rw [rowT_size, rowT_size, digits_length, digits_length]; decide⟩]
  show some (rowT (digits 1 17) ++ rowT (digits 0 5)) = _
  rw [rowT_append, e]
theorem hfillr_ok (M : Nat) {b : List Bool} (hb : b.length ≤ 100) : iter (ref24_Row_b2 (M + 200) (b.length : Int)) (M + 200) ⟨#[]⟩ = some (rowT (padB b)) := by
  refine iter_to (fun j => rowT (List.replicate j false)) ((8 - b.length % 8) % 8) rfl (fun j hj => ?_) ?_ (by omega)
  · have g1 : ((rowT (List.replicate j false)).size : Int) = (j : Int) := by rw [rowT_size, List.length_replicate]
    have g2 : decide (((b.length : Int) + (j : Int)) % 8 ≠ 0) = true := decide_eq_true (by omega)
    have g3 : inK .i64 ((b.length : Int) + (j : Int)) := in64 (by omega) (by omega)
    have g4 : (0 : Int) ≤ (b.length : Int) + (j : Int) := by omega
    have g5 : (j : Int) + ((rowT [false]).size : Int) ≤ 9223372036854775807 := by rw [rowT_size]; show (j : Int) + 1 ≤ _; omega
    show ref24_Row_b2 (M + 200) (b.length : Int) (rowT (List.replicate j false)) = some (.inl (rowT (List.replicate (j + 1) false)))
    simp only [ref24_Row_b2, g1, g2, g3, g4, and_self, if_true, cond_true, lit0, g5, rowT_append, List.replicate_succ']
  · have g1 : ((rowT (List.replicate ((8 - b.length % 8) % 8) false)).size : Int) = (((8 - b.length % 8) % 8 : Nat) : Int) := by rw [rowT_size, List.length_replicate]
    have g2 : decide (((b.length : Int) + (((8 - b.length % 8) % 8 : Nat) : Int)) % 8 ≠ 0) = false := decide_eq_false (by omega)
    have g3 : inK .i64 ((b.length : Int) + (((8 - b.length % 8) % 8 : Nat) : Int)) := in64 (by omega) (by omega)
    have g4 : (0 : Int) ≤ (b.length : Int) + (((8 - b.length % 8) % 8 : Nat) : Int) := by omega
    show ref24_Row_b2 (M + 200) (b.length : Int) (rowT (List.replicate ((8 - b.length % 8) % 8) false)) = some (.inr (rowT (padB b)))
    simp only [ref24_Row_b2, g1, g2, g3, g4, and_self, if_true, cond_false]
    rfl
theorem hsuppr_ok (M : Nat) {a6 : List Int} (f8 : (a6.length : Int) ≤ 8) (f9 : ∀ j, j < a6.length → 0 ≤ a6.getD j 0 ∧ a6.getD j 0 ≤ 255) : ∀ X : List Bool, X.length ≤ 200 → iter (ref24_Row_b1 (M + 200) a6) (M + 200) (rowT X, 0) = some (rowT (sbA X a6 a6.length)) := by
  intro X hX
  refine iter_to (fun j => (rowT (sbA X a6 j), ((j : Nat) : Int))) a6.length rfl (fun j hj => ?_) ?_ (by omega)
  · have g1 : (j : Int) < (a6.length : Int) := by omega
    have g2 := inS (i := j) (by omega)
    obtain ⟨p1, p2⟩ := f9 j hj
    have hr := rrow_ok (N := M + 200) (by omega) (v := a6.getD j 0) (n := 8) (by decide) p1
    have hr' : ref02_Row (M + 200) (a6.getD j 0) 8 = some (rowT (digits (a6.getD j 0) 8)) := hr
    have hl := sbA_len X a6 j
    have s1 : ((sbA X a6 j).length : Int) + ((1 : Nat) : Int) ≤ 9223372036854775807 := by omega
    have s2 : (((sbA X a6 j).length + 1 : Nat) : Int) + ((8 : Nat) : Int) ≤ 9223372036854775807 := by omega
    show ref24_Row_b1 (M + 200) a6 (rowT (sbA X a6 j), ((j : Nat) : Int)) = some (.inl (rowT (sbA X a6 j ++ digits (orI 256 (a6.getD j 0)) 9), (((j + 1 : Nat)) : Int)))
    rw [Int.natCast_succ]
    simp only [ref24_Row_b1, decide_true, cond_true, g1, Int.natCast_nonneg, Int.toNat_natCast, hr', lit1, Option.isSome_some, Option.getD_some, rowT_append, rowT_size, List.length_append, digits_length, s1, s2, and_self, if_true, g2, or9 p1 p2, List.append_assoc]
  · simp only [ref24_Row_b1, decide_eq_false (Int.lt_irrefl _), cond_false]
theorem hrow_ok {M : Nat} {a1 a2 a3 : Int} {a4 : Bool} {a5 : Int} {a6 : List Int} (a7 : Zt1) (a8 : Int) {b : List Bool} (hb : b.length ≤ 100) (hh : headB a1 a2 a3 a5 a6 = true) : ∃ R, ref24_Row (M + 200) (b.length : Int) a1 a2 a3 a4 a5 a6 a7 a8 = some (rowT R) ∧ b ++ R = sbA (hT a1 a2 a3 a4 a5 b) a6 a6.length ++ digits 0 1 := by
  unfold headB at hh
  simp only [Bool.and_eq_true, decide_eq_true_eq, List.all_eq_true, List.mem_range] at hh
  obtain ⟨⟨f1, f2, f3, f4, f5, f6, f7, f8⟩, f9⟩ := hh
  obtain ⟨f10, f11⟩ := fA_in f1
  have hpd := padB_len b
  have hit1 := hfillr_ok M hb
  have hit2 := hsuppr_ok M (a6 := a6) (by omega) f9
  have r1 : ref02_Row (M + 200) a1 8 = some (rowT (digits a1 8)) := rrow_ok (N := M + 200) (by omega) (v := a1) (n := 8) (by decide) f2
  have r2 : ref02_Row (M + 200) a2 3 = some (rowT (digits a2 3)) := rrow_ok (N := M + 200) (by omega) (v := a2) (n := 3) (by decide) f4
  have r3 : ref02_Row (M + 200) a3 3 = some (rowT (digits a3 3)) := rrow_ok (N := M + 200) (by omega) (v := a3) (n := 3) (by decide) (by omega)
  have r5 : ref02_Row (M + 200) a5 5 = some (rowT (digits a5 5)) := rrow_ok (N := M + 200) (by omega) (v := a5) (n := 5) (by decide) (by omega)
  have hX : (((((((((padB b ++ digits 32 22) ++ digits a1 8) ++ digits 2 2) ++ digits a2 3) ++ digits a3 3) ++ digits (bif a4 then 1 else 0) 1) ++ digits 0 4) ++ digits a5 5) ++ digits 0 1).length = (padB b).length + 49 := by
    simp only [List.length_append, digits_length]
  have hl2 := sbA_len (((((((((padB b ++ digits 32 22) ++ digits a1 8) ++ digits 2 2) ++ digits a2 3) ++ digits a3 3) ++ digits (bif a4 then 1 else 0) 1) ++ digits 0 4) ++ digits a5 5) ++ digits 0 1) a6 a6.length
  have hi2 := hit2 _ (by rw [hX]; omega)
  refine ⟨sbA (((((((((padB b ++ digits 32 22) ++ digits a1 8) ++ digits 2 2) ++ digits a2 3) ++ digits a3 3) ++ digits (bif a4 then 1 else 0) 1) ++ digits 0 4) ++ digits a5 5) ++ digits 0 1) a6 a6.length ++ digits 0 1, ?_, ?_⟩
  · unfold ref24_Row
    rw [litb, lit2, lit4, lit0d, mrow_ok (N := M + 200) (by omega), r1, r2, r3, r5, hit1]
    rw [Option.bind_some]
    refine (if_pos ⟨rfl, by simp only [Option.getD_some, rowT_append, rowT_size, List.length_append, digits_length]; omega, rfl, by simp only [Option.getD_some, rowT_append, rowT_size, List.length_append, digits_length]; omega, by simp only [Option.getD_some, rowT_append, rowT_size, List.length_append, digits_length]; omega, rfl, by simp only [Option.getD_some, rowT_append, rowT_size, List.length_append, digits_length]; omega, rfl, by simp only [Option.getD_some, rowT_append, rowT_size, List.length_append, digits_length]; omega, by simp only [Option.getD_some, rowT_append, rowT_size, List.length_append, digits_length]; omega, by simp only [Option.getD_some, rowT_append, rowT_size, List.length_append, digits_length]; omega, rfl, by simp only [Option.getD_some, rowT_append, rowT_size, List.length_append, digits_length]; omega, by simp only [Option.getD_some, rowT_append, rowT_size, List.length_append, digits_length]; omega⟩).trans ?_
    show (iter (ref24_Row_b1 (M + 200) a6) (M + 200) (((((((((rowT (padB b) ++ rowT (digits 32 22)) ++ rowT (digits a1 8)) ++ rowT (digits 2 2)) ++ rowT (digits a2 3)) ++ rowT (digits a3 3)) ++ rowT (digits (bif a4 then 1 else 0) 1)) ++ rowT (digits 0 4)) ++ rowT (digits a5 5)) ++ rowT (digits 0 1), 0)).bind _ = _
    rw [rowT_append, rowT_append, rowT_append, rowT_append, rowT_append, rowT_append, rowT_append, rowT_append, rowT_append, hi2]
    rw [Option.bind_some]
    refine (if_pos (by rw [rowT_size, hl2, hX, rowT_size, digits_length]; omega)).trans ?_
    rw [rowT_append]
  · have hs : ∀ (X Y : List Bool) j, sbA (X ++ Y) a6 j = X ++ sbA Y a6 j := by
      intro X Y j
      induction j with
      | zero => rfl
      | succ j ih => show sbA (X ++ Y) a6 j ++ _ = X ++ (sbA Y a6 j ++ _); rw [ih, List.append_assoc]
    unfold hT
    simp only [List.append_assoc]
    rw [hs b]
    simp only [List.append_assoc]
theorem hsame1_ok {N : Nat} {a b c : Int} {d : Bool} {f : Int} {l : List Int} (z : Int) (a7 : Zt1) (z' : Int) (hN : 1000 < N) (hl : l.length ≤ 100) : ref24_Same_v1 N a b c d f l z a b c d f l a7 z' = some true := by
  unfold ref24_Same_v1
  have hit : iter (ref24_Same_v1_b1 N l l) N 0 = some (Sum.inr ()) := by
    refine iter_to (fun i => ((i : Nat) : Int)) l.length rfl (fun i hi => ?_) ?_ (by omega)
    · have g1 : (i : Int) < (l.length : Int) := by omega
      have g4 := inS (i := i) (by omega)
      simp only [ref24_Same_v1_b1, g1, decide_true, cond_true, Int.natCast_nonneg, Int.toNat_natCast, ne_eq, not_true, decide_false, cond_false, and_self, if_true, g4, Int.natCast_succ]
    · simp only [ref24_Same_v1_b1, Int.lt_irrefl, decide_false, cond_false]
  rw [hit]
  simp
theorem hputs_law {M : Nat} (hM : 100000 ≤ M) (a1 a2 a3 : Int) (a4 : Bool) (a5 : Int) (a6 : List Int) (a7 : Zt1) (a8 : Int) (a9 : ByteArray) : law24_SheetheadPuts (M + 200) a1 a2 a3 a4 a5 a6 a7 a8 a9 = some true := by
  unfold law24_SheetheadPuts
  have jk2 : ∀ {α β : Type} (F : α → Option β) (G : (α → Option β) → Option β), joinK F G = G F := fun _ _ => rfl
  have c3 : outbits_New (M + 200) = some [] := rfl
  have c6 : sheethead_Put_v2 (M + 200) a1 a2 a3 a4 a5 a6 a7 a8 = some 1 := rfl
  rw [lives24 M, c3, c6]
  have d1 : decide ((1 : Int) ≠ 1) = false := rfl
  have d12 : decide ((12 : Int) = 12) = true := rfl
  have d0 : decide ((0 : Int) = 0) = true := rfl
  simp only [jk2, Option.isSome_some, Option.getD_some, if_true, d1, cond_false]
  by_cases hs : (100 : Int) < (a9.size : Int)
  · simp only [decide_eq_true hs, Bool.not_true, Bool.false_eq_true, false_implies, if_true, cond_true]
  · have hpl := plain_ok (N := M + 200) (s := a9) (by omega) (by omega)
    simp only [decide_eq_false hs, Bool.not_false, cond_false, hpl, Option.isSome_some, Option.getD_some, implies_true, if_true]
    cases hpb : plainL (bl a9) with
    | false => simp only [Bool.not_false, cond_true]
    | true =>
      by_cases h6 : (100 : Int) < (a6.length : Int)
      · simp only [Bool.not_true, cond_false, decide_eq_true h6, cond_true]
      · have ha := add_ok (N := M + 200) (s := a9) (bits := []) (by omega) (by omega) (by decide) hpb
        rw [List.nil_append] at ha
        generalize hB : bitsT (bl a9) = B at ha
        have hBl : B.length = a9.size := by rw [← hB, bitsT_length, bl_length]
        have hBr : rowT B = a9 := by rw [← hB]; exact rowT_bits hpb
        have hri := rhead_ok (N := M + 200) (by omega) a1 a2 a3 a4 a5 (a6 := a6) a7 a8 (by omega)
        simp only [Bool.not_true, cond_false, decide_eq_false h6, ha, Option.isSome_some, Option.getD_some, if_true, hri]
        cases hh : headB a1 a2 a3 a5 a6 with
        | false =>
          have hp := hput_bad (M := M) (a4 := a4) a7 a8 B (by omega) hh
          have hl := len_ok (N := M + 200) (bits := B) (by omega)
          have hd : decide ((B.length : Int) = (a9.size : Int)) = true := decide_eq_true (by omega)
          simp only [hp, hl, Option.isSome_some, Option.getD_some, if_true, Bool.not_false, cond_true, decide_true, implies_true, hd]
        | true =>
          have hp := hput_ok (M := M) (a4 := a4) a7 a8 (b := B) (by omega) (by omega) hh
          obtain ⟨R, hr1, hr2⟩ := hrow_ok (M := M) (a4 := a4) a7 a8 (b := B) (by omega) hh
          have h8 : a6.length ≤ 8 := by
            unfold headB at hh
            simp only [Bool.and_eq_true, decide_eq_true_eq] at hh
            omega
          have hTl : (sbA (hT a1 a2 a3 a4 a5 B) a6 a6.length ++ digits 0 1).length = B.length + (8 - B.length % 8) % 8 + 49 + 9 * a6.length + 1 := by
            rw [List.length_append, sbA_len, hT_len, digits_length]
          generalize hTT : sbA (hT a1 a2 a3 a4 a5 B) a6 a6.length ++ digits 0 1 = T at *
          rw [hBl] at hr1
          have ht := text_ok (N := M + 200) (bits := T) (by omega)
          have hl := len_ok (N := M + 200) (bits := T) (by omega)
          have hcat : a9 ++ rowT R = rowT T := by rw [← hBr, rowT_append, hr2]
          have hpk := pack_ok (N := M + 200) (s := rowT T) (by rw [rowT_size]; omega) (by rw [rowT_size]; omega) (plain_rowT _)
          rw [bl_rowT, bitsT_txt] at hpk
          have hblp : bl (bytesOf (packB T)) = packB T := bl_bytesOf (fun x hx => packB_in T x hx)
          have hps : (bytesOf (packB T)).size = (T.length + 7) / 8 := by rw [bytesOf_size, packB_length]
          have hU : unpack (bl (bytesOf (packB T))) = sbA (hT a1 a2 a3 a4 a5 B) a6 a6.length ++ (digits 0 1 ++ List.replicate ((8 - T.length % 8) % 8) false) := by
            rw [hblp, unpack_packB, ← List.append_assoc, hTT]
          have hsk := sk_ok (M + 200) (s := bytesOf (packB T)) (p := B.length + (8 - B.length % 8) % 8) (by omega) (by omega) 0
          have htk := htake_ok (M := M) (s := bytesOf (packB T)) (p := B.length + (8 - B.length % 8) % 8) (by omega) rfl hh hU
          have hpos : ((((a9.size : Int) + 7) / 8) * 8) = ((B.length + (8 - B.length % 8) % 8 : Nat) : Int) := by omega
          have i1 : inK .i64 ((a9.size : Int) + 7) := in64 (by omega) (by omega)
          have i2 : (0 : Int) ≤ (a9.size : Int) + 7 := by omega
          have i3 : inK .i64 ((B.length + (8 - B.length % 8) % 8 : Nat) : Int) := in64 (by omega) (by omega)
          have i4 : (a9.size : Int) + ((rowT R).size : Int) ≤ 9223372036854775807 := by
            have := congrArg List.length hr2
            rw [List.length_append] at this
            rw [rowT_size]; omega
          have hsm := hsame1_ok (N := M + 200) (a := a1) (b := a2) (c := a3) (d := a4) (f := a5) (l := a6) 0 a7 a8 (by omega) (by omega)
          have e1 : decide ((T.length : Int) = ((rowT T).size : Int)) = true := decide_eq_true (by rw [rowT_size])
          have e2 : decide (((B.length + (8 - B.length % 8) % 8 + 49 + 9 * a6.length + 1 : Nat) : Int) = (T.length : Int)) = true := decide_eq_true (by rw [hTl])
          have hin : inbits_New (M + 200) (bytesOf (packB T)) = some (bytesOf (packB T), 0) := rfl
          unfold overspill_inbits_Reader_At
          simp only [hp, hr1, Option.isSome_some, Option.getD_some, if_true, Bool.not_true, cond_false, cond_true, d0, i4, and_self, ht, hin, hpos, hsk, i1, i2, i3, htk, hl, hcat, hpk, hsm, e1, e2, implies_true, decide_true]
theorem law_sheetheadPuts (N : Nat) (hN : 1099511627776 ≤ N) (y0 : Sh.den (.pair (.int .i64) (.pair (.int .i64) (.pair (.int .i64) (.pair .bool (.pair (.int .i64) (.pair (.sl (.int .i64)) (.pair (.sl (.pair .bool (.pair (.int .i64) (.pair (.int .i64) (.sl (.pair (.int .i64) (.pair .bool (.pair (.int .i64) (.pair (.int .i64) (.pair (.arr 2 .i64) (.pair (.arr 6 .i64) (.arrS 6 (.pair .bool (.pair (.int .i64) (.int .i64))))))))))))))) (.int .i64))))))))) (w0 : Sh.wf (.pair (.int .i64) (.pair (.int .i64) (.pair (.int .i64) (.pair .bool (.pair (.int .i64) (.pair (.sl (.int .i64)) (.pair (.sl (.pair .bool (.pair (.int .i64) (.pair (.int .i64) (.sl (.pair (.int .i64) (.pair .bool (.pair (.int .i64) (.pair (.int .i64) (.pair (.arr 2 .i64) (.pair (.arr 6 .i64) (.arrS 6 (.pair .bool (.pair (.int .i64) (.int .i64))))))))))))))) (.int .i64)))))))) y0) (y1 : Sh.den .str) (w1 : Sh.wf .str y1) : law24_SheetheadPuts N (y0.1) (y0.2.1) (y0.2.2.1) (y0.2.2.2.1) (y0.2.2.2.2.1) (y0.2.2.2.2.2.1) (y0.2.2.2.2.2.2.1) (y0.2.2.2.2.2.2.2) y1 = some true := by
  obtain ⟨M, rfl⟩ : ∃ M, N = M + 200 := ⟨N - 200, by omega⟩
  exact hputs_law (by omega) _ _ _ _ _ _ _ _ _
end Go.Proofs.Ytngghhpbjppkcaa
