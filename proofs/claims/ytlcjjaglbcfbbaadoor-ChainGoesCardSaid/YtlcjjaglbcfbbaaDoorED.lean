/- What the printed models answer: plain laws. -/
import Derived.Test.YtlcjjaglbcfbbaaDoorEC
set_option linter.unusedVariables false
set_option linter.unusedSimpArgs false
namespace Go.Proofs.YtlcjjaglbcfbbaaDoor
open Go.X

/-! ### formats and planes -/
def fA (f : Int) : Int := if f = 1 then 8 else if f = 2 then 11 else if f = 3 then 22 else if f = 4 then 44 else if f = 5 then 88 else if f = 6 then 2 else 0
def fD (f : Int) : Int := if f = 1 then 6 else if f = 2 then 9 else if f = 3 then 18 else if f = 4 then 36 else if f = 5 then 72 else if f = 6 then 2 else 0
theorem fmt_or (f : Int) : (fA f = 0 ∧ fD f = 0) ∨ (2 ≤ fA f ∧ fA f ≤ 88 ∧ 2 ≤ fD f ∧ fD f ≤ 72) := by
 unfold fA fD
 split
 ·
  right; omega
 split
 ·
  right; omega
 split
 ·
  right; omega
 split
 ·
  right; omega
 split
 ·
  right; omega
 split
 ·
  right; omega
 ·
  left; exact ⟨rfl, rfl⟩
theorem mul_le2 {a b c d : Int} (h0 : 0 ≤ a) (h1 : a ≤ c) (h2 : 0 ≤ b) (h3 : b ≤ d) : 0 ≤ a * b ∧ a * b ≤ c * d := ⟨Int.mul_nonneg h0 h2, Int.mul_le_mul h1 h3 h2 (by omega)⟩
theorem ad_bnd (f : Int) : 0 ≤ fA f * fD f ∧ fA f * fD f ≤ 88 * 72 := by
 rcases fmt_or f with ⟨h1, h2⟩ | ⟨h1, h2, h3, h4⟩
 ·
  rw [h1, h2]; decide
 ·
  exact mul_le2 (by omega) h2 (by omega) h4
/-- n is the cell in column n % A of line n / A. -/
theorem cell_at {n A D : Int} (hA : 0 < A) (h0 : 0 ≤ n) (h1 : n < A * D) : 0 ≤ n % A ∧ n % A < A ∧ 0 ≤ n / A ∧ n / A < D :=
 ⟨Int.emod_nonneg n (by omega), Int.emod_lt_of_pos n hA, Int.ediv_nonneg h0 (by omega), Int.ediv_lt_of_lt_mul hA (by rw [Int.mul_comm]; exact h1)⟩
/-- Does a way of so many halves lie inside? -/
def inX (v a : Int) : Prop := 0 ≤ v ∧ (v + 1) / 2 + 16 ≤ 16 * a
instance (v a : Int) : Decidable (inX v a) := by unfold inX; infer_instance
def hasF (f n : Int) : Bool := decide (0 ≤ n) && decide (n < fA f * fD f)
def mvB (mv : List Int) : Bool := (List.range 2).all fun i => decide (-32 ≤ mv.getD i 0 ∧ mv.getD i 0 ≤ 31)
def mayF (f n : Int) (mv : List Int) : Bool := hasF f n && (mvB mv && (decide (inX (32 * (n % fA f) + mv.getD 0 0) (fA f)) && decide (inX (32 * (n / fA f) + mv.getD 1 0) (fD f))))
/-- A sample at halves. -/
def hv (l : List Int) (w x y : Int) : Int := (l.getD ((y / 2) * w + x / 2).toNat 0 + l.getD ((y / 2) * w + (x / 2 + x % 2)).toNat 0 + l.getD ((y / 2 + y % 2) * w + x / 2).toNat 0 + l.getD ((y / 2 + y % 2) * w + (x / 2 + x % 2)).toNat 0 + 2) / 4
theorem size_eq (N : Nat) (f : Int) : formats_Size N f = some (16 * fA f, 16 * fD f, decide (fA f ≠ 0)) := by
 unfold formats_Size fA fD
 by_cases h1 : f = 1
 ·
  simp [h1]
 by_cases h2 : f = 2
 ·
  simp [h2]
 by_cases h3 : f = 3
 ·
  simp [h3]
 by_cases h4 : f = 4
 ·
  simp [h4]
 by_cases h5 : f = 5
 ·
  simp [h5]
 by_cases h6 : f = 6
 ·
  simp [h6]
 ·
  simp [h1, h2, h3, h4, h5, h6]
theorem cells_eq (N : Nat) (f : Int) : formats_Cells N f = some (fA f, fD f) := by
 unfold formats_Cells
 have h : 0 ≤ fA f ∧ 0 ≤ fD f := by rcases fmt_or f with h | h <;> omega
 have h1 : (0 : Int) ≤ 16 * fA f := by omega
 have h2 : (0 : Int) ≤ 16 * fD f := by omega
 have e1 : 16 * fA f / 16 = fA f := by omega
 have e2 : 16 * fD f / 16 = fD f := by omega
 simp only [size_eq, Option.isSome_some, if_true, Option.getD_some, h1, h2, and_self, e1, e2]
theorem within_ok (N : Nat) {v a : Int} (h1 : -1000000 ≤ v) (h2 : v ≤ 1000000) : motion_within N v 16 (16 * a) = some (decide (inX v a)) := by
 unfold motion_within inX
 have i1 : inK .i64 (v + 1) := in64 (by omega) (by omega)
 have i2 : inK .i64 ((v + 1) / 2 + 16) := in64 (by omega) (by omega)
 by_cases h : 0 ≤ v
 ·
  have : (0 : Int) ≤ v + 1 := by omega
  simp [i1, i2, h, this]
 ·
  simp [h]
theorem mv_loop {N : Nat} (hN : 10 < N) (mv : List Int) : iter (motion_May_b1 N mv) N 0 = some (bif mvB mv then .inr () else .inl ()) :=
 iter_all 2 N (fun i => decide (-32 ≤ mv.getD i 0 ∧ mv.getD i 0 ≤ 31)) (fun i hi => by
  have g1 : (i : Int) < 2 := by omega
  have g4 := inS (i := i) (by omega)
  simp only [motion_May_b1, g1, hi, decide_true, cond_true, Int.natCast_nonneg, Int.toNat_natCast, and_self, if_true, g4]
  by_cases h1 : mv.getD i 0 < -32
  ·
   have : ¬ (-32 ≤ mv.getD i 0) := by omega
   simp [h1, this, -List.getD_eq_getElem?_getD]
  ·
   by_cases h2 : (31 : Int) < mv.getD i 0
   ·
    have : ¬ (mv.getD i 0 ≤ 31) := by omega
    simp [h1, h2, this, -List.getD_eq_getElem?_getD]
   ·
    have e1 : -32 ≤ mv.getD i 0 := by omega
    have e2 : mv.getD i 0 ≤ 31 := by omega
    simp [h1, h2, e1, e2, -List.getD_eq_getElem?_getD]) (by simp [motion_May_b1]) (by omega)
theorem may_okF {N : Nat} (hN : 10 < N) (f n : Int) (mv : List Int) : motion_May N f n mv = some (mayF f n mv) := by
 unfold motion_May mayF hasF
 obtain ⟨b1, b2⟩ := ad_bnd f
 have g1 : inK .i64 (fA f * fD f) := in64 (by omega) (by omega)
 simp only [cells_eq, size_eq, Option.isSome_some, if_true, Option.getD_some, g1, implies_true]
 rcases fmt_or f with ⟨h1, h2⟩ | ⟨h1, h2, h3, h4⟩
 ·
  rw [h1, h2]
  by_cases hn : 0 ≤ n
  ·
   have : ¬ n < (0 : Int) * 0 := by omega
   simp [hn, this]
   intro h; omega
  ·
   simp [hn]
 ·
  have e1 : fA f ≠ 0 := by omega
  simp only [e1, ne_eq, not_false_eq_true, decide_true, Bool.not_true, cond_false]
  by_cases hn : n < 0
  ·
   have : ¬ 0 ≤ n := by omega
   simp [hn, this]
  ·
   have hn0 : 0 ≤ n := by omega
   by_cases hn1 : fA f * fD f ≤ n
   ·
    have : ¬ n < fA f * fD f := by omega
    simp [hn, hn1, this]
   ·
    have hn2 : n < fA f * fD f := by omega
    obtain ⟨c1, c2, c3, c4⟩ := cell_at (by omega) hn0 hn2
    have hp : 0 < fA f := by omega
    simp only [hn, hn1, hn0, hn2, hp, decide_false, decide_true, cond_false, mv_loop hN, Bool.true_and, true_and]
    cases hm : mvB mv with
    | false => rfl
    | true =>
     unfold mvB at hm
     simp only [decide_eq_true_eq, List.all_eq_true, List.mem_range] at hm
     obtain ⟨m0, m1⟩ := hm 0 (by omega)
     obtain ⟨m2, m3⟩ := hm 1 (by omega)
     have w1 := within_ok N (v := 32 * (n % fA f) + mv.getD 0 0) (a := fA f) (by omega) (by omega)
     have w2 := within_ok N (v := 32 * (n / fA f) + mv.getD 1 0) (a := fD f) (by omega) (by omega)
     have i1 : inK .i64 ((32 : Int) * (n % fA f)) := in64 (by omega) (by omega)
     have i2 : inK .i64 ((32 : Int) * (n / fA f)) := in64 (by omega) (by omega)
     have i3 : inK .i64 ((32 : Int) * (n % fA f) + mv.getD 0 0) := in64 (by omega) (by omega)
     have i4 : inK .i64 ((32 : Int) * (n / fA f) + mv.getD 1 0) := in64 (by omega) (by omega)
     simp only [cond_true, Option.bind_some, Sum.elim_inr, w1, w2, i1, i2, i3, i4, Option.isSome_some, Option.getD_some, implies_true, and_self, if_true, Bool.true_and]
     cases decide (inX (32 * (n % fA f) + mv.getD 0 0) (fA f)) <;> rfl
end Go.Proofs.YtlcjjaglbcfbbaaDoor
