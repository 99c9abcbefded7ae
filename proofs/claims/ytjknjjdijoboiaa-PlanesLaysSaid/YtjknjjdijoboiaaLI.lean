/- What the printed models answer: plain laws. -/
import Derived.Test.YtjknjjdijoboiaaLD
set_option linter.unusedVariables false
set_option linter.unusedSimpArgs false
namespace Go.Proofs.Ytjknjjdijoboiaa
open Go.X

/-! ### formats and planes -/
def fA (f : Int) : Int := if f = 1 then 8 else if f = 2 then 11 else if f = 3 then 22 else if f = 4 then 44 else if f = 5 then 88 else if f = 6 then 2 else 0
def fD (f : Int) : Int := if f = 1 then 6 else if f = 2 then 9 else if f = 3 then 18 else if f = 4 then 36 else if f = 5 then 72 else if f = 6 then 2 else 0
theorem fmt_or (f : Int) : (fA f = 0 ∧ fD f = 0) ∨ (2 ≤ fA f ∧ fA f ≤ 88 ∧ 2 ≤ fD f ∧ fD f ≤ 72) := by
  unfold fA fD
  split
  · right; omega
  split
  · right; omega
  split
  · right; omega
  split
  · right; omega
  split
  · right; omega
  split
  · right; omega
  · left; exact ⟨rfl, rfl⟩
def wid (f : Int) (k : Nat) : Int := if k = 0 then 16 * fA f else 8 * fA f
def hig (f : Int) (k : Nat) : Int := if k = 0 then 16 * fD f else 8 * fD f
theorem mul_le2 {a b c d : Int} (h0 : 0 ≤ a) (h1 : a ≤ c) (h2 : 0 ≤ b) (h3 : b ≤ d) : 0 ≤ a * b ∧ a * b ≤ c * d := ⟨Int.mul_nonneg h0 h2, Int.mul_le_mul h1 h3 h2 (by omega)⟩
theorem wh_bnd (f : Int) (k : Nat) : 0 ≤ wid f k ∧ wid f k ≤ 1408 ∧ 0 ≤ hig f k ∧ hig f k ≤ 1152 ∧ 0 ≤ wid f k * hig f k ∧ wid f k * hig f k ≤ 1408 * 1152 := by
  have h : 0 ≤ wid f k ∧ wid f k ≤ 1408 ∧ 0 ≤ hig f k ∧ hig f k ≤ 1152 := by
    unfold wid hig
    rcases fmt_or f with ⟨h1, h2⟩ | ⟨h1, h2, h3, h4⟩
    · rw [h1, h2]; split <;> omega
    · split <;> omega
  obtain ⟨h1, h2, h3, h4⟩ := h
  exact ⟨h1, h2, h3, h4, mul_le2 h1 h2 h3 h4⟩
theorem ad_bnd (f : Int) : 0 ≤ fA f * fD f ∧ fA f * fD f ≤ 88 * 72 := by
  rcases fmt_or f with ⟨h1, h2⟩ | ⟨h1, h2, h3, h4⟩
  · rw [h1, h2]; decide
  · exact mul_le2 (by omega) h2 (by omega) h4
def rightF (f : Int) (ps : List (List Int)) : Bool := decide (fA f ≠ 0) && (List.range 3).all fun k => decide (((ps.getD k []).length : Int) = wid f k * hig f k)
theorem in2 {i : Nat} (h : i < 3) : (0 : Int) ≤ (i : Int) ∧ (i : Int) < 3 ∧ ((i : Int)).toNat < 3 := ⟨by omega, by omega, by omega⟩
/-- n is the cell in column n % A of line n / A. -/
theorem cell_at {n A D : Int} (hA : 0 < A) (h0 : 0 ≤ n) (h1 : n < A * D) : 0 ≤ n % A ∧ n % A < A ∧ 0 ≤ n / A ∧ n / A < D :=
  ⟨Int.emod_nonneg n (by omega), Int.emod_lt_of_pos n hA, Int.ediv_nonneg h0 (by omega), Int.ediv_lt_of_lt_mul hA (by rw [Int.mul_comm]; exact h1)⟩
theorem idx_lt {x y w h : Int} (x0 : 0 ≤ x) (x1 : x < w) (y0 : 0 ≤ y) (y1 : y < h) : 0 ≤ y * w + x ∧ y * w + x < w * h := by
  have h1 : 0 ≤ y * w := Int.mul_nonneg y0 (by omega)
  have h2 : (y + 1) * w ≤ h * w := Int.mul_le_mul_of_nonneg_right (by omega) (by omega)
  rw [Int.add_mul, Int.one_mul, Int.mul_comm h w] at h2
  omega
/-- Does a way of so many halves lie inside? -/
def inX (v a : Int) : Prop := 0 ≤ v ∧ (v + 1) / 2 + 16 ≤ 16 * a
instance (v a : Int) : Decidable (inX v a) := by unfold inX; infer_instance
def hasF (f n : Int) : Bool := decide (0 ≤ n) && decide (n < fA f * fD f)
def mvB (mv : List Int) : Bool := (List.range 2).all fun i => decide (-32 ≤ mv.getD i 0 ∧ mv.getD i 0 ≤ 31)
def mayF (f n : Int) (mv : List Int) : Bool := hasF f n && (mvB mv && (decide (inX (32 * (n % fA f) + mv.getD 0 0) (fA f)) && decide (inX (32 * (n / fA f) + mv.getD 1 0) (fD f))))
def chr (v : Int) : Int :=
  let c := clip v (-64) 64
  let a := max c (-c)
  let n := 2 * (a / 4) + (if a % 4 = 0 then 0 else 1)
  if c < 0 then -n else n
def pk (b : Nat) : Nat := b - 3
def xb (f n : Int) (mv : List Int) (b : Nat) : Int := if b < 4 then 2 * (16 * (n % fA f) + ((b % 2 : Nat) : Int) * 8) + mv.getD 0 0 else 16 * (n % fA f) + chr (mv.getD 0 0)
def yb (f n : Int) (mv : List Int) (b : Nat) : Int := if b < 4 then 2 * (16 * (n / fA f) + ((b / 2 : Nat) : Int) * 8) + mv.getD 1 0 else 16 * (n / fA f) + chr (mv.getD 1 0)
theorem size_eq (N : Nat) (f : Int) : formats_Size N f = some (16 * fA f, 16 * fD f, decide (fA f ≠ 0)) := by
  unfold formats_Size fA fD
  by_cases h1 : f = 1
  · simp [h1]
  by_cases h2 : f = 2
  · simp [h2]
  by_cases h3 : f = 3
  · simp [h3]
  by_cases h4 : f = 4
  · simp [h4]
  by_cases h5 : f = 5
  · simp [h5]
  by_cases h6 : f = 6
  · simp [h6]
  · simp [h1, h2, h3, h4, h5, h6]
theorem cells_eq (N : Nat) (f : Int) : formats_Cells N f = some (fA f, fD f) := by
  unfold formats_Cells
  have h : 0 ≤ fA f ∧ 0 ≤ fD f := by rcases fmt_or f with h | h <;> omega
  have h1 : (0 : Int) ≤ 16 * fA f := by omega
  have h2 : (0 : Int) ≤ 16 * fD f := by omega
  have e1 : 16 * fA f / 16 = fA f := by omega
  have e2 : 16 * fD f / 16 = fD f := by omega
  simp only [size_eq, Option.isSome_some, if_true, Option.getD_some, h1, h2, and_self, e1, e2]
theorem plane_eq (N : Nat) (f : Int) {k : Nat} (hk : k < 3) : formats_Plane N f (k : Int) = some (wid f k, hig f k) := by
  unfold formats_Plane wid hig
  have h : 0 ≤ fA f ∧ 0 ≤ fD f := by rcases fmt_or f with h | h <;> omega
  have h1 : (0 : Int) ≤ 16 * fA f := by omega
  have h2 : (0 : Int) ≤ 16 * fD f := by omega
  have e1 : 16 * fA f / 2 = 8 * fA f := by omega
  have e2 : 16 * fD f / 2 = 8 * fD f := by omega
  simp only [size_eq, Option.isSome_some, if_true, Option.getD_some]
  rcases (show k = 0 ∨ k = 1 ∨ k = 2 by omega) with rfl | rfl | rfl
  · rfl
  · simp [h1, h2, e1, e2]
  · simp [h1, h2, e1, e2]
theorem pright_ok {N : Nat} (hN : 10 < N) (f : Int) (ps : List (List Int)) : planes_Right N f ps = some (rightF f ps) := by
  unfold planes_Right
  have hit : iter (planes_Right_b1 N f ps) N (decide (fA f ≠ 0), 0) = some (rightF f ps) := by
    refine iter_to (fun i => (decide (fA f ≠ 0) && (List.range i).all (fun k => decide (((ps.getD k []).length : Int) = wid f k * hig f k)), (i : Int))) 3 ?_ ?_ ?_ (by omega)
    · simp
    · intro i hi
      obtain ⟨g1, g2, g3⟩ := in2 hi
      have g4 := inS (i := i) (by omega)
      obtain ⟨_, _, _, _, b5, b6⟩ := wh_bnd f i
      have g5 : inK .i64 (wid f i * hig f i) := in64 (by omega) (by omega)
      simp only [planes_Right_b1, g1, g2, hi, decide_true, cond_true, Int.toNat_natCast, and_self, if_true, plane_eq N f hi, Option.isSome_some, Option.getD_some, g5, implies_true, g4]
      refine congrArg (fun z => some (Sum.inl z)) ?_
      rw [List.range_succ, List.all_append, Int.natCast_succ]
      generalize (List.range i).all _ = r
      cases decide (fA f ≠ 0) <;> cases r <;> simp
    · simp [planes_Right_b1, rightF]
  simp only [size_eq, Option.isSome_some, if_true, Option.getD_some, hit, Option.bind_some]
theorem has_ok (N : Nat) (f n : Int) : planes_has N f n = some (hasF f n) := by
  unfold planes_has hasF
  obtain ⟨b1, b2⟩ := ad_bnd f
  have g1 : inK .i64 (fA f * fD f) := in64 (by omega) (by omega)
  simp only [cells_eq, Option.isSome_some, if_true, Option.getD_some, g1, implies_true]
  cases decide (0 ≤ n) <;> simp
theorem mayF_facts {f n : Int} {mv : List Int} (h : mayF f n mv = true) : 2 ≤ fA f ∧ fA f ≤ 88 ∧ 2 ≤ fD f ∧ fD f ≤ 72 ∧ 0 ≤ n ∧ 0 ≤ n % fA f ∧ n % fA f < fA f ∧ 0 ≤ n / fA f ∧ n / fA f < fD f ∧ -32 ≤ mv.getD 0 0 ∧ mv.getD 0 0 ≤ 31 ∧ -32 ≤ mv.getD 1 0 ∧ mv.getD 1 0 ≤ 31 := by
  unfold mayF hasF mvB at h
  simp only [Bool.and_eq_true, decide_eq_true_eq, List.all_eq_true, List.mem_range] at h
  obtain ⟨⟨h0, h1⟩, h2, _⟩ := h
  obtain ⟨m0, m1⟩ := h2 0 (by omega)
  obtain ⟨m2, m3⟩ := h2 1 (by omega)
  rcases fmt_or f with ⟨g1, g2⟩ | ⟨g1, g2, g3, g4⟩
  · rw [g1] at h1; omega
  · obtain ⟨c1, c2, c3, c4⟩ := cell_at (by omega) h0 h1
    exact ⟨g1, g2, g3, g4, h0, c1, c2, c3, c4, m0, m1, m2, m3⟩
def xc (f n : Int) (b : Nat) : Int := if b < 4 then 2 * ((n % fA f) * 8) + ((b % 2 : Nat) : Int) * 8 else (n % fA f) * 8
def yc (f n : Int) (b : Nat) : Int := if b < 4 then 2 * ((n / fA f) * 8) + ((b / 2 : Nat) : Int) * 8 else (n / fA f) * 8
theorem hasF_facts {f n : Int} (h : hasF f n = true) : 2 ≤ fA f ∧ fA f ≤ 88 ∧ 2 ≤ fD f ∧ fD f ≤ 72 ∧ 0 ≤ n ∧ 0 ≤ n % fA f ∧ n % fA f < fA f ∧ 0 ≤ n / fA f ∧ n / fA f < fD f := by
  unfold hasF at h
  simp only [Bool.and_eq_true, decide_eq_true_eq] at h
  obtain ⟨h0, h1⟩ := h
  rcases fmt_or f with ⟨g1, g2⟩ | ⟨g1, g2, g3, g4⟩
  · rw [g1] at h1; omega
  · obtain ⟨c1, c2, c3, c4⟩ := cell_at (by omega) h0 h1
    exact ⟨g1, g2, g3, g4, h0, c1, c2, c3, c4⟩
theorem may_still {f n : Int} (h : hasF f n = true) : mayF f n [0, 0] = true := by
  obtain ⟨g1, g2, g3, g4, h0, c1, c2, c3, c4⟩ := hasF_facts h
  unfold mayF
  rw [h, show mvB [0, 0] = true from rfl, decide_eq_true (show inX (32 * (n % fA f) + [(0 : Int), 0].getD 0 0) (fA f) from ?_), decide_eq_true (show inX (32 * (n / fA f) + [(0 : Int), 0].getD 1 0) (fD f) from ?_)]
  · rfl
  · unfold inX
    show 0 ≤ 32 * (n / fA f) + 0 ∧ (32 * (n / fA f) + 0 + 1) / 2 + 16 ≤ 16 * fD f
    omega
  · unfold inX
    show 0 ≤ 32 * (n % fA f) + 0 ∧ (32 * (n % fA f) + 0 + 1) / 2 + 16 ≤ 16 * fA f
    omega
theorem cut_in {f n : Int} (h : hasF f n = true) {b : Nat} (hb : b < 6) {i : Nat} (hi : i < 64) : 0 ≤ xc f n b + ((i % 8 : Nat) : Int) ∧ xc f n b + ((i % 8 : Nat) : Int) < wid f (pk b) ∧ 0 ≤ yc f n b + ((i / 8 : Nat) : Int) ∧ yc f n b + ((i / 8 : Nat) : Int) < hig f (pk b) ∧ 0 ≤ xc f n b ∧ 0 ≤ yc f n b := by
  obtain ⟨g1, g2, g3, g4, h0, c1, c2, c3, c4⟩ := hasF_facts h
  unfold xc yc wid hig pk
  generalize n % fA f = x at *
  generalize n / fA f = y at *
  generalize fA f = A at *
  generalize fD f = D at *
  by_cases hb4 : b < 4
  · rw [if_pos hb4, if_pos hb4, if_pos (by omega), if_pos (by omega)]
    refine ⟨?_, ?_, ?_, ?_, ?_, ?_⟩ <;> omega
  · rw [if_neg hb4, if_neg hb4, if_neg (by omega), if_neg (by omega)]
    refine ⟨?_, ?_, ?_, ?_, ?_, ?_⟩ <;> omega
theorem place_ok (N : Nat) {f n : Int} (h : hasF f n = true) {b : Nat} (hb : b < 6) : planes_place N f n (b : Int) = some (((pk b : Nat) : Int), yc f n b * wid f (pk b) + xc f n b, wid f (pk b)) := by
  obtain ⟨g1, g2, g3, g4, h0, c1, c2, c3, c4⟩ := hasF_facts h
  have hp : 0 < fA f := by omega
  obtain ⟨x0, x1, y0, y1, xc0, yc0⟩ := cut_in h hb (show 0 < 64 by decide)
  obtain ⟨w1, w2, w3, w4, w5, w6⟩ := wh_bnd f (pk b)
  have hk3 : pk b < 3 := by unfold pk; omega
  have i1 : inK .i64 ((n % fA f) * 8) := in64 (by omega) (by omega)
  have i2 : inK .i64 ((n / fA f) * 8) := in64 (by omega) (by omega)
  unfold planes_place
  simp only [cells_eq, Option.isSome_some, if_true, Option.getD_some, h0, hp, i1, i2, and_self]
  by_cases hb4 : b < 4
  · have e0 : pk b = 0 := by unfold pk; omega
    have d4 : (b : Int) < 4 := by omega
    have e1 : (b : Int) % 2 = ((b % 2 : Nat) : Int) := by omega
    have e2 : (b : Int) / 2 = ((b / 2 : Nat) : Int) := by omega
    have pe := plane_eq N f (k := 0) (by omega)
    have ey : 2 * ((n / fA f) * 8) + ((b / 2 : Nat) : Int) * 8 = yc f n b := by unfold yc; rw [if_pos hb4]
    have ex : 2 * ((n % fA f) * 8) + ((b % 2 : Nat) : Int) * 8 = xc f n b := by unfold xc; rw [if_pos hb4]
    have pe' : formats_Plane N f 0 = some (wid f 0, hig f 0) := pe
    rw [e0] at w1 w2
    have m1 := mul_le2 yc0 (show yc f n b ≤ 10000 by rw [← ey]; omega) w1 w2
    have j1 : inK .i64 ((2 : Int) * ((n / fA f) * 8)) := in64 (by omega) (by omega)
    have j2 : inK .i64 (((b / 2 : Nat) : Int) * 8) := in64 (by omega) (by omega)
    have j3 : inK .i64 (yc f n b) := by rw [← ey]; exact in64 (by omega) (by omega)
    have j4 : inK .i64 (yc f n b * wid f 0) := in64 (by omega) (by omega)
    have j5 : inK .i64 ((2 : Int) * ((n % fA f) * 8)) := in64 (by omega) (by omega)
    have j6 : inK .i64 (yc f n b * wid f 0 + 2 * ((n % fA f) * 8)) := in64 (by omega) (by omega)
    have j7 : inK .i64 (((b % 2 : Nat) : Int) * 8) := in64 (by omega) (by omega)
    have j8 : inK .i64 (yc f n b * wid f 0 + 2 * ((n % fA f) * 8) + ((b % 2 : Nat) : Int) * 8) := in64 (by omega) (by omega)
    simp only [d4, decide_true, cond_true, pe', Option.isSome_some, if_true, Option.getD_some, e1, e2, ey, j1, j2, j3, j4, j5, j6, j7, j8, Int.natCast_nonneg, and_self, e0]
    refine congrArg some (Prod.ext rfl (Prod.ext ?_ rfl))
    show yc f n b * wid f 0 + 2 * ((n % fA f) * 8) + ((b % 2 : Nat) : Int) * 8 = yc f n b * wid f 0 + xc f n b
    rw [← ex]; omega
  · have d4 : ¬ (b : Int) < 4 := by omega
    have ek : (b : Int) - 4 + 1 = ((pk b : Nat) : Int) := by unfold pk; omega
    have ey : (n / fA f) * 8 = yc f n b := by unfold yc; rw [if_neg hb4]
    have ex : (n % fA f) * 8 = xc f n b := by unfold xc; rw [if_neg hb4]
    have m1 := mul_le2 yc0 (show yc f n b ≤ 10000 by rw [← ey]; omega) w1 w2
    have j0 : inK .i64 ((b : Int) - 4) := in64 (by omega) (by omega)
    have j1 : inK .i64 ((pk b : Nat) : Int) := in64 (by omega) (by omega)
    have j2 : inK .i64 (yc f n b * wid f (pk b)) := in64 (by omega) (by omega)
    have j3 : inK .i64 (yc f n b * wid f (pk b) + xc f n b) := by
      have : xc f n b ≤ 10000 := by rw [← ex]; omega
      exact in64 (by omega) (by omega)
    simp only [d4, decide_false, cond_false, ek, plane_eq N f hk3, Option.isSome_some, if_true, Option.getD_some, ey, ex, j0, j1, j2, j3, and_self]
theorem rsize_eq (N : Nat) (f : Int) : ∃ c d, ref16_Size N f = some [16 * fA f, 16 * fD f, c, d] := by
  unfold ref16_Size fA fD
  by_cases hb : f < 0
  · have h1 : f ≠ 1 := by omega
    have h2 : f ≠ 2 := by omega
    have h3 : f ≠ 3 := by omega
    have h4 : f ≠ 4 := by omega
    have h5 : f ≠ 5 := by omega
    have h6 : f ≠ 6 := by omega
    exact ⟨0, 0, by simp [hb, h1, h2, h3, h4, h5, h6, List.replicate]⟩
  · by_cases hc : 7 ≤ f
    · have h1 : f ≠ 1 := by omega
      have h2 : f ≠ 2 := by omega
      have h3 : f ≠ 3 := by omega
      have h4 : f ≠ 4 := by omega
      have h5 : f ≠ 5 := by omega
      have h6 : f ≠ 6 := by omega
      exact ⟨0, 0, by simp [hb, hc, h1, h2, h3, h4, h5, h6, List.replicate]⟩
    · rcases (show f = 0 ∨ f = 1 ∨ f = 2 ∨ f = 3 ∨ f = 4 ∨ f = 5 ∨ f = 6 by omega) with rfl | rfl | rfl | rfl | rfl | rfl | rfl
      · exact ⟨0, 0, rfl⟩
      · exact ⟨6, 1, rfl⟩
      · exact ⟨9, 1, rfl⟩
      · exact ⟨18, 1, rfl⟩
      · exact ⟨18, 2, rfl⟩
      · exact ⟨18, 4, rfl⟩
      · exact ⟨2, 1, rfl⟩
theorem fpos (f : Int) : (0 : Int) ≤ 16 * fA f ∧ (0 : Int) ≤ 16 * fD f := by rcases fmt_or f with h | h <;> omega
theorem rwide_eq (N : Nat) (f : Int) (k : Nat) : ref17_Wide N f (k : Int) = some (wid f k) := by
  obtain ⟨c, d, h⟩ := rsize_eq N f
  obtain ⟨p1, p2⟩ := fpos f
  have e1 : 16 * fA f / 2 = 8 * fA f := by omega
  unfold ref17_Wide wid
  rw [h]
  by_cases hk : k = 0
  · have : (k : Int) = 0 := by omega
    simp [this, hk]
  · have : ¬ (k : Int) = 0 := by omega
    simp [this, hk, p1, e1]
theorem rhigh_eq (N : Nat) (f : Int) (k : Nat) : ref17_High N f (k : Int) = some (hig f k) := by
  obtain ⟨c, d, h⟩ := rsize_eq N f
  obtain ⟨p1, p2⟩ := fpos f
  have e1 : 16 * fD f / 2 = 8 * fD f := by omega
  unfold ref17_High hig
  rw [h]
  by_cases hk : k = 0
  · have : (k : Int) = 0 := by omega
    simp [this, hk]
  · have : ¬ (k : Int) = 0 := by omega
    simp [this, hk, p2, e1]
theorem rmany_eq (N : Nat) (f : Int) : ref16_Many N f = some (fA f * fD f) := by
  obtain ⟨c, d, h⟩ := rsize_eq N f
  obtain ⟨p1, p2⟩ := fpos f
  obtain ⟨b1, b2⟩ := ad_bnd f
  have g1 : inK .i64 (fA f * fD f) := in64 (by omega) (by omega)
  have e1 : 16 * fA f / 16 = fA f := by omega
  have e2 : 16 * fD f / 16 = fD f := by omega
  unfold ref16_Many
  rw [h]
  simp only [Option.isSome_some, Option.getD_some, List.getD_cons_zero, List.getD_cons_succ, p1, p2, e1, e2, g1, and_self, if_true]
theorem racross_eq (N : Nat) (f : Int) : ref16_Across N f = some (fA f) := by
  obtain ⟨c, d, h⟩ := rsize_eq N f
  obtain ⟨p1, p2⟩ := fpos f
  have e1 : 16 * fA f / 16 = fA f := by omega
  unfold ref16_Across
  rw [h]
  simp only [Option.isSome_some, Option.getD_some, List.getD_cons_zero, p1, e1, and_self, if_true]
theorem rplace_ok (N : Nat) {f n : Int} {mv : List Int} (h : mayF f n mv = true) {b : Nat} (hb : b < 6) {i : Nat} (hi : i < 64) : ∃ X Y, ref17_Place N f n (b : Int) (i : Int) = some (((pk b : Nat) : Int), X, Y) ∧ (b < 4 → 2 * X + mv.getD 0 0 = xb f n mv b + 2 * ((i % 8 : Nat) : Int) ∧ 2 * Y + mv.getD 1 0 = yb f n mv b + 2 * ((i / 8 : Nat) : Int)) ∧ (¬ b < 4 → 2 * X + chr (mv.getD 0 0) = xb f n mv b + 2 * ((i % 8 : Nat) : Int) ∧ 2 * Y + chr (mv.getD 1 0) = yb f n mv b + 2 * ((i / 8 : Nat) : Int)) ∧ 0 ≤ X ∧ X ≤ 100000 ∧ 0 ≤ Y ∧ Y ≤ 100000 := by
  obtain ⟨a1, a2, a3, a4, n0, c1, c2, c3, c4, m0, m1, m2, m3⟩ := mayF_facts h
  have hp : 0 < fA f := by omega
  have d1 : (i : Int) % 8 = ((i % 8 : Nat) : Int) := by omega
  have d2 : (i : Int) / 8 = ((i / 8 : Nat) : Int) := by omega
  unfold ref17_Place
  simp only [racross_eq, Option.isSome_some, Option.getD_some, n0, hp, and_self, if_true, d1, d2]
  by_cases hb4 : b < 4
  · have e0 : pk b = 0 := by unfold pk; omega
    have d4 : (b : Int) < 4 := by omega
    have e1 : (b : Int) % 2 = ((b % 2 : Nat) : Int) := by omega
    have e2 : (b : Int) / 2 = ((b / 2 : Nat) : Int) := by omega
    have j1 : inK .i64 ((16 : Int) * (n % fA f)) := in64 (by omega) (by omega)
    have j2 : inK .i64 ((8 : Int) * ((b % 2 : Nat) : Int)) := in64 (by omega) (by omega)
    have j3 : inK .i64 ((16 : Int) * (n % fA f) + 8 * ((b % 2 : Nat) : Int)) := in64 (by omega) (by omega)
    have j4 : inK .i64 ((16 : Int) * (n % fA f) + 8 * ((b % 2 : Nat) : Int) + ((i % 8 : Nat) : Int)) := in64 (by omega) (by omega)
    have j5 : inK .i64 ((16 : Int) * (n / fA f)) := in64 (by omega) (by omega)
    have j6 : inK .i64 ((8 : Int) * ((b / 2 : Nat) : Int)) := in64 (by omega) (by omega)
    have j7 : inK .i64 ((16 : Int) * (n / fA f) + 8 * ((b / 2 : Nat) : Int)) := in64 (by omega) (by omega)
    have j8 : inK .i64 ((16 : Int) * (n / fA f) + 8 * ((b / 2 : Nat) : Int) + ((i / 8 : Nat) : Int)) := in64 (by omega) (by omega)
    refine ⟨16 * (n % fA f) + 8 * ((b % 2 : Nat) : Int) + ((i % 8 : Nat) : Int), 16 * (n / fA f) + 8 * ((b / 2 : Nat) : Int) + ((i / 8 : Nat) : Int), ?_, fun _ => ?_, fun hh => absurd hb4 hh, by omega, by omega, by omega, by omega⟩
    · simp only [d4, decide_true, cond_true, e1, e2, j1, j2, j3, j4, j5, j6, j7, j8, Int.natCast_nonneg, and_self, if_true, e0]
      rfl
    · unfold xb yb
      rw [if_pos hb4, if_pos hb4]
      omega
  · have d4 : ¬ (b : Int) < 4 := by omega
    have ek : (b : Int) - 3 = ((pk b : Nat) : Int) := by unfold pk; omega
    have j0 : inK .i64 ((pk b : Nat) : Int) := in64 (by omega) (by omega)
    have j1 : inK .i64 ((8 : Int) * (n % fA f)) := in64 (by omega) (by omega)
    have j2 : inK .i64 ((8 : Int) * (n % fA f) + ((i % 8 : Nat) : Int)) := in64 (by omega) (by omega)
    have j3 : inK .i64 ((8 : Int) * (n / fA f)) := in64 (by omega) (by omega)
    have j4 : inK .i64 ((8 : Int) * (n / fA f) + ((i / 8 : Nat) : Int)) := in64 (by omega) (by omega)
    refine ⟨8 * (n % fA f) + ((i % 8 : Nat) : Int), 8 * (n / fA f) + ((i / 8 : Nat) : Int), ?_, fun hh => absurd hh hb4, fun _ => ?_, by omega, by omega, by omega, by omega⟩
    · simp only [d4, decide_false, cond_false, ek, j0, j1, j2, j3, j4, Int.natCast_nonneg, and_self, if_true]
    · unfold xb yb
      rw [if_neg hb4, if_neg hb4]
      omega
end Go.Proofs.Ytjknjjdijoboiaa
