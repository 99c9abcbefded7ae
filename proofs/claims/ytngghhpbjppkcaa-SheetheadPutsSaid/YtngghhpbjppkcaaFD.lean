/- What the printed models answer: plain laws. -/
import Derived.Test.YtngghhpbjppkcaaFB
set_option linter.unusedVariables false
set_option linter.unusedSimpArgs false
namespace Go.Proofs.Ytngghhpbjppkcaa
open Go.X

/-- A loop that looks whether something holds of all numbers below one. -/
theorem iter_all {body : Int → Option (Int ⊕ (Unit ⊕ Unit))} (n N : Nat) (P : Nat → Bool) (hs : ∀ i, i < n → body (i : Int) = some (bif P i then .inl ((i : Int) + 1) else .inr (.inl ()))) (he : body (n : Int) = some (.inr (.inr ()))) (hN : n < N) :
    iter body N 0 = some (bif (List.range n).all P then .inr () else .inl ()) := by
  rcases first_or (fun j => P j = false) n with h | ⟨k, h1, h2, h3⟩
  · have hP : ∀ i, i < n → P i = true := fun i hi => by simpa using h i hi
    have : (List.range n).all P = true := List.all_eq_true.2 fun i hi => hP i (List.mem_range.1 hi)
    rw [this]
    exact iter_to (fun i => (i : Int)) n rfl (fun i hi => by rw [hs i hi, hP i hi]; rfl) he hN
  · have : (List.range n).all P = false := by
      cases hh : (List.range n).all P with
      | false => rfl
      | true => rw [List.all_eq_true.1 hh k (List.mem_range.2 h1)] at h2; cases h2
    rw [this]
    exact iter_to (fun i => (i : Int)) k rfl (fun i hi => by rw [hs i (by omega), show P i = true by simpa using h3 i hi]; rfl) (by rw [hs k h1, h2]; rfl) (by omega)
theorem cases6 {P : Nat → Prop} (h0 : P 0) (h1 : P 1) (h2 : P 2) (h3 : P 3) (h4 : P 4) (h5 : P 5) : ∀ i, i < 6 → P i := fun i hi => by
  match i, hi with
  | 0, _ => exact h0
  | 1, _ => exact h1
  | 2, _ => exact h2
  | 3, _ => exact h3
  | 4, _ => exact h4
  | 5, _ => exact h5
abbrev Ev := Bool × (Int × Int)
def rgt (r v : Int) : Prop := 0 ≤ r ∧ r ≤ 63 ∧ v ≠ 0 ∧ -127 ≤ v ∧ v ≤ 127
instance (r v : Int) : Decidable (rgt r v) := by unfold rgt; infer_instance
def gd (la : Bool) (r v p : Int) (last : Bool) : Prop := rgt r v ∧ la = last ∧ p + r ≤ 63
instance (la : Bool) (r v p : Int) (last : Bool) : Decidable (gd la r v p last) := by unfold gd; infer_instance
def ev (l : List Ev) (i : Nat) : Ev := l.getD i (false, ((0 : Int), (0 : Int)))
def posn (f : Int) (l : List Ev) : Nat → Int
  | 0 => f
  | i + 1 => posn f l i + (ev l i).2.1 + 1
def gdAt (f : Int) (l : List Ev) (i : Nat) : Prop := gd (ev l i).1 (ev l i).2.1 (ev l i).2.2 (posn f l i) (decide (i + 1 = l.length))
instance (f : Int) (l : List Ev) (i : Nat) : Decidable (gdAt f l i) := by unfold gdAt; infer_instance
theorem posn_in {f : Int} {l : List Ev} (hf : 0 ≤ f ∧ f ≤ 1) : ∀ i, (∀ j, j < i → gdAt f l j) → 0 ≤ posn f l i ∧ posn f l i ≤ 64 := by
  intro i
  induction i with
  | zero => intro _; simp only [posn]; omega
  | succ i ih =>
    intro h
    obtain ⟨h1, h2⟩ := ih fun j hj => h j (by omega)
    obtain ⟨⟨h3, h4, _⟩, _, h5⟩ := h i (by omega)
    simp only [posn]
    omega
def okE (f : Int) (l : List Ev) : Bool := (List.range l.length).all fun i => decide (gdAt f l i)
theorem okE_iff {f : Int} {l : List Ev} : okE f l = true ↔ ∀ i, i < l.length → gdAt f l i := by
  unfold okE
  simp only [List.all_eq_true, List.mem_range, decide_eq_true_eq]
def lvs (f : Int) (l : List Ev) : Nat → List Int
  | 0 => List.replicate 64 0
  | i + 1 => (lvs f l i).set (posn f l i + (ev l i).2.1).toNat (ev l i).2.2
def mayB (b : Bool) (dc : Int) (l : List Ev) : Bool := okE (bif b then 1 else 0) l && (bif b then decide (1 ≤ dc ∧ dc ≤ 254) else decide (dc = 0))
abbrev Evs := List (List Ev)
def intraB (k : Int) : Bool := bif decide (k = 3) then true else decide (k = 4)
def may6 (k : Int) (dc : List Int) (evs : Evs) : Bool := (List.range 6).all fun i => mayB (intraB k) (dc.getD i 0) (evs.getD i [])
def fewP (evs : Evs) : Prop := ∀ i, i < 6 → (evs.getD i []).length ≤ 100
def bareP (k s : Int) (mv dc : List Int) (evs : Evs) : Prop := k = 0 ∧ s = 0 ∧ mv = [0, 0] ∧ dc = [0, 0, 0, 0, 0, 0] ∧ ∀ i, i < 6 → evs.getD i [] = []
instance (k s : Int) (mv dc : List Int) (evs : Evs) : Decidable (bareP k s mv dc evs) := by unfold bareP; infer_instance
def stB (s : Int) : Bool := decide (s = -1) || (decide (s = -2) || (decide (s = 1) || decide (s = 2)))
def steppedB (k : Int) : Bool := bif decide (k = 1) then true else decide (k = 4)
def vecB (k : Int) (mv : List Int) : Bool := bif intraB k then decide (mv = [0, 0]) else decide (-32 ≤ mv.getD 0 0 ∧ mv.getD 0 0 ≤ 31) && decide (-32 ≤ mv.getD 1 0 ∧ mv.getD 1 0 ≤ 31)
def stepB (k s : Int) : Bool := bif steppedB k then stB s else decide (s = 0)
def kindB (inter : Bool) (k : Int) : Bool := intraB k || (inter && (decide (k = 0) || decide (k = 1)))
def rightB (inter : Bool) (st : Int) (sk : Bool) (k s : Int) (mv dc : List Int) (evs : Evs) : Bool :=
  decide (0 ≤ st ∧ st ≤ 64) && bif sk then inter && decide (bareP k s mv dc evs) else kindB inter k && (stepB k s && (vecB k mv && may6 k dc evs))
theorem len2 {xs : List Int} (h : xs.length = 2) : ∃ a b, xs = [a, b] := by
  match xs, h with
  | [a, b], _ => exact ⟨a, b, rfl⟩
theorem len6 {xs : List Int} (h : xs.length = 6) : ∃ a b c d e f, xs = [a, b, c, d, e, f] := by
  match xs, h with
  | [a, b, c, d, e, f], _ => exact ⟨a, b, c, d, e, f, rfl⟩
theorem in5 {i : Nat} (h : i < 6) : (0 : Int) ≤ (i : Int) ∧ (i : Int) < 6 ∧ ((i : Int)).toNat < 6 := ⟨by omega, by omega, by omega⟩
/-! ### formats and planes -/
def fA (f : Int) : Int := if f = 1 then 8 else if f = 2 then 11 else if f = 3 then 22 else if f = 4 then 44 else if f = 5 then 88 else if f = 6 then 2 else 0
def fD (f : Int) : Int := if f = 1 then 6 else if f = 2 then 9 else if f = 3 then 18 else if f = 4 then 36 else if f = 5 then 72 else if f = 6 then 2 else 0
theorem fmt_or (f : Int) : (fA f = 0 ∧ fD f = 0) ∨ (2 ≤ fA f ∧ fA f ≤ 88 ∧ 2 ≤ fD f ∧ fD f ≤ 72) := by
  unfold fA fD
  split
  · right; omega
  split
  · right; omega
  split
  · right; omega
  split
  · right; omega
  split
  · right; omega
  split
  · right; omega
  · left; exact ⟨rfl, rfl⟩
def wid (f : Int) (k : Nat) : Int := if k = 0 then 16 * fA f else 8 * fA f
def hig (f : Int) (k : Nat) : Int := if k = 0 then 16 * fD f else 8 * fD f
theorem mul_le2 {a b c d : Int} (h0 : 0 ≤ a) (h1 : a ≤ c) (h2 : 0 ≤ b) (h3 : b ≤ d) : 0 ≤ a * b ∧ a * b ≤ c * d := ⟨Int.mul_nonneg h0 h2, Int.mul_le_mul h1 h3 h2 (by omega)⟩
theorem wh_bnd (f : Int) (k : Nat) : 0 ≤ wid f k ∧ wid f k ≤ 1408 ∧ 0 ≤ hig f k ∧ hig f k ≤ 1152 ∧ 0 ≤ wid f k * hig f k ∧ wid f k * hig f k ≤ 1408 * 1152 := by
  have h : 0 ≤ wid f k ∧ wid f k ≤ 1408 ∧ 0 ≤ hig f k ∧ hig f k ≤ 1152 := by
    unfold wid hig
    rcases fmt_or f with ⟨h1, h2⟩ | ⟨h1, h2, h3, h4⟩
    · rw [h1, h2]; split <;> omega
    · split <;> omega
  obtain ⟨h1, h2, h3, h4⟩ := h
  exact ⟨h1, h2, h3, h4, mul_le2 h1 h2 h3 h4⟩
theorem ad_bnd (f : Int) : 0 ≤ fA f * fD f ∧ fA f * fD f ≤ 88 * 72 := by
  rcases fmt_or f with ⟨h1, h2⟩ | ⟨h1, h2, h3, h4⟩
  · rw [h1, h2]; decide
  · exact mul_le2 (by omega) h2 (by omega) h4
def rightF (f : Int) (ps : List (List Int)) : Bool := decide (fA f ≠ 0) && (List.range 3).all fun k => decide (((ps.getD k []).length : Int) = wid f k * hig f k)
theorem rightF_len {f : Int} {ps : List (List Int)} (h : rightF f ps = true) : fA f ≠ 0 ∧ ∀ k, k < 3 → ((ps.getD k []).length : Int) = wid f k * hig f k := by
  unfold rightF at h
  simp only [Bool.and_eq_true, decide_eq_true_eq, List.all_eq_true, List.mem_range] at h
  exact h
theorem in2 {i : Nat} (h : i < 3) : (0 : Int) ≤ (i : Int) ∧ (i : Int) < 3 ∧ ((i : Int)).toNat < 3 := ⟨by omega, by omega, by omega⟩
def byteP (l : List Int) : Prop := ∀ i, 0 ≤ l.getD i 0 ∧ l.getD i 0 ≤ 255
theorem byteP_of {l : List Int} (h : ∀ x, x ∈ l → inK .u8 x) : byteP l := fun i => by
  rw [List.getD_eq_getElem?_getD]
  cases hi : l[i]? with
  | none => decide
  | some x =>
    have := h x (List.mem_of_getElem? hi)
    unfold inK at this
    exact this
/-- n is the cell in column n % A of line n / A. -/
theorem cell_at {n A D : Int} (hA : 0 < A) (h0 : 0 ≤ n) (h1 : n < A * D) : 0 ≤ n % A ∧ n % A < A ∧ 0 ≤ n / A ∧ n / A < D :=
  ⟨Int.emod_nonneg n (by omega), Int.emod_lt_of_pos n hA, Int.ediv_nonneg h0 (by omega), Int.ediv_lt_of_lt_mul hA (by rw [Int.mul_comm]; exact h1)⟩
theorem idx_lt {x y w h : Int} (x0 : 0 ≤ x) (x1 : x < w) (y0 : 0 ≤ y) (y1 : y < h) : 0 ≤ y * w + x ∧ y * w + x < w * h := by
  have h1 : 0 ≤ y * w := Int.mul_nonneg y0 (by omega)
  have h2 : (y + 1) * w ≤ h * w := Int.mul_le_mul_of_nonneg_right (by omega) (by omega)
  rw [Int.add_mul, Int.one_mul, Int.mul_comm h w] at h2
  omega
/-- Does a way of so many halves lie inside? -/
def inX (v a : Int) : Prop := 0 ≤ v ∧ (v + 1) / 2 + 16 ≤ 16 * a
instance (v a : Int) : Decidable (inX v a) := by unfold inX; infer_instance
def hasF (f n : Int) : Bool := decide (0 ≤ n) && decide (n < fA f * fD f)
def mvB (mv : List Int) : Bool := (List.range 2).all fun i => decide (-32 ≤ mv.getD i 0 ∧ mv.getD i 0 ≤ 31)
def mayF (f n : Int) (mv : List Int) : Bool := hasF f n && (mvB mv && (decide (inX (32 * (n % fA f) + mv.getD 0 0) (fA f)) && decide (inX (32 * (n / fA f) + mv.getD 1 0) (fD f))))
def chr (v : Int) : Int :=
  let c := clip v (-64) 64
  let a := max c (-c)
  let n := 2 * (a / 4) + (if a % 4 = 0 then 0 else 1)
  if c < 0 then -n else n
/-- A sample at halves. -/
def hv (l : List Int) (w x y : Int) : Int := (l.getD ((y / 2) * w + x / 2).toNat 0 + l.getD ((y / 2) * w + (x / 2 + x % 2)).toNat 0 + l.getD ((y / 2 + y % 2) * w + x / 2).toNat 0 + l.getD ((y / 2 + y % 2) * w + (x / 2 + x % 2)).toNat 0 + 2) / 4
def pk (b : Nat) : Nat := b - 3
def xb (f n : Int) (mv : List Int) (b : Nat) : Int := if b < 4 then 2 * (16 * (n % fA f) + ((b % 2 : Nat) : Int) * 8) + mv.getD 0 0 else 16 * (n % fA f) + chr (mv.getD 0 0)
def yb (f n : Int) (mv : List Int) (b : Nat) : Int := if b < 4 then 2 * (16 * (n / fA f) + ((b / 2 : Nat) : Int) * 8) + mv.getD 1 0 else 16 * (n / fA f) + chr (mv.getD 1 0)
/-- What is predicted. -/
def prF (f : Int) (ps : List (List Int)) (n : Int) (mv : List Int) (b i : Nat) : Int := hv (ps.getD (pk b) []) (wid f (pk b)) (xb f n mv b + 2 * ((i % 8 : Nat) : Int)) (yb f n mv b + 2 * ((i / 8 : Nat) : Int))
theorem chr_bnd {v : Int} (h1 : -32 ≤ v) (h2 : v ≤ 31) : (0 ≤ v → 0 ≤ chr v) ∧ (v ≤ 0 → chr v ≤ 0) ∧ -16 ≤ chr v ∧ chr v ≤ 16 := by
  unfold chr
  rw [clip_id (by omega) (by omega)]
  simp only []
  by_cases hv : v < 0
  · rw [if_pos hv]
    have : max v (-v) = -v := by omega
    rw [this]
    split <;> omega
  · rw [if_neg hv]
    have : max v (-v) = v := by omega
    rw [this]
    split <;> omega
/-- All halves of a block lie inside its plane. -/
theorem in_plane {f n : Int} {mv : List Int} (h : mayF f n mv = true) {b : Nat} (hb : b < 6) {i : Nat} (hi : i < 64) :
    0 ≤ xb f n mv b + 2 * ((i % 8 : Nat) : Int) ∧ (xb f n mv b + 2 * ((i % 8 : Nat) : Int)) / 2 + (xb f n mv b + 2 * ((i % 8 : Nat) : Int)) % 2 < wid f (pk b) ∧ 0 ≤ yb f n mv b + 2 * ((i / 8 : Nat) : Int) ∧ (yb f n mv b + 2 * ((i / 8 : Nat) : Int)) / 2 + (yb f n mv b + 2 * ((i / 8 : Nat) : Int)) % 2 < hig f (pk b) := by
  unfold mayF hasF mvB at h
  simp only [Bool.and_eq_true, decide_eq_true_eq, List.all_eq_true, List.mem_range] at h
  obtain ⟨⟨h0, h1⟩, h2, h34, h56⟩ := h
  unfold inX at h34 h56
  obtain ⟨h3, h4⟩ := h34
  obtain ⟨h5, h6⟩ := h56
  obtain ⟨m0, m1⟩ := h2 0 (by omega)
  obtain ⟨m2, m3⟩ := h2 1 (by omega)
  have hA : 0 < fA f := by
    rcases fmt_or f with ⟨g1, g2⟩ | ⟨g1, _⟩
    · rw [g1] at h1; omega
    · omega
  obtain ⟨c1, c2, c3, c4⟩ := cell_at hA h0 h1
  obtain ⟨k1, k2, k3, k4⟩ := chr_bnd m0 m1
  obtain ⟨k5, k6, k7, k8⟩ := chr_bnd m2 m3
  unfold xb yb wid hig pk
  generalize n % fA f = x at *
  generalize n / fA f = y at *
  generalize chr (mv.getD 0 0) = u at *
  generalize chr (mv.getD 1 0) = v at *
  generalize mv.getD 0 0 = p at *
  generalize mv.getD 1 0 = q at *
  generalize fA f = A at *
  generalize fD f = D at *
  by_cases hb4 : b < 4
  · rw [if_pos hb4, if_pos hb4, if_pos (by omega), if_pos (by omega)]
    refine ⟨?_, ?_, ?_, ?_⟩ <;> omega
  · rw [if_neg hb4, if_neg hb4, if_neg (by omega), if_neg (by omega)]
    refine ⟨?_, ?_, ?_, ?_⟩ <;> omega
theorem hv_bnd {l : List Int} (h : byteP l) (w x y : Int) : 0 ≤ hv l w x y ∧ hv l w x y ≤ 255 := by
  unfold hv
  have h1 := h ((y / 2) * w + x / 2).toNat
  have h2 := h ((y / 2) * w + (x / 2 + x % 2)).toNat
  have h3 := h ((y / 2 + y % 2) * w + x / 2).toNat
  have h4 := h ((y / 2 + y % 2) * w + (x / 2 + x % 2)).toNat
  omega
theorem size_eq (N : Nat) (f : Int) : formats_Size N f = some (16 * fA f, 16 * fD f, decide (fA f ≠ 0)) := by
  unfold formats_Size fA fD
  by_cases h1 : f = 1
  · simp [h1]
  by_cases h2 : f = 2
  · simp [h2]
  by_cases h3 : f = 3
  · simp [h3]
  by_cases h4 : f = 4
  · simp [h4]
  by_cases h5 : f = 5
  · simp [h5]
  by_cases h6 : f = 6
  · simp [h6]
  · simp [h1, h2, h3, h4, h5, h6]
theorem rsize_eq (N : Nat) (f : Int) : ∃ c d, ref16_Size N f = some [16 * fA f, 16 * fD f, c, d] := by
  unfold ref16_Size fA fD
  by_cases hb : f < 0
  · have h1 : f ≠ 1 := by omega
    have h2 : f ≠ 2 := by omega
    have h3 : f ≠ 3 := by omega
    have h4 : f ≠ 4 := by omega
    have h5 : f ≠ 5 := by omega
    have h6 : f ≠ 6 := by omega
    exact ⟨0, 0, by simp [hb, h1, h2, h3, h4, h5, h6, List.replicate]⟩
  · by_cases hc : 7 ≤ f
    · have h1 : f ≠ 1 := by omega
      have h2 : f ≠ 2 := by omega
      have h3 : f ≠ 3 := by omega
      have h4 : f ≠ 4 := by omega
      have h5 : f ≠ 5 := by omega
      have h6 : f ≠ 6 := by omega
      exact ⟨0, 0, by simp [hb, hc, h1, h2, h3, h4, h5, h6, List.replicate]⟩
    · rcases (show f = 0 ∨ f = 1 ∨ f = 2 ∨ f = 3 ∨ f = 4 ∨ f = 5 ∨ f = 6 by omega) with rfl | rfl | rfl | rfl | rfl | rfl | rfl
      · exact ⟨0, 0, rfl⟩
      · exact ⟨6, 1, rfl⟩
      · exact ⟨9, 1, rfl⟩
      · exact ⟨18, 1, rfl⟩
      · exact ⟨18, 2, rfl⟩
      · exact ⟨18, 4, rfl⟩
      · exact ⟨2, 1, rfl⟩
theorem fpos (f : Int) : (0 : Int) ≤ 16 * fA f ∧ (0 : Int) ≤ 16 * fD f := by rcases fmt_or f with h | h <;> omega
theorem rmany_eq (N : Nat) (f : Int) : ref16_Many N f = some (fA f * fD f) := by
  obtain ⟨c, d, h⟩ := rsize_eq N f
  obtain ⟨p1, p2⟩ := fpos f
  obtain ⟨b1, b2⟩ := ad_bnd f
  have g1 : inK .i64 (fA f * fD f) := in64 (by omega) (by omega)
  have e1 : 16 * fA f / 16 = fA f := by omega
  have e2 : 16 * fD f / 16 = fD f := by omega
  unfold ref16_Many
  rw [h]
  simp only [Option.isSome_some, Option.getD_some, List.getD_cons_zero, List.getD_cons_succ, p1, p2, e1, e2, g1, and_self, if_true]
end Go.Proofs.Ytngghhpbjppkcaa
