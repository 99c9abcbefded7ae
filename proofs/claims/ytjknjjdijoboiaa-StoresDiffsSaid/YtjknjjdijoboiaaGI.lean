/- What the printed models answer: plain laws. -/
import Derived.Test.YtjknjjdijoboiaaGD
set_option linter.unusedVariables false
set_option linter.unusedSimpArgs false
namespace Go.Proofs.Ytjknjjdijoboiaa
open Go.X

/-! ### formats and planes -/
def fA (f : Int) : Int := if f = 1 then 8 else if f = 2 then 11 else if f = 3 then 22 else if f = 4 then 44 else if f = 5 then 88 else if f = 6 then 2 else 0
def fD (f : Int) : Int := if f = 1 then 6 else if f = 2 then 9 else if f = 3 then 18 else if f = 4 then 36 else if f = 5 then 72 else if f = 6 then 2 else 0
theorem fmt_or (f : Int) : (fA f = 0 ∧ fD f = 0) ∨ (2 ≤ fA f ∧ fA f ≤ 88 ∧ 2 ≤ fD f ∧ fD f ≤ 72) := by
  unfold fA fD
  split
  · right; omega
  split
  · right; omega
  split
  · right; omega
  split
  · right; omega
  split
  · right; omega
  split
  · right; omega
  · left; exact ⟨rfl, rfl⟩
def wid (f : Int) (k : Nat) : Int := if k = 0 then 16 * fA f else 8 * fA f
def hig (f : Int) (k : Nat) : Int := if k = 0 then 16 * fD f else 8 * fD f
theorem mul_le2 {a b c d : Int} (h0 : 0 ≤ a) (h1 : a ≤ c) (h2 : 0 ≤ b) (h3 : b ≤ d) : 0 ≤ a * b ∧ a * b ≤ c * d := ⟨Int.mul_nonneg h0 h2, Int.mul_le_mul h1 h3 h2 (by omega)⟩
theorem wh_bnd (f : Int) (k : Nat) : 0 ≤ wid f k ∧ wid f k ≤ 1408 ∧ 0 ≤ hig f k ∧ hig f k ≤ 1152 ∧ 0 ≤ wid f k * hig f k ∧ wid f k * hig f k ≤ 1408 * 1152 := by
  have h : 0 ≤ wid f k ∧ wid f k ≤ 1408 ∧ 0 ≤ hig f k ∧ hig f k ≤ 1152 := by
    unfold wid hig
    rcases fmt_or f with ⟨h1, h2⟩ | ⟨h1, h2, h3, h4⟩
    · rw [h1, h2]; split <;> omega
    · split <;> omega
  obtain ⟨h1, h2, h3, h4⟩ := h
  exact ⟨h1, h2, h3, h4, mul_le2 h1 h2 h3 h4⟩
theorem ad_bnd (f : Int) : 0 ≤ fA f * fD f ∧ fA f * fD f ≤ 88 * 72 := by
  rcases fmt_or f with ⟨h1, h2⟩ | ⟨h1, h2, h3, h4⟩
  · rw [h1, h2]; decide
  · exact mul_le2 (by omega) h2 (by omega) h4
def rightF (f : Int) (ps : List (List Int)) : Bool := decide (fA f ≠ 0) && (List.range 3).all fun k => decide (((ps.getD k []).length : Int) = wid f k * hig f k)
theorem rightF_len {f : Int} {ps : List (List Int)} (h : rightF f ps = true) : fA f ≠ 0 ∧ ∀ k, k < 3 → ((ps.getD k []).length : Int) = wid f k * hig f k := by
  unfold rightF at h
  simp only [Bool.and_eq_true, decide_eq_true_eq, List.all_eq_true, List.mem_range] at h
  exact h
theorem in2 {i : Nat} (h : i < 3) : (0 : Int) ≤ (i : Int) ∧ (i : Int) < 3 ∧ ((i : Int)).toNat < 3 := ⟨by omega, by omega, by omega⟩
def byteP (l : List Int) : Prop := ∀ i, 0 ≤ l.getD i 0 ∧ l.getD i 0 ≤ 255
theorem byteP_of {l : List Int} (h : ∀ x, x ∈ l → inK .u8 x) : byteP l := fun i => by
  rw [List.getD_eq_getElem?_getD]
  cases hi : l[i]? with
  | none => decide
  | some x =>
    have := h x (List.mem_of_getElem? hi)
    unfold inK at this
    exact this
/-- A sample at halves. -/
def hv (l : List Int) (w x y : Int) : Int := (l.getD ((y / 2) * w + x / 2).toNat 0 + l.getD ((y / 2) * w + (x / 2 + x % 2)).toNat 0 + l.getD ((y / 2 + y % 2) * w + x / 2).toNat 0 + l.getD ((y / 2 + y % 2) * w + (x / 2 + x % 2)).toNat 0 + 2) / 4
theorem size_eq (N : Nat) (f : Int) : formats_Size N f = some (16 * fA f, 16 * fD f, decide (fA f ≠ 0)) := by
  unfold formats_Size fA fD
  by_cases h1 : f = 1
  · simp [h1]
  by_cases h2 : f = 2
  · simp [h2]
  by_cases h3 : f = 3
  · simp [h3]
  by_cases h4 : f = 4
  · simp [h4]
  by_cases h5 : f = 5
  · simp [h5]
  by_cases h6 : f = 6
  · simp [h6]
  · simp [h1, h2, h3, h4, h5, h6]
theorem plane_eq (N : Nat) (f : Int) {k : Nat} (hk : k < 3) : formats_Plane N f (k : Int) = some (wid f k, hig f k) := by
  unfold formats_Plane wid hig
  have h : 0 ≤ fA f ∧ 0 ≤ fD f := by rcases fmt_or f with h | h <;> omega
  have h1 : (0 : Int) ≤ 16 * fA f := by omega
  have h2 : (0 : Int) ≤ 16 * fD f := by omega
  have e1 : 16 * fA f / 2 = 8 * fA f := by omega
  have e2 : 16 * fD f / 2 = 8 * fD f := by omega
  simp only [size_eq, Option.isSome_some, if_true, Option.getD_some]
  rcases (show k = 0 ∨ k = 1 ∨ k = 2 by omega) with rfl | rfl | rfl
  · rfl
  · simp [h1, h2, e1, e2]
  · simp [h1, h2, e1, e2]
theorem pright_ok {N : Nat} (hN : 10 < N) (f : Int) (ps : List (List Int)) : planes_Right N f ps = some (rightF f ps) := by
  unfold planes_Right
  have hit : iter (planes_Right_b1 N f ps) N (decide (fA f ≠ 0), 0) = some (rightF f ps) := by
    refine iter_to (fun i => (decide (fA f ≠ 0) && (List.range i).all (fun k => decide (((ps.getD k []).length : Int) = wid f k * hig f k)), (i : Int))) 3 ?_ ?_ ?_ (by omega)
    · simp
    · intro i hi
      obtain ⟨g1, g2, g3⟩ := in2 hi
      have g4 := inS (i := i) (by omega)
      obtain ⟨_, _, _, _, b5, b6⟩ := wh_bnd f i
      have g5 : inK .i64 (wid f i * hig f i) := in64 (by omega) (by omega)
      simp only [planes_Right_b1, g1, g2, hi, decide_true, cond_true, Int.toNat_natCast, and_self, if_true, plane_eq N f hi, Option.isSome_some, Option.getD_some, g5, implies_true, g4]
      refine congrArg (fun z => some (Sum.inl z)) ?_
      rw [List.range_succ, List.all_append, Int.natCast_succ]
      generalize (List.range i).all _ = r
      cases decide (fA f ≠ 0) <;> cases r <;> simp
    · simp [planes_Right_b1, rightF]
  simp only [size_eq, Option.isSome_some, if_true, Option.getD_some, hit, Option.bind_some]
theorem rsize_eq (N : Nat) (f : Int) : ∃ c d, ref16_Size N f = some [16 * fA f, 16 * fD f, c, d] := by
  unfold ref16_Size fA fD
  by_cases hb : f < 0
  · have h1 : f ≠ 1 := by omega
    have h2 : f ≠ 2 := by omega
    have h3 : f ≠ 3 := by omega
    have h4 : f ≠ 4 := by omega
    have h5 : f ≠ 5 := by omega
    have h6 : f ≠ 6 := by omega
    exact ⟨0, 0, by simp [hb, h1, h2, h3, h4, h5, h6, List.replicate]⟩
  · by_cases hc : 7 ≤ f
    · have h1 : f ≠ 1 := by omega
      have h2 : f ≠ 2 := by omega
      have h3 : f ≠ 3 := by omega
      have h4 : f ≠ 4 := by omega
      have h5 : f ≠ 5 := by omega
      have h6 : f ≠ 6 := by omega
      exact ⟨0, 0, by simp [hb, hc, h1, h2, h3, h4, h5, h6, List.replicate]⟩
    · rcases (show f = 0 ∨ f = 1 ∨ f = 2 ∨ f = 3 ∨ f = 4 ∨ f = 5 ∨ f = 6 by omega) with rfl | rfl | rfl | rfl | rfl | rfl | rfl
      · exact ⟨0, 0, rfl⟩
      · exact ⟨6, 1, rfl⟩
      · exact ⟨9, 1, rfl⟩
      · exact ⟨18, 1, rfl⟩
      · exact ⟨18, 2, rfl⟩
      · exact ⟨18, 4, rfl⟩
      · exact ⟨2, 1, rfl⟩
theorem fpos (f : Int) : (0 : Int) ≤ 16 * fA f ∧ (0 : Int) ≤ 16 * fD f := by rcases fmt_or f with h | h <;> omega
theorem rwide_eq (N : Nat) (f : Int) (k : Nat) : ref17_Wide N f (k : Int) = some (wid f k) := by
  obtain ⟨c, d, h⟩ := rsize_eq N f
  obtain ⟨p1, p2⟩ := fpos f
  have e1 : 16 * fA f / 2 = 8 * fA f := by omega
  unfold ref17_Wide wid
  rw [h]
  by_cases hk : k = 0
  · have : (k : Int) = 0 := by omega
    simp [this, hk]
  · have : ¬ (k : Int) = 0 := by omega
    simp [this, hk, p1, e1]
theorem rhigh_eq (N : Nat) (f : Int) (k : Nat) : ref17_High N f (k : Int) = some (hig f k) := by
  obtain ⟨c, d, h⟩ := rsize_eq N f
  obtain ⟨p1, p2⟩ := fpos f
  have e1 : 16 * fD f / 2 = 8 * fD f := by omega
  unfold ref17_High hig
  rw [h]
  by_cases hk : k = 0
  · have : (k : Int) = 0 := by omega
    simp [this, hk]
  · have : ¬ (k : Int) = 0 := by omega
    simp [this, hk, p2, e1]
theorem rpright_ok {N : Nat} (hN : 10 < N) (f : Int) (ps : List (List Int)) : ref17_Right N f ps = some (rightF f ps) := by
  obtain ⟨c, d, h⟩ := rsize_eq N f
  unfold ref17_Right rightF
  rw [h]
  have hit := iter_all (body := ref17_Right_b1 N f ps) 3 N (fun k => decide (((ps.getD k []).length : Int) = wid f k * hig f k)) (fun i hi => by
    obtain ⟨g1, g2, g3⟩ := in2 hi
    have g4 := inS (i := i) (by omega)
    obtain ⟨_, _, _, _, b5, b6⟩ := wh_bnd f i
    have g5 : inK .i64 (wid f i * hig f i) := in64 (by omega) (by omega)
    simp only [ref17_Right_b1, g1, g2, hi, decide_true, cond_true, Int.toNat_natCast, rwide_eq, rhigh_eq, Option.isSome_some, Option.getD_some, g5, and_self, if_true, g4]
    by_cases he : ((ps.getD i []).length : Int) = wid f i * hig f i <;> simp [he, -List.getD_eq_getElem?_getD]) (by simp [ref17_Right_b1]) (by omega)
  simp only [Option.isSome_some, if_true, Option.getD_some, hit]
  simp only [List.getD_cons_zero]
  by_cases h0 : fA f = 0
  · have : 16 * fA f = 0 := by omega
    simp [h0]
  · have : ¬ 16 * fA f = 0 := by omega
    simp only [this, decide_false, cond_false, Option.bind_some, h0, ne_eq, not_false_eq_true, decide_true, Bool.true_and]
    cases (List.range 3).all fun k => decide (((ps.getD k []).length : Int) = wid f k * hig f k) <;> rfl
theorem rmany_eq (N : Nat) (f : Int) : ref16_Many N f = some (fA f * fD f) := by
  obtain ⟨c, d, h⟩ := rsize_eq N f
  obtain ⟨p1, p2⟩ := fpos f
  obtain ⟨b1, b2⟩ := ad_bnd f
  have g1 : inK .i64 (fA f * fD f) := in64 (by omega) (by omega)
  have e1 : 16 * fA f / 16 = fA f := by omega
  have e2 : 16 * fD f / 16 = fD f := by omega
  unfold ref16_Many
  rw [h]
  simp only [Option.isSome_some, Option.getD_some, List.getD_cons_zero, List.getD_cons_succ, p1, p2, e1, e2, g1, and_self, if_true]
end Go.Proofs.Ytjknjjdijoboiaa
