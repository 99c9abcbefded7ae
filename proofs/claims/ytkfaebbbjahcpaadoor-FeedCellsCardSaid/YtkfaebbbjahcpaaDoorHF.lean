/- What the printed models answer: plain laws. -/
import Derived.Test.YtkfaebbbjahcpaaDoorHD
set_option linter.unusedVariables false
set_option linter.unusedSimpArgs false
namespace Go.Proofs.YtkfaebbbjahcpaaDoor
open Go.X

def amt (c p : Int) : Int := p * (2 * c + 1) - (if p % 2 = 0 then 1 else 0)
def sv (a q : Int) : Int :=
  let c := clip a (-127) 127
  let p := clip q 1 31
  if c = 0 then 0 else if c < 0 then clip (-amt (-c) p) (-2048) 2047 else clip (amt c p) (-2048) 2047
theorem amt_bnd {c p : Int} (h1 : 0 ≤ c) (h2 : c ≤ 127) (h3 : 1 ≤ p) (h4 : p ≤ 31) : 0 ≤ p * (2 * c + 1) ∧ p * (2 * c + 1) ≤ 31 * 255 ∧ 0 ≤ amt c p ∧ amt c p ≤ 31 * 255 := by
  have e1 : 1 * 1 ≤ p * (2 * c + 1) := Int.mul_le_mul h3 (by omega) (by omega) (by omega)
  have e2 : p * (2 * c + 1) ≤ 31 * 255 := Int.mul_le_mul h4 (by omega) (by omega) (by omega)
  unfold amt
  split <;> omega
def wt (f c : Nat) : Int := weightsL.getD (f * 8 + c) 0
theorem wt_bnd : ∀ f, f < 8 → ∀ c, c < 8 → -89 ≤ wt f c ∧ wt f c ≤ 89 := by decide +kernel
theorem mul_bnd {x y a b : Int} (h1 : -a ≤ x) (h2 : x ≤ a) (h3 : -b ≤ y) (h4 : y ≤ b) : -(a * b) ≤ x * y ∧ x * y ≤ a * b := by
  have k1 : 0 ≤ (a - x) * (b - y) := Int.mul_nonneg (by omega) (by omega)
  have k2 : 0 ≤ (a + x) * (b + y) := Int.mul_nonneg (by omega) (by omega)
  have k3 : 0 ≤ (a - x) * (b + y) := Int.mul_nonneg (by omega) (by omega)
  have k4 : 0 ≤ (a + x) * (b - y) := Int.mul_nonneg (by omega) (by omega)
  simp only [Int.sub_mul, Int.add_mul, Int.mul_sub, Int.mul_add] at k1 k2 k3 k4
  omega
def foreF (X : Nat → Int) (r f : Nat) : Int := psum (fun c => wt f c * X (8 * r + c)) 8
theorem fore_bnd {X : Nat → Int} {B : Int} (hX : ∀ k, k < 64 → -B ≤ X k ∧ X k ≤ B) {r f : Nat} (hr : r < 8) (hf : f < 8) (n : Nat) (hn : n ≤ 8) : -(8 * (89 * B)) ≤ psum (fun c => wt f c * X (8 * r + c)) n ∧ psum (fun c => wt f c * X (8 * r + c)) n ≤ 8 * (89 * B) := by
  have := psum_abs (f := fun c => wt f c * X (8 * r + c)) (n := n) (b := 89 * B) fun c hc => by
    obtain ⟨a1, a2⟩ := wt_bnd f hf c (by omega)
    obtain ⟨a3, a4⟩ := hX (8 * r + c) (by omega)
    exact mul_bnd a1 a2 a3 a4
  obtain ⟨b1, b2⟩ := this
  have hB : 0 ≤ B := by have := hX 0 (by omega); omega
  have : (n : Int) * (89 * B) ≤ 8 * (89 * B) := Int.mul_le_mul_of_nonneg_right (by omega) (by omega)
  omega
def passF (X : Nat → Int) (k : Nat) : Int := foreF X (k % 8) (k / 8)
def rnd (x : Int) : Int := (clip x (-1099511627776) 1099511627776 + 16384) / 32768
def dctF (X : Nat → Int) (k : Nat) : Int := clip (rnd (passF (passF fun j => clip (X j) (-2048) 2047) k)) (-2048) 2047
theorem two_passes (X : Nat → Int) {k : Nat} (hk : k < 64) : passF (passF X) k = psum (fun i => wt (k % 8) (i % 8) * wt (k / 8) (i / 8) * X i) 64 := by
  show psum (fun c => wt (k / 8) c * psum (fun d => wt ((8 * (k % 8) + c) / 8) d * X (8 * ((8 * (k % 8) + c) % 8) + d)) 8) 8 = _
  have : ∀ c, c < 8 → wt (k / 8) c * psum (fun d => wt ((8 * (k % 8) + c) / 8) d * X (8 * ((8 * (k % 8) + c) % 8) + d)) 8 = psum (fun d => wt (k % 8) d * wt (k / 8) c * X (8 * c + d)) 8 := by
    intro c hc
    have e1 : (8 * (k % 8) + c) / 8 = k % 8 := by omega
    have e2 : (8 * (k % 8) + c) % 8 = c := by omega
    rw [e1, e2, psum_mul]
    refine psum_ext fun d hd => ?_
    rw [← Int.mul_assoc, Int.mul_comm (wt (k / 8) c)]
  rw [psum_ext this, psum_rows (fun c d => wt (k % 8) d * wt (k / 8) c * X (8 * c + d)) 8 (by decide) 8]
  refine psum_ext fun j hj => ?_
  have : 8 * (j / 8) + j % 8 = j := by omega
  simp only [this]
def lev (v d : Int) : Int := clip (max v 0 / d) 0 127
def lvl (a q : Int) (b : Bool) : Int :=
  let c := clip a (-2048) 2047
  let p := clip q 1 31
  let l := lev (max c (-c) - (bif b then 0 else p / 2)) (2 * p)
  if c < 0 then -l else l
theorem lev_bnd (v d : Int) : 0 ≤ lev v d ∧ lev v d ≤ 127 := ⟨clip_ge (by decide), clip_le (by decide)⟩
theorem sv_bnd (a q : Int) : -2048 ≤ sv a q ∧ sv a q ≤ 2047 := by
  unfold sv
  simp only []
  split
  · omega
  split
  · exact ⟨clip_ge (by decide), clip_le (by decide)⟩
  · exact ⟨clip_ge (by decide), clip_le (by decide)⟩
def levs (L : Nat → Int) (k : Nat) : Int := clip (L k) (-127) 127
def backF (X : Nat → Int) (r f : Nat) : Int := psum (fun c => wt c f * X (8 * r + c)) 8
theorem back_bnd {X : Nat → Int} {B : Int} (hX : ∀ k, k < 64 → -B ≤ X k ∧ X k ≤ B) {r f : Nat} (hr : r < 8) (hf : f < 8) (n : Nat) (hn : n ≤ 8) : -(8 * (89 * B)) ≤ psum (fun c => wt c f * X (8 * r + c)) n ∧ psum (fun c => wt c f * X (8 * r + c)) n ≤ 8 * (89 * B) := by
  have := psum_abs (f := fun c => wt c f * X (8 * r + c)) (n := n) (b := 89 * B) fun c hc => by
    obtain ⟨a1, a2⟩ := wt_bnd c (by omega) f hf
    obtain ⟨a3, a4⟩ := hX (8 * r + c) (by omega)
    exact mul_bnd a1 a2 a3 a4
  obtain ⟨b1, b2⟩ := this
  have hB : 0 ≤ B := by have := hX 0 (by omega); omega
  have : (n : Int) * (89 * B) ≤ 8 * (89 * B) := Int.mul_le_mul_of_nonneg_right (by omega) (by omega)
  omega
def passB (X : Nat → Int) (k : Nat) : Int := backF X (k % 8) (k / 8)
theorem two_passesb (X : Nat → Int) {k : Nat} (hk : k < 64) : passB (passB X) k = psum (fun i => wt (i % 8) (k % 8) * wt (i / 8) (k / 8) * X i) 64 := by
  show psum (fun c => wt c (k / 8) * psum (fun d => wt d ((8 * (k % 8) + c) / 8) * X (8 * ((8 * (k % 8) + c) % 8) + d)) 8) 8 = _
  have : ∀ c, c < 8 → wt c (k / 8) * psum (fun d => wt d ((8 * (k % 8) + c) / 8) * X (8 * ((8 * (k % 8) + c) % 8) + d)) 8 = psum (fun d => wt d (k % 8) * wt c (k / 8) * X (8 * c + d)) 8 := by
    intro c hc
    have e1 : (8 * (k % 8) + c) / 8 = k % 8 := by omega
    have e2 : (8 * (k % 8) + c) % 8 = c := by omega
    rw [e1, e2, psum_mul]
    refine psum_ext fun d hd => ?_
    rw [← Int.mul_assoc, Int.mul_comm (wt c (k / 8))]
  rw [psum_ext this, psum_rows (fun c d => wt d (k % 8) * wt c (k / 8) * X (8 * c + d)) 8 (by decide) 8]
  refine psum_ext fun j hj => ?_
  have : 8 * (j / 8) + j % 8 = j := by omega
  simp only [this]
def dctB (X : Nat → Int) (k : Nat) : Int := clip (rnd (passB (passB fun j => clip (X j) (-2048) 2047) k)) (-256) 255
theorem whole_clip (N : Nat) {a lo hi : Int} (h : lo ≤ hi) : whole_Clip N a lo hi = some (clip a lo hi) := by
  unfold whole_Clip clip
  have h1 : decide (hi < lo) = false := decide_eq_false (by omega)
  rw [h1]
  by_cases h2 : a < lo
  · simp [h2]
  · by_cases h3 : hi < a <;> simp [h2, h3]
theorem ref01_clip (N : Nat) {a lo hi : Int} (h : lo ≤ hi) : ref01_Clip N a lo hi = some (clip a lo hi) := by
  unfold ref01_Clip clip
  have h1 : decide (hi < lo) = false := decide_eq_false (by omega)
  rw [h1]
  by_cases h2 : a < lo
  · simp [h2]
  · by_cases h3 : hi < a <;> simp [h2, h3]
theorem scale_eq (N : Nat) (a q : Int) : scale_Value N a q = some (sv a q) := by
  have c1 := clip_ge (a := a) (lo := -127) (hi := 127) (by decide)
  have c2 := clip_le (a := a) (lo := -127) (hi := 127) (by decide)
  have p1 := clip_ge (a := q) (lo := 1) (hi := 31) (by decide)
  have p2 := clip_le (a := q) (lo := 1) (hi := 31) (by decide)
  unfold scale_Value sv
  rw [whole_clip N (show (-127 : Int) ≤ 127 by decide), whole_clip N (show (1 : Int) ≤ 31 by decide)]
  simp only [Option.isSome_some, if_true, Option.getD_some]
  generalize clip a (-127) 127 = c at *
  generalize clip q 1 31 = p at *
  by_cases hc : c = 0
  · simp [hc]
  obtain ⟨b1, b2, b3, b4⟩ := amt_bnd (c := max c (-c)) (p := p) (by omega) (by omega) p1 p2
  have i1 : inK .i64 (-c) := in64 (by omega) (by omega)
  have i2 : inK .i64 (2 * (max c (-c))) := in64 (by omega) (by omega)
  have i3 : inK .i64 (2 * (max c (-c)) + 1) := in64 (by omega) (by omega)
  have i4 : inK .i64 (p * (2 * (max c (-c)) + 1)) := in64 (by omega) (by omega)
  have i5 : inK .i64 (p * (2 * (max c (-c)) + 1) - 1) := in64 (by omega) (by omega)
  have i6 : (bif decide (p % 2 = 0) then p * (2 * max c (-c) + 1) - 1 else p * (2 * max c (-c) + 1)) = amt (max c (-c)) p := by
    unfold amt
    by_cases h : p % 2 = 0 <;> simp [h]
  have i7 : inK .i64 (-amt (max c (-c)) p) := in64 (by omega) (by omega)
  have p0 : 0 ≤ p := by omega
  simp only [i6]
  by_cases hn : c < 0
  · have e : max c (-c) = -c := by omega
    rw [e] at b3 b4 i2 i3 i4 i5 i7 ⊢
    simp [hc, hn, i1, i2, i3, i4, i5, i7, p0, whole_clip]
  · have e : max c (-c) = c := by omega
    rw [e] at b3 b4 i2 i3 i4 i5 i7 ⊢
    simp [hc, hn, i1, i2, i3, i4, i5, i7, p0, whole_clip]
theorem ref12_eq (N : Nat) (a q : Int) : ref12_Value N a q = some (sv a q) := by
  have c1 := clip_ge (a := a) (lo := -127) (hi := 127) (by decide)
  have c2 := clip_le (a := a) (lo := -127) (hi := 127) (by decide)
  have p1 := clip_ge (a := q) (lo := 1) (hi := 31) (by decide)
  have p2 := clip_le (a := q) (lo := 1) (hi := 31) (by decide)
  unfold ref12_Value sv
  rw [ref01_clip N (show (-127 : Int) ≤ 127 by decide), ref01_clip N (show (1 : Int) ≤ 31 by decide)]
  simp only [Option.isSome_some, if_true, Option.getD_some]
  generalize clip a (-127) 127 = c at *
  generalize clip q 1 31 = p at *
  have am : ∀ d : Int, 0 < d → d ≤ 127 → ref12_amount N d p = some (amt d p) := by
    intro d d1 d2
    obtain ⟨b1, b2, b3, b4⟩ := amt_bnd (c := d) (p := p) (by omega) (by omega) p1 p2
    have i2 : inK .i64 (2 * d) := in64 (by omega) (by omega)
    have i3 : inK .i64 (2 * d + 1) := in64 (by omega) (by omega)
    have i4 : inK .i64 (p * (2 * d + 1)) := in64 (by omega) (by omega)
    have i5 : inK .i64 (p * (2 * d + 1) - 1) := in64 (by omega) (by omega)
    have d0 : d ≠ 0 := by omega
    have p0 : 0 ≤ p := by omega
    unfold ref12_amount amt
    rcases Int.emod_two_eq p with h | h <;> simp [h, d0, p0, i2, i3, i4, i5]
  by_cases hc : c = 0
  · have : inK .i64 (0 : Int) := in64 (by decide) (by decide)
    simp [hc, ref12_amount, ref01_clip, clip]
  obtain ⟨b1, b2, b3, b4⟩ := amt_bnd (c := max c (-c)) (p := p) (by omega) (by omega) p1 p2
  by_cases hn : c < 0
  · have e : max c (-c) = -c := by omega
    rw [e] at b1 b2 b3 b4
    have i1 : inK .i64 (-c) := in64 (by omega) (by omega)
    have i7 : inK .i64 (-amt (-c) p) := in64 (by omega) (by omega)
    rw [am (-c) (by omega) (by omega)]
    simp [hc, hn, i1, i7, ref01_clip]
  · have e : max c (-c) = c := by omega
    rw [am c (by omega) (by omega)]
    simp [hc, hn, ref01_clip]
def dcv (dc : Int) : Int := 8 * clip dc 1 254
theorem sdc_eq (N : Nat) (dc : Int) : scale_Dc N dc = some (dcv dc) := by
  have c1 := clip_ge (a := dc) (lo := 1) (hi := 254) (by decide)
  have c2 := clip_le (a := dc) (lo := 1) (hi := 254) (by decide)
  have i1 : inK .i64 ((8 : Int) * clip dc 1 254) := in64 (by omega) (by omega)
  simp only [scale_Dc, whole_clip N (show (1 : Int) ≤ 254 by decide), Option.isSome_some, Option.getD_some, i1, and_self, if_true]
  rfl
def svb (b : Bool) (dc : Int) (L : Nat → Int) (q : Int) (k : Nat) : Int := bif b && k == 0 then dcv dc else sv (L k) q
theorem block_eqb {N : Nat} (hN : 64 < N) (L : Nat → Int) (p : Int) (b : Bool) (dc : Int) : scale_Block N (tab 64 L) p b dc = some (tab 64 (svb b dc L p)) := by
  unfold scale_Block
  rw [rep_tab, iter_fill 64 N (fun k => sv (L k) p) _ ?_ ?_ hN]
  · simp only [Option.bind_some, sdc_eq, Option.isSome_some, implies_true, if_true, Option.getD_some]
    cases b
    · rfl
    · simp only [cond_true, tab_set]
      refine congrArg some (tab_ext fun k hk => ?_)
      unfold svb
      by_cases h : k = 0
      · simp [h]
      · have hb : (k == 0) = false := by simpa using h
        simp [h, hb]
  · intro i hi
    have h1 : (i : Int) < 64 := by omega
    have h2 := inS (i := i) (by omega)
    simp [scale_Block_b1, h1, h2, hi, tab_get, scale_eq, -List.getD_eq_getElem?_getD]
  · intro xs
    simp [scale_Block_b1]
theorem block_eq {N : Nat} (hN : 64 < N) (L : Nat → Int) (p q : Int) : scale_Block N (tab 64 L) p false q = some (tab 64 fun k => sv (L k) p) := block_eqb hN L p false q
theorem rdc_eq (N : Nat) (dc : Int) : ref12_Dc N dc = some (dcv dc) := by
  have c1 := clip_ge (a := dc) (lo := 1) (hi := 254) (by decide)
  have c2 := clip_le (a := dc) (lo := 1) (hi := 254) (by decide)
  have i1 : inK .i64 ((8 : Int) * clip dc 1 254) := in64 (by omega) (by omega)
  simp only [ref12_Dc, ref01_clip N (show (1 : Int) ≤ 254 by decide), Option.isSome_some, Option.getD_some, i1, and_self, if_true]
  rfl
theorem rblock_eqb {N : Nat} (hN : 64 < N) (L : Nat → Int) (p : Int) (b : Bool) (dc : Int) : ref12_Block N (tab 64 L) p b dc = some (tab 64 (svb b dc L p)) := by
  unfold ref12_Block
  rw [rep_tab, iter_fill 64 N (svb b dc L p) _ ?_ ?_ hN]
  · simp
  · intro i hi
    have h1 : (i : Int) < 64 := by omega
    have h2 := inS (i := i) (by omega)
    simp only [ref12_Block_b1, h1, decide_true, cond_true, Int.natCast_nonneg, Int.toNat_natCast, hi, tab_get, ref12_eq, Option.isSome_some, and_self, if_true, Option.getD_some, rdc_eq]
    unfold joinK
    by_cases h : i = 0
    · subst h
      have i1 : inK .i64 (1 : Int) := in64 (by decide) (by decide)
      cases b <;> simp [h2, svb, i1]
    · have hb : (i == 0) = false := by simpa using h
      have h0 : ¬ (i : Int) = 0 := by omega
      simp [h0, h, h2, svb, hb]
  · intro xs
    simp [ref12_Block_b1]
theorem fore_eq {N : Nat} (hN : 64 < N) {X : Nat → Int} {B : Int} (hB : B ≤ 1000000000000) (hX : ∀ k, k < 64 → -B ≤ X k ∧ X k ≤ B) {r f : Nat} (hr : r < 8) (hf : f < 8) :
    overspill_dct_square_fore N r f (tab 64 X) = some (foreF X r f) := by
  unfold overspill_dct_square_fore
  rw [iter_sum 8 N (fun c => wt f c * X (8 * r + c)) ?_ ?_ (by omega)]
  · rfl
  · intro i hi
    have h1 : (i : Int) < 8 := by omega
    have h2 := inS (i := i) (by omega)
    have e1 : ((8 : Int) * r + i).toNat = 8 * r + i := by omega
    have h3 : 8 * r + i < 64 := by omega
    have h4 : (8 : Int) * r + i < 64 := by omega
    have h5 : (0 : Int) ≤ (8 : Int) * r + i := by omega
    have h6 : inK .i64 ((8 : Int) * r + i) := in64 (by omega) (by omega)
    have h7 : inK .i64 ((8 : Int) * r) := in64 (by omega) (by omega)
    have h8 : (f : Int) < 8 := by omega
    have h9 : f * 8 + i < 64 := by omega
    obtain ⟨b1, b2⟩ := fore_bnd hX hr hf i (by omega)
    obtain ⟨b3, b4⟩ := fore_bnd hX hr hf (i + 1) (by omega)
    have e2 : weightsL.getD (f * 8 + i) 0 = wt f i := rfl
    obtain ⟨a1, a2⟩ := wt_bnd f hf i (by omega)
    obtain ⟨a3, a4⟩ := hX (8 * r + i) (by omega)
    obtain ⟨b5, b6⟩ := mul_bnd a1 a2 a3 a4
    simp only [psum] at b3 b4
    have h10 : inK .i64 (wt f i * X (8 * r + i)) := in64 (by omega) (by omega)
    have h11 : inK .i64 (psum (fun c => wt f c * X (8 * r + c)) i + wt f i * X (8 * r + i)) := in64 (by omega) (by omega)
    simp [overspill_dct_square_fore_b1, h1, h2, e1, h3, h4, h5, h6, h7, h8, h9, e2, h10, h11, tab_get, -List.getD_eq_getElem?_getD]
  · intro xs
    simp [overspill_dct_square_fore_b1]
theorem pass_eq {N : Nat} (hN : 64 < N) {X : Nat → Int} {B : Int} (hB : B ≤ 1000000000000) (hX : ∀ k, k < 64 → -B ≤ X k ∧ X k ≤ B) : dct_pass_fore N (tab 64 X) = some (tab 64 (passF X)) := by
  unfold dct_pass_fore
  rw [rep_tab, iter_to (o := tab 64 (passF X)) (fun i => ((i : Int), tab 64 (fun k => if k % 8 < i then passF X k else 0))) 8 ?_ ?_ ?_ (by omega)]
  · simp
  · simp
  · intro i hi
    have h1 : (i : Int) < 8 := by omega
    have h2 := inS (i := i) (by omega)
    simp only [dct_pass_fore_b1, h1, decide_true, cond_true]
    rw [iter_to (o := ((8 : Int), false, tab 64 (fun k => if k % 8 < i + 1 then passF X k else 0))) (fun j => ((j : Int), tab 64 (fun k => if k % 8 < i ∨ (k % 8 = i ∧ k / 8 < j) then passF X k else 0))) 8 ?_ ?_ ?_ (by omega)]
    · simp [h2]
    · simp
    · intro j hj
      have g1 : (j : Int) < 8 := by omega
      have g2 := inS (i := j) (by omega)
      have e1 : ((8 : Int) * j + i).toNat = 8 * j + i := by omega
      have h3 : 8 * j + i < 64 := by omega
      have h4 : (8 : Int) * j + i < 64 := by omega
      have h5 : (0 : Int) ≤ (8 : Int) * j + i := by omega
      have h6 : inK .i64 ((8 : Int) * j + i) := in64 (by omega) (by omega)
      have h7 : inK .i64 ((8 : Int) * j) := in64 (by omega) (by omega)
      simp [dct_pass_fore_b2, g1, g2, fore_eq hN hB hX hi hj, e1, h3, h4, h5, h6, h7, tab_set, -List.getD_eq_getElem?_getD]
      refine tab_ext fun k hk => ?_
      by_cases hk : k = 8 * j + i
      · have e3 : k % 8 = i := by omega
        have e4 : k / 8 = j := by omega
        rw [if_pos hk, if_pos (by omega)]
        unfold passF
        rw [e3, e4]
      · rw [if_neg hk]
        have : (k % 8 < i ∨ k % 8 = i ∧ k / 8 < j) ↔ (k % 8 < i ∨ k % 8 = i ∧ k / 8 < j + 1) := by omega
        simp only [this]
    · simp [dct_pass_fore_b2]
      refine tab_ext fun k hk => ?_
      have : (k % 8 < i ∨ k % 8 = i ∧ k / 8 < 8) ↔ (k % 8 < i + 1) := by omega
      simp only [this]
  · simp [dct_pass_fore_b1]
    refine tab_ext fun k hk => ?_
    rw [if_pos (by omega)]

theorem back_eq {N : Nat} (hN : 64 < N) {X : Nat → Int} {B : Int} (hB : B ≤ 1000000000000) (hX : ∀ k, k < 64 → -B ≤ X k ∧ X k ≤ B) {r f : Nat} (hr : r < 8) (hf : f < 8) :
    overspill_dct_square_back N r f (tab 64 X) = some (backF X r f) := by
  unfold overspill_dct_square_back
  rw [iter_sum 8 N (fun c => wt c f * X (8 * r + c)) ?_ ?_ (by omega)]
  · rfl
  · intro i hi
    have h1 : (i : Int) < 8 := by omega
    have h2 := inS (i := i) (by omega)
    have e1 : ((8 : Int) * r + i).toNat = 8 * r + i := by omega
    have h3 : 8 * r + i < 64 := by omega
    have h4 : (8 : Int) * r + i < 64 := by omega
    have h5 : (0 : Int) ≤ (8 : Int) * r + i := by omega
    have h6 : inK .i64 ((8 : Int) * r + i) := in64 (by omega) (by omega)
    have h7 : inK .i64 ((8 : Int) * r) := in64 (by omega) (by omega)
    have h8 : (f : Int) < 8 := by omega
    have h9 : i * 8 + f < 64 := by omega
    obtain ⟨b1, b2⟩ := back_bnd hX hr hf i (by omega)
    obtain ⟨b3, b4⟩ := back_bnd hX hr hf (i + 1) (by omega)
    have e2 : weightsL.getD (i * 8 + f) 0 = wt i f := rfl
    obtain ⟨a1, a2⟩ := wt_bnd i (by omega) f hf
    obtain ⟨a3, a4⟩ := hX (8 * r + i) (by omega)
    obtain ⟨b5, b6⟩ := mul_bnd a1 a2 a3 a4
    simp only [psum] at b3 b4
    have h10 : inK .i64 (wt i f * X (8 * r + i)) := in64 (by omega) (by omega)
    have h11 : inK .i64 (psum (fun c => wt c f * X (8 * r + c)) i + wt i f * X (8 * r + i)) := in64 (by omega) (by omega)
    simp [overspill_dct_square_back_b1, h1, h2, e1, h3, h4, h5, h6, h7, h8, h9, e2, h10, h11, tab_get, -List.getD_eq_getElem?_getD]
  · intro xs
    simp [overspill_dct_square_back_b1]
theorem passb_eq {N : Nat} (hN : 64 < N) {X : Nat → Int} {B : Int} (hB : B ≤ 1000000000000) (hX : ∀ k, k < 64 → -B ≤ X k ∧ X k ≤ B) : dct_pass_back N (tab 64 X) = some (tab 64 (passB X)) := by
  unfold dct_pass_back
  rw [rep_tab, iter_to (o := tab 64 (passB X)) (fun i => ((i : Int), tab 64 (fun k => if k % 8 < i then passB X k else 0))) 8 ?_ ?_ ?_ (by omega)]
  · simp
  · simp
  · intro i hi
    have h1 : (i : Int) < 8 := by omega
    have h2 := inS (i := i) (by omega)
    simp only [dct_pass_back_b1, h1, decide_true, cond_true]
    rw [iter_to (o := ((8 : Int), false, tab 64 (fun k => if k % 8 < i + 1 then passB X k else 0))) (fun j => ((j : Int), tab 64 (fun k => if k % 8 < i ∨ (k % 8 = i ∧ k / 8 < j) then passB X k else 0))) 8 ?_ ?_ ?_ (by omega)]
    · simp [h2]
    · simp
    · intro j hj
      have g1 : (j : Int) < 8 := by omega
      have g2 := inS (i := j) (by omega)
      have e1 : ((8 : Int) * j + i).toNat = 8 * j + i := by omega
      have h3 : 8 * j + i < 64 := by omega
      have h4 : (8 : Int) * j + i < 64 := by omega
      have h5 : (0 : Int) ≤ (8 : Int) * j + i := by omega
      have h6 : inK .i64 ((8 : Int) * j + i) := in64 (by omega) (by omega)
      have h7 : inK .i64 ((8 : Int) * j) := in64 (by omega) (by omega)
      simp [dct_pass_back_b2, g1, g2, back_eq hN hB hX hi hj, e1, h3, h4, h5, h6, h7, tab_set, -List.getD_eq_getElem?_getD]
      refine tab_ext fun k hk => ?_
      by_cases hk : k = 8 * j + i
      · have e3 : k % 8 = i := by omega
        have e4 : k / 8 = j := by omega
        rw [if_pos hk, if_pos (by omega)]
        unfold passB
        rw [e3, e4]
      · rw [if_neg hk]
        have : (k % 8 < i ∨ k % 8 = i ∧ k / 8 < j) ↔ (k % 8 < i ∨ k % 8 = i ∧ k / 8 < j + 1) := by omega
        simp only [this]
    · simp [dct_pass_back_b2]
      refine tab_ext fun k hk => ?_
      have : (k % 8 < i ∨ k % 8 = i ∧ k / 8 < 8) ↔ (k % 8 < i + 1) := by omega
      simp only [this]
  · simp [dct_pass_back_b1]
    refine tab_ext fun k hk => ?_
    rw [if_pos (by omega)]

theorem round_eq (N : Nat) (x : Int) : whole_Round N x 15 = some (rnd x) := by
  have c1 := clip_ge (a := x) (lo := -1099511627776) (hi := 1099511627776) (by decide)
  have c2 := clip_le (a := x) (lo := -1099511627776) (hi := 1099511627776) (by decide)
  have e : clip 15 0 32 = 15 := rfl
  unfold whole_Round rnd
  rw [whole_clip N (show (-1099511627776 : Int) ≤ 1099511627776 by decide), whole_clip N (show (0 : Int) ≤ 32 by decide), e]
  generalize clip x (-1099511627776) 1099511627776 = c at *
  have i1 : inK .i64 (14 : Int) := in64 (by decide) (by decide)
  have i2 : inK .u64 (14 : Int) := inU64 (by decide) (by decide)
  have i3 : inK .u64 (15 : Int) := inU64 (by decide) (by decide)
  have i4 : inK .i64 (16384 : Int) := in64 (by decide) (by decide)
  have i5 : inK .i64 (c + 16384) := in64 (by omega) (by omega)
  simp [i1, i2, i3, i4, i5]
theorem rround_eq {N : Nat} (hN : 64 < N) (x : Int) : ref01_Round N x 15 = some (rnd x) := by
  have c1 := clip_ge (a := x) (lo := -1099511627776) (hi := 1099511627776) (by decide)
  have c2 := clip_le (a := x) (lo := -1099511627776) (hi := 1099511627776) (by decide)
  have e : clip 15 0 32 = 15 := rfl
  unfold ref01_Round rnd
  rw [ref01_clip N (show (-1099511627776 : Int) ≤ 1099511627776 by decide), ref01_clip N (show (0 : Int) ≤ 32 by decide), e]
  generalize clip x (-1099511627776) 1099511627776 = c at *
  have hit : iter (ref01_Round_b1 N (some 15)) N (1, 0) = some 32768 := by
    refine iter_to (fun i => ((2 : Int) ^ i, (i : Int))) 15 rfl ?_ ?_ (by omega)
    · intro i hi
      have h1 : (i : Int) < 15 := by omega
      have h2 := inS (i := i) (by omega)
      have h3 : inK .i64 ((2 : Int) * 2 ^ i) := by
        have : ∀ i, i < 15 → inK .i64 ((2 : Int) * 2 ^ i) := by decide
        exact this i hi
      simp [ref01_Round_b1, h1, h2, h3]
      rw [Int.pow_succ, Int.mul_comm]
    · simp [ref01_Round_b1]
  have t1 : Int.tdiv 32768 2 = 16384 := rfl
  have i4 : inK .i64 (16384 : Int) := in64 (by decide) (by decide)
  have i5 : inK .i64 (c + 16384) := in64 (by omega) (by omega)
  simp only [Option.isSome_some, if_true, Option.getD_some, show decide ((15 : Int) = 0) = false from rfl, cond_false]
  rw [hit]
  simp only [t1, Option.bind_some]
  by_cases hn : c + 16384 < 0
  · obtain ⟨m, hm⟩ : ∃ m : Nat, c + 16384 = -(m : Int) := ⟨(-(c + 16384)).toNat, by omega⟩
    have d1 : Int.tdiv (c + 16384) 32768 = -((m : Int) / 32768) := by
      rw [hm, Int.neg_tdiv, Int.tdiv_eq_ediv_of_nonneg (by omega)]
    rw [d1]
    have i6 : inK .i64 (-((m : Int) / 32768)) := in64 (by omega) (by omega)
    have i7 : inK .i64 (-((m : Int) / 32768) * 32768) := in64 (by omega) (by omega)
    have i8 : inK .i64 (-((m : Int) / 32768) - 1) := in64 (by omega) (by omega)
    by_cases hz : -((m : Int) / 32768) * 32768 = c + 16384
    · simp [i4, i5, i6, i7, i8, hn, hz]
      omega
    · simp [i4, i5, i6, i7, i8, hn, hz]
      omega
  · have d1 : Int.tdiv (c + 16384) 32768 = (c + 16384) / 32768 := Int.tdiv_eq_ediv_of_nonneg (by omega)
    rw [d1]
    have i6 : inK .i64 ((c + 16384) / 32768) := in64 (by omega) (by omega)
    simp [i4, i5, i6, hn]
theorem rounded_eq {N : Nat} (hN : 64 < N) {lo hi : Int} (hl : lo ≤ hi) (X : Nat → Int) : dct_rounded N (tab 64 X) lo hi = some (tab 64 fun k => clip (rnd (X k)) lo hi) := by
  unfold dct_rounded
  rw [rep_tab, iter_fill 64 N (fun k => clip (rnd (X k)) lo hi) _ ?_ ?_ hN]
  · simp
  · intro i hi
    have h1 : (i : Int) < 64 := by omega
    have h2 := inS (i := i) (by omega)
    simp [dct_rounded_b1, h1, h2, hi, tab_get, round_eq, whole_clip N hl, -List.getD_eq_getElem?_getD]
  · intro xs
    simp [dct_rounded_b1]
theorem within_eq {N : Nat} (hN : 64 < N) (X : Nat → Int) : dct_within N (tab 64 X) = some (tab 64 fun k => clip (X k) (-2048) 2047) := by
  unfold dct_within
  rw [rep_tab, iter_fill 64 N (fun k => clip (X k) (-2048) 2047) _ ?_ ?_ hN]
  · simp
  · intro i hi
    have h1 : (i : Int) < 64 := by omega
    have h2 := inS (i := i) (by omega)
    simp [dct_within_b1, h1, h2, hi, tab_get, whole_clip, -List.getD_eq_getElem?_getD]
  · intro xs
    simp [dct_within_b1]
theorem forward_eq {N : Nat} (hN : 64 < N) (X : Nat → Int) : dct_Forward N (tab 64 X) = some (tab 64 (dctF X)) := by
  have b0 : ∀ k, k < 64 → -2048 ≤ clip (X k) (-2048) 2047 ∧ clip (X k) (-2048) 2047 ≤ 2048 := fun k _ =>
    ⟨clip_ge (by decide), Int.le_trans (clip_le (by decide)) (by decide)⟩
  have b1 : ∀ k, k < 64 → -(8 * (89 * 2048)) ≤ passF (fun j => clip (X j) (-2048) 2047) k ∧ passF (fun j => clip (X j) (-2048) 2047) k ≤ 8 * (89 * 2048) := fun k hk =>
    fore_bnd b0 (r := k % 8) (f := k / 8) (by omega) (by omega) 8 (by omega)
  unfold dct_Forward
  simp [within_eq hN, pass_eq hN (B := 2048) (by decide) b0, pass_eq hN (B := 8 * (89 * 2048)) (by decide) b1, rounded_eq hN (show (-2048 : Int) ≤ 2047 by decide)]
  rfl
theorem inverse_eq {N : Nat} (hN : 64 < N) (X : Nat → Int) : dct_Inverse N (tab 64 X) = some (tab 64 (dctB X)) := by
  have b0 : ∀ k, k < 64 → -2048 ≤ clip (X k) (-2048) 2047 ∧ clip (X k) (-2048) 2047 ≤ 2048 := fun k _ =>
    ⟨clip_ge (by decide), Int.le_trans (clip_le (by decide)) (by decide)⟩
  have b1 : ∀ k, k < 64 → -(8 * (89 * 2048)) ≤ passB (fun j => clip (X j) (-2048) 2047) k ∧ passB (fun j => clip (X j) (-2048) 2047) k ≤ 8 * (89 * 2048) := fun k hk =>
    back_bnd b0 (r := k % 8) (f := k / 8) (by omega) (by omega) 8 (by omega)
  unfold dct_Inverse
  simp [within_eq hN, passb_eq hN (B := 2048) (by decide) b0, passb_eq hN (B := 8 * (89 * 2048)) (by decide) b1, rounded_eq hN (show (-256 : Int) ≤ 255 by decide)]
  rfl
theorem weight_eq (N : Nat) {f c : Nat} (hf : f < 8) (hc : c < 8) : ref14_Weight N f c = some (wt f c) := by
  have : ∀ f, f < 8 → ∀ c, c < 8 → ref14_Weight 0 (f : Nat) (c : Nat) = some (wt f c) := by decide +kernel
  exact this f hf c hc
theorem weights_eq {N : Nat} (hN : 64 < N) : ref14_weights N = some (tab 64 fun k => wt (k / 8) (k % 8)) := by
  unfold ref14_weights
  rw [rep_tab, iter_to (o := tab 64 fun k => wt (k / 8) (k % 8)) (fun i => ((i : Int), tab 64 (fun k => if k / 8 < i then wt (k / 8) (k % 8) else 0))) 8 ?_ ?_ ?_ (by omega)]
  · simp
  · simp
  · intro i hi
    have h1 : (i : Int) < 8 := by omega
    have h2 := inS (i := i) (by omega)
    simp only [ref14_weights_b1, h1, decide_true, cond_true]
    rw [iter_to (o := ((8 : Int), (8 : Int), false, tab 64 (fun k => if k / 8 < i + 1 then wt (k / 8) (k % 8) else 0))) (fun j => ((j : Int), tab 64 (fun k => if k / 8 < i ∨ (k / 8 = i ∧ k % 8 < j) then wt (k / 8) (k % 8) else 0))) 8 ?_ ?_ ?_ (by omega)]
    · simp [h2]
    · simp
    · intro j hj
      have g1 : (j : Int) < 8 := by omega
      have g2 := inS (i := j) (by omega)
      have h3 : i * 8 + j < 64 := by omega
      simp [ref14_weights_b2, g1, g2, h1, weight_eq N hi hj, h3, tab_set, -List.getD_eq_getElem?_getD]
      refine tab_ext fun k hk => ?_
      by_cases hk : k = i * 8 + j
      · have e3 : k % 8 = j := by omega
        have e4 : k / 8 = i := by omega
        rw [if_pos hk, if_pos (by omega), e3, e4]
      · rw [if_neg hk]
        have : (k / 8 < i ∨ k / 8 = i ∧ k % 8 < j) ↔ (k / 8 < i ∨ k / 8 = i ∧ k % 8 < j + 1) := by omega
        simp only [this]
    · simp [ref14_weights_b2]
      refine tab_ext fun k hk => ?_
      have : (k / 8 < i ∨ k / 8 = i ∧ k % 8 < 8) ↔ (k / 8 < i + 1) := by omega
      simp only [this]
  · simp [ref14_weights_b1]
    refine tab_ext fun k hk => ?_
    rw [if_pos (by omega)]
theorem rforward_eq {N : Nat} (hN : 64 < N) (X : Nat → Int) : ref14_Forward N (tab 64 X) = some (tab 64 (dctF X)) := by
  unfold ref14_Forward
  rw [weights_eq hN]
  simp only [Option.isSome_some, if_true]
  rw [rep_tab, iter_fill 64 N (dctF X) _ ?_ ?_ hN]
  · simp
  · intro i hi
    have h1 : (i : Int) < 64 := by omega
    have h2 := inS (i := i) (by omega)
    simp only [ref14_Forward_b1, h1, decide_true, cond_true]
    let F : Nat → Int := fun j => wt (i % 8) (j % 8) * wt (i / 8) (j / 8) * clip (X j) (-2048) 2047
    have bF : ∀ j, j < 64 → (-(89 * 89) ≤ wt (i % 8) (j % 8) * wt (i / 8) (j / 8) ∧ wt (i % 8) (j % 8) * wt (i / 8) (j / 8) ≤ 89 * 89) ∧ (-(89 * 89 * 2048) ≤ F j ∧ F j ≤ 89 * 89 * 2048) := by
      intro j hj
      obtain ⟨a1, a2⟩ := wt_bnd (i % 8) (by omega) (j % 8) (by omega)
      obtain ⟨a3, a4⟩ := wt_bnd (i / 8) (by omega) (j / 8) (by omega)
      obtain ⟨b1, b2⟩ := mul_bnd a1 a2 a3 a4
      exact ⟨⟨b1, b2⟩, mul_bnd b1 b2 (clip_ge (by decide)) (Int.le_trans (clip_le (by decide)) (by decide))⟩
    have hit : iter (ref14_Forward_b2 N (tab 64 X) (some (tab 64 fun k => wt (k / 8) (k % 8))) ((i : Int), tab 64 fun k => if k < i then dctF X k else 0)) N (0, 0) = some (psum F 64, (64 : Int), (64 : Int), false) := by
      refine iter_to (fun j => (psum F j, (j : Int))) 64 rfl ?_ ?_ hN
      · intro j hj
        have g1 : (j : Int) < 64 := by omega
        have g2 := inS (i := j) (by omega)
        have k1 : (0 : Int) ≤ (i : Int) % 8 := by omega
        have k2 : (i : Int) % 8 < 8 := by omega
        have k3 : (0 : Int) ≤ (j : Int) % 8 := by omega
        have k4 : (j : Int) % 8 < 8 := by omega
        have k5 : (0 : Int) ≤ (i : Int) / 8 := by omega
        have k6 : (i : Int) / 8 < 8 := by omega
        have k7 : (0 : Int) ≤ (j : Int) / 8 := by omega
        have k8 : (j : Int) / 8 < 8 := by omega
        have k9 : ((i : Int) % 8).toNat * 8 + ((j : Int) % 8).toNat = i % 8 * 8 + j % 8 := by omega
        have k10 : ((i : Int) / 8).toNat * 8 + ((j : Int) / 8).toNat = i / 8 * 8 + j / 8 := by omega
        have k11 : i % 8 * 8 + j % 8 < 64 := by omega
        have k12 : i / 8 * 8 + j / 8 < 64 := by omega
        have k13 : (i % 8 * 8 + j % 8) / 8 = i % 8 := by omega
        have k14 : (i % 8 * 8 + j % 8) % 8 = j % 8 := by omega
        have k15 : (i / 8 * 8 + j / 8) / 8 = i / 8 := by omega
        have k16 : (i / 8 * 8 + j / 8) % 8 = j / 8 := by omega
        obtain ⟨⟨b1, b2⟩, b3, b4⟩ := bF j hj
        obtain ⟨c1, c2⟩ := psum_abs (f := F) (n := j) (b := 89 * 89 * 2048) fun c hc => (bF c (by omega)).2
        have c3 : (j : Int) * (89 * 89 * 2048) ≤ 64 * (89 * 89 * 2048) := Int.mul_le_mul_of_nonneg_right (by omega) (by omega)
        have m1 : inK .i64 (wt (i % 8) (j % 8) * wt (i / 8) (j / 8)) := in64 (by omega) (by omega)
        have m2 : inK .i64 (wt (i % 8) (j % 8) * wt (i / 8) (j / 8) * clip (X j) (-2048) 2047) := in64 (Int.le_trans (by decide) b3) (Int.le_trans b4 (by decide))
        have m3 : inK .i64 (psum F j + wt (i % 8) (j % 8) * wt (i / 8) (j / 8) * clip (X j) (-2048) 2047) := by
          show inK .i64 (psum F j + F j)
          exact in64 (by omega) (by omega)
        have m4 : X j = 0 → wt (i % 8) (j % 8) * wt (i / 8) (j / 8) * clip (X j) (-2048) 2047 = 0 := by
          intro h; rw [h]; exact Int.mul_zero _
        simp only [ref14_Forward_b2, g1, decide_true, cond_true, Int.natCast_nonneg, Int.toNat_natCast, hj, and_self, if_true, tab_get, k1, k2, k3, k4, k5, k6, k7, k8, k9, k10, k11, k12, k13, k14, k15, k16, Option.getD_some, m1, m2, m3, ref01_clip N (show (-2048 : Int) ≤ 2047 by decide), Option.isSome_some, implies_true, g2]
        refine congrArg (fun s => some (Sum.inl s)) (Prod.ext ?_ ?_)
        · show _ = psum F j + F j
          by_cases hz : X j = 0
          · rw [hz]; simp only [ne_eq, not_true, decide_false, cond_false]
            have : F j = 0 := m4 hz
            omega
          · simp only [ne_eq, hz, not_false_iff, decide_true, cond_true]
            rfl
        · exact (Int.natCast_succ j).symm
      · simp [ref14_Forward_b2]
    rw [hit]
    have hd : psum F 64 = passF (passF fun j => clip (X j) (-2048) 2047) i := (two_passes _ hi).symm
    simp [hd, rround_eq hN, ref01_clip, h1, h2, hi, dctF]
  · intro xs
    simp [ref14_Forward_b1]

theorem rinverse_eq {N : Nat} (hN : 64 < N) (X : Nat → Int) : ref14_Inverse N (tab 64 X) = some (tab 64 (dctB X)) := by
  unfold ref14_Inverse
  rw [weights_eq hN]
  simp only [Option.isSome_some, if_true]
  rw [rep_tab, iter_fill 64 N (dctB X) _ ?_ ?_ hN]
  · simp
  · intro i hi
    have h1 : (i : Int) < 64 := by omega
    have h2 := inS (i := i) (by omega)
    simp only [ref14_Inverse_b1, h1, decide_true, cond_true]
    let F : Nat → Int := fun j => wt (j % 8) (i % 8) * wt (j / 8) (i / 8) * clip (X j) (-2048) 2047
    have bF : ∀ j, j < 64 → (-(89 * 89) ≤ wt (j % 8) (i % 8) * wt (j / 8) (i / 8) ∧ wt (j % 8) (i % 8) * wt (j / 8) (i / 8) ≤ 89 * 89) ∧ (-(89 * 89 * 2048) ≤ F j ∧ F j ≤ 89 * 89 * 2048) := by
      intro j hj
      obtain ⟨a1, a2⟩ := wt_bnd (j % 8) (by omega) (i % 8) (by omega)
      obtain ⟨a3, a4⟩ := wt_bnd (j / 8) (by omega) (i / 8) (by omega)
      obtain ⟨b1, b2⟩ := mul_bnd a1 a2 a3 a4
      exact ⟨⟨b1, b2⟩, mul_bnd b1 b2 (clip_ge (by decide)) (Int.le_trans (clip_le (by decide)) (by decide))⟩
    have hit : iter (ref14_Inverse_b2 N (tab 64 X) (some (tab 64 fun k => wt (k / 8) (k % 8))) ((i : Int), tab 64 fun k => if k < i then dctB X k else 0)) N (0, 0) = some (psum F 64, (64 : Int), (64 : Int), false) := by
      refine iter_to (fun j => (psum F j, (j : Int))) 64 rfl ?_ ?_ hN
      · intro j hj
        have g1 : (j : Int) < 64 := by omega
        have g2 := inS (i := j) (by omega)
        have k1 : (0 : Int) ≤ (i : Int) % 8 := by omega
        have k2 : (i : Int) % 8 < 8 := by omega
        have k3 : (0 : Int) ≤ (j : Int) % 8 := by omega
        have k4 : (j : Int) % 8 < 8 := by omega
        have k5 : (0 : Int) ≤ (i : Int) / 8 := by omega
        have k6 : (i : Int) / 8 < 8 := by omega
        have k7 : (0 : Int) ≤ (j : Int) / 8 := by omega
        have k8 : (j : Int) / 8 < 8 := by omega
        have k9 : ((j : Int) % 8).toNat * 8 + ((i : Int) % 8).toNat = j % 8 * 8 + i % 8 := by omega
        have k10 : ((j : Int) / 8).toNat * 8 + ((i : Int) / 8).toNat = j / 8 * 8 + i / 8 := by omega
        have k11 : j % 8 * 8 + i % 8 < 64 := by omega
        have k12 : j / 8 * 8 + i / 8 < 64 := by omega
        have k13 : (j % 8 * 8 + i % 8) / 8 = j % 8 := by omega
        have k14 : (j % 8 * 8 + i % 8) % 8 = i % 8 := by omega
        have k15 : (j / 8 * 8 + i / 8) / 8 = j / 8 := by omega
        have k16 : (j / 8 * 8 + i / 8) % 8 = i / 8 := by omega
        obtain ⟨⟨b1, b2⟩, b3, b4⟩ := bF j hj
        obtain ⟨c1, c2⟩ := psum_abs (f := F) (n := j) (b := 89 * 89 * 2048) fun c hc => (bF c (by omega)).2
        have c3 : (j : Int) * (89 * 89 * 2048) ≤ 64 * (89 * 89 * 2048) := Int.mul_le_mul_of_nonneg_right (by omega) (by omega)
        have m1 : inK .i64 (wt (j % 8) (i % 8) * wt (j / 8) (i / 8)) := in64 (by omega) (by omega)
        have m2 : inK .i64 (wt (j % 8) (i % 8) * wt (j / 8) (i / 8) * clip (X j) (-2048) 2047) := in64 (Int.le_trans (by decide) b3) (Int.le_trans b4 (by decide))
        have m3 : inK .i64 (psum F j + wt (j % 8) (i % 8) * wt (j / 8) (i / 8) * clip (X j) (-2048) 2047) := by
          show inK .i64 (psum F j + F j)
          exact in64 (by omega) (by omega)
        have m4 : X j = 0 → wt (j % 8) (i % 8) * wt (j / 8) (i / 8) * clip (X j) (-2048) 2047 = 0 := by
          intro h; rw [h]; exact Int.mul_zero _
        simp only [ref14_Inverse_b2, g1, decide_true, cond_true, Int.natCast_nonneg, Int.toNat_natCast, hj, and_self, if_true, tab_get, k1, k2, k3, k4, k5, k6, k7, k8, k9, k10, k11, k12, k13, k14, k15, k16, Option.getD_some, m1, m2, m3, ref01_clip N (show (-2048 : Int) ≤ 2047 by decide), Option.isSome_some, implies_true, g2]
        refine congrArg (fun s => some (Sum.inl s)) (Prod.ext ?_ ?_)
        · show _ = psum F j + F j
          by_cases hz : X j = 0
          · rw [hz]; simp only [ne_eq, not_true, decide_false, cond_false]
            have : F j = 0 := m4 hz
            omega
          · simp only [ne_eq, hz, not_false_iff, decide_true, cond_true]
            rfl
        · exact (Int.natCast_succ j).symm
      · simp [ref14_Inverse_b2]
    rw [hit]
    have hd : psum F 64 = passB (passB fun j => clip (X j) (-2048) 2047) i := (two_passesb _ hi).symm
    simp [hd, rround_eq hN, ref01_clip, h1, h2, hi, dctB]
  · intro xs
    simp [ref14_Inverse_b1]

theorem level_eq (N : Nat) {s v p : Int} (p1 : 1 ≤ p) (p2 : p ≤ 31) : coarse_level N s v p = some (if s < 0 then -lev v (2 * p) else lev v (2 * p)) := by
  have l1 := clip_ge (a := max v 0 / (2 * p)) (lo := 0) (hi := 127) (by decide)
  have l2 := clip_le (a := max v 0 / (2 * p)) (lo := 0) (hi := 127) (by decide)
  have i1 : inK .i64 (2 * p) := in64 (by omega) (by omega)
  have i2 : inK .i64 (-clip (max v 0 / (2 * p)) 0 127) := in64 (by omega) (by omega)
  have i3 : 0 ≤ max v 0 := by omega
  have i4 : 0 < 2 * p := by omega
  unfold coarse_level lev
  rw [whole_clip N (show (0 : Int) ≤ 127 by decide)]
  by_cases hs : s < 0 <;> simp only [hs, i1, i2, i3, i4, decide_true, decide_false, cond_true, cond_false, Option.isSome_some, Option.getD_some, and_self, if_true, if_false]
theorem intra_eq (N : Nat) (a q : Int) : coarse_Intra N a q = some (lvl a q true) := by
  have c1 := clip_ge (a := a) (lo := -2048) (hi := 2047) (by decide)
  have c2 := clip_le (a := a) (lo := -2048) (hi := 2047) (by decide)
  have p1 := clip_ge (a := q) (lo := 1) (hi := 31) (by decide)
  have p2 := clip_le (a := q) (lo := 1) (hi := 31) (by decide)
  unfold coarse_Intra lvl
  rw [whole_clip N (show (-2048 : Int) ≤ 2047 by decide), whole_clip N (show (1 : Int) ≤ 31 by decide)]
  simp only [Option.isSome_some, and_self, if_true, Option.getD_some]
  rw [level_eq N p1 p2]
  generalize clip a (-2048) 2047 = c at *
  have i1 : inK .i64 (-c) := in64 (by omega) (by omega)
  simp [i1]
theorem inter_eq (N : Nat) (a q : Int) : coarse_Inter N a q = some (lvl a q false) := by
  have c1 := clip_ge (a := a) (lo := -2048) (hi := 2047) (by decide)
  have c2 := clip_le (a := a) (lo := -2048) (hi := 2047) (by decide)
  have p1 := clip_ge (a := q) (lo := 1) (hi := 31) (by decide)
  have p2 := clip_le (a := q) (lo := 1) (hi := 31) (by decide)
  unfold coarse_Inter lvl
  rw [whole_clip N (show (-2048 : Int) ≤ 2047 by decide), whole_clip N (show (1 : Int) ≤ 31 by decide)]
  simp only [Option.isSome_some, and_self, if_true, Option.getD_some]
  rw [level_eq N p1 p2]
  generalize clip a (-2048) 2047 = c at *
  generalize clip q 1 31 = p at *
  have i1 : inK .i64 (-c) := in64 (by omega) (by omega)
  have i2 : 0 ≤ p := by omega
  have i3 : inK .i64 (max c (-c) - p / 2) := in64 (by omega) (by omega)
  simp [i1, i2, i3]
theorem cblock_eq {N : Nat} (hN : 64 < N) (X : Nat → Int) (q : Int) (b : Bool) : coarse_Block N (tab 64 X) q b = some (tab 64 fun k => bif b && k == 0 then 0 else lvl (X k) q b) := by
  unfold coarse_Block
  cases b
  · simp only [cond_false]
    rw [rep_tab, iter_fill 64 N (fun k => lvl (X k) q false) _ ?_ ?_ hN]
    · simp
    · intro i hi
      have h1 : (i : Int) < 64 := by omega
      have h2 := inS (i := i) (by omega)
      simp [coarse_Block_b2, h1, h2, hi, tab_get, inter_eq, -List.getD_eq_getElem?_getD]
    · intro xs
      simp [coarse_Block_b2]
  · simp only [cond_true]
    rw [rep_tab, iter_fill 64 N (fun k => lvl (X k) q true) _ ?_ ?_ hN]
    · simp only [Option.bind_some, tab_set]
      refine congrArg some (tab_ext fun k hk => ?_)
      by_cases h : k = 0
      · simp [h]
      · have hb : (k == 0) = false := by simpa using h
        simp [h, hb]
    · intro i hi
      have h1 : (i : Int) < 64 := by omega
      have h2 := inS (i := i) (by omega)
      simp [coarse_Block_b1, h1, h2, hi, tab_get, intra_eq, -List.getD_eq_getElem?_getD]
    · intro xs
      simp [coarse_Block_b1]
theorem rampl {N : Nat} (hN : 256 < N) {v d : Int} (hd : 1 ≤ d) (hd' : d ≤ 1000) : ref13_amount N v d = some (lev v d) := by
  have l1 := clip_ge (a := max v 0 / d) (lo := 0) (hi := 127) (by decide)
  have l2 := clip_le (a := max v 0 / d) (lo := 0) (hi := 127) (by decide)
  obtain ⟨m, hm⟩ : ∃ m : Nat, lev v d = m := ⟨(lev v d).toNat, by unfold lev; omega⟩
  have hm' := hm
  unfold lev at hm'
  rw [hm'] at l1 l2
  have key : ∀ i : Nat, i ≤ 127 → ((i : Int) ≤ max v 0 / d ↔ (i : Int) * d ≤ max v 0) := fun i _ => Int.le_ediv_iff_mul_le (by omega)
  have hmd : clip (max v 0 / d) 0 127 = m := hm'
  have h0 : 0 ≤ max v 0 / d := Int.ediv_nonneg (by omega) (by omega)
  unfold ref13_amount
  have hit : iter (ref13_amount_b1 N v d) N 0 = some (m : Int) := ?_
  · rw [hit]; simp [hm]
  refine iter_to (fun i => ((i : Nat) : Int)) m rfl ?_ ?_ (by omega)
  · intro i hi
    have h1 : (i : Int) < 127 := by omega
    have h2 := inS (i := i) (by omega)
    have h3 : (i : Int) + 1 ≤ max v 0 / d := by
      unfold clip at hmd
      split at hmd
      · omega
      split at hmd <;> omega
    have h4 : ((i : Int) + 1) * d ≤ max v 0 := by
      have := (key (i + 1) (by omega)).mp (by omega)
      simpa using this
    have h5 : 1 * 1 ≤ ((i : Int) + 1) * d := Int.mul_le_mul (by omega) hd (by omega) (by omega)
    have h6 : ((i : Int) + 1) * d ≤ 127 * 1000 := Int.mul_le_mul (by omega) hd' (by omega) (by omega)
    have h7 : inK .i64 (((i : Int) + 1) * d) := in64 (by omega) (by omega)
    have h8 : ((i : Int) + 1) * d ≤ v := by omega
    simp [ref13_amount_b1, h1, h2, h7, h8]
  · by_cases h127 : (m : Int) < 127
    · have h2 := inS (i := m) (by omega)
      have h5 : 1 * 1 ≤ ((m : Int) + 1) * d := Int.mul_le_mul (by omega) hd (by omega) (by omega)
      have h6 : ((m : Int) + 1) * d ≤ 127 * 1000 := Int.mul_le_mul (by omega) hd' (by omega) (by omega)
      have h7 : inK .i64 (((m : Int) + 1) * d) := in64 (by omega) (by omega)
      have h3 : ¬ ((m : Int) + 1 ≤ max v 0 / d) := by
        unfold clip at hmd
        split at hmd
        · omega
        split at hmd <;> omega
      have h8 : ¬ ((m : Int) + 1) * d ≤ v := by
        intro h
        refine h3 ?_
        have := (key (m + 1) (by omega)).mpr (by simp only [Int.natCast_succ]; omega)
        simpa using this
      simp [ref13_amount_b1, h127, h2, h7, h8]
    · simp [ref13_amount_b1, h127]
theorem rlevel_eq {N : Nat} (hN : 256 < N) (a q : Int) (b : Bool) : ref13_Level N a q b = some (lvl a q b) := by
  have c1 := clip_ge (a := a) (lo := -2048) (hi := 2047) (by decide)
  have c2 := clip_le (a := a) (lo := -2048) (hi := 2047) (by decide)
  have p1 := clip_ge (a := q) (lo := 1) (hi := 31) (by decide)
  have p2 := clip_le (a := q) (lo := 1) (hi := 31) (by decide)
  unfold ref13_Level lvl
  rw [ref01_clip N (show (-2048 : Int) ≤ 2047 by decide), ref01_clip N (show (1 : Int) ≤ 31 by decide)]
  simp only [Option.isSome_some, and_self, if_true, Option.getD_some]
  generalize clip a (-2048) 2047 = c at *
  generalize clip q 1 31 = p at *
  have i1 : inK .i64 (-c) := in64 (by omega) (by omega)
  have i2 : 0 ≤ p := by omega
  have i3 : 0 ≤ (bif b then 0 else p / 2) ∧ (bif b then 0 else p / 2) ≤ 31 := by cases b <;> simp <;> omega
  generalize (bif b then 0 else p / 2) = h at *
  have i4 : inK .i64 (-c - h) := in64 (by omega) (by omega)
  have i5 : inK .i64 (c - h) := in64 (by omega) (by omega)
  have i6 : inK .i64 (2 * p) := in64 (by omega) (by omega)
  rw [if_pos i2, rampl hN (v := -c - h) (d := 2 * p) (by omega) (by omega), rampl hN (v := c - h) (d := 2 * p) (by omega) (by omega)]
  by_cases hn : c < 0
  · have e : max c (-c) = -c := by omega
    have := lev_bnd (-c - h) (2 * p)
    have i7 : inK .i64 (-lev (-c - h) (2 * p)) := in64 (by omega) (by omega)
    simp [hn, e, i1, i4, i6, i7]
  · have e : max c (-c) = c := by omega
    simp [hn, e, i1, i5, i6]
theorem rblock_eq {N : Nat} (hN : 256 < N) (X : Nat → Int) (q : Int) (b : Bool) : ref13_Block N (tab 64 X) q b = some (tab 64 fun k => bif b && k == 0 then 0 else lvl (X k) q b) := by
  unfold ref13_Block
  rw [rep_tab, iter_fill 64 N (fun k => bif b && k == 0 then 0 else lvl (X k) q b) _ ?_ ?_ (by omega)]
  · simp
  · intro i hi
    have h1 : (i : Int) < 64 := by omega
    have h2 := inS (i := i) (by omega)
    cases b
    · simp [ref13_Block_b1, joinK, h1, h2, hi, tab_get, rlevel_eq hN, -List.getD_eq_getElem?_getD]
    · by_cases hz : i = 0
      · subst hz
        have h4 : inK .i64 (1 : Int) := h2
        simp [ref13_Block_b1, joinK, h4, tab_set]
      · have h3 : (0 : Int) < i := by omega
        have h4 : 0 < i := by omega
        have hb : (i == 0) = false := by simpa using hz
        simp [ref13_Block_b1, joinK, h1, h2, h3, h4, hb, hi, hz, tab_get, rlevel_eq hN, -List.getD_eq_getElem?_getD]
  · intro xs
    simp [ref13_Block_b1]

theorem plain_eq {N : Nat} (hN : 64 < N) (L R : Nat → Int) (p q : Int) (b : Bool) :
    feed_plain N (tab 64 L) (tab 64 R) p q b = some (tab 64 (fun k => bif b && k == 0 then 0 else levs L k), tab 64 (fun k => bif b then 0 else R k), clip p 1 31, clip q 1 31, b) := by
  unfold feed_plain
  rw [iter_fill 64 N (levs L) L ?_ ?_ hN]
  · simp only [Option.bind_some, whole_clip N (show (1 : Int) ≤ 31 by decide), Option.isSome_some, and_self, if_true, Option.getD_some]
    cases b
    · simp
    · simp only [cond_true, tab_set, rep_tab, Bool.true_and]
      simp only [Option.some.injEq, Prod.mk.injEq, and_true]
      refine tab_ext fun k hk => ?_
      by_cases h : k = 0
      · simp [h]
      · have hb : (k == 0) = false := by simpa using h
        simp [h, hb]
  · intro i hi
    have h1 : (i : Int) < 64 := by omega
    have h2 := inS (i := i) (by omega)
    simp [feed_plain_b1, h1, h2, hi, tab_get, whole_clip, levs, -List.getD_eq_getElem?_getD]
  · intro xs
    simp [feed_plain_b1]

def zk (b : Bool) (f : Nat → Int) (k : Nat) : Int := bif b && k == 0 then 0 else f k
def isZ (R : Nat → Int) : Bool := decide (tab 64 R = tab 64 fun _ => 0)
theorem isZ_iff {R : Nat → Int} : isZ R = true ↔ ∀ k, k < 64 → R k = 0 := decide_eq_true_iff.trans tab_dec
theorem isZ_no {R : Nat → Int} {k : Nat} (hk : k < 64) (h : R k ≠ 0) : isZ R = false := by
  cases hz : isZ R
  · rfl
  · exact absurd (isZ_iff.mp hz k hk) h
def fb (L R : Nat → Int) (p q : Int) (b : Bool) : Nat → Int :=
  if clip p 1 31 = clip q 1 31 ∧ isZ (fun k => bif b then 0 else R k) = true then zk b (levs L)
  else zk b fun k => lvl (sv (zk b (levs L) k) (clip p 1 31) + dctF (fun k => bif b then 0 else R k) k) (clip q 1 31) b
theorem dct_bnd (X : Nat → Int) (k : Nat) : -2048 ≤ dctF X k ∧ dctF X k ≤ 2047 := ⟨clip_ge (by decide), clip_le (by decide)⟩
theorem feed_eq {N : Nat} (hN : 256 < N) (L R : Nat → Int) (p q : Int) (b : Bool) : feed_Block N (tab 64 L) (tab 64 R) p q b = some (tab 64 (fb L R p q b)) := by
  have hN' : 64 < N := by omega
  unfold feed_Block
  rw [plain_eq hN']
  simp only [Option.isSome_some, if_true, Option.getD_some, rep_tab]
  unfold fb
  have e0 : decide ((tab 64 fun k => bif b then 0 else R k) = tab 64 fun _ => 0) = isZ (fun k => bif b then 0 else R k) := rfl
  rw [e0]
  by_cases h : clip p 1 31 = clip q 1 31 ∧ isZ (fun k => bif b then 0 else R k) = true
  · rw [if_pos h, decide_eq_true h.1, h.2]
    rfl
  · rw [if_neg h]
    have hx : (bif decide (clip p 1 31 = clip q 1 31) then isZ (fun k => bif b then 0 else R k) else false) = false := by
      by_cases h1 : clip p 1 31 = clip q 1 31
      · rw [decide_eq_true h1]
        cases h2 : isZ (fun k => bif b then 0 else R k)
        · rfl
        · exact absurd ⟨h1, h2⟩ h
      · rw [decide_eq_false h1]; rfl
    rw [hx]
    simp only [cond_false, block_eq hN', forward_eq hN', Option.isSome_some, if_true, Option.getD_some]
    rw [iter_fill 64 N (fun k => sv (zk b (levs L) k) (clip p 1 31) + dctF (fun k => bif b then 0 else R k) k) _ ?_ ?_ hN']
    · simp only [Option.bind_some, cblock_eq hN', Option.isSome_some, if_true, Option.getD_some]
      rfl
    · intro i hi
      have h1 : (i : Int) < 64 := by omega
      have h2 := inS (i := i) (by omega)
      obtain ⟨s1, s2⟩ := sv_bnd (zk b (levs L) i) (clip p 1 31)
      obtain ⟨d1, d2⟩ := dct_bnd (fun k => bif b then 0 else R k) i
      have h3 : inK .i64 (sv (zk b (levs L) i) (clip p 1 31) + dctF (fun k => bif b then 0 else R k) i) := in64 (by omega) (by omega)
      have h4 : sv (bif b && i == 0 then 0 else levs L i) (clip p 1 31) = sv (zk b (levs L) i) (clip p 1 31) := rfl
      simp [feed_Block_b1, h1, h2, h3, h4, hi, tab_get, -List.getD_eq_getElem?_getD]
    · intro xs
      simp [feed_Block_b1]
theorem nought_eq {N : Nat} (hN : 256 < N) (R : Nat → Int) : ref35_nought N (tab 64 R) = some (isZ R) := by
  have st : ∀ i, i < 64 → R i = 0 → ref35_nought_b1 N (tab 64 R) (i : Int) = some (.inl ((i + 1 : Nat) : Int)) := by
    intro i hi hz
    have h1 : (i : Int) < 64 := by omega
    have h2 := inS (i := i) (by omega)
    simp [ref35_nought_b1, h1, h2, hi, tab_get, hz, -List.getD_eq_getElem?_getD]
  unfold ref35_nought
  rcases first_or (fun k => R k ≠ 0) 64 with h | ⟨k, h1, h2, h3⟩
  · have h' : ∀ k, k < 64 → R k = 0 := fun k hk => Classical.not_not.mp (h k hk)
    have hit : iter (ref35_nought_b1 N (tab 64 R)) N 0 = some (.inr ()) := iter_to (fun i => ((i : Nat) : Int)) 64 rfl (fun i hi => st i hi (h' i hi)) (by simp [ref35_nought_b1]) (by omega)
    rw [hit, isZ_iff.mpr h']; rfl
  · have hit : iter (ref35_nought_b1 N (tab 64 R)) N 0 = some (.inl ()) := by
      refine iter_to (fun i => ((i : Nat) : Int)) k rfl (fun i hi => st i (by omega) (Classical.not_not.mp (h3 i hi))) ?_ (by omega)
      have g1 : (k : Int) < 64 := by omega
      simp [ref35_nought_b1, g1, h1, tab_get, h2, -List.getD_eq_getElem?_getD]
    rw [hit, isZ_no h1 h2]; rfl
theorem dct_zero {X : Nat → Int} (h : ∀ k, k < 64 → X k = 0) {k : Nat} (hk : k < 64) : dctF X k = 0 := by
  unfold dctF
  rw [two_passes _ hk, psum_zero]
  · rfl
  · intro i hi
    show _ * clip (X i) (-2048) 2047 = 0
    rw [h i hi]
    exact Int.mul_zero _
theorem rblk_eq {N : Nat} (hN : 256 < N) (L R : Nat → Int) (p q : Int) (b : Bool) : ref35_Block N (tab 64 L) (tab 64 R) p q b = some (tab 64 (fb L R p q b)) := by
  have hN' : 64 < N := by omega
  unfold ref35_Block
  rw [ref01_clip N (show (1 : Int) ≤ 31 by decide), ref01_clip N (show (1 : Int) ≤ 31 by decide), nought_eq hN, rforward_eq hN']
  simp only [Option.isSome_some, if_true, Option.getD_some, implies_true]
  let Z : Nat → Int := fun k => bif !b && !(isZ R) then dctF R k else 0
  have hZ : (bif (bif !b then (!isZ R) else false) then tab 64 (dctF R) else List.replicate 64 0) = tab 64 Z := by
    rw [rep_tab]
    show _ = tab 64 fun k => bif !b && !(isZ R) then dctF R k else 0
    cases b <;> cases isZ R <;> rfl
  rw [hZ]
  have hZ' : ∀ k, k < 64 → Z k = dctF (fun k => bif b then 0 else R k) k := by
    intro k hk
    show (bif !b && !(isZ R) then dctF R k else 0) = _
    cases b
    · cases h : isZ R
      · rfl
      · exact (dct_zero (isZ_iff.mp h) hk).symm
    · exact (dct_zero (fun _ _ => rfl) hk).symm
  have zb : ∀ k, k < 64 → -2048 ≤ Z k ∧ Z k ≤ 2047 := fun k hk => by rw [hZ' k hk]; exact dct_bnd _ k
  have hit : iter (ref35_Block_b1 N (some (clip p 1 31)) (tab 64 Z)) N (0, tab 64 L, List.replicate 64 0) = some (tab 64 (levs L), tab 64 fun k => sv (levs L k) (clip p 1 31) + Z k) := by
    rw [rep_tab]
    refine iter_to (fun i => ((i : Int), tab 64 (fun k => if k < i then levs L k else L k), tab 64 (fun k => if k < i then sv (levs L k) (clip p 1 31) + Z k else 0))) 64 ?_ ?_ ?_ hN'
    · simp
    · intro i hi
      have h1 : (i : Int) < 64 := by omega
      have h2 := inS (i := i) (by omega)
      obtain ⟨s1, s2⟩ := sv_bnd (levs L i) (clip p 1 31)
      obtain ⟨d1, d2⟩ := zb i hi
      have h3 : inK .i64 (sv (levs L i) (clip p 1 31) + Z i) := in64 (by omega) (by omega)
      have h4 : clip (L i) (-127) 127 = levs L i := rfl
      simp [ref35_Block_b1, h1, h2, hi, tab_get, tab_set, ref01_clip, ref12_eq, h3, h4, -List.getD_eq_getElem?_getD]
      constructor <;> refine tab_ext fun k hk => ?_ <;> by_cases e : k = i
      · rw [if_pos e, if_pos (by omega), e]
      · rw [if_neg e]; exact ite_congr (propext ⟨fun h => by omega, fun h => by omega⟩) (fun _ => rfl) (fun _ => rfl)
      · simp [e]
      · simp only [if_neg e]; exact ite_congr (propext ⟨fun h => by omega, fun h => by omega⟩) (fun _ => rfl) (fun _ => rfl)
    · simp only [ref35_Block_b1]
      refine congrArg (fun s => some (Sum.inr s)) (Prod.ext ?_ ?_)
      · exact tab_ext fun k hk => if_pos hk
      · exact tab_ext fun k hk => if_pos hk
  rw [hit]
  have g : ((decide (clip p 1 31 = clip q 1 31) && !b) = true → (True)) := fun _ => trivial
  have hz : (bif decide (clip p 1 31 = clip q 1 31) then bif b then true else isZ R else false) = decide (clip p 1 31 = clip q 1 31 ∧ isZ (fun k => bif b then 0 else R k) = true) := by
    by_cases h1 : clip p 1 31 = clip q 1 31
    · cases b
      · rw [decide_eq_true h1]
        cases h2 : isZ R
        · exact (decide_eq_false fun h => by rw [show (fun k => bif false then 0 else R k) = R from rfl, h2] at h; cases h.2).symm
        · exact (decide_eq_true ⟨h1, h2⟩).symm
      · rw [decide_eq_true h1]
        exact (decide_eq_true ⟨h1, isZ_iff.mpr fun _ _ => rfl⟩).symm
    · rw [decide_eq_false h1, decide_eq_false fun h => h1 h.1]; rfl
  have hc : (decide (clip p 1 31 = clip q 1 31) = true → (b = false → ((decide (clip p 1 31 = clip q 1 31)) && (!b)) = true)) := by
    intro h1 h2
    rw [h1, h2]; rfl
  simp only [Option.bind_some, Option.isSome_some, if_true, Option.getD_some, implies_true, true_and, hz, rblock_eq hN]
  rw [if_pos hc]
  unfold fb
  by_cases h : clip p 1 31 = clip q 1 31 ∧ isZ (fun k => bif b then 0 else R k) = true
  · rw [decide_eq_true h, if_pos h]
    cases b
    · rfl
    · simp only [cond_true, tab_set]
      refine congrArg some (tab_ext fun k hk => ?_)
      unfold zk
      by_cases e : k = 0
      · simp [e]
      · have hb : (k == 0) = false := by simpa using e
        simp [e, hb]
  · rw [decide_eq_false h, if_neg h]
    simp only [cond_false]
    refine congrArg some (tab_ext fun k hk => ?_)
    unfold zk
    rw [hZ' k hk]
    cases hb : (b && k == 0)
    · simp only [hb, cond_false]
    · rfl
theorem lives_eq {N : Nat} (hN : 256 < N) : law35_lives N = some true := by
  have hN' : 64 < N := by omega
  unfold law35_lives
  have hit : iter (law35_lives_b1 N) N (0, List.replicate 64 0) = some (tab 64 fun _ => 10) := by
    rw [rep_tab]
    refine iter_fill 64 N _ _ ?_ ?_ hN'
    · intro i hi
      have h1 : (i : Int) < 64 := by omega
      have h2 := inS (i := i) (by omega)
      simp [law35_lives_b1, h1, h2, hi, -List.getD_eq_getElem?_getD]
    · intro xs
      simp [law35_lives_b1]
  rw [hit]
  simp only [Option.bind_some, rep_tab, tab_set, feed_eq hN, Option.isSome_some, Option.getD_some, implies_true, and_self, if_true]
  have h1 : (tab 64 (fb (fun k => if k = 0 then 3 else 0) (fun _ => 0) 5 10 false)) = tab 64 (fun k => if k = 0 then 1 else 0) := by decide +kernel
  have h2 : (tab 64 (fb (fun _ => 0) (fun _ => 10) 1 5 false)) = tab 64 (fun k => if k = 0 then 7 else 0) := by decide +kernel
  rw [h1, h2]
  simp

end Go.Proofs.YtkfaebbbjahcpaaDoor
