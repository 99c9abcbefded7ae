/- Events and levels, there and back. -/
import Derived.Test.YtbcgkdigfkapcaaB5
set_option linter.unusedVariables false
set_option linter.unusedSimpArgs false
namespace Go.Proofs.Ytbcgkdigfkapcaa
open Go.X

def evP (l : List (Int × Int)) : Nat → Ev := fun i => (decide (i + 1 = l.length), (l.getD i (0, 0)).1, (l.getD i (0, 0)).2)
theorem getD_set {l : List Int} {a : Nat} (v : Int) (j : Nat) (h : a < l.length) : (l.set a v).getD j 0 = if a = j then v else l.getD j 0 := by
  rw [List.getD_eq_getElem?_getD, List.getElem?_set, List.getD_eq_getElem?_getD]
  by_cases e : a = j
  · rw [if_pos e, if_pos e, if_pos h]; rfl
  · rw [if_neg e, if_neg e]
theorem getD_rep (n j : Nat) : (List.replicate n (0 : Int)).getD j 0 = 0 := by
  rw [List.getD_eq_getElem?_getD, List.getElem?_replicate]; split <;> rfl
theorem getD_snoc {l : List (Int × Int)} {e : Int × Int} {k : Nat} (h : k < l.length) : (l ++ [e]).getD k (0, 0) = l.getD k (0, 0) := by
  rw [List.getD_eq_getElem?_getD, List.getD_eq_getElem?_getD, List.getElem?_append_left h]
theorem getD_end (l : List (Int × Int)) (e : Int × Int) : (l ++ [e]).getD l.length (0, 0) = e := by
  rw [List.getD_eq_getElem?_getD, List.getElem?_append_right (Nat.le_refl _), Nat.sub_self]; rfl
theorem fwd (xs : List Int) (f : Int) (h0 : 0 ≤ f) (p : Nat → Ev) : ∀ i : Nat, f ≤ i → i ≤ 64 → (∀ j, j < i → ¬ evBad xs f j) → (∀ k, k < (evA xs f i).length → (p k).2 = (evA xs f i).getD k (0, 0)) →
    lvA p f (evA xs f i).length = i - runA xs f i ∧ (∀ j : Nat, (lvY p f (evA xs f i).length).getD j 0 = if f ≤ j ∧ j < i then xs.getD j 0 else 0) ∧ ∀ k, k < (evA xs f i).length → rightB (p k).2.1 (p k).2.2 = true ∧ lvA p f k + (p k).2.1 < 64 := by
  have base : ∀ i : Nat, f = i → lvA p f (evA xs f i).length = i - runA xs f i ∧ (∀ j : Nat, (lvY p f (evA xs f i).length).getD j 0 = if f ≤ j ∧ j < i then xs.getD j 0 else 0) ∧ ∀ k, k < (evA xs f i).length → rightB (p k).2.1 (p k).2.2 = true ∧ lvA p f k + (p k).2.1 < 64 := fun i e => by
    obtain ⟨h1, h2⟩ := ev_lo xs f i (by omega)
    rw [h1, h2]
    refine ⟨by show f = _; omega, fun j => ?_, fun k hk => absurd hk (Nat.not_lt_zero k)⟩
    rw [if_neg (by omega)]
    exact getD_rep 64 j
  intro i
  induction i with
  | zero => intro hf _ _ _; exact base 0 (by omega)
  | succ i ih =>
    intro hf hi hb hp
    by_cases hfi : f ≤ i
    · have hlen := lvY_len p f (evA xs f i).length
      have hri := run_in xs f i
      rcases ev_round xs f i with ⟨g0, g1, g2⟩ | ⟨g0, gb, g1⟩ | ⟨g0, g3, g1, g2⟩ | ⟨g0, g3, g4, g4', g5, g6⟩
      · omega
      · exact absurd gb (hb i (by omega))
      · rw [toNat_nat] at g3
        rw [g2] at hp
        obtain ⟨a1, a2, a3⟩ := ih hfi (by omega) (fun j hj => hb j (by omega)) hp
        rw [g1, g2]
        refine ⟨by rw [a1]; omega, fun j => ?_, a3⟩
        rw [a2]
        by_cases hj : j = i
        · subst hj
          rw [if_neg (by omega), if_pos (by omega), g3]
        · by_cases hc : f ≤ j ∧ j < i
          · rw [if_pos hc, if_pos (by omega)]
          · rw [if_neg hc, if_neg (by omega)]
      · rw [toNat_nat] at g3 g4 g4' g6
        rw [g6] at hp
        have hl : (evA xs f i ++ [(runA xs f i, xs.getD i 0)]).length = (evA xs f i).length + 1 := by simp
        rw [hl] at hp
        obtain ⟨a1, a2, a3⟩ := ih hfi (by omega) (fun j hj => hb j (by omega)) (fun k hk => by rw [hp k (by omega), getD_snoc hk])
        have hpe : (p (evA xs f i).length).2 = (runA xs f i, xs.getD i 0) := by rw [hp _ (by omega), getD_end]
        rw [g5, g6, hl]
        simp only [lvA, lvY]
        rw [hpe, a1]
        refine ⟨by show (i : Int) - runA xs f i + runA xs f i + 1 = _; omega, fun j => ?_, fun k hk => ?_⟩
        · show (List.set _ ((i : Int) - runA xs f i + runA xs f i).toNat (xs.getD i 0)).getD j 0 = _
          rw [show ((i : Int) - runA xs f i + runA xs f i).toNat = i by omega, getD_set _ _ (by omega), a2]
          by_cases hj : i = j
          · subst hj
            rw [if_pos rfl, if_pos (by omega)]
          · rw [if_neg hj]
            by_cases hc : f ≤ j ∧ j < i
            · rw [if_pos hc, if_pos (by omega)]
            · rw [if_neg hc, if_neg (by omega)]
        · by_cases hk' : k < (evA xs f i).length
          · exact a3 k hk'
          · obtain rfl : k = (evA xs f i).length := by omega
            rw [hpe, a1]
            refine ⟨?_, by show (i : Int) - runA xs f i + runA xs f i < 64; omega⟩
            unfold rightB
            simp only [Bool.and_eq_true, decide_eq_true_eq]
            omega
    · exact base (i + 1) (by omega)
theorem back1 (xs : List Int) (f : Int) (h : evX xs f = 0) : lvX (evP (evN xs f)) (evN xs f).length f = 0 ∧ (∀ j : Nat, j < 64 → f ≤ j → (lvR (evP (evN xs f)) (evN xs f).length f).getD j 0 = xs.getD j 0) ∧ (f = 1 → (lvR (evP (evN xs f)) (evN xs f).length f).getD 0 0 = 0) := by
  rcases ev_cases xs f with ⟨_, hx, _⟩ | ⟨_, _, _, hx, _⟩ | ⟨hf0, hf1, hok, hx, hn⟩
  · omega
  · omega
  · rw [hn]
    obtain ⟨a1, a2, a3⟩ := fwd xs f hf0 (evP (evA xs f 64)) 64 (by omega) (by omega) hok (fun k hk => rfl)
    rcases lv_cases (evP (evA xs f 64)) (evA xs f 64).length f with ⟨hf, _⟩ | ⟨_, _, ⟨k, hk, hb⟩, _⟩ | ⟨_, _, _, hy, hr⟩
    · omega
    · obtain ⟨b1, b2⟩ := a3 k hk
      rcases hb with hb | hb | hb
      · rw [b1] at hb; cases hb
      · exact absurd rfl hb
      · omega
    · rw [hr]
      refine ⟨hy, fun j hj hfj => by rw [a2, if_pos (by omega)], fun e => by rw [a2, if_neg (by omega)]⟩
theorem ev_cong {xs ys : List Int} (f : Int) : ∀ i : Nat, (∀ j, j < i → xs.getD j 0 = ys.getD j 0) → runA xs f i = runA ys f i ∧ evA xs f i = evA ys f i
  | 0, _ => ⟨rfl, rfl⟩
  | i + 1, h => by
    obtain ⟨h1, h2⟩ := ev_cong f i (fun j hj => h j (by omega))
    simp only [runA, evA]
    rw [h1, h2, h i (by omega)]
    exact ⟨rfl, rfl⟩
theorem ev_zeros {xs : List Int} {f : Int} {A : Nat} (hf : f ≤ A) : ∀ m : Nat, (∀ j, A ≤ j → j < A + m → xs.getD j 0 = 0) → runA xs f (A + m) = runA xs f A + m ∧ evA xs f (A + m) = evA xs f A
  | 0, _ => ⟨by simp, rfl⟩
  | m + 1, h => by
    obtain ⟨h1, h2⟩ := ev_zeros hf m (fun j h1 h2 => h j h1 (by omega))
    rw [show A + (m + 1) = (A + m) + 1 by omega]
    simp only [runA, evA]
    have hlt : ¬ ((A + m : Nat) : Int) < f := by omega
    have hz := h (A + m) (by omega) (by omega)
    rw [if_neg hlt, if_neg hlt, if_pos hz, if_pos hz, h1, h2]
    exact ⟨by push_cast; omega, rfl⟩
def pl (p : Nat → Ev) (k : Nat) : List (Int × Int) := (List.range k).map fun i => (p i).2
theorem pl_succ (p : Nat → Ev) (k : Nat) : pl p (k + 1) = pl p k ++ [(p k).2] := by unfold pl; rw [List.range_succ, List.map_append]; rfl
theorem pl_len (p : Nat → Ev) (k : Nat) : (pl p k).length = k := by simp [pl]
theorem pl_get (p : Nat → Ev) {k i : Nat} (h : i < k) : (pl p k).getD i (0, 0) = (p i).2 := by
  rw [List.getD_eq_getElem?_getD, pl, List.getElem?_map, List.getElem?_range h]; rfl
theorem good_at {p : Nat → Ev} {n : Nat} {f : Int} {k : Nat} (h : ¬ lvBad p n f k) : (0 ≤ (p k).2.1 ∧ (p k).2.1 ≤ 63 ∧ (p k).2.2 ≠ 0 ∧ -127 ≤ (p k).2.2 ∧ (p k).2.2 ≤ 127) ∧ (p k).1 = decide (k + 1 = n) ∧ lvA p f k + (p k).2.1 < 64 := by
  have h1 : rightB (p k).2.1 (p k).2.2 = true := by
    cases hb : rightB (p k).2.1 (p k).2.2 with
    | true => rfl
    | false => exact absurd (.inl hb) h
  exact ⟨right_in h1, Classical.byContradiction fun hx => h (.inr (.inl hx)), Int.not_le.1 fun hx => h (.inr (.inr hx))⟩
theorem bwd (p : Nat → Ev) (n : Nat) (f : Int) (h0 : 0 ≤ f) (h1 : f ≤ 1) (hok : ∀ i, i < n → ¬ lvBad p n f i) : ∀ k, k ≤ n →
    (f ≤ lvA p f k ∧ lvA p f k ≤ 64) ∧ runA (lvY p f k) f (lvA p f k).toNat = 0 ∧ evA (lvY p f k) f (lvA p f k).toNat = pl p k ∧ (∀ j, (lvA p f k).toNat ≤ j → (lvY p f k).getD j 0 = 0) ∧ ∀ j, -127 ≤ (lvY p f k).getD j 0 ∧ (lvY p f k).getD j 0 ≤ 127
  | 0, _ => by
    obtain ⟨g1, g2⟩ := ev_lo (lvY p f 0) f f.toNat (by omega)
    refine ⟨⟨Int.le_refl _, by show f ≤ 64; omega⟩, g1, g2, fun j _ => getD_rep 64 j, fun j => ?_⟩
    have := getD_rep 64 j
    show -127 ≤ (List.replicate 64 (0 : Int)).getD j 0 ∧ (List.replicate 64 (0 : Int)).getD j 0 ≤ 127
    omega
  | k + 1, hk => by
    obtain ⟨⟨a0, a0'⟩, a1, a2, a3, a4⟩ := bwd p n f h0 h1 hok k (by omega)
    obtain ⟨⟨r1, r2, r3, r4, r5⟩, _, r6⟩ := good_at (hok k (by omega))
    have hlen := lvY_len p f k
    have hset : ∀ j, (lvY p f (k + 1)).getD j 0 = if (lvA p f k).toNat + (p k).2.1.toNat = j then (p k).2.2 else (lvY p f k).getD j 0 := fun j => by
      show ((lvY p f k).set (lvA p f k + (p k).2.1).toNat (p k).2.2).getD j 0 = _
      rw [show (lvA p f k + (p k).2.1).toNat = (lvA p f k).toNat + (p k).2.1.toNat by omega, getD_set _ _ (by omega)]
    have eA : (lvA p f (k + 1)).toNat = (lvA p f k).toNat + (p k).2.1.toNat + 1 := by
      show (lvA p f k + (p k).2.1 + 1).toNat = _; omega
    obtain ⟨c1, c2⟩ := ev_cong (xs := lvY p f (k + 1)) (ys := lvY p f k) f ((lvA p f k).toNat + (p k).2.1.toNat) (fun j hj => by rw [hset, if_neg (by omega)])
    obtain ⟨z1, z2⟩ := ev_zeros (xs := lvY p f k) (f := f) (A := (lvA p f k).toNat) (by omega) (p k).2.1.toNat (fun j h1 _ => a3 j h1)
    have hv : (lvY p f (k + 1)).getD ((lvA p f k).toNat + (p k).2.1.toNat) 0 = (p k).2.2 := by rw [hset, if_pos rfl]
    refine ⟨⟨by show f ≤ lvA p f k + (p k).2.1 + 1; omega, by show lvA p f k + (p k).2.1 + 1 ≤ 64; omega⟩, ?_, ?_, fun j hj => ?_, fun j => ?_⟩
    · rw [eA]; simp only [runA]
      rw [if_neg (by omega), if_neg (by rw [hv]; exact r3)]
    · rw [eA]; simp only [evA]
      rw [if_neg (by omega), if_neg (by rw [hv]; exact r3), hv, c1, c2, z1, z2, a1, a2, pl_succ]
      congr 2
      refine Prod.ext ?_ rfl
      show (0 : Int) + ((p k).2.1.toNat : Int) = (p k).2.1
      omega
    · rw [hset, if_neg (by omega)]; exact a3 j (by omega)
    · rw [hset]
      split
      · exact ⟨r4, r5⟩
      · exact a4 j
theorem lvR_len (p : Nat → Ev) (n : Nat) (f : Int) : (lvR p n f).length = 64 := by
  unfold lvR; split
  · exact lvY_len p f n
  · simp
theorem back0 {p : Nat → Ev} {n : Nat} {f : Int} (h : ¬ lvX p n f = 0) : lvR p n f = List.replicate 64 0 := by
  rcases lv_cases p n f with ⟨_, _, hr⟩ | ⟨_, _, _, _, hr⟩ | ⟨_, _, _, hy, _⟩
  · exact hr
  · exact hr
  · exact absurd hy h
theorem back2 {p : Nat → Ev} {n : Nat} {f : Int} (h : lvX p n f = 0) : evX (lvR p n f) f = 0 ∧ (evN (lvR p n f) f).length = n ∧ ∀ i, i < n → evP (evN (lvR p n f) f) i = p i := by
  rcases lv_cases p n f with ⟨_, hx, _⟩ | ⟨_, _, _, hx, _⟩ | ⟨hf0, hf1, hok, _, hr⟩
  · omega
  · omega
  · rw [hr]
    obtain ⟨⟨a0, a0'⟩, a1, a2, a3, a4⟩ := bwd p n f hf0 hf1 hok n (Nat.le_refl _)
    rcases ev_cases (lvY p f n) f with ⟨_, _⟩ | ⟨_, _, ⟨i, hi, hb⟩, _, _⟩ | ⟨_, _, _, hx, hn⟩
    · omega
    · have := a4 i; have := hb.2; omega
    · obtain ⟨z1, z2⟩ := ev_zeros (xs := lvY p f n) (f := f) (A := (lvA p f n).toNat) (by omega) (64 - (lvA p f n).toNat) (fun j h1 _ => a3 j h1)
      rw [show (lvA p f n).toNat + (64 - (lvA p f n).toNat) = 64 by omega, a2] at z2
      rw [hn, z2, pl_len]
      refine ⟨hx, rfl, fun i hi => ?_⟩
      unfold evP
      rw [pl_get p hi, pl_len, ← (good_at (hok i hi)).2.1]

end Go.Proofs.Ytbcgkdigfkapcaa
