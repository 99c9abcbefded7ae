/- What the printed models answer: plain laws. -/
import Derived.Test.YtjknjjdijoboiaaFP
set_option linter.unusedVariables false
set_option linter.unusedSimpArgs false
namespace Go.Proofs.Ytjknjjdijoboiaa
open Go.X

def abF (x : Int) : Int := max x (-x)
def wRow (l : List Int) : Int := psum (fun i => abF (l.getD i 0)) l.length
def weightF (zs : List (List Int)) : Int := psum (fun k => wRow (zs.getD k [])) 3
theorem abF_bnd {x : Int} (h : -255 ≤ x ∧ x ≤ 255) : 0 ≤ abF x ∧ abF x ≤ 255 := by unfold abF; omega
theorem psum_nn {f : Nat → Int} {n : Nat} {b : Int} (h : ∀ k, k < n → 0 ≤ f k ∧ f k ≤ b) : 0 ≤ psum f n ∧ psum f n ≤ n * b := by
  induction n with
  | zero => simp [psum]
  | succ n ih =>
    obtain ⟨h1, h2⟩ := ih fun k hk => h k (by omega)
    obtain ⟨h3, h4⟩ := h n (by omega)
    simp only [psum, Int.natCast_succ, Int.add_mul, Int.one_mul]
    omega
theorem sweight_ok {N : Nat} (hN : 40000 < N) (f : Int) {zs : List (List Int)} (hl : ∀ k, k < 3 → (zs.getD k []).length ≤ 30000) : stores_Weight N f zs = some (bif sRight f zs then weightF zs else 0) := by
  unfold stores_Weight
  rw [sright_ok hN f hl]
  cases hr : sRight f zs
  · rfl
  · have hv : ∀ k, k < 3 → ∀ i, 0 ≤ abF ((zs.getD k []).getD i 0) ∧ abF ((zs.getD k []).getD i 0) ≤ 255 := fun k hk i => abF_bnd (sRight_val hr hk i)
    have hrow : ∀ k, k < 3 → 0 ≤ wRow (zs.getD k []) ∧ wRow (zs.getD k []) ≤ 7650000 := fun k hk => by
      have := psum_nn (n := (zs.getD k []).length) (fun i _ => hv k hk i)
      have h2 := hl k hk
      unfold wRow
      omega
    have hin : ∀ k : Nat, k < 3 → ∀ s : Int, 0 ≤ s → s ≤ 100000000 → iter (stores_Weight_b2 N zs (s, (k : Int))) N (s, 0) = some (s + wRow (zs.getD k []), ((zs.getD k []).length : Int), false) := fun k hk s s0 s1 => by
      have hn : ((k : Int)).toNat = k := Int.toNat_natCast k
      have hlk := hl k hk
      have hvk := hv k hk
      have hsv := sRight_val hr hk
      obtain ⟨l, hle⟩ : ∃ l, l = zs.getD k [] := ⟨_, rfl⟩
      rw [← hle] at hlk hvk hsv ⊢
      refine iter_to (fun j => (s + psum (fun i => abF (l.getD i 0)) j, (j : Int))) l.length ?_ ?_ ?_ (by omega)
      · show _ = (s + 0, ((0 : Nat) : Int))
        rw [Int.add_zero]; rfl
      · intro j hj
        have h1 : (j : Int) < (l.length : Int) := by omega
        have g4 := inS (i := j) (by omega)
        have hp := psum_nn (n := j) (fun i _ => hvk i)
        have hj2 := hvk j
        have hj3 := hsv j
        have i1 : inK .i64 (-(l.getD j 0)) := in64 (by omega) (by omega)
        have i2 : inK .i64 (s + psum (fun i => abF (l.getD i 0)) j + max (l.getD j 0) (-(l.getD j 0))) := by
          unfold abF at hj2 hp ⊢
          exact in64 (by omega) (by omega)
        simp only [stores_Weight_b2, hn, ← hle, h1, decide_true, cond_true, Int.natCast_nonneg, Int.toNat_natCast, and_self, if_true, i1, i2, g4]
        rw [Int.natCast_succ, Int.add_assoc]
        rfl
      · show stores_Weight_b2 N zs _ (_, (l.length : Int)) = _
        simp only [stores_Weight_b2, hn, ← hle, Int.lt_irrefl, decide_false, cond_false]
        rfl
    have hit := iter_sum (body := stores_Weight_b1 N zs) 3 N (fun k => wRow (zs.getD k [])) (fun i hi => by
      obtain ⟨g1, g2, g3⟩ := in2 hi
      have g4 := inS (i := i) (by omega)
      have hp := psum_nn (n := i) (f := fun k => wRow (zs.getD k [])) (b := 7650000) (fun k hk => hrow k (by omega))
      have hit := hin i hi (psum (fun k => wRow (zs.getD k [])) i) hp.1 (by omega)
      simp only [stores_Weight_b1, g1, g2, hi, decide_true, cond_true, Int.toNat_natCast, and_self, if_true, hit, Option.bind_some, g4]) (fun x => by simp [stores_Weight_b1]) (by omega)
    simp only [Option.isSome_some, Option.getD_some, if_true, Bool.not_true, cond_false, cond_true, hit, Option.bind_some]
    rfl
theorem psum_eq0 {f : Nat → Int} {n : Nat} (h : ∀ k, k < n → 0 ≤ f k) : psum f n = 0 ↔ ∀ k, k < n → f k = 0 := by
  induction n with
  | zero => simp [psum]
  | succ n ih =>
    have h1 := ih fun k hk => h k (by omega)
    have h2 := h n (by omega)
    have h3 : 0 ≤ psum f n := by
      have : ∀ m, m ≤ n → 0 ≤ psum f m := fun m => by
        induction m with
        | zero => intro _; exact Int.le_refl 0
        | succ m ihm => intro hm; have := ihm (by omega); have := h m (by omega); simp only [psum]; omega
      exact this n (Nat.le_refl n)
    simp only [psum]
    constructor
    · intro hz k hk
      have e1 : psum f n = 0 := by omega
      by_cases hkn : k = n
      · subst hkn; omega
      · exact h1.1 e1 k (by omega)
    · intro hz
      have e1 := h1.2 fun k hk => hz k (by omega)
      have e2 := hz n (by omega)
      omega
theorem byteP_mem {l : List Int} (h : byteP l) : ∀ x ∈ l, 0 ≤ x ∧ x ≤ 255 := fun x hx => by
  obtain ⟨i, hi, rfl⟩ := List.mem_iff_getElem.1 hx
  have := h i
  rw [List.getD_eq_getElem?_getD, List.getElem?_eq_getElem hi] at this
  exact this
theorem eqB_iff {a b : List Int} (ha : byteP a) (hb : byteP b) : eqB a b = decide (a = b) := by
  unfold eqB
  rw [strEq, bl_bytesOf (byteP_mem ha), bl_bytesOf (byteP_mem hb)]
theorem diff_get (ps qs : List (List Int)) {k : Nat} (hk : k < 3) : (diffT ps qs).getD k [] = tab (ps.getD k []).length fun i => (ps.getD k []).getD i 0 - (qs.getD k []).getD i 0 := by
  unfold diffT; rw [tab_get _ _ hk]
theorem add_get (ps qs : List (List Int)) {k : Nat} (hk : k < 3) : (addT ps qs).getD k [] = tab (ps.getD k []).length fun i => clip ((ps.getD k []).getD i 0 + (qs.getD k []).getD i 0) 0 255 := by
  unfold addT; rw [tab_get _ _ hk]
theorem diff_right {f : Int} {ps qs : List (List Int)} (hr : rightF f ps = true) (hp : ∀ k, k < 3 → byteP (ps.getD k [])) (hq : ∀ k, k < 3 → byteP (qs.getD k [])) : sRight f (diffT ps qs) = true := by
  obtain ⟨h1, h2⟩ := rightF_len hr
  unfold sRight
  simp only [Bool.and_eq_true, decide_eq_true_eq, List.all_eq_true, List.mem_range]
  refine ⟨h1, fun k hk => ⟨by rw [diff_get _ _ hk, tab_len]; exact h2 k hk, fun x hx => ?_⟩⟩
  rw [diff_get _ _ hk] at hx
  unfold tab at hx
  obtain ⟨i, hi, rfl⟩ := List.mem_map.1 hx
  have v1 := hp k hk i
  have v2 := hq k hk i
  unfold vB
  simp only [Bool.and_eq_true, decide_eq_true_eq]
  omega
theorem psum_nn' {f : Nat → Int} {n : Nat} (h : ∀ k, 0 ≤ f k) : 0 ≤ psum f n := by
  induction n with
  | zero => exact Int.le_refl 0
  | succ n ih => have := h n; simp only [psum]; omega
theorem weight_zero {ps qs : List (List Int)} (hp : ∀ k, k < 3 → byteP (ps.getD k [])) (hq : ∀ k, k < 3 → byteP (qs.getD k [])) (hl : ∀ k, k < 3 → (ps.getD k []).length = (qs.getD k []).length) (f : Int) :
    decide (weightF (diffT ps qs) = 0) = sameF f ps f qs := by
  have ab0 : ∀ x, 0 ≤ abF x := fun x => by unfold abF; omega
  have hrow : ∀ k, k < 3 → (wRow ((diffT ps qs).getD k []) = 0 ↔ ps.getD k [] = qs.getD k []) := fun k hk => by
    rw [diff_get _ _ hk]
    have hlk := hl k hk
    generalize ps.getD k [] = a at *
    generalize qs.getD k [] = b at *
    unfold wRow
    rw [psum_eq0 (fun i _ => ab0 _), tab_len]
    constructor
    · intro h
      rw [tab_of 0 (xs := a) rfl, tab_of 0 (xs := b) hlk.symm]
      refine tab_ext fun i hi => ?_
      have := h i hi
      rw [tab_get _ _ hi] at this
      unfold abF at this
      omega
    · intro h i hi
      rw [tab_get _ _ hi, h]
      unfold abF
      omega
  have hw : weightF (diffT ps qs) = 0 ↔ ∀ k, k < 3 → ps.getD k [] = qs.getD k [] := by
    unfold weightF
    rw [psum_eq0 (f := fun k => wRow ((diffT ps qs).getD k [])) (fun k _ => psum_nn' fun i => ab0 _)]
    exact ⟨fun h k hk => (hrow k hk).1 (h k hk), fun h k hk => (hrow k hk).2 (h k hk)⟩
  have hs : sameF f ps f qs = true ↔ ∀ k, k < 3 → ps.getD k [] = qs.getD k [] := by
    unfold sameF
    simp only [decide_true, Bool.true_and, List.all_eq_true, List.mem_range]
    exact ⟨fun h k hk => by have := h k hk; rw [eqB_iff (hp k hk) (hq k hk)] at this; exact of_decide_eq_true this, fun h k hk => by rw [eqB_iff (hp k hk) (hq k hk)]; exact decide_eq_true (h k hk)⟩
  cases h : sameF f ps f qs
  · exact decide_eq_false fun hz => by rw [hs.2 (hw.1 hz)] at h; cases h
  · exact decide_eq_true (hw.2 (hs.1 h))
theorem weight_sym {ps qs : List (List Int)} (hl : ∀ k, k < 3 → (ps.getD k []).length = (qs.getD k []).length) : weightF (diffT qs ps) = weightF (diffT ps qs) := by
  unfold weightF
  refine psum_ext fun k hk => ?_
  rw [diff_get _ _ hk, diff_get _ _ hk, ← hl k hk]
  unfold wRow
  rw [tab_len, tab_len]
  refine psum_ext fun i hi => ?_
  rw [tab_get _ _ hi, tab_get _ _ hi]
  unfold abF
  omega
theorem add_diff {f : Int} {ps qs : List (List Int)} (hp : ∀ k, k < 3 → byteP (ps.getD k [])) (hl : ∀ k, k < 3 → (ps.getD k []).length = (qs.getD k []).length) : sameF f (addT qs (diffT ps qs)) f ps = true := by
  unfold sameF
  simp only [decide_true, Bool.true_and, List.all_eq_true, List.mem_range]
  intro k hk
  have e : (addT qs (diffT ps qs)).getD k [] = ps.getD k [] := by
    rw [add_get _ _ hk, diff_get _ _ hk, ← hl k hk]
    have hv := hp k hk
    generalize ps.getD k [] = a at *
    generalize qs.getD k [] = b at *
    refine Eq.trans (tab_ext fun i hi => ?_) (tab_of 0 (xs := a) rfl).symm
    rw [tab_get _ _ hi, show b.getD i 0 + (a.getD i 0 - b.getD i 0) = a.getD i 0 by omega]
    exact clip_id (hv i).1 (hv i).2
  rw [e]
  unfold eqB
  simp
theorem flat_get (f s : Int) {k : Nat} (hk : k < 3) : (flatP f s).getD k [] = tab (areaN f k) fun _ => s := by
  unfold flatP
  rw [tab_get _ _ hk, rep_tab]
theorem flat_byte {f s : Int} (h0 : 0 ≤ s) (h1 : s ≤ 255) : ∀ k, k < 3 → byteP ((flatP f s).getD k []) := fun k hk i => by
  rw [flat_get f s hk]
  by_cases hi : i < areaN f k
  · rw [tab_get _ _ hi]; exact ⟨h0, h1⟩
  · rw [tab_out _ _ (by omega)]; decide
theorem flat_right {f s : Int} (h : fA f ≠ 0) : rightF f (flatP f s) = true := by
  unfold rightF
  simp only [Bool.and_eq_true, decide_eq_true_eq, List.all_eq_true, List.mem_range]
  refine ⟨h, fun k hk => ?_⟩
  rw [flat_get f s hk, tab_len]
  obtain ⟨_, _, _, _, b5, b6⟩ := wh_bnd f k
  unfold areaN
  omega
theorem psum_const (c : Int) (n : Nat) : psum (fun _ => c) n = n * c := by
  induction n with
  | zero => simp [psum]
  | succ n ih => simp only [psum, ih, Int.natCast_succ, Int.add_mul, Int.one_mul]
theorem lives34 (M : Nat) (hM : 50000 ≤ M) : law34_lives (M + 200) = some true := by
  have hA0 : fA 6 ≠ 0 := by decide
  have hA : decide (fA 6 ≠ 0) = true := decide_eq_true hA0
  have e10 : clip 10 0 255 = 10 := rfl
  have e14 : clip 14 0 255 = 14 := rfl
  have a0 : areaN 6 0 = 1024 := by decide
  have a1 : areaN 6 1 = 256 := by decide
  have a2 : areaN 6 2 = 256 := by decide
  have dk : ∀ k, k < 3 → (diffT (flatP 6 10) (flatP 6 14)).getD k [] = tab (areaN 6 k) fun _ => -4 := fun k hk => by
    rw [diff_get _ _ hk, flat_get _ _ hk, flat_get _ _ hk, tab_len]
    exact tab_ext fun i hi => by rw [tab_get _ _ hi, tab_get _ _ hi]; rfl
  have hl : ∀ s : Int, ∀ k, k < 3 → ((flatP 6 s).getD k []).length ≤ 30000 := fun s k hk => by
    rw [flat_get _ _ hk, tab_len]
    rcases (show k = 0 ∨ k = 1 ∨ k = 2 by omega) with rfl | rfl | rfl <;> omega
  have hd : ∀ k, k < 3 → ((diffT (flatP 6 10) (flatP 6 14)).getD k []).length ≤ 30000 := fun k hk => by
    rw [diff_get _ _ hk, tab_len]; exact hl 10 k hk
  have hb10 := flat_byte (f := 6) (s := 10) (by decide) (by decide)
  have hb14 := flat_byte (f := 6) (s := 14) (by decide) (by decide)
  have hs := diff_right (flat_right (s := 10) hA0) hb10 hb14
  have hr : (rightF 6 (flatP 6 10) && (rightF 6 (flatP 6 14) && decide ((6 : Int) = 6))) = true := by rw [flat_right hA0, flat_right hA0]; rfl
  have hw : weightF (diffT (flatP 6 10) (flatP 6 14)) = 6144 := by
    have row : ∀ k, k < 3 → wRow ((diffT (flatP 6 10) (flatP 6 14)).getD k []) = (areaN 6 k : Int) * 4 := fun k hk => by
      rw [dk k hk]
      unfold wRow
      rw [tab_len, ← psum_const]
      exact psum_ext fun i hi => by rw [tab_get _ _ hi]; rfl
    unfold weightF
    simp only [psum]
    rw [row 0 (by omega), row 1 (by omega), row 2 (by omega), a0, a1, a2]
    rfl
  have q0 : ((diffT (flatP 6 10) (flatP 6 14)).getD 0 []).length = 1024 := by rw [dk 0 (by omega), tab_len, a0]
  have q2 : ((diffT (flatP 6 10) (flatP 6 14)).getD 2 []).length = 256 := by rw [dk 2 (by omega), tab_len, a2]
  have q3 : ((diffT (flatP 6 10) (flatP 6 14)).getD 2 []).getD 0 0 = -4 := by rw [dk 2 (by omega), tab_get _ _ (by omega)]
  unfold law34_lives
  simp only [pnew_ok (N := M + 200) (by omega), hA, cond_true, e10, e14, Option.isSome_some, Option.getD_some, if_true]
  rw [sdiff_ok (N := M + 200) (by omega) 6 6 hb10 hb14 (hl 10), hr]
  generalize diffT (flatP 6 10) (flatP 6 14) = D at *
  simp only [cond_true, Option.isSome_some, Option.getD_some, if_true, sweight_ok (N := M + 200) (by omega) 6 hd, sright_ok (N := M + 200) (by omega) 6 hd, hs, hw, q0, q2, q3]
  rfl
theorem sback_law {M : Nat} (hM : 50000 ≤ M) (f g : Int) {ps qs : List (List Int)} (hp : ∀ k, k < 3 → byteP (ps.getD k [])) (hq : ∀ k, k < 3 → byteP (qs.getD k [])) : law34_StoresBack (M + 200) f ps g qs = some true := by
  unfold law34_StoresBack
  obtain ⟨b1, h1, hlp⟩ : ∃ b, law17_Light (M + 200) f ps = some b ∧ (b = true → ∀ k, k < 3 → (ps.getD k []).length ≤ 30000) := ⟨_, rfl, fun h k hk => by
    simp only [Bool.cond_false_right, Bool.and_eq_true, decide_eq_true_eq] at h
    rcases (show k = 0 ∨ k = 1 ∨ k = 2 by omega) with rfl | rfl | rfl <;> omega⟩
  obtain ⟨b2, h2, hlq⟩ : ∃ b, law17_Light (M + 200) g qs = some b ∧ (b = true → ∀ k, k < 3 → (qs.getD k []).length ≤ 30000) := ⟨_, rfl, fun h k hk => by
    simp only [Bool.cond_false_right, Bool.and_eq_true, decide_eq_true_eq] at h
    rcases (show k = 0 ∨ k = 1 ∨ k = 2 by omega) with rfl | rfl | rfl <;> omega⟩
  rw [h1, h2, lives34 M hM, pright_ok (N := M + 200) (by omega), pright_ok (N := M + 200) (by omega)]
  simp only [Option.isSome_some, Option.getD_some, implies_true, and_self, if_true]
  cases b1
  · rfl
  cases b2
  · rfl
  cases hrp : rightF f ps
  · rfl
  cases hrq : rightF g qs
  · rfl
  by_cases hfg : f = g
  · subst hfg
    have hll : ∀ k, k < 3 → (ps.getD k []).length = (qs.getD k []).length := fun k hk => by rw [area_of hrp hk, area_of hrq hk]
    have hlp := hlp rfl
    have hlq := hlq rfl
    have hd : ∀ k, k < 3 → ((diffT ps qs).getD k []).length ≤ 30000 := fun k hk => by rw [diff_get _ _ hk, tab_len]; exact hlp k hk
    have hd2 : ∀ k, k < 3 → ((diffT qs ps).getD k []).length ≤ 30000 := fun k hk => by rw [diff_get _ _ hk, tab_len]; exact hlq k hk
    have s1 := diff_right hrp hp hq
    have s2 := diff_right hrq hq hp
    have c1 := sdiff_ok (N := M + 200) (by omega) f f hp hq hlp
    have c2 := sdiff_ok (N := M + 200) (by omega) f f hq hp hlq
    have c3 := sadd_ok (N := M + 200) (by omega) f f hq hlq hd
    have t : decide (f = f) = true := decide_eq_true rfl
    have t2 : decide (f ≠ f) = false := decide_eq_false (fun h => h rfl)
    rw [hrp, hrq, t] at c1
    rw [hrq, hrp, t] at c2
    rw [hrq, s1, t] at c3
    simp only [Bool.and_self, cond_true] at c1 c2 c3
    have w1 := sweight_ok (N := M + 200) (by omega) f hd
    have w2 := sweight_ok (N := M + 200) (by omega) f hd2
    rw [s1, cond_true] at w1
    rw [s2, cond_true] at w2
    have r1 := sright_ok (N := M + 200) (by omega) f hd
    rw [s1] at r1
    simp only [Bool.not_true, cond_false, t2, c1, c2, c3, w1, w2, r1, psame_ok (N := M + 200) (by omega), Option.isSome_some, Option.getD_some, if_true, implies_true, and_self, add_diff hp hll, weight_zero hp hq hll f, weight_sym hll, ne_eq, not_true, decide_false, beq_self_eq_true, decide_true, cond_true]
  · have t2 : decide (f ≠ g) = true := decide_eq_true hfg
    rw [t2]
    rfl
theorem bytes_of3 {ps : List (List Int)} (h : ∀ xs, xs ∈ ps → ∀ x, x ∈ xs → inK .u8 x) (k : Nat) : byteP (ps.getD k []) := by
  refine byteP_of fun x hx => ?_
  rw [List.getD_eq_getElem?_getD] at hx
  cases hi : ps[k]? with
  | none => rw [hi] at hx; cases hx
  | some xs =>
    rw [hi] at hx
    exact h xs (List.mem_of_getElem? hi) x hx
theorem law_storesBack (N : Nat) (hN : 1099511627776 ≤ N) (y0 : Sh.den (.pair (.int .i64) (.arrS 3 (.int .u8)))) (w0 : Sh.wf (.pair (.int .i64) (.arrS 3 (.int .u8))) y0) (y1 : Sh.den (.pair (.int .i64) (.arrS 3 (.int .u8)))) (w1 : Sh.wf (.pair (.int .i64) (.arrS 3 (.int .u8))) y1) : law34_StoresBack N (y0.1) (y0.2) (y1.1) (y1.2) = some true := by
  obtain ⟨f, ps⟩ := y0
  obtain ⟨_, _, hps⟩ := w0
  obtain ⟨g, qs⟩ := y1
  obtain ⟨_, _, hqs⟩ := w1
  obtain ⟨M, rfl⟩ : ∃ M, N = M + 200 := ⟨N - 200, by omega⟩
  exact sback_law (by omega) f g (fun k _ => bytes_of3 (fun xs hx x hi => (hps xs hx).2 x hi) k) (fun k _ => bytes_of3 (fun xs hx x hi => (hqs xs hx).2 x hi) k)
end Go.Proofs.Ytjknjjdijoboiaa
