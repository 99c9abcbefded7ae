/- What the printed models answer: plain laws. -/
import Derived.Test.YtjknjjdijoboiaaJI
set_option linter.unusedVariables false
set_option linter.unusedSimpArgs false
namespace Go.Proofs.Ytjknjjdijoboiaa
open Go.X

theorem lives18 (M : Nat) : law18_lives (M + 200) = some true := by kernel_rfl
/-! ### frames and stores that are laid anew -/
def areaN (f : Int) (k : Nat) : Nat := (wid f k * hig f k).toNat
def flatP (f s : Int) : List (List Int) := tab 3 fun k => List.replicate (areaN f k) s
theorem rep_ok (N : Nat) {n c : Int} (h0 : 0 ≤ n) (h1 : n ≤ 281474976710656) (c0 : 0 ≤ c) (c1 : c ≤ 255) : rep N 1 n ((List.replicate 1 0).set 0 c) = some (n.toNat, n.toNat, List.replicate n.toNat c) := by
  have e : ((List.replicate 1 (0 : Int)).set 0 c) = [c] := rfl
  rw [e]
  unfold rep
  rw [if_pos ⟨rfl, rfl, h0, h1, by unfold inK; exact ⟨c0, c1⟩⟩]
  rfl
theorem pnew_ok {N : Nat} (hN : 10 < N) (f s : Int) : planes_New N f s = some (bif decide (fA f ≠ 0) then (f, flatP f (clip s 0 255), 0) else (0, List.replicate 3 [], 1)) := by
  unfold planes_New
  simp only [size_eq, Option.isSome_some, if_true, Option.getD_some]
  cases hA : decide (fA f ≠ 0)
  · rfl
  · simp only [Bool.not_true, cond_false, cond_true]
    have hit := iter_fill (body := planes_New_b1 N f s) 3 N (fun k => List.replicate (areaN f k) (clip s 0 255)) (fun _ => []) (fun i hi => by
      obtain ⟨g1, g2, g3⟩ := in2 hi
      have g4 := inS (i := i) (by omega)
      obtain ⟨_, _, _, _, b5, b6⟩ := wh_bnd f i
      have g5 : inK .i64 (wid f i * hig f i) := in64 (by omega) (by omega)
      have c1 := clip_ge (a := s) (lo := 0) (hi := 255) (by decide)
      have c2 := clip_le (a := s) (lo := 0) (hi := 255) (by decide)
      have g6 : inK .u8 (clip s 0 255) := by unfold inK; exact ⟨c1, c2⟩
      simp only [planes_New_b1, g1, g2, hi, decide_true, cond_true, Int.toNat_natCast, and_self, if_true, plane_eq N f hi, Option.isSome_some, Option.getD_some, whole_clip N (show (0 : Int) ≤ 255 by decide), rep_ok N b5 (by omega) c1 c2, g5, g6, g4, List.length_replicate]
      rfl) (fun xs => by simp [planes_New_b1]) (by omega)
    rw [← rep_tab] at hit
    rw [hit]
    rfl
theorem flat_get (f s : Int) {k : Nat} (hk : k < 3) : (flatP f s).getD k [] = tab (areaN f k) fun _ => s := by
  unfold flatP
  rw [tab_get _ _ hk, rep_tab]
theorem flat_byte {f s : Int} (h0 : 0 ≤ s) (h1 : s ≤ 255) : ∀ k, k < 3 → byteP ((flatP f s).getD k []) := fun k hk i => by
  rw [flat_get f s hk]
  by_cases hi : i < areaN f k
  · rw [tab_get _ _ hi]; exact ⟨h0, h1⟩
  · rw [tab_out _ _ (by omega)]; decide
theorem flat_right {f s : Int} (h : fA f ≠ 0) : rightF f (flatP f s) = true := by
  unfold rightF
  simp only [Bool.and_eq_true, decide_eq_true_eq, List.all_eq_true, List.mem_range]
  refine ⟨h, fun k hk => ?_⟩
  rw [flat_get f s hk, tab_len]
  obtain ⟨_, _, _, _, b5, b6⟩ := wh_bnd f k
  unfold areaN
  omega
theorem bytes_of3 {ps : List (List Int)} (h : ∀ xs, xs ∈ ps → ∀ x, x ∈ xs → inK .u8 x) (k : Nat) : byteP (ps.getD k []) := by
  refine byteP_of fun x hx => ?_
  rw [List.getD_eq_getElem?_getD] at hx
  cases hi : ps[k]? with
  | none => rw [hi] at hx; cases hx
  | some xs =>
    rw [hi] at hx
    exact h xs (List.mem_of_getElem? hi) x hx
theorem few_len17 {N : Nat} {f : Int} {zs : List (List Int)} : ∃ b, law17_Light N f zs = some b ∧ (b = true → ∀ k, k < 3 → (zs.getD k []).length ≤ 30000) := ⟨_, rfl, fun h k hk => by
  simp only [Bool.cond_false_right, Bool.and_eq_true, decide_eq_true_eq] at h
  rcases (show k = 0 ∨ k = 1 ∨ k = 2 by omega) with rfl | rfl | rfl <;> omega⟩
def lwT (l : List Int) : Nat → Int
  | 0 => l.getD 0 0
  | j + 1 => min (lwT l j) (l.getD j 0)
def hiT (l : List Int) : Nat → Int
  | 0 => l.getD 0 0
  | j + 1 => max (hiT l j) (l.getD j 0)
theorem lw_le {l : List Int} : ∀ {n i : Nat}, i < n → lwT l n ≤ l.getD i 0 ∧ l.getD i 0 ≤ hiT l n := by
  intro n
  induction n with
  | zero => intro i h; omega
  | succ n ih =>
    intro i h
    simp only [lwT, hiT]
    by_cases hi : i = n
    · subst hi; omega
    · have := ih (show i < n by omega); omega
theorem lw_bnd {l : List Int} (hb : byteP l) : ∀ n, 0 ≤ lwT l n ∧ lwT l n ≤ 255 ∧ 0 ≤ hiT l n ∧ hiT l n ≤ 255
  | 0 => by have := hb 0; exact ⟨this.1, this.2, this.1, this.2⟩
  | n + 1 => by
    have h1 := hb n
    have h2 := lw_bnd hb n
    simp only [lwT, hiT]
    omega
theorem hv_mid {l : List Int} {w x y h : Int} (hlen : (l.length : Int) = w * h) (x0 : 0 ≤ x) (x1 : x / 2 + x % 2 < w) (y0 : 0 ≤ y) (y1 : y / 2 + y % 2 < h) {lo hi : Int} (hb : ∀ i, i < l.length → lo ≤ l.getD i 0 ∧ l.getD i 0 ≤ hi) : lo ≤ hv l w x y ∧ hv l w x y ≤ hi := by
  have at_ : ∀ u v : Int, 0 ≤ u → u < w → 0 ≤ v → v < h → lo ≤ l.getD (v * w + u).toNat 0 ∧ l.getD (v * w + u).toNat 0 ≤ hi := fun u v u0 u1 v0 v1 => by
    have := idx_lt u0 u1 v0 v1
    exact hb _ (by omega)
  have h1 := at_ (x / 2) (y / 2) (by omega) (by omega) (by omega) (by omega)
  have h2 := at_ (x / 2 + x % 2) (y / 2) (by omega) (by omega) (by omega) (by omega)
  have h3 := at_ (x / 2) (y / 2 + y % 2) (by omega) (by omega) (by omega) (by omega)
  have h4 := at_ (x / 2 + x % 2) (y / 2 + y % 2) (by omega) (by omega) (by omega) (by omega)
  unfold hv
  generalize l.getD (y / 2 * w + x / 2).toNat 0 = a at *
  generalize l.getD (y / 2 * w + (x / 2 + x % 2)).toNat 0 = b at *
  generalize l.getD ((y / 2 + y % 2) * w + x / 2).toNat 0 = c at *
  generalize l.getD ((y / 2 + y % 2) * w + (x / 2 + x % 2)).toNat 0 = d at *
  omega
theorem prT_mid {f n : Int} {mv : List Int} {ps : List (List Int)} (hr : rightF f ps = true) (hm : mayF f n mv = true) {b i : Nat} (hb : b < 6) (hi : i < 64) {lo hi' : Int} (h : ∀ j, j < (ps.getD (pk b) []).length → lo ≤ (ps.getD (pk b) []).getD j 0 ∧ (ps.getD (pk b) []).getD j 0 ≤ hi') :
    lo ≤ (prT f ps n mv).getD (b * 64 + i) 0 ∧ (prT f ps n mv).getD (b * 64 + i) 0 ≤ hi' := by
  obtain ⟨e1, e2⟩ := blk_div (b := b) hi
  unfold prT
  rw [tab_get _ _ (by omega), e1, e2]
  unfold prF
  obtain ⟨x0, x1, y0, y1⟩ := in_plane hm hb hi
  exact hv_mid ((rightF_len hr).2 _ (by unfold pk; omega)) x0 x1 y0 y1 h
theorem clip_minmax (s : Int) : clip s 0 255 = min (max s 0) 255 := by
  unfold clip
  split
  · omega
  · split <;> omega
theorem still_same (f : Int) (ps : List (List Int)) (n : Int) : cuT f ps n = prT f ps n [0, 0] := by
  unfold cuT prT
  exact tab_ext fun j hj => (cut_pr f ps n _ _).symm
theorem mstill_law {M : Nat} (hM : 100000 ≤ M) (f : Int) {ps : List (List Int)} (n : Int) (two : List Int) (hp : ∀ k, k < 3 → byteP (ps.getD k [])) : law18_MotionStill (M + 200) f ps n two = some true := by
  unfold law18_MotionStill
  obtain ⟨b1, h1, hlp⟩ := few_len17 (N := M + 200) (f := f) (zs := ps)
  rw [h1, lives18 M, pright_ok (N := M + 200) (by omega)]
  obtain ⟨s, hs⟩ : ∃ s, s = two.getD 2 0 := ⟨_, rfl⟩
  obtain ⟨mv, hmv⟩ : ∃ mv, mv = ((List.replicate 2 (0 : Int)).set 0 (two.getD 0 0)).set 1 (two.getD 1 0) := ⟨_, rfl⟩
  obtain ⟨Z, hZ⟩ : ∃ Z, Z = List.replicate 384 (0 : Int) := ⟨_, rfl⟩
  have e00 : List.replicate 2 (0 : Int) = [0, 0] := rfl
  rw [← hs, ← hmv, ← hZ]
  rw [e00]
  have c4 := cut_ok (N := M + 200) (by omega) f n hp
  have c5 := predict_ok (N := M + 200) (by omega) f n [0, 0] hp
  have c6 := predict_ok (N := M + 200) (by omega) f n mv hp
  simp only [Option.isSome_some, Option.getD_some, implies_true, and_self, if_true]
  cases b1
  · rfl
  cases hr : rightF f ps
  · rfl
  have hlp := hlp rfl
  rw [hr, ← hZ] at c4 c5 c6
  have d0 : decide ((0 : Int) ≠ 0) = false := rfl
  have d1 : decide ((1 : Int) ≠ 1) = false := rfl
  have d2 : decide ((1 : Int) ≠ 0) = true := rfl
  have d3 : decide ((8 : Int) ≠ 0) = true := rfl
  cases hh : hasF f n
  · rw [hh] at c4 c5 c6
    simp only [Bool.and_false, cond_false] at c4 c5 c6
    simp only [c4, c5, c6, Bool.not_true, cond_false, cond_true, Option.isSome_some, Option.getD_some, if_true, decide_true, d1, d2, implies_true]
  · have ms := may_still hh
    rw [hh] at c4 c5 c6
    rw [ms] at c5
    rw [still_same] at c4
    simp only [Bool.and_self, cond_true] at c4 c5 c6
    cases hm : mayF f n mv
    · rw [hm] at c6
      simp only [cond_false] at c6
      simp only [c4, c5, c6, Bool.not_true, cond_false, cond_true, Option.isSome_some, Option.getD_some, if_true, decide_true, d0, d3, implies_true]
    · rw [hm] at c6
      simp only [cond_true] at c6
      have hA := (rightF_len hr).1
      have c1 := clip_ge (a := s) (lo := 0) (hi := 255) (by decide)
      have c2 := clip_le (a := s) (lo := 0) (hi := 255) (by decide)
      have fr := flat_right (s := clip s 0 255) hA
      have fb := flat_byte (f := f) c1 c2
      have c8 := pnew_ok (N := M + 200) (by omega) f s
      rw [decide_eq_true hA, cond_true] at c8
      have c9 := predict_ok (N := M + 200) (by omega) f n mv fb
      rw [fr, hh, hm] at c9
      simp only [Bool.and_self, cond_true] at c9
      obtain ⟨P, hP⟩ : ∃ P, P = prT f ps n mv := ⟨_, rfl⟩
      obtain ⟨Q, hQ⟩ : ∃ Q, Q = prT f (flatP f (clip s 0 255)) n mv := ⟨_, rfl⟩
      rw [← hP] at c6
      rw [← hQ] at c9
      have hit : iter (law18_MotionStill_b1 (M + 200) ps two (some (P, 0)) (some (Q, 0))) (M + 200) 0 = some (.inr ()) := by
        refine iter_to (fun b => (b : Int)) 6 rfl (fun b hb => ?_) ?_ (by omega)
        · have hk3 : pk b < 3 := by unfold pk; omega
          have hk : (max (0 : Int) ((b : Int) - 3)).toNat = pk b := by unfold pk; omega
          have g1 : (b : Int) < 6 := by omega
          have g2 : inK .i64 ((b : Int) - 3) := in64 (by omega) (by omega)
          have g3 : (0 : Int) ≤ max (0 : Int) ((b : Int) - 3) := by omega
          have g4 : max (0 : Int) ((b : Int) - 3) < 3 := by omega
          have g5 := inS (i := b) (by omega)
          have hbl := hp (pk b) hk3
          have hln := hlp (pk b) hk3
          have hlen := (rightF_len hr).2 (pk b) hk3
          have hmid := fun (i : Nat) (hi : i < 64) => prT_mid (mv := mv) hr hm hb hi (lo := lwT (ps.getD (pk b) []) (ps.getD (pk b) []).length) (hi' := hiT (ps.getD (pk b) []) (ps.getD (pk b) []).length) (fun j hj => lw_le hj)
          have hflat := fun (i : Nat) (hi : i < 64) => prT_mid (mv := mv) fr hm hb hi (lo := clip s 0 255) (hi' := clip s 0 255) (fun j hj => by
            rw [flat_get _ _ hk3] at hj ⊢
            rw [tab_len] at hj
            rw [tab_get _ _ hj]
            exact ⟨Int.le_refl _, Int.le_refl _⟩)
          rw [← hP] at hmid
          rw [← hQ] at hflat
          have hpos : (0 : Int) < ((ps.getD (pk b) []).length : Int) := by
            obtain ⟨x0, x1, y0, y1⟩ := in_plane hm hb (i := 0) (by omega)
            rw [hlen]
            exact Int.mul_pos (by omega) (by omega)
          obtain ⟨l, hl⟩ : ∃ l, l = ps.getD (pk b) [] := ⟨_, rfl⟩
          rw [← hl] at hbl hln hmid hpos
          have hbd := lw_bnd hbl l.length
          have l3 : iter (law18_MotionStill_b3 (M + 200) ps (b : Int)) (M + 200) (l.getD 0 0, l.getD 0 0, 0) = some (lwT l l.length, hiT l l.length, (l.length : Int), (l.length : Int), false) := by
            refine iter_to (fun j => (lwT l j, hiT l j, (j : Int))) l.length rfl (fun j hj => ?_) ?_ (by omega)
            · have q1 : (j : Int) < (l.length : Int) := by omega
              have q2 := inS (i := j) (by omega)
              simp only [law18_MotionStill_b3, hk, ← hl, q1, q2, decide_true, cond_true, Int.natCast_nonneg, Int.toNat_natCast, and_self, if_true]
              rw [Int.natCast_succ]
              rfl
            · simp only [law18_MotionStill_b3, hk, ← hl, Int.lt_irrefl, decide_false, cond_false]
          have l2 : iter (law18_MotionStill_b2 (M + 200) two (some (P, 0)) (some (Q, 0)) (b : Int) (lwT l l.length, hiT l l.length, (l.length : Int), (l.length : Int), false)) (M + 200) 0 = some (.inr ((64 : Int), (64 : Int), false)) := by
            refine iter_to (fun j => (j : Int)) 64 rfl (fun j hj => ?_) ?_ (by omega)
            · have q0 : (0 : Int) ≤ (b : Int) := by omega
              have q1 : (j : Int) < 64 := by omega
              have q2 := inS (i := j) (by omega)
              have q3 : b * 64 + j < 384 := by omega
              obtain ⟨m1, m2⟩ := hmid j hj
              obtain ⟨m3, m4⟩ := hflat j hj
              have q4 : decide (Q.getD (b * 64 + j) 0 ≠ min (max (two.getD 2 0) (0 : Int)) (255 : Int)) = false := by
                rw [← hs, ← clip_minmax]
                exact decide_eq_false (fun h => h (by omega))
              have q5 : decide (P.getD (b * 64 + j) 0 < lwT l l.length) = false := decide_eq_false (by omega)
              have q6 : decide (hiT l l.length < P.getD (b * 64 + j) 0) = false := decide_eq_false (by omega)
              have q7 : inK .i64 (lwT l l.length) := in64 (by omega) (by omega)
              have q8 : inK .i64 (hiT l l.length) := in64 (by omega) (by omega)
              simp only [law18_MotionStill_b2, g1, q0, q1, q2, q3, q4, q5, q6, q7, q8, decide_true, cond_true, cond_false, Int.natCast_nonneg, Int.toNat_natCast, implies_true, and_self, if_true, Option.getD_some]
              rw [Int.natCast_succ]
            · show law18_MotionStill_b2 _ _ _ _ _ _ (64 : Int) = _
              simp only [law18_MotionStill_b2, Int.lt_irrefl, decide_false, cond_false]
          simp only [law18_MotionStill_b1, g1, g2, g3, g4, g5, hk, hk3, ← hl, hpos, l3, l2, decide_true, cond_true, and_self, if_true, Option.bind_some, Sum.elim_inr]
          rw [Int.natCast_succ]
        · show law18_MotionStill_b1 _ _ _ _ _ (6 : Int) = _
          simp only [law18_MotionStill_b1, Int.lt_irrefl, decide_false, cond_false]
      simp only [c4, c5, c6, c8, c9, Bool.not_true, cond_false, cond_true, Option.isSome_some, Option.getD_some, if_true, decide_true, d0, implies_true, hit, Option.bind_some, Sum.elim_inr]
theorem law_motionStill (N : Nat) (hN : 1099511627776 ≤ N) (y0 : Sh.den (.pair (.int .i64) (.arrS 3 (.int .u8)))) (w0 : Sh.wf (.pair (.int .i64) (.arrS 3 (.int .u8))) y0) (y1 : Sh.den (.int .i64)) (w1 : Sh.wf (.int .i64) y1) (y2 : Sh.den (.arr 3 .i64)) (w2 : Sh.wf (.arr 3 .i64) y2) : law18_MotionStill N (y0.1) (y0.2) y1 y2 = some true := by
  obtain ⟨f, ps⟩ := y0
  obtain ⟨_, _, hps⟩ := w0
  obtain ⟨M, rfl⟩ : ∃ M, N = M + 200 := ⟨N - 200, by omega⟩
  exact mstill_law (by omega) f y1 y2 (fun k _ => bytes_of3 (fun xs hx x hi => (hps xs hx).2 x hi) k)
end Go.Proofs.Ytjknjjdijoboiaa
