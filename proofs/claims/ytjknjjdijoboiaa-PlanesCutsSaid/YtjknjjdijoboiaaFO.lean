/- What the printed models answer: plain laws. -/
import Derived.Test.YtjknjjdijoboiaaFP
set_option linter.unusedVariables false
set_option linter.unusedSimpArgs false
namespace Go.Proofs.Ytjknjjdijoboiaa
open Go.X

theorem xb_still (f n : Int) (b : Nat) : xb f n [0, 0] b = 2 * xc f n b := by
  unfold xb xc
  show (if b < 4 then _ + (0 : Int) else _ + chr 0) = _
  rw [show chr 0 = 0 from rfl]
  split <;> omega
theorem yb_still (f n : Int) (b : Nat) : yb f n [0, 0] b = 2 * yc f n b := by
  unfold yb yc
  show (if b < 4 then _ + (0 : Int) else _ + chr 0) = _
  rw [show chr 0 = 0 from rfl]
  split <;> omega
theorem rcut_ok {N : Nat} (hN : 100 < N) {f : Int} {ps : List (List Int)} {n : Int} (hb : ∀ k, k < 3 → byteP (ps.getD k [])) (hr : rightF f ps = true) (hh : hasF f n = true) : ref17_Cut N f ps n = some (cuT f ps n) := by
  obtain ⟨_, hlen⟩ := rightF_len hr
  have hm := may_still hh
  have hit := iter_fill2 (b1 := ref17_Cut_b1 N f ps n) (b2 := ref17_Cut_b2 N f ps n) (fun xs => ((64 : Int), (64 : Int), false, xs)) (fun v => v.2.2.2) (fun _ => rfl) (N := N) (by omega) (fun j => cuF f ps n (j / 64) (j % 64))
    (fun b hb xs => by
      obtain ⟨q1, q2, q3⟩ := in5 hb
      have q4 := inS (i := b) (by omega)
      simp only [ref17_Cut_b1, q2, decide_true, cond_true, q4, if_true])
    (fun b hb6 i hi s1 xs => by
      obtain ⟨q1, q2, q3⟩ := in5 hb6
      have g1 : (i : Int) < 64 := by omega
      have g4 := inS (i := i) (by omega)
      have g5 : b * 64 + i < 384 := by omega
      obtain ⟨e1, e2⟩ := blk_div (b := b) hi
      have hk3 : pk b < 3 := by unfold pk; omega
      obtain ⟨X, Y, hpl, hlu, hch, X0, X1, Y0, Y1⟩ := rplace_ok N hm hb6 hi
      obtain ⟨x0, x1, y0, y1, _, _⟩ := cut_in hh hb6 hi
      have hat := rat_ok N hk3 (hb (pk b) hk3) (hlen (pk b) hk3) x0 x1 y0 y1
      have z0 : ([0, 0] : List Int).getD 0 0 = 0 := rfl
      have z1 : ([0, 0] : List Int).getD 1 0 = 0 := rfl
      have z2 : chr 0 = 0 := rfl
      rw [z0, z1, xb_still, yb_still] at hlu
      rw [z0, z1, z2, xb_still, yb_still] at hch
      have eX : X = xc f n b + ((i % 8 : Nat) : Int) := by
        by_cases hb4 : b < 4
        · have := (hlu hb4).1; omega
        · have := (hch hb4).1; omega
      have eY : Y = yc f n b + ((i / 8 : Nat) : Int) := by
        by_cases hb4 : b < 4
        · have := (hlu hb4).2; omega
        · have := (hch hb4).2; omega
      simp only [ref17_Cut_b2, g1, decide_true, cond_true, hpl, eX, eY, Option.isSome_some, Option.getD_some, if_true, hat, Int.toNat_natCast, q1, q2, g5, g4, Int.natCast_nonneg, and_self, e1, e2]
      rfl)
    (fun b s1 xs => by simp [ref17_Cut_b2]) (fun xs => by simp [ref17_Cut_b1]) (fun _ => 0)
  rw [← rep_tab] at hit
  unfold ref17_Cut
  rw [hit]
  rfl
theorem not_has' {f : Int} {ps : List (List Int)} {n : Int} : (bif (bif (!rightF f ps) then true else decide (n < 0)) then true else decide (fA f * fD f ≤ n)) = !(rightF f ps && hasF f n) := by
  unfold hasF
  cases rightF f ps
  · rfl
  · by_cases h1 : n < 0
    · have : ¬ 0 ≤ n := by omega
      simp [h1, this]
    · have h2 : 0 ≤ n := by omega
      by_cases h3 : fA f * fD f ≤ n
      · have : ¬ n < fA f * fD f := by omega
        simp [h1, h3, this]
      · have : n < fA f * fD f := by omega
        simp [h1, h2, h3, this]
theorem pcuts_law {M : Nat} (hM : 10000 ≤ M) (f : Int) {ps : List (List Int)} (n : Int) (hb : ∀ k, k < 3 → byteP (ps.getD k [])) : law17_PlanesCuts (M + 200) f ps n = some true := by
  unfold law17_PlanesCuts
  obtain ⟨b, hlt⟩ : ∃ b, law17_Light (M + 200) f ps = some b := ⟨_, rfl⟩
  obtain ⟨Z, hZ⟩ : ∃ Z, Z = List.replicate 384 (0 : Int) := ⟨_, rfl⟩
  rw [hlt, lives17 M]
  cases b
  · rfl
  rw [cut_ok (N := M + 200) (by omega) f n hb, rpright_ok (by omega), rmany_eq, ← hZ]
  simp only [Option.isSome_some, Option.getD_some, if_true, Bool.not_true, cond_false, cond_true, implies_true, not_has', and_self]
  cases hrh : (rightF f ps && hasF f n)
  · simp only [Bool.not_false, cond_true, cond_false, decide_true, implies_true, if_true]
  · simp only [Bool.and_eq_true] at hrh
    rw [rcut_ok (N := M + 200) (by omega) hb hrh.1 hrh.2]
    simp only [Bool.not_false, Bool.not_true, cond_true, cond_false, decide_true, implies_true, if_true, Option.isSome_some, Option.getD_some, and_self]
theorem bytes_of2 {ps : List (List Int)} (h : ∀ xs, xs ∈ ps → ∀ x, x ∈ xs → inK .u8 x) (k : Nat) : byteP (ps.getD k []) := by
  refine byteP_of fun x hx => ?_
  rw [List.getD_eq_getElem?_getD] at hx
  cases hi : ps[k]? with
  | none => rw [hi] at hx; cases hx
  | some xs =>
    rw [hi] at hx
    exact h xs (List.mem_of_getElem? hi) x hx
theorem law_planesCuts (N : Nat) (hN : 1099511627776 ≤ N) (y0 : Sh.den (.pair (.int .i64) (.arrS 3 (.int .u8)))) (w0 : Sh.wf (.pair (.int .i64) (.arrS 3 (.int .u8))) y0) (y1 : Sh.den (.int .i64)) (w1 : Sh.wf (.int .i64) y1) : law17_PlanesCuts N (y0.1) (y0.2) y1 = some true := by
  obtain ⟨f, ps⟩ := y0
  obtain ⟨_, _, hps⟩ := w0
  obtain ⟨M, rfl⟩ : ∃ M, N = M + 200 := ⟨N - 200, by omega⟩
  exact pcuts_law (by omega) f y1 fun k _ => bytes_of2 (fun xs hx x hi => (hps xs hx).2 x hi) k
end Go.Proofs.Ytjknjjdijoboiaa
