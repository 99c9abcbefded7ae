/- What the printed models answer: plain laws. -/
import Derived.Test.YtjknjjdijoboiaaFI
set_option linter.unusedVariables false
set_option linter.unusedSimpArgs false
namespace Go.Proofs.Ytjknjjdijoboiaa
open Go.X

theorem lives18 (M : Nat) : law18_lives (M + 200) = some true := by kernel_rfl
theorem not_has {f : Int} {ps : List (List Int)} {n : Int} : (bif (bif (!rightF f ps) then true else decide (n < 0)) then true else decide (fA f * fD f ≤ n)) = !(rightF f ps && hasF f n) := by
  unfold hasF
  cases rightF f ps
  · rfl
  · by_cases h1 : n < 0
    · have : ¬ 0 ≤ n := by omega
      simp [h1, this]
    · have h2 : 0 ≤ n := by omega
      by_cases h3 : fA f * fD f ≤ n
      · have : ¬ n < fA f * fD f := by omega
        simp [h1, h3, this]
      · have : n < fA f * fD f := by omega
        simp [h1, h2, h3, this]
theorem mpred_law {M : Nat} (hM : 10000 ≤ M) (f : Int) {ps : List (List Int)} (n : Int) (mv : List Int) (hb : ∀ k, k < 3 → byteP (ps.getD k [])) : law18_MotionPredicts (M + 200) f ps n mv = some true := by
  unfold law18_MotionPredicts
  obtain ⟨b, hlt⟩ : ∃ b, law17_Light (M + 200) f ps = some b := ⟨_, rfl⟩
  obtain ⟨Z, hZ⟩ : ∃ Z, Z = List.replicate 384 (0 : Int) := ⟨_, rfl⟩
  rw [hlt, lives18 M]
  cases b
  · rfl
  rw [predict_ok (N := M + 200) (by omega) f n mv hb, rpright_ok (by omega), rmany_eq, rmay_okF (by omega), ← hZ]
  simp only [Option.isSome_some, Option.getD_some, if_true, Bool.not_true, cond_false, cond_true, implies_true, not_has, and_self]
  cases hrh : (rightF f ps && hasF f n)
  · simp only [Bool.not_false, cond_true, cond_false, decide_true, implies_true, if_true]
  · cases hm : mayF f n mv
    · simp only [Bool.not_false, Bool.not_true, cond_true, cond_false, decide_true, implies_true, if_true]
    · simp only [Bool.and_eq_true] at hrh
      rw [rpredict_ok (N := M + 200) (by omega) hb hrh.1 hm]
      simp only [Bool.not_false, Bool.not_true, cond_true, cond_false, decide_true, implies_true, if_true, Option.isSome_some, Option.getD_some, and_self]
theorem bytes_of' {ps : List (List Int)} (h : ∀ xs, xs ∈ ps → ∀ x, x ∈ xs → inK .u8 x) (k : Nat) : byteP (ps.getD k []) := by
  refine byteP_of fun x hx => ?_
  rw [List.getD_eq_getElem?_getD] at hx
  cases hi : ps[k]? with
  | none => rw [hi] at hx; cases hx
  | some xs =>
    rw [hi] at hx
    exact h xs (List.mem_of_getElem? hi) x hx
theorem law_motionPredicts (N : Nat) (hN : 1099511627776 ≤ N) (y0 : Sh.den (.pair (.int .i64) (.arrS 3 (.int .u8)))) (w0 : Sh.wf (.pair (.int .i64) (.arrS 3 (.int .u8))) y0) (y1 : Sh.den (.int .i64)) (w1 : Sh.wf (.int .i64) y1) (y2 : Sh.den (.arr 2 .i64)) (w2 : Sh.wf (.arr 2 .i64) y2) : law18_MotionPredicts N (y0.1) (y0.2) y1 y2 = some true := by
  obtain ⟨f, ps⟩ := y0
  obtain ⟨_, _, hps⟩ := w0
  obtain ⟨M, rfl⟩ : ∃ M, N = M + 200 := ⟨N - 200, by omega⟩
  exact mpred_law (by omega) f y1 y2 fun k _ => bytes_of' (fun xs hx x hi => (hps xs hx).2 x hi) k
end Go.Proofs.Ytjknjjdijoboiaa
