/- What the printed models answer: plain laws. -/
import Derived.Test.YtjknjjdijoboiaaDoorRI
set_option linter.unusedVariables false
set_option linter.unusedSimpArgs false
namespace Go.Proofs.YtjknjjdijoboiaaDoor
open Go.X

theorem lives31 (M : Nat) : law31_lives (M + 200) = some true := by kernel_rfl
theorem rsums_law {M : Nat} (hM : 1000 ≤ M) (p r : List Int) : law31_RebuildSums (M + 200) p r = some true := by
  unfold law31_RebuildSums
  rw [sum_ok (N := M + 200) (by omega), rsum_ok (N := M + 200) (by omega), lives31 M]
  simp only [Option.isSome_some, Option.getD_some, decide_true, cond_true, implies_true, and_self, if_true]
theorem law_rebuildSums (N : Nat) (hN : 1099511627776 ≤ N) (y0 : Sh.den (.arr 384 .i64)) (w0 : Sh.wf (.arr 384 .i64) y0) (y1 : Sh.den (.arr 384 .i64)) (w1 : Sh.wf (.arr 384 .i64) y1) : law31_RebuildSums N y0 y1 = some true := by
  obtain ⟨M, rfl⟩ : ∃ M, N = M + 200 := ⟨N - 200, by omega⟩
  exact rsums_law (by omega) y0 y1
end Go.Proofs.YtjknjjdijoboiaaDoor
