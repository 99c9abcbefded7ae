/- What the printed models answer: plain laws. -/
import Derived.Test.YtjknjjdijoboiaaLB
set_option linter.unusedVariables false
set_option linter.unusedSimpArgs false
namespace Go.Proofs.Ytjknjjdijoboiaa
open Go.X

theorem whole_clip (N : Nat) {a lo hi : Int} (h : lo ≤ hi) : whole_Clip N a lo hi = some (clip a lo hi) := by
  unfold whole_Clip clip
  have h1 : decide (hi < lo) = false := decide_eq_false (by omega)
  rw [h1]
  by_cases h2 : a < lo
  · simp [h2]
  · by_cases h3 : hi < a <;> simp [h2, h3]
theorem ref01_clip (N : Nat) {a lo hi : Int} (h : lo ≤ hi) : ref01_Clip N a lo hi = some (clip a lo hi) := by
  unfold ref01_Clip clip
  have h1 : decide (hi < lo) = false := decide_eq_false (by omega)
  rw [h1]
  by_cases h2 : a < lo
  · simp [h2]
  · by_cases h3 : hi < a <;> simp [h2, h3]
end Go.Proofs.Ytjknjjdijoboiaa
