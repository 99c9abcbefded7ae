/- Loops of a known number of rounds, walked round by round. -/
import Derived.Test.YtgbeiogbppaogaaX27
import Derived.LoopN
set_option linter.unusedVariables false
namespace Go.X

section
variable {X : Ctx} {ε : Env} {σ : Sig} {Q : Exit → Act → World → Prop}

theorem rRounds (n : Nat) {c : Code} (h : SW X c (Exit.then (Code.rounds X.P c Q n) Q) ε σ) : SW X (.loop c) Q ε σ := fun ε' a w hle hh => wp_loop_rounds (n + 1) (h ε' a w hle hh)
theorem rRound {n : Nat} {c : Code} (h : SW X c (Exit.then (Code.rounds X.P c Q n) Q) ε σ) : SQ X (Exit.then (Code.rounds X.P c Q (n + 1)) Q) .normal ε σ := fun ε' a w hle hh => h ε' a w hle hh
end

end Go.X
