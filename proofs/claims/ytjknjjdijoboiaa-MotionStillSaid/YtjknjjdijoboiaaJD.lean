/- What the printed models answer: plain laws. -/
import Derived.Test.YtjknjjdijoboiaaJB
set_option linter.unusedVariables false
set_option linter.unusedSimpArgs false
namespace Go.Proofs.Ytjknjjdijoboiaa
open Go.X

theorem whole_clip (N : Nat) {a lo hi : Int} (h : lo ≤ hi) : whole_Clip N a lo hi = some (clip a lo hi) := by
  unfold whole_Clip clip
  have h1 : decide (hi < lo) = false := decide_eq_false (by omega)
  rw [h1]
  by_cases h2 : a < lo
  · simp [h2]
  · by_cases h3 : hi < a <;> simp [h2, h3]
/-- A loop that lays six blocks. -/
theorem iter_lay {body : Int × List Int → Option ((Int × List Int) ⊕ List Int)} {N : Nat} (hN : 6 < N) (g : Nat → Nat → Int) (X0 : Nat → Int)
    (hs : ∀ i : Nat, i < 6 → body ((i : Int), tab 384 fun k => if k / 64 < i then g (k / 64) (k % 64) else X0 k) = some (.inl ((i : Int) + 1, layL (tab 384 fun k => if k / 64 < i then g (k / 64) (k % 64) else X0 k) (64 * i) (tab 64 (g i)) 64)))
    (he : ∀ xs, body ((6 : Int), xs) = some (.inr xs)) : iter body N (0, tab 384 X0) = some (tab 384 fun k => g (k / 64) (k % 64)) := by
  refine iter_to (fun i => ((i : Int), tab 384 fun k => if k / 64 < i then g (k / 64) (k % 64) else X0 k)) 6 ?_ ?_ ?_ hN
  · simp
  · intro i hi
    show body ((i : Int), _) = _
    rw [hs i hi]
    refine congrArg (fun z => some (Sum.inl z)) (Prod.ext (Int.natCast_succ i).symm ?_)
    show layL (tab 384 _) (64 * i) (tab 64 _) 64 = tab 384 (fun k => if k / 64 < i + 1 then g (k / 64) (k % 64) else X0 k)
    rw [lay_tab hi]
    refine tab_ext fun j hj => ?_
    by_cases hji : j / 64 = i
    · rw [if_pos hji, if_pos (by omega), hji]
    · by_cases hlt : j / 64 < i
      · rw [if_neg hji, if_pos hlt, if_pos (by omega)]
      · rw [if_neg hji, if_neg hlt, if_neg (by omega)]
  · show body ((6 : Int), _) = _
    rw [he]
    refine congrArg (fun z => some (Sum.inr z)) (tab_ext fun j hj => ?_)
    rw [if_pos (by omega)]
end Go.Proofs.Ytjknjjdijoboiaa
