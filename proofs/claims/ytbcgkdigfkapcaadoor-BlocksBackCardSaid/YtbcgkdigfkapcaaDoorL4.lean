/- Two read-only places handed in; nil slices at a function's end. -/
import Derived.Test.YtbcgkdigfkapcaaDoorL3
set_option linter.unusedVariables false
namespace Go.X

section
variable {P : Program} {gt : GT} {fn : Func} {c : Code} {tt : TT} {kt : KT} {args : List SV} {lk : Nat → Option E} {r : Res}
/-- Two places, only to be read (they may be the same). -/
theorem hand2 {a b : Nat} {e e' e0 e0' : E} (largs : List SV) (ha : args = largs.map (mapV fun i => bif Nat.beq i 0 then a else b)) (h1 : allB (inV fun k => Nat.blt k 2) largs = true) (h2 : Nat.ble largs.length fn.ntmps = true)
    (hl : lk a = some e0) (hl' : lk b = some e0') (hs : Sub e0 (mapE (fun i => bif Nat.beq i 0 then a else b) e)) (hs' : Sub e0' (mapE (fun i => bif Nat.beq i 0 then a else b) e')) (hi : inE (fun k => Nat.blt k 2) e) (hi' : inE (fun k => Nat.blt k 2) e') (ho : e.own = false) (ho' : e'.own = false)
    (h : ∀ w0 M ε0, XOk ⟨P, tt, kt, gt, w0, M, fn.ntmps, ε0.z⟩ → SW ⟨P, tt, kt, gt, w0, M, fn.ntmps, ε0.z⟩ c (Post ⟨P, tt, kt, gt, w0, M, fn.ntmps, ε0.z⟩ fn ε0 2 (fun i => bif Nat.beq i 0 then a else b) [(0, e), (1, e')] r) ε0 ⟨argRegs 0 largs, [(0, e), (1, e')], 2⟩) : Handed P gt fn c tt kt args lk r := by
  have key : ∀ i x, look [(0, e), (1, e')] i = some x → (i = 0 ∧ x = e) ∨ (i = 1 ∧ x = e') := by
    intro i x hx
    rw [look_cons] at hx
    by_cases h : i = 0
    · rw [if_pos h] at hx; injection hx with hx; exact .inl ⟨h, hx.symm⟩
    · rw [if_neg h, look_cons] at hx
      by_cases h' : i = 1
      · rw [if_pos h'] at hx; injection hx with hx; exact .inr ⟨h', hx.symm⟩
      · rw [if_neg h'] at hx; cases hx
  refine ⟨2, _, largs, [(0, e), (1, e')], ha, h1, Nat.le_of_ble_eq_true h2, fun i hi => ?_, fun i x hx => ?_, fun i j x y hx hy hij ho => ?_, h⟩
  · match i, hi with
    | 0, _ => show (lk a).isSome = true; rw [hl]; rfl
    | 1, _ => show (lk b).isSome = true; rw [hl']; rfl
  · rcases key i x hx with ⟨rfl, rfl⟩ | ⟨rfl, rfl⟩
    · exact ⟨by omega, hi, e0, hl, hs⟩
    · exact ⟨by omega, hi', e0', hl', hs'⟩
  · rcases key i x hx with ⟨rfl, rfl⟩ | ⟨rfl, rfl⟩ <;> simp_all
end

section
variable {X : Ctx} {Q : Exit → Act → World → Prop} {ε : Env} {σ : Sig}
theorem lb2 {e0 e1 : E} (h0 : e0.own = false) (h1 : e1.own = false) : ∀ i e, look [(0, e0), (1, e1)] i = some e → e.own = false := by
  intro i e h
  rw [look_cons] at h
  split at h
  · injection h with h; rw [← h]; exact h0
  · rw [look_cons] at h
    split at h
    · injection h with h; rw [← h]; exact h1
    · cases h
theorem rNilRowQ (s ty sz : Nat) (b : Body) {e : Exit} {r : Regs} (hbd : ∀ ε, RelB ε b []) (hl : look σ.regs s = some (.v (.c (.val (.slice none 0 0))))) (hr : upd σ.regs s (.v (.c (.sl σ.nxt 0 0 sz))) = some r)
    (h : SQ X Q e ε ⟨r, (σ.nxt, .mem true ty (some sz) b) :: σ.blks, σ.nxt + 1⟩) : SQ X Q e ε σ := fun ε' a w hle hh => h _ a w (hle.trans (EnvLe.push _ _)) (hh.nilRow hbd hl hr)
end
end Go.X
