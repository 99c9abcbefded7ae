/- Rules with one environment throughout. -/
import Derived.Test.YtgbeiogbppaogaaX21
set_option linter.unusedVariables false
namespace Go.X

section
variable {X : Ctx} {ε : Env} {σ : Sig} {Q : Exit → Act → World → Prop}

theorem rReg0 (md : Md) {id : Nat} {ops : Array Oper} {σ' : Sig} {p : Prop} (hX : XOk X) (hk : opersB ops.toList = true) (hd : dstsB X.nt ops.toList = true) (he : execL X.tt X.kt X.gt md ops.toList ops.toList σ True = .done p σ') (hp : p) (hn : SQ X Q .normal ε σ') : SW X (.region id ops false) Q ε σ :=
  rReg md hX hk hd he hp fun ε' hle ε'' a w hle' hh => hn ε'' a w (hle.trans hle') hh

/-- The same where what must hold is shown in steps. -/
theorem rRegP (md : Md) {id : Nat} {ops : Array Oper} {σ' : Sig} {p : Prop} (hX : XOk X) (hk : opersB ops.toList = true) (hd : dstsB X.nt ops.toList = true) (he : execL X.tt X.kt X.gt md ops.toList ops.toList σ True = .done p σ') (hp : p) (hn : p → SQ X Q .normal ε σ') : SW X (.region id ops false) Q ε σ :=
  rReg0 md hX hk hd he hp (hn hp)

theorem rCondD {c : Operand} {x y : Code} {p : Prop} {T : Prop} [hT : Decidable T] (hk : constB c = true) (hc : condB σ.regs c = some (p, decide T)) (hp : p) (ht : T → SW X x Q ε σ) (hf : ¬ T → SW X y Q ε σ) : SW X (.cond c x y) Q ε σ :=
  rCond hk hc hp (fun h => ht (of_decide_eq_true h)) (fun h => hf (of_decide_eq_false h))

/-- A test whose outcome is known. -/
theorem rCondT {c : Operand} {x y : Code} {p : Prop} {b : Bool} (hk : constB c = true) (hc : condB σ.regs c = some (p, b)) (hp : p) (hb : b = true) (ht : SW X x Q ε σ) : SW X (.cond c x y) Q ε σ :=
  rCond hk hc hp (fun _ => ht) (fun h => by rw [hb] at h; cases h)
theorem rCondF {c : Operand} {x y : Code} {p : Prop} {b : Bool} (hk : constB c = true) (hc : condB σ.regs c = some (p, b)) (hp : p) (hb : b = false) (hf : SW X y Q ε σ) : SW X (.cond c x y) Q ε σ :=
  rCond hk hc hp (fun h => by rw [hb] at h; cases h) (fun _ => hf)

theorem rLoop0 {c : Code} {ι : Type} (I : ι → Sig) (m : ι → Nat) (i0 : ι) (h0 : Le σ (I i0))
    (round : ∀ i, SW X c (Exit.then (Again X I m (m i) ε) Q) ε (I i)) : SW X (.loop c) Q ε σ := by
  intro ε0 a w hle hh
  refine wp_loop_ghost (fun n a w => ∃ i ε', m i = n ∧ EnvLe ε ε' ∧ Holds X ε' (I i) a w) (m i0) ⟨i0, ε0, rfl, hle, hh.le h0⟩ ?_
  rintro n a w ⟨i, ε', rfl, hle', hh'⟩
  refine wp_mono (round i ε' a w hle' hh') ?_
  intro e a' w' hq
  cases e with
  | normal =>
    obtain ⟨j, ε'', hlt, hle'', hj⟩ := hq
    exact ⟨m j, hlt, j, ε'', rfl, hle'', hj⟩
  | _ => exact hq

theorem rAgain0 {ι : Type} {I : ι → Sig} {m : ι → Nat} {n : Nat} (j : ι) (hm : m j < n) (hl : Le σ (I j)) : SQ X (Exit.then (Again X I m n ε) Q) .normal ε σ :=
  rAgain j (EnvLe.refl _) hm hl
theorem rWeakQ {e : Exit} {σ' : Sig} (hl : Le σ σ') (h : SQ X Q e ε σ') : SQ X Q e ε σ := fun ε' a w hle hh => h ε' a w hle (hh.le hl)
end

end Go.X
