/- Loops that lay memory in each round: what came anew is forgotten. -/
import Derived.Test.YtgbeiogbppaogaaX28
set_option linter.unusedVariables false
namespace Go.X

def inRegs (D : Nat → Bool) : Regs → Bool
  | [] => true
  | (_, v) :: l => inV D v && inRegs D l
def inBlks (D : Nat → Bool) : Blks → Prop
  | [] => True
  | (i, e) :: l => (D i = true ∧ inE D e) ∧ inBlks D l

theorem inRegs_look {D : Nat → Bool} : ∀ {r : Regs} {s : Nat} {v : SV}, inRegs D r = true → look r s = some v → inV D v = true
  | [], _, _, _, h => by simp [look] at h
  | (t, y) :: r, s, v, hi, h => by
    simp only [inRegs, Bool.and_eq_true] at hi
    rw [look_cons] at h
    by_cases hs : s = t
    · rw [if_pos hs] at h
      injection h with h
      subst h
      exact hi.1
    · rw [if_neg hs] at h
      exact inRegs_look hi.2 h
theorem inBlks_look {D : Nat → Bool} : ∀ {r : Blks} {s : Nat} {v : E}, inBlks D r → look r s = some v → D s = true ∧ inE D v
  | [], _, _, _, h => by simp [look] at h
  | (t, y) :: r, s, v, hi, h => by
    rw [look_cons] at h
    by_cases hs : s = t
    · rw [if_pos hs] at h
      injection h with h
      subst h hs
      exact hi.1
    · rw [if_neg hs] at h
      exact inBlks_look hi.2 h

section
variable {X : Ctx} {ε : Env} {σ : Sig} {a : Act} {w : World} {Q : Exit → Act → World → Prop}

theorem Holds.forget {ε' : Env} {s : Sig} (h : Holds X ε' ⟨s.regs, s.blks, σ.nxt⟩ a w) (hle : s.nxt ≤ σ.nxt) (hr : inRegs (fun k => Nat.blt k s.nxt) s.regs = true) (hb : inBlks (fun k => Nat.blt k s.nxt) s.blks) : Holds X ⟨s.nxt, ε'.f⟩ s a w := by
  have hn : σ.nxt = ε'.n := h.tab.nxt
  have hE : EMap (fun k => Nat.blt k s.nxt) id ε' ⟨s.nxt, ε'.f⟩ := fun i hi => by
    have := blt_true hi
    exact ⟨⟨fun _ => this, fun _ => by omega⟩, rfl, rfl, rfl, rfl⟩
  refine ⟨h.defers, h.size, fun t v hv => ?_, rfl, fun i e he => ?_, fun i j e e' hi hj => h.tab.sep i j e e' hi hj, h.tab.keep, fun i e he => h.tab.mine i e he⟩
  · have := (RelV.map hE (inRegs_look hr hv)).1 (h.regs t v hv)
    rwa [mapV_id] at this
  · obtain ⟨h1, h2⟩ := inBlks_look hb he
    refine ⟨blt_true h1, ?_⟩
    have := (RelE.map hE h2).1 (h.tab.ent i e he).2
    rwa [mapE_id] at this

theorem rLoopF {c : Code} {ι : Type} (I : ι → Sig) (m : ι → Nat) (N : Nat) (hN : ∀ i, (I i).nxt = N) (i0 : ι) (h0 : Le σ (I i0))
    (round : ∀ i, ε.n ≤ N → SW X c (Exit.then (Again X I m (m i) ε) Q) ε (I i)) : SW X (.loop c) Q ε σ := by
  intro ε0 a w hle hh
  have hεN : ε.n ≤ N := by
    have h1 := (hh.le h0).tab.nxt
    have h2 := hle.n
    rw [hN] at h1
    omega
  exact rLoop0 I m i0 h0 (fun i => round i hεN) ε0 a w hle hh

theorem rAgainF {ι : Type} {I : ι → Sig} {m : ι → Nat} {n : Nat} (j : ι) (hm : m j < n) (hN : ε.n ≤ (I j).nxt) (hr : RLe σ.regs (I j).regs) (hb : BLe σ.blks (I j).blks) (hle : Nat.ble (I j).nxt σ.nxt = true)
    (hri : inRegs (fun k => Nat.blt k (I j).nxt) (I j).regs = true) (hbi : inBlks (fun k => Nat.blt k (I j).nxt) (I j).blks) : SQ X (Exit.then (Again X I m n ε) Q) .normal ε σ := fun ε' a w hle' hh => by
  have h1 : Holds X ε' ⟨(I j).regs, (I j).blks, σ.nxt⟩ a w := hh.le ⟨hr, hb, rfl⟩
  refine ⟨j, _, hm, ?_, Holds.forget h1 (Nat.le_of_ble_eq_true hle) hri hbi⟩
  exact ⟨hN, hle'.blk, hle'.off, hle'.cap, hle'.nil⟩
end
end Go.X
