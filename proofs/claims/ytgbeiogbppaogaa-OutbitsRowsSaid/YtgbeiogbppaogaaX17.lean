/- Loops, forgetting, results, functions that change nothing. -/
import Derived.Test.YtgbeiogbppaogaaX16
import Derived.Deep.LoopGhost
import Derived.Scope
set_option linter.unusedVariables false
namespace Go.X

/-! ### forgetting -/
/-- What one value says, the other says too. -/
def SVle (v v' : SV) : Prop := ∀ ε x, RelV ε v x → RelV ε v' x
theorem SVle.refl (v : SV) : SVle v v := fun _ _ h => h
theorem SVle.eq {v v' : SV} (h : v = v') : SVle v v' := h ▸ SVle.refl v
theorem SVle.int {k : IntKind} {a b : Int} (h : a = b) : SVle (.v (.c (.int k a))) (.v (.c (.int k b))) := by rw [h]; exact SVle.refl _
theorem SVle.bool {a b : Bool} (h : a = b) : SVle (.v (.c (.bool a))) (.v (.c (.bool b))) := by rw [h]; exact SVle.refl _
theorem SVle.str {a b : ByteArray} (h : a = b) : SVle (.v (.c (.str a))) (.v (.c (.str b))) := by rw [h]; exact SVle.refl _
theorem SVle.sl {i a a' l l' z : Nat} (h : a = a') (hl : l = l') : SVle (.v (.c (.sl i a l z))) (.v (.c (.sl i a' l' z))) := by rw [h, hl]; exact SVle.refl _
theorem SVle.ints {n : Nat} {k : IntKind} {xs ys : List Int} (h : xs = ys) : SVle (.v (.agg [.ints n k xs])) (.v (.agg [.ints n k ys])) := by rw [h]; exact SVle.refl _

def Ele (e e' : E) : Prop := e'.own = e.own ∧ (∀ L, owned L e' = owned L e) ∧ ∀ ε w L, RelE ε w L e → RelE ε w L e'
theorem Ele.refl (e : E) : Ele e e := ⟨rfl, fun _ => rfl, fun _ _ _ h => h⟩
theorem Ele.eq {e e' : E} (h : e = e') : Ele e e' := h ▸ Ele.refl e

def Ble (b b' : Body) : Prop := ∀ ε vs, RelB ε b vs → RelB ε b' vs
theorem Ble.refl (b : Body) : Ble b b := fun _ _ h => h
theorem Ble.eq {b b' : Body} (h : b = b') : Ble b b' := h ▸ Ble.refl b
theorem Ble.ints {n : Nat} {k : IntKind} {xs ys : List Int} (h : xs = ys) : Ble (.flat [.ints n k xs]) (.flat [.ints n k ys]) := by rw [h]; exact Ble.refl _
theorem Ble.intsN {n m : Nat} {k : IntKind} {xs ys : List Int} (hn : n = m) (h : xs = ys) : Ble (.flat [.ints n k xs]) (.flat [.ints m k ys]) := by rw [hn, h]; exact Ble.refl _
theorem Ble.rows {n m sz : Nat} {f g : Nat → List S0} (hn : n = m) (h : ∀ i, i < n → f i = g i) : Ble (.rows n sz f) (.rows m sz g) := by
  subst hn
  intro ε vs ⟨h1, h2⟩
  exact ⟨h1, fun i hi => h i hi ▸ h2 i hi⟩
theorem Ele.mem {o : Bool} {ty : TypeId} {tl : Option Nat} {b b' : Body} (h : Ble b b') : Ele (.mem o ty tl b) (.mem o ty tl b') := by
  refine ⟨rfl, fun _ => rfl, fun ε w L hr => ⟨fun hn => ⟨h _ _ (hr.1 hn).1, (hr.1 hn).2⟩, fun hn => ?_⟩⟩
  obtain ⟨vs, junk, h1, h2⟩ := hr.2 hn
  exact ⟨vs, junk, h _ _ h1, h2⟩

def RLe (r : Regs) : Regs → Prop
  | [] => True
  | (s, v') :: t => (match look r s with | some v => SVle v v' | none => False) ∧ RLe r t
def BLe (b : Blks) : Blks → Prop
  | [] => True
  | (s, v') :: t => (match look b s with | some v => Ele v v' | none => False) ∧ BLe b t

theorem RLe.look {r : Regs} : ∀ {r' : Regs}, RLe r r' → ∀ s v', X.look r' s = some v' → ∃ v, X.look r s = some v ∧ SVle v v'
  | [], _, s, v', h => by simp [X.look] at h
  | (k, x) :: t, hr, s, v', h => by
    rw [look_cons] at h
    by_cases hs : s = k
    · rw [if_pos hs] at h
      injection h with h
      subst h hs
      have h1 := hr.1
      cases hl : X.look r s with
      | none => simp [hl] at h1
      | some v => simp only [hl] at h1; exact ⟨v, rfl, h1⟩
    · rw [if_neg hs] at h
      exact RLe.look hr.2 s v' h
theorem BLe.look {r : Blks} : ∀ {r' : Blks}, BLe r r' → ∀ s v', X.look r' s = some v' → ∃ v, X.look r s = some v ∧ Ele v v'
  | [], _, s, v', h => by simp [X.look] at h
  | (k, x) :: t, hr, s, v', h => by
    rw [look_cons] at h
    by_cases hs : s = k
    · rw [if_pos hs] at h
      injection h with h
      subst h hs
      have h1 := hr.1
      cases hl : X.look r s with
      | none => simp [hl] at h1
      | some v => simp only [hl] at h1; exact ⟨v, rfl, h1⟩
    · rw [if_neg hs] at h
      exact BLe.look hr.2 s v' h

/-- A signature says no more than another one. -/
def Le (s s' : Sig) : Prop := RLe s.regs s'.regs ∧ BLe s.blks s'.blks ∧ s.nxt = s'.nxt

section
variable {X : Ctx} {ε : Env} {σ : Sig} {a : Act} {w : World} {o : Oper} {next : Act → World → Prop} {Q : Exit → Act → World → Prop}

theorem Holds.le {σ' : Sig} (h : Holds X ε σ a w) (hl : Le σ σ') : Holds X ε σ' a w := by
  obtain ⟨h1, h2, h3⟩ := hl
  refine ⟨h.defers, h.size, fun s v hs => ?_, ?_⟩
  · obtain ⟨u, hu, hle⟩ := h1.look s v hs
    exact hle _ _ (h.regs s u hu)
  · refine ⟨by rw [← h3]; exact h.tab.nxt, fun i e he => ?_, fun i j e f he hf hne ho b hb => ?_, h.tab.keep, fun i e he ho b hb => ?_⟩
    · obtain ⟨u, hu, g1, g2, g3⟩ := h2.look i e he
      exact ⟨(h.tab.ent i u hu).1, g3 _ _ _ (h.tab.ent i u hu).2⟩
    · obtain ⟨u, hu, g1, g2, g3⟩ := h2.look i e he
      obtain ⟨u', hu', k1, k2, k3⟩ := h2.look j f hf
      rw [g2] at hb
      rw [k2]
      exact h.tab.sep i j u u' hu hu' hne (by rw [← g1]; exact ho) b hb
    · obtain ⟨u, hu, g1, g2, g3⟩ := h2.look i e he
      rw [g2] at hb
      exact h.tab.mine i u hu (by rw [← g1]; exact ho) b hb

theorem rWeak {c : Code} {σ' : Sig} (hl : Le σ σ') (h : SW X c Q ε σ') : SW X c Q ε σ := fun ε' a w hle hh => h ε' a w hle (hh.le hl)

/-- What a round of a loop must leave: the invariant at a smaller measure. -/
def Again (X : Ctx) {ι : Type} (I : ι → Sig) (m : ι → Nat) (n : Nat) (ε : Env) : Act → World → Prop := fun a w => ∃ j ε', m j < n ∧ EnvLe ε ε' ∧ Holds X ε' (I j) a w

theorem rLoop {c : Code} {ι : Type} (I : ι → Sig) (m : ι → Nat) (i0 : ι) (h0 : Le σ (I i0))
    (round : ∀ i ε', EnvLe ε ε' → SW X c (Exit.then (Again X I m (m i) ε') Q) ε' (I i)) : SW X (.loop c) Q ε σ := by
  intro ε0 a w hle hh
  refine wp_loop_ghost (fun n a w => ∃ i ε', m i = n ∧ EnvLe ε ε' ∧ Holds X ε' (I i) a w) (m i0) ⟨i0, ε0, rfl, hle, hh.le h0⟩ ?_
  rintro n a w ⟨i, ε', rfl, hle', hh'⟩
  refine wp_mono (round i ε' hle' ε' a w (EnvLe.refl _) hh') ?_
  intro e a' w' hq
  cases e with
  | normal =>
    obtain ⟨j, ε'', hlt, hle'', hj⟩ := hq
    exact ⟨m j, hlt, j, ε'', rfl, hle'.trans hle'', hj⟩
  | _ => exact hq

/-- The end of a round. -/
theorem rAgain {ι : Type} {I : ι → Sig} {m : ι → Nat} {n : Nat} {ε0 : Env} (j : ι) (hle : EnvLe ε0 ε) (hm : m j < n) (hl : Le σ (I j)) : SQ X (Exit.then (Again X I m n ε0) Q) .normal ε σ :=
  fun ε' a w hle' hh => ⟨j, ε', hm, hle.trans hle', hh.le hl⟩

/-- A scope without jumps. -/
theorem rScope {c : Code} (h : SW X c (Exit.noGoto Q) ε σ) : SW X (.scope c) Q ε σ := fun ε' a w hle hh => wp_scope_straight (h ε' a w hle hh)
theorem rNoGotoRet (h : SQ X Q .ret ε σ) : SQ X (Exit.noGoto Q) .ret ε σ := h
theorem rNoGotoNormal (h : SQ X Q .normal ε σ) : SQ X (Exit.noGoto Q) .normal ε σ := h

/-! ### results -/
def resV (tt : TT) (σ : Sig) : ResultVar → Option (Prop × V1)
  | .tmp t => match look σ.regs t with
    | some (.v x) => some (True, x)
    | _ => none
  | .cell p t => match look σ.regs p, look tt t with
    | some (.v (.c (.ptr id rst row base stride idx))), some te => match look σ.blks id with
      | some (.mem _ _ _ b) => loadB b te.d.agg te.size rst row base stride idx
      | _ => none
    | _, _ => none

def resAll (tt : TT) (σ : Sig) : List ResultVar → Option (Prop × List V1)
  | [] => some (True, [])
  | r :: l => match resV tt σ r, resAll tt σ l with
    | some (p, x), some (q, xs) => some (p ∧ q, x :: xs)
    | _, _ => none

def retV : List V1 → SV
  | [x] => .v x
  | l => .tup l

theorem resV_run (hX : XOk X) (h : Holds X ε σ a w) {r : ResultVar} {p : Prop} {x : V1} (hr : resV X.tt σ r = some (p, x)) (hp : p) :
    ∃ v, (match r with | .tmp t => (pure (a.tmps.getD t undef) : Sem Value) | .cell b t => do loadVar t (← asAddr (a.tmps.getD b undef))).run X.P w = .ok v w ∧ Rel1 ε x v := by
  cases r with
  | tmp t =>
    simp only [resV] at hr
    split at hr
    · rename_i y hl
      simp only [Option.some.injEq, Prod.mk.injEq] at hr
      obtain ⟨_, rfl⟩ := hr
      exact ⟨_, rfl, h.regs t _ hl⟩
    · cases hr
  | cell b t =>
    simp only [resV] at hr
    split at hr
    · rename_i id rst row base stride idx te h1 ht
      split at hr
      · rename_i ow ty tl bd he
        obtain ⟨_, hnil, hx⟩ := h.regs b _ h1
        obtain ⟨vs, junk, hb, hcell, _⟩ := cells_of h.tab he hnil
        have hT := loadB_rel hr hp hb
        obtain ⟨y, hy, hrel⟩ := run_loadVar_told (hX.tt t te ht) hcell hT
        refine ⟨y, ?_, hrel⟩
        simp only [hx, asAddr, Sem.run_bind, Sem.run_pure, Result.andThen_ok]
        exact hy
      · cases hr
    · cases hr

def resF (a : Act) : ResultVar → Sem Value
  | .tmp t => pure (a.tmps.getD t undef)
  | .cell b t => do loadVar t (← asAddr (a.tmps.getD b undef))

theorem resAll_run (hX : XOk X) (h : Holds X ε σ a w) : ∀ {l : List ResultVar} {p : Prop} {xs : List V1}, resAll X.tt σ l = some (p, xs) → p →
    ∃ vs, (l.mapM (resF a)).run X.P w = .ok vs w ∧ All2 (Rel1 ε) xs vs
  | [], p, xs, hr, hp => by
    simp only [resAll, Option.some.injEq, Prod.mk.injEq] at hr
    obtain ⟨_, rfl⟩ := hr
    exact ⟨[], rfl, trivial⟩
  | r :: l, p, xs, hr, hp => by
    simp only [resAll] at hr
    cases h1 : resV X.tt σ r with
    | none => simp [h1] at hr
    | some q =>
      obtain ⟨q1, x⟩ := q
      cases h2 : resAll X.tt σ l with
      | none => simp [h1, h2] at hr
      | some q' =>
        obtain ⟨q2, ys⟩ := q'
        simp only [h1, h2, Option.some.injEq, Prod.mk.injEq] at hr
        obtain ⟨rfl, rfl⟩ := hr
        obtain ⟨v, hv, hrv⟩ : ∃ v, (resF a r).run X.P w = .ok v w ∧ Rel1 ε x v := by
          obtain ⟨v, hv, hrv⟩ := resV_run hX h h1 hp.1
          refine ⟨v, ?_, hrv⟩
          cases r <;> exact hv
        obtain ⟨vs, hvs, hrs⟩ := resAll_run hX h h2 hp.2
        refine ⟨v :: vs, ?_, hrv, hrs⟩
        rw [List.mapM_cons, Sem.run_bind, hv, Result.andThen_ok, Sem.run_bind, hvs]
        rfl

theorem results_run (hX : XOk X) (h : Holds X ε σ a w) {fn : Func} {p : Prop} {xs : List V1} (hr : resAll X.tt σ fn.results.toList = some (p, xs)) (hp : p) :
    ∃ v, (results fn a.tmps).run X.P w = .ok v w ∧ RelV ε (retV xs) v := by
  obtain ⟨vs, hvs, hrs⟩ := resAll_run hX h hr hp
  have hl := All2.length hrs
  have hF : (Array.mapM (resF a) fn.results).run X.P w = .ok vs.toArray w := by
    rw [Array.mapM_eq_mapM_toList]
    simp only [Sem.run_map, hvs]; rfl
  have hG : results fn a.tmps = (do
      let outs ← fn.results.mapM (resF a)
      return if h : outs.size = 1 then outs[0]'(by omega) else .tuple outs) := by
    unfold results
    congr 1
  rw [hG]
  simp only [Sem.run_bind, hF, Result.andThen_ok, Sem.run_pure]
  cases xs with
  | nil =>
    cases vs with
    | nil => exact ⟨_, rfl, [], rfl, trivial⟩
    | cons _ _ => exact absurd hrs (by simp [All2])
  | cons x xs =>
    cases xs with
    | nil =>
      cases vs with
      | nil => exact absurd hrs (by simp [All2])
      | cons v vs =>
        cases vs with
        | nil => exact ⟨_, rfl, hrs.1⟩
        | cons _ _ => exact absurd hrs.2 (by simp [All2])
    | cons y ys =>
      refine ⟨_, rfl, vs, ?_, hrs⟩
      have : ¬ vs.toArray.size = 1 := by simp at hl ⊢; omega
      rw [dif_neg this]
end

end Go.X
