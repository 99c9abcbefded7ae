/- Ends of a local proof. -/
import Derived.Test.YtgbeiogbppaogaaX20
set_option linter.unusedVariables false
namespace Go.X

/-- What a local proof ends in. -/
def Post (X : Ctx) (fn : Func) (ε0 : Env) (m : Nat) (ι : Nat → Nat) (lb : Blks) (r : Res) : Exit → Act → World → Prop :=
  bodyPost X.P fn fun e w' => ∃ v, e = .returned v ∧ EndOK X ε0 m ι lb r v w'

theorem post_end {X : Ctx} {fn : Func} {ε0 : Env} {m : Nat} {ι : Nat → Nat} {lb : Blks} {r : Res} {ε : Env} {σ : Sig} (hX : XOk X) {p : Prop} {xs : List V1} (hr : resAll X.tt σ fn.results.toList = some (p, xs)) (hp : p) (hle : EnvLe ε0 ε)
    (hend : ∀ v w ε', EnvLe ε0 ε' → RelV ε' (retV xs) v → Tab X ε' σ.blks σ.nxt w → EndOK X ε0 m ι lb r v w) :
    SQ X (Post X fn ε0 m ι lb r) .ret ε σ ∧ SQ X (Post X fn ε0 m ι lb r) .normal ε σ := by
  have key : ∀ ε' a w, EnvLe ε ε' → Holds X ε' σ a w → a.defers = [] ∧ ∃ v, (results fn a.tmps).run X.P w = .ok v w ∧ ∃ v', Ending.returned v = .returned v' ∧ EndOK X ε0 m ι lb r v' w := by
    intro ε' a w hle' hh
    obtain ⟨v, hv, hrel⟩ := results_run hX hh hr hp
    exact ⟨hh.defers, v, hv, v, rfl, hend v w ε' (hle.trans hle') hrel hh.tab⟩
  exact ⟨fun ε' a w hle' hh => key ε' a w hle' hh, fun ε' a w hle' hh => key ε' a w hle' hh⟩

/-- Nothing new, nothing turned. -/
theorem endOK_plain {X : Ctx} {ε0 ε1 : Env} {m : Nat} {ι : Nat → Nat} {lb : Blks} {r : Res} {blks : Blks} {nxt : Nat} {x : SV} {v : Value} {w : World} (hle : EnvLe ε0 ε1) (hx : RelV ε1 x v) (hT : Tab X ε1 blks nxt w)
    (hr : r.r = mapV (fun k => idxN k []) x) (hin : inV (fun k => memN k []) x = true) (hn : r.new = []) (hu : r.up = []) (hlb : ∀ i e, look lb i = some e → e.own = false) : EndOK X ε0 m ι lb r v w :=
  ⟨ε1, blks, nxt, x, [], [], [], hle, hx, hT, hr, hin, hn, trivial, List.nodup_nil, hu, by simp, fun i e he ho => (by rw [hlb i e he] at ho; cases ho), List.nodup_nil⟩

theorem rDone {X : Ctx} {fn : Func} {ε0 : Env} {m : Nat} {ι : Nat → Nat} {lb : Blks} {r : Res} {ε : Env} {σ : Sig} (hX : XOk X) {p : Prop} {xs : List V1} (hr : resAll X.tt σ fn.results.toList = some (p, xs)) (hp : p) (hle : EnvLe ε0 ε)
    (hr' : r.r = mapV (fun k => idxN k []) (retV xs)) (hin : inV (fun k => memN k []) (retV xs) = true) (hn : r.new = []) (hu : r.up = []) (hlb : ∀ i e, look lb i = some e → e.own = false) : SQ X (Post X fn ε0 m ι lb r) .ret ε σ :=
  (post_end hX hr hp hle fun v w ε' hle' hrel hT => endOK_plain hle' hrel hT hr' hin hn hu hlb).1

/-- One new entry. -/
theorem rDoneNew {X : Ctx} {fn : Func} {ε0 : Env} {m : Nat} {ι : Nat → Nat} {lb : Blks} {r : Res} {ε : Env} {σ : Sig} (k : Nat) (hX : XOk X) {p : Prop} {xs : List V1} (hr : resAll X.tt σ fn.results.toList = some (p, xs)) (hp : p) (hle : EnvLe ε0 ε)
    (hr' : r.r = mapV (fun j => idxN j [k]) (retV xs)) (hin : inV (fun j => memN j [k]) (retV xs) = true) {e : E} (hk : Nat.ble m k = true) (he : look σ.blks k = some e) (ho : e.own = true) (hie : inE (fun j => memN j [k]) e) (hn : r.new = [mapE (fun j => idxN j [k]) e]) (hu : r.up = []) (hlb : ∀ i e, look lb i = some e → e.own = false) : SQ X (Post X fn ε0 m ι lb r) .ret ε σ :=
  (post_end hX hr hp hle fun v w ε' hle' hrel hT => ⟨ε', σ.blks, σ.nxt, retV xs, [k], [e], [], hle', hrel, hT, hr', hin, hn, ⟨⟨Nat.le_of_ble_eq_true hk, he, ho, hie⟩, trivial⟩, by simp, hu, by simp, fun i e he ho => (by rw [hlb i e he] at ho; cases ho), List.nodup_nil⟩).1

/-- A function of values alone. -/
theorem fnOK_vals {P : Program} {gt : GT} {f : FuncId} {fn : Func} {c : Code} {spec : Spec} {tt : TT} {kt : KT} (hf : P.funcs[f]? = some fn) (hb : fn.body = some c) (hnum : (fn.name == "runtime.NumGoroutine") = false)
    (htt : TtOk P tt) (hkt : ∀ f s, look kt f = some s → FnOK P gt f s)
    (H : ∀ args lk r, spec args lk = some r → r.p → allB (inV fun _ => false) args = true ∧ Nat.ble args.length fn.ntmps = true ∧
      ∀ w0 M ε0, XOk ⟨P, tt, kt, gt, w0, M, fn.ntmps⟩ → SW ⟨P, tt, kt, gt, w0, M, fn.ntmps⟩ c (Post ⟨P, tt, kt, gt, w0, M, fn.ntmps⟩ fn ε0 0 id [] r) ε0 ⟨argRegs 0 args, [], 0⟩) :
    FnOK P gt f spec := by
  refine fnOK_mk hf hb hnum htt hkt fun args lk r h hp => ?_
  obtain ⟨h1, h2, h3⟩ := H args lk r h hp
  refine ⟨0, id, args, [], ?_, ?_, Nat.le_of_ble_eq_true h2, fun i hi => (by omega), fun i e he => (by cases he), fun i j e e' he => (by cases he), h3⟩
  · have : mapV id = id := by
      have c : mapC id = id := funext fun c => by cases c <;> simp [mapC]
      have s : mapS id = id := funext fun c => by cases c <;> simp [mapS, c]
      have v1 : map1 id = id := funext fun x => by cases x <;> simp [map1, c, s]
      exact funext fun x => by cases x <;> simp [mapV, v1]
    rw [this]; simp
  · have : (fun k => Nat.blt k 0) = fun _ => false := funext fun k => by
      cases h : Nat.blt k 0 with
      | false => rfl
      | true => exact absurd (blt_true h) (by omega)
    rw [this]; exact h1

theorem ktNil {P : Program} {gt : GT} : ∀ f s, look ([] : KT) f = some s → FnOK P gt f s := fun f s h => by cases h
theorem ktCons {P : Program} {gt : GT} {g : FuncId} {sp : Spec} {kt : KT} (h1 : FnOK P gt g sp) (h2 : ∀ f s, look kt f = some s → FnOK P gt f s) : ∀ f s, look ((g, sp) :: kt) f = some s → FnOK P gt f s := fun f s h => by
  rw [look_cons] at h
  by_cases hf : f = g
  · rw [if_pos hf] at h
    injection h with h
    subst h hf
    exact h1
  · rw [if_neg hf] at h
    exact h2 f s h

end Go.X
