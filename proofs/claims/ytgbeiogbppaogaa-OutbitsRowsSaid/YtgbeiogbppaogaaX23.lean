/- Regions whose order is open: every operation yields a value and looks only at what it waits for. -/
import Derived.Test.YtgbeiogbppaogaaX22
import Derived.Orders
set_option linter.unusedVariables false
namespace Go.X

theorem mapV_id : mapV id = id := by
  have c : mapC id = id := funext fun c => by cases c <;> simp [mapC]
  have s : mapS id = id := funext fun c => by cases c <;> simp [mapS, c]
  have v1 : map1 id = id := funext fun x => by cases x <;> simp [map1, c, s]
  exact funext fun x => by cases x <;> simp [mapV, v1]

/-- What names no place says the same everywhere. -/
theorem RelV.free {ε ε' : Env} {v : SV} {x : Value} (hv : inV (fun _ => false) v = true) (h : RelV ε v x) : RelV ε' v x := by
  have := (RelV.map (D := fun _ => false) (ι := id) (ε := ε) (ε' := ε') (fun i hi => by cases hi) (x := v) (v := x) hv).1 h
  rwa [mapV_id] at this

/-- An operation's value. -/
def execV (tt : TT) (kt : KT) (gt : GT) (md : Md) (ops : List Oper) (σ : Sig) (o : Oper) : Option (Prop × SV) :=
  match o.guard with
  | none => match core tt kt gt md σ o with
    | some (p, .val v) => some (p, v)
    | some (p, .fresh v []) => some (p, v)
    | some (p, .fresh v _) => match inV (fun _ => false) v with
      | true => some (p, v)
      | false => none
    | _ => none
  | some (j, want) => match guardB σ.regs ops j want with
    | some g => match core tt kt gt md σ o with
      | some (p, .val (.v x)) => some (g = true → p, .g g x)
      | some (p, .fresh (.v x) []) => some (g = true → p, .g g x)
      | some (p, .fresh (.v x) _) => match in1 (fun _ => false) x with
        | true => some (g = true → p, .g g x)
        | false => none
      | _ => none
    | none => none

section
variable {X : Ctx} {ε : Env} {σ : Sig} {a : Act} {w : World} {o : Oper} {next : Act → World → Prop} {Q : Exit → Act → World → Prop}

theorem inC_of {ε : Env} {c : C} {v : Value} (h : RelC ε c v) : inC (fun k => Nat.blt k ε.n) c = true := by
  have lt : ∀ {i : Nat}, i < ε.n → Nat.blt i ε.n = true := fun h => Nat.ble_eq_true_of_le h
  cases c with
  | ptr id rst row base stride idx => exact lt h.1
  | sl id a len sz => exact lt h.1
  | clo f caps =>
    have : ∀ l : List Nat, (∀ i ∈ l, i < ε.n) → allB (fun k => Nat.blt k ε.n) l = true := by
      intro l
      induction l with
      | nil => intro _; rfl
      | cons x l ih => intro hl; simp only [allB, Bool.and_eq_true]; exact ⟨lt (hl x (by simp)), ih fun i hi => hl i (by simp [hi])⟩
    exact this caps fun i hi => (h.1 i hi).1
  | _ => rfl
theorem allB_of {α : Type} {R : α → Value → Prop} {p : α → Bool} (hp : ∀ x v, R x v → p x = true) : ∀ {l : List α} {vs : List Value}, All2 R l vs → allB p l = true
  | [], _, _ => rfl
  | x :: l, [], h => absurd h (by simp [All2])
  | x :: l, v :: vs, h => by simp only [allB, Bool.and_eq_true]; exact ⟨hp _ _ h.1, allB_of hp h.2⟩
theorem inS_of {ε : Env} {s : S0} {vs : List Value} (h : RelS ε s vs) : inS (fun k => Nat.blt k ε.n) s = true := by
  cases s with
  | ints n k xs => rfl
  | cs l => exact allB_of (p := inC fun k => Nat.blt k ε.n) (fun _ _ h => inC_of h) h
theorem inL_of {ε : Env} : ∀ {l : List S0} {vs : List Value}, RelL ε l vs → allB (inS fun k => Nat.blt k ε.n) l = true
  | [], _, _ => rfl
  | s :: l, vs, ⟨v1, v2, _, h1, h2⟩ => by simp only [allB, Bool.and_eq_true]; exact ⟨inS_of h1, inL_of h2⟩
theorem inB_of {ε : Env} {b : Body} {vs : List Value} (h : RelB ε b vs) : inB (fun k => Nat.blt k ε.n) b := by
  cases b with
  | flat l => exact inL_of h
  | rows n sz f => exact fun i hi => inL_of (h.2 i hi)
theorem inE_of {ε : Env} {w : World} {L : Loc} {e : E} (h : RelE ε w L e) : inE (fun k => Nat.blt k ε.n) e := by
  cases e with
  | mem o ty tl b =>
    cases hn : L.isnil with
    | true => exact inB_of (h.1 hn).1
    | false =>
      obtain ⟨vs, junk, hb, _⟩ := h.2 hn
      exact inB_of hb
  | iter s p => trivial
  | obj k b => trivial

theorem mapE_id (e : E) : mapE id e = e := by
  have c : mapC id = id := funext fun c => by cases c <;> simp [mapC]
  have s : mapS id = id := funext fun c => by cases c <;> simp [mapS, c]
  cases e with
  | mem o ty tl b => cases b <;> simp [mapE, mapB, s]
  | _ => rfl

/-- Places that came anew and that no entry has may be forgotten. -/
theorem Tab.back {ε' : Env} {bl b : Blks} {m n : Nat} {w' : World} (h0 : Tab X ε bl m w) (h : Tab X ε' b n w') (hle : EnvLe ε ε') (hs : ∀ i e, look bl i = some e → look b i = some e) : Tab X ⟨m, ε'.f⟩ bl m w' := by
  refine ⟨rfl, fun i e he => ?_, fun i j e e' hi hj => h.sep i j e e' (hs i e hi) (hs j e' hj), h.keep, fun i e he => h.mine i e (hs i e he)⟩
  obtain ⟨h1, h2⟩ := h0.ent i e he
  have hm : m = ε.n := h0.nxt
  refine ⟨by show i < m; omega, ?_⟩
  have hE : EMap (fun k => Nat.blt k ε.n) id ε' ⟨m, ε'.f⟩ := fun j hj => by
    have := blt_true hj
    have := hle.n
    refine ⟨⟨fun _ => by show j < m; omega, fun _ => by omega⟩, rfl, rfl, rfl, rfl⟩
  have := (RelE.map hE (inE_of h2)).1 (h.ent i e (hs i e he)).2
  rwa [mapE_id] at this

theorem execV_sound (hX : XOk X) (h : Holds X ε σ a w) {md : Md} {ops : List Oper} {p : Prop} {v : SV} (hk : operB o = true) (hc : execV X.tt X.kt X.gt md ops σ o = some (p, v)) (hp : p)
    (hn : ∀ ε' x w', EnvLe ε ε' → RelV ε' v x → Tab X ε' σ.blks σ.nxt w' → next (a.put o.dst x) w') : if Region.wanted o (yielded ops.toArray a.tmps) then o.wp X.P a w next Q else next (a.put o.dst undef) w := by
  have hm := h.tab.nxt
  have cutle : ∀ {ε' : Env}, EnvLe ε ε' → EnvLe ε ⟨σ.nxt, ε'.f⟩ := fun hle => ⟨by show ε.n ≤ σ.nxt; omega, hle.blk, hle.off, hle.cap, hle.nil⟩
  have sub : ∀ {new : List E} i e, look σ.blks i = some e → look (addE new σ.nxt σ.blks).1 i = some e := fun i e he => by
    have := (h.tab.ent i e he).1
    rw [addE_look _ _ _ _ (by omega)]
    exact he
  unfold execV at hc
  cases hg : o.guard with
  | none =>
    rw [if_pos (wanted_none hg _)]
    simp only [hg] at hc
    split at hc
    · rename_i q1 v1 hco
      simp only [Option.some.injEq, Prod.mk.injEq] at hc
      obtain ⟨rfl, rfl⟩ := hc
      exact core_sound hX h hk hco hp fun ε' x w' hf => hn ε' x w' hf.le (hf.rel _ rfl) hf.tab
    · rename_i q1 v1 hco
      simp only [Option.some.injEq, Prod.mk.injEq] at hc
      obtain ⟨rfl, rfl⟩ := hc
      exact core_sound hX h hk hco hp fun ε' x w' hf => hn ε' x w' hf.le (hf.rel _ rfl) hf.tab
    · rename_i q1 v1 new _ hco
      split at hc
      · rename_i hi
        simp only [Option.some.injEq, Prod.mk.injEq] at hc
        obtain ⟨rfl, rfl⟩ := hc
        exact core_sound hX h hk hco hp fun ε' x w' hf => hn _ x w' (cutle hf.le) (RelV.free hi (hf.rel _ rfl)) (h.tab.back hf.tab hf.le sub)
      · cases hc
    · cases hc
  | some jw =>
    obtain ⟨j, want⟩ := jw
    simp only [hg] at hc
    cases hgb : guardB σ.regs ops j want with
    | none => simp [hgb] at hc
    | some g =>
      simp only [hgb] at hc
      rw [guard_wanted h hg hgb]
      split at hc
      · rename_i q1 x hco
        simp only [Option.some.injEq, Prod.mk.injEq] at hc
        obtain ⟨rfl, rfl⟩ := hc
        cases g with
        | true => exact core_sound hX h hk hco (hp rfl) fun ε' y w' hf => hn ε' y w' hf.le ⟨fun _ => hf.rel _ rfl, (fun hh => by cases hh)⟩ hf.tab
        | false => exact hn ε undef w (EnvLe.refl _) ⟨(fun hh => by cases hh), fun _ => rfl⟩ h.tab
      · rename_i q1 x hco
        simp only [Option.some.injEq, Prod.mk.injEq] at hc
        obtain ⟨rfl, rfl⟩ := hc
        cases g with
        | true => exact core_sound hX h hk hco (hp rfl) fun ε' y w' hf => hn ε' y w' hf.le ⟨fun _ => hf.rel _ rfl, (fun hh => by cases hh)⟩ hf.tab
        | false => exact hn ε undef w (EnvLe.refl _) ⟨(fun hh => by cases hh), fun _ => rfl⟩ h.tab
      · rename_i q1 x new _ hco
        split at hc
        · rename_i hi
          simp only [Option.some.injEq, Prod.mk.injEq] at hc
          obtain ⟨rfl, rfl⟩ := hc
          cases g with
          | true => exact core_sound hX h hk hco (hp rfl) fun ε' y w' hf => hn _ y w' (cutle hf.le) ⟨fun _ => RelV.free (v := .v x) hi (hf.rel _ rfl), (fun hh => by cases hh)⟩ (h.tab.back hf.tab hf.le sub)
          | false => exact hn ε undef w (EnvLe.refl _) ⟨(fun hh => by cases hh), fun _ => rfl⟩ h.tab
        · cases hc
      · cases hc
end
end Go.X
