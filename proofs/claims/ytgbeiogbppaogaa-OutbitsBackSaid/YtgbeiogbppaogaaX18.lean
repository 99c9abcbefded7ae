/- From a local proof to a function's contract: ids are renamed. -/
import Derived.Test.YtgbeiogbppaogaaX17
set_option linter.unusedVariables false
namespace Go.X

/-! ### renaming -/
def mapC (ι : Nat → Nat) : C → C
  | .ptr id rst row base stride idx => .ptr (ι id) rst row base stride idx
  | .sl id a len sz => .sl (ι id) a len sz
  | .clo f caps => .clo f (caps.map ι)
  | c => c
def mapS (ι : Nat → Nat) : S0 → S0
  | .ints n k xs => .ints n k xs
  | .cs l => .cs (l.map (mapC ι))
def map1 (ι : Nat → Nat) : V1 → V1
  | .c c => .c (mapC ι c)
  | .agg l => .agg (l.map (mapS ι))
def mapV (ι : Nat → Nat) : SV → SV
  | .v x => .v (map1 ι x)
  | .tup l => .tup (l.map (map1 ι))
  | .g c x => .g c (map1 ι x)
  | .fnv f a c => .fnv f (a.map (map1 ι)) (c.map (map1 ι))
def mapB (ι : Nat → Nat) : Body → Body
  | .flat l => .flat (l.map (mapS ι))
  | .rows n sz f => .rows n sz (fun i => (f i).map (mapS ι))
def mapE (ι : Nat → Nat) : E → E
  | .mem o ty tl x => .mem o ty tl (mapB ι x)
  | e => e

def allB {α : Type} (p : α → Bool) : List α → Bool
  | [] => true
  | x :: l => p x && allB p l
theorem allB_cons {α : Type} {p : α → Bool} {x : α} {l : List α} (h : allB p (x :: l) = true) : p x = true ∧ allB p l = true := by
  simpa [allB] using h
theorem allB_mem {α : Type} {p : α → Bool} : ∀ {l : List α}, allB p l = true → ∀ x ∈ l, p x = true
  | [], _, x, hx => by cases hx
  | y :: l, h, x, hx => by
    rcases List.mem_cons.1 hx with rfl | hx
    · exact (allB_cons h).1
    · exact allB_mem (allB_cons h).2 x hx

def inC (D : Nat → Bool) : C → Bool
  | .ptr id _ _ _ _ _ => D id
  | .sl id _ _ _ => D id
  | .clo _ caps => allB D caps
  | _ => true
def inS (D : Nat → Bool) : S0 → Bool
  | .ints _ _ _ => true
  | .cs l => allB (inC D) l
def in1 (D : Nat → Bool) : V1 → Bool
  | .c c => inC D c
  | .agg l => allB (inS D) l
def inV (D : Nat → Bool) : SV → Bool
  | .v x => in1 D x
  | .tup l => allB (in1 D) l
  | .g _ x => in1 D x
  | .fnv _ a c => allB (in1 D) a && allB (in1 D) c
def inB (D : Nat → Bool) : Body → Prop
  | .flat l => allB (inS D) l = true
  | .rows n _ f => ∀ i, i < n → allB (inS D) (f i) = true
def inE (D : Nat → Bool) : E → Prop
  | .mem _ _ _ b => inB D b
  | _ => True

/-- Ids of D name the same places on both sides. -/
def EMap (D : Nat → Bool) (ι : Nat → Nat) (ε ε' : Env) : Prop :=
  ∀ i, D i = true → (i < ε.n ↔ ι i < ε'.n) ∧ (ε'.f (ι i)).blk = (ε.f i).blk ∧ (ε'.f (ι i)).off = (ε.f i).off ∧ (ε'.f (ι i)).cap = (ε.f i).cap ∧ (ε'.f (ι i)).isnil = (ε.f i).isnil

section
variable {D : Nat → Bool} {ι : Nat → Nat} {ε ε' : Env}

theorem RelC.map (h : EMap D ι ε ε') {c : C} {v : Value} (hc : inC D c = true) : RelC ε c v ↔ RelC ε' (mapC ι c) v := by
  cases c with
  | ptr id rst row base stride idx =>
    obtain ⟨h1, h2, h3, h4, h5⟩ := h id hc
    simp only [RelC, mapC, h1, h2, h3, h5]
  | sl id a len sz =>
    obtain ⟨h1, h2, h3, h4, h5⟩ := h id hc
    simp only [RelC, mapC, h1, h2, h3, h4, h5]
  | clo f caps =>
    have h' : ∀ i ∈ caps, D i = true := allB_mem hc
    have e : (caps.map ι).map (fun i => Value.pointer (some ⟨(ε'.f i).blk, (ε'.f i).off, none⟩)) = caps.map (fun i => Value.pointer (some ⟨(ε.f i).blk, (ε.f i).off, none⟩)) := by
      rw [List.map_map]
      apply List.map_congr_left
      intro i hi
      obtain ⟨h1, h2, h3, h4, h5⟩ := h i (h' i hi)
      simp [h2, h3]
    simp only [RelC, mapC, e]
    constructor
    · rintro ⟨g1, g2⟩
      refine ⟨fun i hi => ?_, g2⟩
      obtain ⟨j, hj, rfl⟩ := List.mem_map.1 hi
      obtain ⟨h1, h2, h3, h4, h5⟩ := h j (h' j hj)
      exact ⟨h1.1 (g1 j hj).1, by rw [h5]; exact (g1 j hj).2⟩
    · rintro ⟨g1, g2⟩
      refine ⟨fun j hj => ?_, g2⟩
      obtain ⟨h1, h2, h3, h4, h5⟩ := h j (h' j hj)
      have := g1 (ι j) (List.mem_map.2 ⟨j, hj, rfl⟩)
      exact ⟨h1.2 this.1, by rw [← h5]; exact this.2⟩
  | _ => exact Iff.rfl

theorem All2.map_iff {α : Type} {R R' : α → Value → Prop} {g : α → α} {p : α → Bool} (h : ∀ x v, p x = true → (R x v ↔ R' (g x) v)) : ∀ {l : List α} {vs : List Value}, allB p l = true → (All2 R l vs ↔ All2 R' (l.map g) vs)
  | [], [], _ => Iff.rfl
  | [], _ :: _, _ => Iff.rfl
  | _ :: _, [], _ => Iff.rfl
  | x :: l, v :: vs, hl => and_congr (h x v (allB_cons hl).1) (All2.map_iff h (allB_cons hl).2)

theorem RelS.map (h : EMap D ι ε ε') {s : S0} {vs : List Value} (hc : inS D s = true) : RelS ε s vs ↔ RelS ε' (mapS ι s) vs := by
  cases s with
  | ints n k xs => exact Iff.rfl
  | cs l => exact All2.map_iff (p := inC D) (g := mapC ι) (fun x v hx => RelC.map h hx) hc

theorem RelL.map (h : EMap D ι ε ε') : ∀ {l : List S0} {vs : List Value}, allB (inS D) l = true → (RelL ε l vs ↔ RelL ε' (l.map (mapS ι)) vs)
  | [], _, _ => Iff.rfl
  | s :: l, vs, hc => exists_congr fun v1 => exists_congr fun v2 => and_congr Iff.rfl (and_congr (RelS.map h (allB_cons hc).1) (RelL.map h (allB_cons hc).2))

theorem RelB.map (h : EMap D ι ε ε') {b : Body} {vs : List Value} (hc : inB D b) : RelB ε b vs ↔ RelB ε' (mapB ι b) vs := by
  cases b with
  | flat l => exact RelL.map h hc
  | rows n sz f => exact and_congr Iff.rfl (forall_congr' fun i => forall_congr' fun hi => RelL.map h (hc i hi))

theorem Rel1.map (h : EMap D ι ε ε') {x : V1} {v : Value} (hc : in1 D x = true) : Rel1 ε x v ↔ Rel1 ε' (map1 ι x) v := by
  cases x with
  | c c => exact RelC.map h hc
  | agg l => exact exists_congr fun vs => and_congr Iff.rfl (RelL.map h hc)

theorem RelV.map (h : EMap D ι ε ε') {x : SV} {v : Value} (hc : inV D x = true) : RelV ε x v ↔ RelV ε' (mapV ι x) v := by
  cases x with
  | v x => exact Rel1.map h hc
  | tup l => exact exists_congr fun vs => and_congr Iff.rfl (All2.map_iff (p := in1 D) (g := map1 ι) (fun x v hx => Rel1.map h hx) hc)
  | g b x => exact and_congr (forall_congr' fun _ => Rel1.map h hc) Iff.rfl
  | fnv f a c =>
    have hc : allB (in1 D) a = true ∧ allB (in1 D) c = true := by simpa [inV] using hc
    exact exists_congr fun fs => exists_congr fun cs => and_congr Iff.rfl (and_congr (All2.map_iff (p := in1 D) (g := map1 ι) (fun x v hx => Rel1.map h hx) hc.1) (All2.map_iff (p := in1 D) (g := map1 ι) (fun x v hx => Rel1.map h hx) hc.2))

theorem mapE_own (ι : Nat → Nat) (e : E) : (mapE ι e).own = e.own := by cases e <;> rfl
theorem mapE_owned (ι : Nat → Nat) (L : Loc) (e : E) : owned L (mapE ι e) = owned L e := by cases e <;> rfl

theorem RelE.map (h : EMap D ι ε ε') {w : World} {L : Loc} {e : E} (hc : inE D e) : RelE ε w L e ↔ RelE ε' w L (mapE ι e) := by
  cases e with
  | mem o ty tl b =>
    have hb := fun vs => RelB.map h (vs := vs) hc
    simp only [RelE, mapE, hb]
  | iter s p => exact Iff.rfl
  | obj k b => exact Iff.rfl
end

theorem renC_map (b : Nat) (κ : Nat → Nat) (c : C) : renC b (mapC κ c) = mapC (fun i => b + κ i) c := by
  cases c <;> simp [renC, mapC, Function.comp_def]
theorem renS_map (b : Nat) (κ : Nat → Nat) (c : S0) : renS b (mapS κ c) = mapS (fun i => b + κ i) c := by
  cases c <;> simp [renS, mapS, renC_map]
theorem ren1_map (b : Nat) (κ : Nat → Nat) (c : V1) : ren1 b (map1 κ c) = map1 (fun i => b + κ i) c := by
  cases c <;> simp [ren1, map1, renC_map, renS_map]
theorem renV_map (b : Nat) (κ : Nat → Nat) (c : SV) : renV b (mapV κ c) = mapV (fun i => b + κ i) c := by
  cases c <;> simp [renV, mapV, ren1_map]
theorem renB_map (b : Nat) (κ : Nat → Nat) (c : Body) : renB b (mapB κ c) = mapB (fun i => b + κ i) c := by
  have e : renS b ∘ mapS κ = mapS (fun i => b + κ i) := funext fun s => renS_map b κ s
  cases c <;> simp [renB, mapB, e]
theorem renE_map (b : Nat) (κ : Nat → Nat) (c : E) : renE b (mapE κ c) = mapE (fun i => b + κ i) c := by
  cases c <;> simp [renE, mapE, renB_map]

/-! ### what a function is handed -/
/-- e says less than e0: the same, or to be read only. -/
def Sub (e0 e : E) : Prop := e0 = e ∨ ∃ o b' ty ty' tl b, e0 = .mem o ty tl b ∧ e = .mem false ty' none b' ∧ Ble b b'

theorem RelE.sub {ε : Env} {w : World} {L : Loc} {e0 e : E} (hs : Sub e0 e) (h : RelE ε w L e0) : RelE ε w L e := by
  rcases hs with rfl | ⟨o, b', ty, ty', tl, b, rfl, rfl, hbl⟩
  · exact h
  · refine ⟨fun hn => ⟨hbl _ _ (h.1 hn).1, (h.1 hn).2⟩, fun hn => ?_⟩
    obtain ⟨vs, junk, hb, h1, h2, h3⟩ := h.2 hn
    refine ⟨vs, [], hbl _ _ hb, fun _ => rfl, fun sz hsz => (by cases hsz), ?_⟩
    cases o with
    | false => exact h3
    | true =>
      simp only [if_true] at h3
      obtain ⟨g1, g2⟩ := h3
      simp only [Bool.false_eq_true, if_false]
      refine ⟨heap_lt g2, fun j v hv => ?_⟩
      have hj : j < vs.length := by
        rcases Nat.lt_or_ge j vs.length with h | h
        · exact h
        · rw [List.getElem?_eq_none h] at hv; cases hv
      simp only [World.cell?, g1, g2, Nat.zero_add]
      simp only [List.getElem?_toArray]
      rw [List.getElem?_append_left hj, hv]
      rfl
theorem Sub.owned {e0 e : E} (hs : Sub e0 e) (L : Loc) : owned L e = owned L e0 := by
  rcases hs with rfl | ⟨o, b', ty, ty', tl, b, rfl, rfl, hbl⟩ <;> rfl
theorem Sub.own {e0 e : E} (hs : Sub e0 e) (h : e.own = true) : e0.own = true := by
  rcases hs with rfl | ⟨o, b', ty, ty', tl, b, rfl, rfl, hbl⟩
  · exact h
  · cases h

def argRegs : Nat → List SV → Regs
  | _, [] => []
  | n, v :: l => (n, v) :: argRegs (n + 1) l

theorem argRegs_look {ε : Env} : ∀ {l : List SV} {vs : List Value} {n s : Nat} {v : SV}, All2 (RelV ε) l vs → look (argRegs n l) s = some v → n ≤ s ∧ ∃ x, vs[s - n]? = some x ∧ RelV ε v x
  | [], _, _, _, _, _, h => by simp [argRegs, look] at h
  | y :: l, [], _, _, _, h, _ => absurd h (by simp [All2])
  | y :: l, x :: vs, n, s, v, h, hl => by
    simp only [argRegs] at hl
    rw [look_cons] at hl
    by_cases hs : s = n
    · rw [if_pos hs] at hl
      injection hl with hl
      subst hl hs
      exact ⟨Nat.le_refl _, x, by simp, h.1⟩
    · rw [if_neg hs] at hl
      obtain ⟨h1, z, h2, h3⟩ := argRegs_look h.2 hl
      refine ⟨by omega, z, ?_, h3⟩
      rw [show s - n = (s - (n + 1)) + 1 by omega, List.getElem?_cons_succ]
      exact h2

/-! ### what it leaves -/
def memN (n : Nat) : List Nat → Bool
  | [] => false
  | m :: l => match Nat.beq m n with
    | true => true
    | false => memN n l
def idxN (n : Nat) : List Nat → Nat
  | [] => 0
  | m :: l => match Nat.beq m n with
    | true => 0
    | false => idxN n l + 1
theorem memN_idx : ∀ {l : List Nat} {n : Nat}, memN n l = true → idxN n l < l.length ∧ l[idxN n l]? = some n
  | [], _, h => by simp [memN] at h
  | m :: l, n, h => by
    simp only [memN, idxN] at h ⊢
    cases hb : Nat.beq m n with
    | true => simp [Nat.eq_of_beq_eq_true hb]
    | false =>
      simp only [hb] at h ⊢
      obtain ⟨h1, h2⟩ := memN_idx h
      exact ⟨by simp; omega, by simpa using h2⟩
theorem memN_mem : ∀ {l : List Nat} {n : Nat}, n ∈ l → memN n l = true
  | [], _, h => by cases h
  | m :: l, n, h => by
    simp only [memN]
    cases hb : Nat.beq m n with
    | true => rfl
    | false =>
      rcases List.mem_cons.1 h with rfl | h
      · exact absurd (Nat.beq_refl _) (by rw [hb]; simp)
      · exact memN_mem h

/-- The end of a call: entries ks are new, us have turned. -/
def EndOK (X : Ctx) (ε0 : Env) (m : Nat) (ι : Nat → Nat) (lb : Blks) (r : Res) (v : Value) (w : World) : Prop :=
  ∃ (ε1 : Env) (blks : Blks) (nxt : Nat) (x : SV) (ks : List Nat) (es : List E) (us : List (Nat × E)), EnvLe ε0 ε1 ∧ RelV ε1 x v ∧ Tab X ε1 blks nxt w ∧
    r.r = mapV (fun k => idxN k ks) x ∧ inV (fun k => memN k ks) x = true ∧
    r.new = es.map (mapE fun k => idxN k ks) ∧ All2 (fun k e => m ≤ k ∧ look blks k = some e ∧ e.own = true ∧ inE (fun k => memN k ks) e) ks es ∧ ks.Nodup ∧
    r.up = us.map (fun q => (ι q.1, mapE ι q.2)) ∧ (∀ q ∈ us, q.1 < m ∧ look blks q.1 = some q.2 ∧ q.2.own = true ∧ inE (fun k => Nat.blt k m) q.2 ∧ ∃ e, look lb q.1 = some e ∧ e.own = true) ∧
    (∀ i e, look lb i = some e → e.own = true → ∃ q ∈ us, q.1 = i) ∧ (us.map (·.1)).Nodup

end Go.X
