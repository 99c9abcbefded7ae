/- From a function's text to its model: a computation in Option whose success tells what the text does. -/
import Derived.Test.YtbcgkdigfkapcaaDoorL5
set_option linter.unusedVariables false
namespace Go.X

/-! ### computations -/
/-- A loop: rounds until one ends it. -/
def iter {S O : Type} (body : S → Option (S ⊕ O)) : Nat → S → Option O
  | 0, _ => none
  | n + 1, s => match body s with
    | none => none
    | some (.inl s') => iter body n s'
    | some (.inr o) => some o

theorem iter_succ {S O : Type} {body : S → Option (S ⊕ O)} {n : Nat} {s : S} {o : O} (h : iter body n s = some o) : ∃ m z, n = m + 1 ∧ body s = some z ∧ (∀ s', z = .inl s' → iter body m s' = some o) ∧ ∀ o', z = .inr o' → o' = o := by
  cases n with
  | zero => cases h
  | succ m =>
    simp only [iter] at h
    cases hb : body s with
    | none => simp [hb] at h
    | some z =>
      refine ⟨m, z, rfl, rfl, fun s' hz => ?_, fun o' hz => ?_⟩
      · subst hz; simpa [hb] using h
      · subst hz; simpa [hb] using h

/-- Two ways that go on alike. -/
def joinK {α R : Type} (K : α → Option R) (F : (α → Option R) → Option R) : Option R := F K
theorem sIf {p : Prop} [Decidable p] {α : Type} {T : Option α} {r : α} (h : (if p then T else none) = some r) : p ∧ T = some r := by
  by_cases hp : p
  · rw [if_pos hp] at h; exact ⟨hp, h⟩
  · rw [if_neg hp] at h; cases h
theorem sT {b : Bool} (hb : b = true) {α : Type} {T E : Option α} {r : α} (h : (bif b then T else E) = some r) : T = some r := by rw [hb] at h; exact h
theorem sF {b : Bool} (hb : b = false) {α : Type} {T E : Option α} {r : α} (h : (bif b then T else E) = some r) : E = some r := by rw [hb] at h; exact h
theorem cTr {α : Type} {b : Bool} {x y : α} (h : b = true) : x = bif b then x else y := by rw [h]; rfl
theorem cFr {α : Type} {b : Bool} {x y : α} (h : b = false) : y = bif b then x else y := by rw [h]; rfl
theorem isSome_of {α : Type} {o : Option α} {x : α} (h : o = some x) : o.isSome = true := by rw [h]; rfl
theorem sBind {α β : Type} {m : Option α} {k : α → Option β} {r : β} (h : m.bind k = some r) : ∃ v, m = some v ∧ k v = some r := by
  cases m with
  | none => cases h
  | some v => exact ⟨v, rfl, h⟩

theorem sElimL {α β γ : Type} {f : α → Option γ} {g : β → Option γ} {v : α} {r : γ} (h : Sum.elim f g (.inl v) = some r) : f v = some r := h
theorem sElimR {α β γ : Type} {f : α → Option γ} {g : β → Option γ} {v : β} {r : γ} (h : Sum.elim f g (.inr v) = some r) : g v = some r := h
instance (k : IntKind) (n : Int) : Decidable (inK k n) := by cases k <;> (unfold inK; infer_instance)

/-! ### what one signature says the other says too, but for the numbers of places -/
def leC : C → C → Prop
  | .int k a, .int k' b => match kEq k k' with
    | some _ => a = b
    | none => False
  | .bool a, .bool b => a = b
  | .str a, .str b => a = b
  | .val (.slice none 0 0), .fz e xs => xs = []
  | .fz e xs, .fz e' ys => match castL e e' xs with
    | some zs => zs = ys
    | none => False
  | .sl i a l z, .sl i' a' l' z' => i = i' ∧ a = a' ∧ l = l' ∧ z = z'
  | c, c' => c = c'
def leCs : List C → List C → Prop
  | [], [] => True
  | c :: l, c' :: l' => leC c c' ∧ leCs l l'
  | _, _ => False
def leS : S0 → S0 → Prop
  | .ints n k xs, .ints m k' ys => match kEq k k' with
    | some _ => n = m ∧ xs = ys
    | none => False
  | .cs l, .cs l' => leCs l l'
  | .fzs n e xs, .fzs m e' ys => match castLL e e' xs with
    | some zs => n = m ∧ zs = ys
    | none => False
  | _, _ => False
def leL : List S0 → List S0 → Prop
  | [], [] => True
  | s :: l, s' :: l' => leS s s' ∧ leL l l'
  | _, _ => False
def le1 : V1 → V1 → Prop
  | .c a, .c b => leC a b
  | .agg a, .agg b => leL a b
  | _, _ => False
def le1s : List V1 → List V1 → Prop
  | [], [] => True
  | s :: l, s' :: l' => le1 s s' ∧ le1s l l'
  | _, _ => False
def leV : SV → SV → Prop
  | .v a, .v b => le1 a b
  | .tup a, .tup b => le1s a b
  | a, b => a = b
def leB : Body → Body → Prop
  | .flat a, .flat b => leL a b
  | .lst e xs, .lst e' ys => match castL e e' xs with
    | some zs => zs = ys
    | none => False
  | a, b => a = b
def leE : E → E → Prop
  | .mem o ty tl b, .mem o' ty' tl' b' => (o = o' ∧ ty = ty' ∧ tl = tl') ∧ leB b b'
  | .obj k b, .obj k' b' => k = k' ∧ b = b'
  | a, b => a = b

theorem leC_ok {ε : Env} {c c' : C} {v : Value} (h : leC c c') (hc : RelC ε c v) : RelC ε c' v := by
  unfold leC at h
  split at h
  · split at h
    · rename_i hk _
      have hk := hk.down
      subst hk h
      exact hc
    · exact h.elim
  · subst h; exact hc
  · subst h; exact hc
  · subst h
    obtain ⟨rfl, _⟩ := hc
    exact SlZ.nil
  · split at h
    · rename_i hz
      obtain ⟨rfl, rfl⟩ := castL_some hz
      subst h
      exact hc
    · exact h.elim
  · obtain ⟨rfl, rfl, rfl, rfl⟩ := h; exact hc
  · subst h; exact hc
theorem leCs_ok {ε : Env} : ∀ {l l' : List C} {vs : List Value}, leCs l l' → All2 (RelC ε) l vs → All2 (RelC ε) l' vs
  | [], [], _, _, h => h
  | [], _ :: _, _, h, _ => h.elim
  | _ :: _, [], _, h, _ => h.elim
  | _ :: _, _ :: _, [], _, hv => absurd hv (by simp [All2])
  | _ :: _, _ :: _, _ :: _, h, hv => ⟨leC_ok h.1 hv.1, leCs_ok h.2 hv.2⟩
theorem leS_ok {ε : Env} {s s' : S0} {vs : List Value} (h : leS s s') (hc : RelS ε s vs) : RelS ε s' vs := by
  unfold leS at h
  split at h
  · split at h
    · rename_i hk _
      have hk := hk.down
      obtain ⟨rfl, rfl⟩ := h
      subst hk
      exact hc
    · exact h.elim
  · exact leCs_ok h hc
  · split at h
    · rename_i hz
      obtain ⟨rfl, rfl⟩ := castLL_some hz
      obtain ⟨rfl, rfl⟩ := h
      exact hc
    · exact h.elim
  · exact h.elim
theorem leL_ok {ε : Env} : ∀ {l l' : List S0} {vs : List Value}, leL l l' → RelL ε l vs → RelL ε l' vs
  | [], [], _, _, h => h
  | [], _ :: _, _, h, _ => h.elim
  | _ :: _, [], _, h, _ => h.elim
  | _ :: _, _ :: _, _, h, ⟨v1, v2, e, h1, h2⟩ => ⟨v1, v2, e, leS_ok h.1 h1, leL_ok h.2 h2⟩
theorem le1_ok {ε : Env} {x y : V1} {v : Value} (h : le1 x y) (hc : Rel1 ε x v) : Rel1 ε y v := by
  unfold le1 at h
  split at h
  · exact leC_ok h hc
  · obtain ⟨vs, e, hv⟩ := hc; exact ⟨vs, e, leL_ok h hv⟩
  · exact h.elim
theorem le1s_ok {ε : Env} : ∀ {l l' : List V1} {vs : List Value}, le1s l l' → All2 (Rel1 ε) l vs → All2 (Rel1 ε) l' vs
  | [], [], _, _, h => h
  | [], _ :: _, _, h, _ => h.elim
  | _ :: _, [], _, h, _ => h.elim
  | _ :: _, _ :: _, [], _, hv => absurd hv (by simp [All2])
  | _ :: _, _ :: _, _ :: _, h, hv => ⟨le1_ok h.1 hv.1, le1s_ok h.2 hv.2⟩
theorem leV_ok {v v' : SV} (h : leV v v') : SVle v v' := by
  intro ε x hv
  unfold leV at h
  split at h
  · exact le1_ok h hv
  · obtain ⟨vs, e, hv⟩ := hv; exact ⟨vs, e, le1s_ok h hv⟩
  · subst h; exact hv
theorem leB_ok {ε : Env} {b b' : Body} {vs : List Value} (h : leB b b') (hc : RelB ε b vs) : RelB ε b' vs := by
  unfold leB at h
  split at h
  · exact leL_ok h hc
  · split at h
    · rename_i hz
      obtain ⟨rfl, rfl⟩ := castL_some hz
      subst h
      exact hc
    · exact h.elim
  · subst h; exact hc
theorem leE_ok {e e' : E} (h : leE e e') : Ele e e' := by
  unfold leE at h
  split at h
  · obtain ⟨⟨rfl, rfl, rfl⟩, h⟩ := h
    refine ⟨rfl, fun L => rfl, fun ε w L hr => ⟨fun hn => ⟨leB_ok h (hr.1 hn).1, (hr.1 hn).2⟩, fun hn => ?_⟩⟩
    obtain ⟨vs, junk, hb, h1⟩ := hr.2 hn
    exact ⟨vs, junk, leB_ok h hb, h1⟩
  · obtain ⟨rfl, rfl⟩ := h; exact Ele.refl _
  · subst h; exact Ele.refl _

def leR (ρ : Nat → Nat) (r : Regs) : Regs → Prop
  | [] => True
  | (s, v') :: t => (match look r s with
    | some v => leV v (mapV ρ v')
    | none => False) ∧ leR ρ r t
def leBl (ρ : Nat → Nat) (n : Nat) (r : Blks) : Blks → Prop
  | [] => True
  | (s, v') :: t => ((match look r (ρ s) with
    | some v => leE v (mapE ρ v')
    | none => False) ∧ (Nat.blt s n = true ∧ inE (fun k => Nat.blt k n) v')) ∧ leBl ρ n r t
theorem leR_ok {ρ : Nat → Nat} {r : Regs} : ∀ {t : Regs}, leR ρ r t → RLe r (t.map fun q => (q.1, mapV ρ q.2))
  | [], _ => trivial
  | (s, v') :: t, h => by
    refine ⟨?_, leR_ok h.2⟩
    have h1 := h.1
    show match Go.X.look r s with | some v => SVle v (mapV ρ v') | none => False
    cases hl : Go.X.look r s with
    | none => simp only [hl] at h1
    | some v => simp only [hl] at h1; exact leV_ok h1
theorem leBl_ok {ρ : Nat → Nat} {n : Nat} {r : Blks} : ∀ {t : Blks}, leBl ρ n r t → BLe r (t.map fun q => (ρ q.1, mapE ρ q.2)) ∧ inBlks (fun k => Nat.blt k n) t
  | [], _ => ⟨trivial, trivial⟩
  | (s, v') :: t, h => by
    obtain ⟨h0, h2⟩ := h
    obtain ⟨h1, h3⟩ := h0
    refine ⟨⟨?_, (leBl_ok h2).1⟩, ⟨h3.1, h3.2⟩, (leBl_ok h2).2⟩
    show match Go.X.look r (ρ s) with | some v => Ele v (mapE ρ v') | none => False
    cases hl : Go.X.look r (ρ s) with
    | none => simp only [hl] at h1
    | some v => simp only [hl] at h1; exact leE_ok h1

/-- The places of the one, as the other has them. -/
def rn (l : List Nat) (i : Nat) : Nat := match nth l i with
  | some j => j
  | none => i
/-- One signature goes into another one. -/
structure To (ε : Env) (σ T : Sig) : Prop where
  ex : ∃ (ρ : Nat → Nat) (m0 : Nat), ε.n ≤ m0 ∧ ε.n ≤ T.nxt ∧ idsOK ρ m0 σ.nxt T.nxt = true ∧ keysOK ρ (T.blks.map (·.1)) = true ∧ inRegs (fun k => Nat.blt k T.nxt) T.regs = true ∧ leR ρ σ.regs T.regs ∧ leBl ρ T.nxt σ.blks T.blks

section
variable {X : Ctx} {ε : Env} {σ : Sig} {Q : Exit → Act → World → Prop}

theorem To.mk' (l : List Nat) (m0 : Nat) {T : Sig} (h0 : ε.n ≤ m0) (h1 : (Nat.ble m0 T.nxt && idsOK (rn l) m0 σ.nxt T.nxt && keysOK (rn l) (T.blks.map (·.1)) && inRegs (fun k => Nat.blt k T.nxt) T.regs) = true) (h2 : leR (rn l) σ.regs T.regs) (h3 : leBl (rn l) T.nxt σ.blks T.blks) : To ε σ T := by
  simp only [Bool.and_eq_true] at h1
  exact ⟨rn l, m0, h0, Nat.le_trans h0 (Nat.le_of_ble_eq_true h1.1.1.1), h1.1.1.2, h1.1.2, h1.2, h2, h3⟩

theorem To.holds {T : Sig} (h : To ε σ T) {ε' : Env} {a : Act} {w : World} (hle : EnvLe ε ε') (hh : Holds X ε' σ a w) : ∃ ε'', EnvLe ε ε'' ∧ Holds X ε'' T a w := by
  obtain ⟨ρ, m0, hm0, hN, hids, hk, hri, hr, hb⟩ := h.ex
  obtain ⟨hb, hbi⟩ := leBl_ok hb
  have h1 : Holds X ε' ⟨T.regs.map (fun q => (q.1, mapV ρ q.2)), T.blks.map (fun q => (ρ q.1, mapE ρ q.2)), σ.nxt⟩ a w := hh.le ⟨leR_ok hr, hb, rfl⟩
  have hid := idsOK_ok hids
  have key : ∀ i, i < ε.n → ρ i = i := fun i hi => (hid i (by omega)).1 (by omega)
  exact ⟨⟨T.nxt, fun i => ε'.f (ρ i), ε'.z⟩, ⟨hN, fun i hi => by show (ε'.f (ρ i)).blk = _; rw [key i hi]; exact hle.blk i hi, fun i hi => by show (ε'.f (ρ i)).off = _; rw [key i hi]; exact hle.off i hi,
    fun i hi => by show (ε'.f (ρ i)).cap = _; rw [key i hi]; exact hle.cap i hi, fun i hi => by show (ε'.f (ρ i)).isnil = _; rw [key i hi]; exact hle.nil i hi, hle.z⟩,
    Holds.rename ρ h1 (fun i hi => (hid i hi).2) hk hri hbi⟩
theorem rTo {T : Sig} {e : Exit} (h : To ε σ T) (k : SQ X Q e ε T) : SQ X Q e ε σ := fun ε' a w hle hh => by
  obtain ⟨ε'', h1, h2⟩ := h.holds hle hh
  exact k ε'' a w h1 h2
theorem rToW {T : Sig} {c : Code} (h : To ε σ T) (k : SW X c Q ε T) : SW X c Q ε σ := fun ε' a w hle hh => by
  obtain ⟨ε'', h1, h2⟩ := h.holds hle hh
  exact k ε'' a w h1 h2

/-! ### joins and loops -/
theorem rJoin (S : Sig) {c : Code} (hj : SQ X Q .normal ε S) (h : SQ X Q .normal ε S → SW X c Q ε σ) : SW X c Q ε σ := h hj
theorem rJoinA {α : Type} (P : α → Prop) (S : α → Sig) (e : Exit) {c : Code} (hj : ∀ v, P v → SQ X Q e ε (S v)) (h : (∀ v, P v → SQ X Q e ε (S v)) → SW X c Q ε σ) : SW X c Q ε σ := h hj

theorem rJoinK {α R : Type} {K : α → Option R} {F : (α → Option R) → Option R} {x : R} (hT : joinK K F = some x) (S : α → Sig) {c : Code} (hj : ∀ v, K v = some x → SQ X Q .normal ε (S v)) (h : ∀ k : α → Option R, (∀ v, k v = some x → SQ X Q .normal ε (S v)) → F k = some x → SW X c Q ε σ) : SW X c Q ε σ := h K hj hT
theorem rLoopM {S O : Type} {c : Code} (body : S → Option (S ⊕ O)) (I : S → Sig) {N : Nat} {s0 : S} {o : O} (hl : iter body N s0 = some o) (h0 : To ε σ (I s0))
    (round : ∀ s z (N : Act → World → Prop), body s = some z → (∀ s', z = .inl s' → ∀ σ', To ε σ' (I s') → SQ X (Exit.then N Q) .normal ε σ') → (∀ o', z = .inr o' → o' = o) → SW X c (Exit.then N Q) ε (I s)) : SW X (.loop c) Q ε σ := by
  intro ε0 a w hle hh
  obtain ⟨ε1, g1, g2⟩ := h0.holds hle hh
  refine wp_loop_ghost (fun n a w => ∃ q : {q : Nat × S // iter body q.1 q.2 = some o}, ∃ ε', q.1.1 = n ∧ EnvLe ε ε' ∧ Holds X ε' (I q.1.2) a w) N ⟨⟨(N, s0), hl⟩, ε1, rfl, g1, g2⟩ ?_
  rintro n a w ⟨⟨⟨n, s⟩, hq⟩, ε', rfl, hle', hh'⟩
  obtain ⟨m, z, rfl, hz, h1, h2⟩ := iter_succ hq
  refine wp_mono (round s z (fun a' w' => ∃ q : {q : Nat × S // iter body q.1 q.2 = some o}, ∃ ε'', q.1.1 < m + 1 ∧ EnvLe ε ε'' ∧ Holds X ε'' (I q.1.2) a' w') hz (fun s' hs' σ' ht => ?_) h2 ε' a w hle' hh') ?_
  · intro ε' a w hle hh
    obtain ⟨ε'', g1, g2⟩ := ht.holds hle hh
    exact ⟨⟨(m, s'), h1 s' hs'⟩, ε'', Nat.lt_succ_self m, g1, g2⟩
  · intro e a' w' hq'
    cases e with
    | normal =>
      obtain ⟨q, ε'', hlt, hle'', hj⟩ := hq'
      exact ⟨q.1.1, hlt, q, ε'', rfl, hle'', hj⟩
    | _ => exact hq'
end

/-! ### begin and end of a function -/
def roAll : Blks → Bool
  | [] => true
  | (_, e) :: t => !e.own && roAll t
theorem roAll_ok : ∀ {lb : Blks}, roAll lb = true → ∀ i e, look lb i = some e → e.own = false
  | [], _, i, e, h => by cases h
  | (k, x) :: t, hr, i, e, h => by
    simp only [roAll, Bool.and_eq_true, Bool.not_eq_true'] at hr
    rw [look_cons] at h
    split at h
    · injection h with h; rw [← h]; exact hr.1
    · exact roAll_ok hr.2 i e h

/-- What is handed in: each entry lies in the caller's table, or says less than what lies there. -/
def HandOK (lk : Nat → Option E) (ids : List Nat) (m : Nat) : Blks → Prop
  | [] => True
  | (i, e) :: t => (Nat.blt i m = true ∧ inE (fun k => Nat.blt k m) e ∧ ∃ e0, lk (rn ids i) = some e0 ∧ Sub e0 (mapE (rn ids) e)) ∧ HandOK lk ids m t
theorem HandOK.at {lk : Nat → Option E} {ids : List Nat} {m : Nat} : ∀ {lb : Blks}, HandOK lk ids m lb → ∀ i e, look lb i = some e → i < m ∧ inE (fun k => Nat.blt k m) e ∧ ∃ e0, lk (rn ids i) = some e0 ∧ Sub e0 (mapE (rn ids) e)
  | [], _, i, e, h => by cases h
  | (k, x) :: t, ⟨hr, ht⟩, i, e, h => by
    rw [look_cons] at h
    split at h
    · rename_i hk
      injection h with h
      subst h hk
      exact ⟨blt_true hr.1, hr.2⟩
    · exact ht.at i e h
def defd (lk : Nat → Option E) (ids : List Nat) : Nat → Prop
  | 0 => True
  | n + 1 => (lk (rn ids n)).isSome = true ∧ defd lk ids n
theorem defd_at {lk : Nat → Option E} {ids : List Nat} : ∀ {n : Nat}, defd lk ids n → ∀ i, i < n → (lk (rn ids i)).isSome = true
  | 0, _, i, h => by omega
  | n + 1, ⟨h1, h2⟩, i, h => by
    by_cases e : i = n
    · rw [e]; exact h1
    · exact defd_at h2 i (by omega)
/-- Two own places are not the same. -/
def apartB (ids : List Nat) (lb : Blks) : Bool := allB (fun p => allB (fun q => Nat.beq p.1 q.1 || (!p.2.own || !Nat.beq (rn ids p.1) (rn ids q.1))) lb) lb
theorem look_memE {lb : Blks} {i : Nat} {e : E} (h : look lb i = some e) : (i, e) ∈ lb := look_mem h
theorem apartB_ok {ids : List Nat} {lb : Blks} (h : apartB ids lb = true) (i j : Nat) (e e' : E) (hi : look lb i = some e) (hj : look lb j = some e') (hne : i ≠ j) (ho : e.own = true) : rn ids i ≠ rn ids j := by
  have := allB_mem (allB_mem h _ (look_memE hi)) _ (look_memE hj)
  simp only [Bool.or_eq_true, Bool.not_eq_true'] at this
  rcases this with h | h | h
  · exact absurd (Nat.eq_of_beq_eq_true h) hne
  · rw [ho] at h; cases h
  · intro he; rw [he, Nat.beq_refl] at h; cases h

section
variable {P : Program} {gt : GT} {fn : Func} {c : Code} {tt : TT} {kt : KT} {args : List SV} {lk : Nat → Option E} {r : Res}
theorem handL (ids : List Nat) (m : Nat) (lb : Blks) (largs : List SV) (ha : args = largs.map (mapV (rn ids))) (h1 : allB (inV fun k => Nat.blt k m) largs = true) (h2 : Nat.ble largs.length fn.ntmps = true)
    (hd : defd lk ids m) (hl : HandOK lk ids m lb) (hap : apartB ids lb = true)
    (h : ∀ w0 M ε0, XOk ⟨P, tt, kt, gt, w0, M, fn.ntmps, ε0.z⟩ → SW ⟨P, tt, kt, gt, w0, M, fn.ntmps, ε0.z⟩ c (Post ⟨P, tt, kt, gt, w0, M, fn.ntmps, ε0.z⟩ fn ε0 m (rn ids) lb r) ε0 ⟨argRegs 0 largs, lb, m⟩) : Handed P gt fn c tt kt args lk r :=
  ⟨m, rn ids, largs, lb, ha, h1, Nat.le_of_ble_eq_true h2, defd_at hd, hl.at, apartB_ok hap, h⟩
end

section
variable {X : Ctx} {ε : Env} {σ : Sig} {fn : Func} {m : Nat} {ι : Nat → Nat} {lb : Blks} {r : Res}
/-- Nothing new, nothing turned. -/
theorem rEnd0 (hX : XOk X) {p : Prop} {xs : List V1} (hr : resAll X.tt σ fn.results.toList = some (p, xs)) (hp : p) (hv : leV (retV xs) r.r) (hr' : mapV (fun k => idxN k []) r.r = r.r) (hin : inV (fun k => memN k []) r.r = true) (hn : r.new = []) (hu : r.up = []) (hlb : roAll lb = true) : SQ X (Post X fn ε m ι lb r) .ret ε σ :=
  (post_end hX hr hp (EnvLe.refl _) fun v w ε' hle' hrel hT => endOK_plain (x := r.r) hle' (leV_ok hv _ _ hrel) hT hr'.symm hin hn hu (roAll_ok hlb)).1

def NewOK (m : Nat) (blks : Blks) (ks : List Nat) : List Nat → List E → Prop
  | [], [] => True
  | k :: l, e :: t => (Nat.ble m k = true ∧ (∃ e0, look blks k = some e0 ∧ leE e0 e ∧ e0.own = true ∧ e.own = true) ∧ inE (fun k => memN k ks) e) ∧ NewOK m blks ks l t
  | _, _ => False
def UpOK (m : Nat) (blks lb : Blks) : List (Nat × E) → Prop
  | [] => True
  | (i, e) :: t => (Nat.blt i m = true ∧ look blks i = some e ∧ e.own = true ∧ inE (fun k => Nat.blt k m) e ∧ ∃ e0, look lb i = some e0 ∧ e0.own = true) ∧ UpOK m blks lb t
theorem UpOK.at {m : Nat} {blks lb : Blks} : ∀ {us : List (Nat × E)}, UpOK m blks lb us → ∀ q ∈ us, q.1 < m ∧ look blks q.1 = some q.2 ∧ q.2.own = true ∧ inE (fun k => Nat.blt k m) q.2 ∧ ∃ e, look lb q.1 = some e ∧ e.own = true
  | [], _, q, h => by cases h
  | (i, e) :: t, ⟨h1, h2⟩, q, h => by
    rcases List.mem_cons.1 h with rfl | h
    · exact ⟨blt_true h1.1, h1.2⟩
    · exact h2.at q h
/-- All own entries that were handed in are told. -/
def ownIn (us : List Nat) : Blks → Bool
  | [] => true
  | (i, e) :: t => (!e.own || memN i us) && ownIn us t
theorem ownIn_ok {us : List (Nat × E)} : ∀ {lb : Blks}, ownIn (us.map (·.1)) lb = true → ∀ i e, look lb i = some e → e.own = true → ∃ q ∈ us, q.1 = i
  | [], _, i, e, h, _ => by cases h
  | (k, x) :: t, hr, i, e, h, ho => by
    simp only [ownIn, Bool.and_eq_true, Bool.or_eq_true, Bool.not_eq_true'] at hr
    rw [look_cons] at h
    split at h
    · rename_i hk
      injection h with h
      subst h hk
      rcases hr.1 with g | g
      · rw [ho] at g; cases g
      · have := (memN_idx g).2
        obtain ⟨q, hq, he⟩ := List.mem_map.1 (List.mem_of_getElem? this)
        exact ⟨q, hq, he⟩
    · exact ownIn_ok hr.2 i e h ho
theorem NewOK.tab {X : Ctx} {ε : Env} {m : Nat} {blks : Blks} {ks : List Nat} : ∀ {l : List Nat} {es : List E}, NewOK m blks ks l es → All2 (fun k e => m ≤ k ∧ (∃ e0, look blks k = some e0 ∧ leE e0 e ∧ e0.own = true ∧ e.own = true) ∧ inE (fun k => memN k ks) e) l es
  | [], [], _ => trivial
  | [], _ :: _, h => h.elim
  | _ :: _, [], h => h.elim
  | k :: l, e :: t, ⟨⟨h1, h2, h3⟩, h4⟩ => ⟨⟨Nat.le_of_ble_eq_true h1, h2, h3⟩, NewOK.tab (X := X) (ε := ε) h4⟩
end
end Go.X
