/- Lists of operations, regions, control. -/
import Derived.Test.YtgbeiogbppaogaaX15
set_option linter.unusedVariables false
namespace Go.X

section
variable {X : Ctx} {ε : Env} {σ : Sig} {a : Act} {w : World} {o : Oper} {next : Act → World → Prop} {Q : Exit → Act → World → Prop}

theorem put_size (a : Act) (d : Option Nat) (v : Value) : (a.put d v).tmps.size = a.tmps.size := by
  cases d <;> simp [Act.put]
theorem put_defers (a : Act) (d : Option Nat) (v : Value) : (a.put d v).defers = a.defers := by
  cases d <;> rfl
theorem put_getD (a : Act) (d s : Nat) (v : Value) (hd : d < a.tmps.size) : (a.put (some d) v).tmps.getD s undef = if s = d then v else a.tmps.getD s undef := by
  simp only [Act.put, Array.getD_eq_getD_getElem?, Array.getElem?_setIfInBounds]
  by_cases h : d = s
  · subst h; simp [hd]
  · have : s ≠ d := fun e => h e.symm
    simp [h, this]

/-- The destination of an operation lies in the frame. -/
def dstB (n : Nat) (o : Oper) : Bool :=
  match o.dst with
  | none => true
  | some d => Nat.blt d n

theorem Holds.put (h : Holds X ε σ a w) {ε' : Env} {x : Value} {w' : World} {blks : Blks} {nxt : Nat} {v : SV} {s : Sig} (hd : dstB X.nt o = true) (hle : EnvLe ε ε') (hv : RelV ε' v x) (ht : Tab X ε' blks nxt w') (hs : setR σ o.dst v blks nxt = some s) :
    Holds X ε' s (a.put o.dst x) w' := by
  unfold setR at hs
  unfold dstB at hd
  cases hds : o.dst with
  | none =>
    simp only [hds, Option.some.injEq] at hs
    subst hs
    exact ⟨h.defers, h.size, fun s u hu => (h.regs s u hu).mono hle, ht⟩
  | some d =>
    simp only [hds] at hs hd
    have hd := blt_true hd
    cases hr : del σ.regs d with
    | none => simp [hr] at hs
    | some r =>
      simp only [hr, Option.some.injEq] at hs
      subst hs
      refine ⟨by rw [put_defers]; exact h.defers, by rw [put_size]; exact h.size, fun s u hu => ?_, ht⟩
      rw [put_getD _ _ _ _ (by rw [h.size]; exact hd)]
      rw [look_cons] at hu
      by_cases hs : s = d
      · rw [if_pos hs] at hu ⊢
        injection hu with hu
        subst hu
        exact hv
      · rw [if_neg hs] at hu ⊢
        rw [look_del hr, if_neg hs] at hu
        exact (h.regs s u hu).mono hle

theorem Holds.skip (h : Holds X ε σ a w) {ε' : Env} {x : Value} {w' : World} {blks : Blks} {nxt : Nat} {s : Sig} (hd : dstB X.nt o = true) (hle : EnvLe ε ε') (ht : Tab X ε' blks nxt w') (hs : delR σ o.dst blks nxt = some s) :
    Holds X ε' s (a.put o.dst x) w' := by
  unfold delR at hs
  unfold dstB at hd
  cases hds : o.dst with
  | none =>
    simp only [hds, Option.some.injEq] at hs
    subst hs
    exact ⟨h.defers, h.size, fun s u hu => (h.regs s u hu).mono hle, ht⟩
  | some d =>
    simp only [hds] at hs hd
    have hd := blt_true hd
    cases hr : del σ.regs d with
    | none => simp [hr] at hs
    | some r =>
      simp only [hr, Option.some.injEq] at hs
      subst hs
      refine ⟨by rw [put_defers]; exact h.defers, by rw [put_size]; exact h.size, fun s u hu => ?_, ht⟩
      rw [put_getD _ _ _ _ (by rw [h.size]; exact hd)]
      rw [look_del hr] at hu
      by_cases hs : s = d
      · rw [if_pos hs] at hu; cases hu
      · rw [if_neg hs] at hu ⊢
        exact (h.regs s u hu).mono hle

/-- The table without its newest entries. -/
theorem addE_look : ∀ (new : List E) (n : Nat) (b : Blks) (id : Nat), id < n → look (addE new n b).1 id = look b id
  | [], n, b, id, _ => rfl
  | e :: l, n, b, id, h => by
    simp only [addE]
    rw [addE_look l (n + 1) _ id (by omega), look_cons, if_neg (by omega)]

theorem addE_nxt : ∀ (new : List E) (n : Nat) (b : Blks), (addE new n b).2 = n + new.length
  | [], n, b => rfl
  | e :: l, n, b => by simp only [addE]; rw [addE_nxt l]; simp; omega

theorem Tab.sub {nxt : Nat} {bl bl' : Blks} (h : Tab X ε bl nxt w) (hs : ∀ i e, look bl' i = some e → look bl i = some e) : Tab X ε bl' nxt w :=
  ⟨h.nxt, fun i e he => h.ent i e (hs i e he), fun i j e f he hf => h.sep i j e f (hs i e he) (hs j f hf), h.keep, fun i e he => h.mine i e (hs i e he)⟩

/-- More places, none of them used. -/
def Env.more (ε : Env) (n : Nat) : Env := ⟨ε.n + n, ε.f⟩
theorem EnvLe.more (ε : Env) (n : Nat) : EnvLe ε (ε.more n) := ⟨Nat.le_add_right _ _, fun _ _ => rfl, fun _ _ => rfl, fun _ _ => rfl, fun _ _ => rfl⟩
theorem Tab.more {nxt : Nat} {bl : Blks} (h : Tab X ε bl nxt w) (n : Nat) : Tab X (ε.more n) bl (nxt + n) w :=
  ⟨by rw [h.nxt]; rfl, fun i e he => ⟨Nat.lt_of_lt_of_le (h.ent i e he).1 (Nat.le_add_right _ _), (h.ent i e he).2.mono (EnvLe.more ε n)⟩, h.sep, h.keep, h.mine⟩

theorem RelC.idless {ε' : Env} {c : C} {v : Value} (hi : idless c = true) (h : RelC ε c v) : RelC ε' c v := by
  cases c <;> simp [X.idless] at hi <;> exact h

theorem wanted_none (hg : o.guard = none) (f : Nat → Option Bool) : Region.wanted o f = true := by simp [Region.wanted, hg]


theorem guard_wanted (h : Holds X ε σ a w) {ops : List Oper} {j : Nat} {want g : Bool} (ho : o.guard = some (j, want)) (hg : guardB σ.regs ops j want = some g) : Region.wanted o (yielded ops.toArray a.tmps) = g := by
  unfold guardB at hg
  rw [nth_eq] at hg
  cases hj : ops[j]? with
  | none => simp [hj] at hg
  | some oj =>
    simp only [hj] at hg
    cases hd : oj.dst with
    | none => simp [hd] at hg
    | some d =>
      simp only [hd] at hg
      have hget : ∀ b, a.tmps.getD d undef = .bool b → yielded ops.toArray a.tmps j = some b := by
        intro b hb
        rw [Array.getD_eq_getD_getElem?] at hb
        cases hq : a.tmps[d]? with
        | none => rw [hq] at hb; simp [undef] at hb
        | some v =>
          rw [hq] at hb
          simp only [Option.getD_some] at hb
          subst hb
          simp [yielded, hj, hd, hq]
      have hund : a.tmps.getD d undef = undef → yielded ops.toArray a.tmps j = none := by
        intro hb
        rw [Array.getD_eq_getD_getElem?] at hb
        cases hq : a.tmps[d]? with
        | none => simp [yielded, hj, hd, hq]
        | some v =>
          rw [hq] at hb
          simp only [Option.getD_some] at hb
          subst hb
          simp [yielded, hj, hd, hq, undef]
      have hsel : ∀ b : Bool, (some b == some want) = sel b want := by
        intro b
        cases b <;> cases want <;> rfl
      unfold Region.wanted
      simp only [ho]
      split at hg
      · rename_i b hl
        simp only [Option.some.injEq] at hg
        subst hg
        have hv : a.tmps.getD d undef = .bool b := h.regs d _ hl
        rw [hget b hv]
        exact hsel b
      · rename_i c b hl
        simp only [Option.some.injEq] at hg
        subst hg
        obtain ⟨h1, h2⟩ := h.regs d _ hl
        cases c with
        | true =>
          have hv : a.tmps.getD d undef = .bool b := h1 rfl
          rw [hget b hv]
          simpa using hsel b
        | false =>
          rw [hund (h2 rfl)]
          rfl
      · cases hg

theorem exec1_sound (hX : XOk X) (h : Holds X ε σ a w) {md : Md} {ops : List Oper} {p : Prop} {s : Sig} (hk : operB o = true) (hd : dstB X.nt o = true) (hc : exec1 X.tt X.kt X.gt md ops σ o = some (p, s)) (hp : p)
    (hn : ∀ ε' a' w', EnvLe ε ε' → Holds X ε' s a' w' → next a' w') : if Region.wanted o (yielded ops.toArray a.tmps) then o.wp X.P a w next Q else next (a.put o.dst undef) w := by
  unfold exec1 at hc
  cases hg : o.guard with
  | none =>
    rw [if_pos (wanted_none hg _)]
    simp only [hg] at hc
    cases hco : core X.tt X.kt X.gt md σ o with
    | none => simp [hco] at hc
    | some q =>
      obtain ⟨q1, eff⟩ := q
      cases eff with
      | val v =>
        simp only [hco] at hc
        cases hs : setR σ o.dst v σ.blks σ.nxt with
        | none => simp [hs] at hc
        | some s' =>
          simp only [hs, Option.some.injEq, Prod.mk.injEq] at hc
          obtain ⟨rfl, rfl⟩ := hc
          exact core_sound hX h hk hco hp fun ε' x w' hf => hn ε' _ w' hf.le (h.put hd hf.le (hf.rel v rfl) hf.tab hs)
      | fresh v new =>
        simp only [hco] at hc
        cases hs : setR σ o.dst v (addE new σ.nxt σ.blks).1 (addE new σ.nxt σ.blks).2 with
        | none => simp [hs] at hc
        | some s' =>
          simp only [hs, Option.some.injEq, Prod.mk.injEq] at hc
          obtain ⟨rfl, rfl⟩ := hc
          exact core_sound hX h hk hco hp fun ε' x w' hf => hn ε' _ w' hf.le (h.put hd hf.le (hf.rel v rfl) hf.tab hs)
      | turn v bl new =>
        simp only [hco] at hc
        cases v with
        | none =>
          simp only at hc
          cases hs : delR σ o.dst (addE new σ.nxt bl).1 (addE new σ.nxt bl).2 with
          | none => simp [hs] at hc
          | some s' =>
            simp only [hs, Option.some.injEq, Prod.mk.injEq] at hc
            obtain ⟨rfl, rfl⟩ := hc
            exact core_sound hX h hk hco hp fun ε' x w' hf => hn ε' _ w' hf.le (h.skip hd hf.le hf.tab hs)
        | some v =>
          simp only at hc
          cases hs : setR σ o.dst v (addE new σ.nxt bl).1 (addE new σ.nxt bl).2 with
          | none => simp [hs] at hc
          | some s' =>
            simp only [hs, Option.some.injEq, Prod.mk.injEq] at hc
            obtain ⟨rfl, rfl⟩ := hc
            exact core_sound hX h hk hco hp fun ε' x w' hf => hn ε' _ w' hf.le (h.put hd hf.le (hf.rel v rfl) hf.tab hs)
  | some jw =>
    obtain ⟨j, want⟩ := jw
    simp only [hg] at hc
    cases hgb : guardB σ.regs ops j want with
    | none => simp [hgb] at hc
    | some g =>
      simp only [hgb] at hc
      rw [guard_wanted h hg hgb]
      split at hc
      · rename_i q1 x hco
        cases hs : setR σ o.dst (.g g x) σ.blks σ.nxt with
        | none => simp [hs] at hc
        | some s' =>
          simp only [hs, Option.some.injEq, Prod.mk.injEq] at hc
          obtain ⟨rfl, rfl⟩ := hc
          cases g with
          | true =>
            simp only [if_true]
            exact core_sound hX h hk hco (hp rfl) fun ε' y w' hf => hn ε' _ w' hf.le (h.put hd hf.le (v := .g true x) ⟨fun _ => hf.rel _ rfl, fun hh => by cases hh⟩ hf.tab hs)
          | false =>
            simp only [Bool.false_eq_true, if_false]
            exact hn ε _ w (EnvLe.refl _) (h.put hd (EnvLe.refl _) (v := .g false x) ⟨(fun hh => by cases hh), fun _ => rfl⟩ h.tab hs)
      · rename_i q1 c new hco
        cases hi : idless c with
        | false => simp [hi] at hc
        | true =>
          simp only [hi] at hc
          cases hs : setR σ o.dst (.g g (.c c)) σ.blks (addE new σ.nxt σ.blks).2 with
          | none => simp [hs] at hc
          | some s' =>
            simp only [hs, Option.some.injEq, Prod.mk.injEq] at hc
            obtain ⟨rfl, rfl⟩ := hc
            cases g with
            | true =>
              simp only [if_true]
              refine core_sound hX h hk hco (hp rfl) fun ε' y w' hf => hn ε' _ w' hf.le (h.put hd hf.le (v := .g true (.c c)) ⟨fun _ => hf.rel _ rfl, fun hh => by cases hh⟩ ?_ hs)
              refine hf.tab.sub fun i e he => ?_
              have := (h.tab.ent i e he).1
              rw [← h.tab.nxt] at this
              show look (addE new σ.nxt σ.blks).1 i = some e
              rw [addE_look _ _ _ _ this]
              exact he
            | false =>
              simp only [Bool.false_eq_true, if_false]
              refine hn (ε.more new.length) _ w (EnvLe.more _ _) (h.put hd (EnvLe.more _ _) (v := .g false (.c c)) ⟨(fun hh => by cases hh), fun _ => rfl⟩ ?_ hs)
              rw [addE_nxt]
              exact h.tab.more _
      · cases hc

/-- A list of operations. -/
def dstsB (n : Nat) : List Oper → Bool
  | [] => true
  | o :: l => match dstB n o with
    | true => dstsB n l
    | false => false
theorem dstsB_ok {n : Nat} : ∀ {l : List Oper}, dstsB n l = true → ∀ o ∈ l, dstB n o = true
  | [], _, x, hx => by simp at hx
  | y :: l, h, x, hx => by
    simp only [dstsB] at h
    cases hy : dstB n y with
    | false => simp [hy] at h
    | true =>
      simp only [hy] at h
      rcases List.mem_cons.1 hx with rfl | hx
      · exact hy
      · exact dstsB_ok h x hx

/-- What holds of each state that a signature tells. -/
def SQ (X : Ctx) (Q : Exit → Act → World → Prop) (e : Exit) (ε : Env) (σ : Sig) : Prop := ∀ ε' a w, EnvLe ε ε' → Holds X ε' σ a w → Q e a w
def SL (X : Ctx) (ops : List Oper) (Q : Exit → Act → World → Prop) (l : List Oper) (ε : Env) (σ : Sig) : Prop := ∀ ε' a w, EnvLe ε ε' → Holds X ε' σ a w → wpList X.P ops.toArray Q l a w
def SW (X : Ctx) (c : Code) (Q : Exit → Act → World → Prop) (ε : Env) (σ : Sig) : Prop := ∀ ε' a w, EnvLe ε ε' → Holds X ε' σ a w → c.wp X.P Q a w

theorem execL_sound (hX : XOk X) {md : Md} {ops : List Oper} : ∀ (l : List Oper) (σ σ' : Sig) (p0 p : Prop), opersB l = true → dstsB X.nt l = true → execL X.tt X.kt X.gt md ops l σ p0 = .done p σ' → p → (∀ ε', EnvLe ε ε' → SQ X Q .normal ε' σ') → SL X ops Q l ε σ ∧ p0
  | [], σ, σ', p0, p, _, _, h, hp, hn => by
    simp only [execL, Out.done.injEq] at h
    obtain ⟨rfl, rfl⟩ := h
    exact ⟨fun ε' a w hle hh => hn ε (EnvLe.refl _) ε' a w hle hh, hp⟩
  | o :: rest, σ, σ', p0, p, hk, hd, h, hp, hn => by
    simp only [execL] at h
    cases he : exec1 X.tt X.kt X.gt md ops σ o with
    | none => simp [he] at h
    | some q =>
      obtain ⟨q, s⟩ := q
      simp only [he] at h
      have hko := opersB_ok hk o (by simp)
      have hdo := dstsB_ok hd o (by simp)
      have hk' : opersB rest = true := by simp only [opersB, hko] at hk; exact hk
      have hd' : dstsB X.nt rest = true := by simp only [dstsB, hdo] at hd; exact hd
      obtain ⟨hrest, hp0, hq⟩ := execL_sound hX rest s σ' (p0 ∧ q) p hk' hd' h hp hn
      refine ⟨fun ε' a w hle hh => ?_, hp0⟩
      refine wpList_step fun K hK => ?_
      exact exec1_sound hX hh hko hdo he hq fun ε'' a' w' hle' hh' => hK a' w' (hrest ε'' a' w' (hle.trans hle') hh')

/-- A region in the order of its text. -/
theorem rReg (md : Md) {id : Nat} {ops : Array Oper} {σ' : Sig} {p : Prop} (hX : XOk X) (hk : opersB ops.toList = true) (hd : dstsB X.nt ops.toList = true) (he : execL X.tt X.kt X.gt md ops.toList ops.toList σ True = .done p σ') (hp : p) (hn : ∀ ε', EnvLe ε ε' → SQ X Q .normal ε' σ') : SW X (.region id ops false) Q ε σ := by
  intro ε' a w hle hh
  have := (execL_sound (ε := ε) (Q := Q) hX ops.toList σ σ' True p hk hd he hp hn).1 ε' a w hle hh
  refine wp_region_list ?_
  rwa [Array.toArray_toList] at this

theorem rSeq {x y : Code} (h : SW X x (Exit.then (y.wp X.P Q) Q) ε σ) : SW X (.seq x y) Q ε σ := fun ε' a w hle hh => wp_seq (h ε' a w hle hh)
theorem rThen {y : Code} (h : SW X y Q ε σ) : SQ X (Exit.then (y.wp X.P Q) Q) .normal ε σ := h
theorem rThenRet {N : Act → World → Prop} (h : SQ X Q .ret ε σ) : SQ X (Exit.then N Q) .ret ε σ := h
theorem rThenExit {N : Act → World → Prop} {id : Nat} (h : SQ X Q (.exit id) ε σ) : SQ X (Exit.then N Q) (.exit id) ε σ := h
theorem rSkip (h : SQ X Q .normal ε σ) : SW X .skip Q ε σ := fun ε' a w hle hh => wp_skip (h ε' a w hle hh)
theorem rLabel {l : Nat} (h : SQ X Q .normal ε σ) : SW X (.label l) Q ε σ := fun ε' a w hle hh => wp_label (h ε' a w hle hh)
theorem rRet (h : SQ X Q .ret ε σ) : SW X .ret Q ε σ := fun ε' a w hle hh => wp_ret (h ε' a w hle hh)
theorem rExit {id : Nat} (h : SQ X Q (.exit id) ε σ) : SW X (.exit id) Q ε σ := fun ε' a w hle hh => wp_exit (h ε' a w hle hh)
theorem rBlock {id : Nat} {c : Code} (h : SW X c (Exit.inBlock id Q) ε σ) : SW X (.block id c) Q ε σ := fun ε' a w hle hh => wp_block (h ε' a w hle hh)
theorem rInNormal {id : Nat} (h : SQ X Q .normal ε σ) : SQ X (Exit.inBlock id Q) .normal ε σ := h
theorem rInRet {id : Nat} (h : SQ X Q .ret ε σ) : SQ X (Exit.inBlock id Q) .ret ε σ := h
theorem rInHit {id : Nat} (h : SQ X Q .normal ε σ) : SQ X (Exit.inBlock id Q) (.exit id) ε σ := fun ε' a w hle hh => by
  simp only [Exit.inBlock, if_true]
  exact h ε' a w hle hh
theorem rInMiss {id id' : Nat} (hne : Nat.beq id' id = false) (h : SQ X Q (.exit id') ε σ) : SQ X (Exit.inBlock id Q) (.exit id') ε σ := fun ε' a w hle hh => by
  have : id' ≠ id := fun e => by subst e; rw [Nat.beq_refl] at hne; cases hne
  simp only [Exit.inBlock, if_neg this]
  exact h ε' a w hle hh

/-- A test: its value in the registers. -/
def condB (regs : Regs) (c : Operand) : Option (Prop × Bool) :=
  match evC regs c with
  | some (p, .bool b) => some (p, b)
  | _ => none

theorem rCond {c : Operand} {x y : Code} {p : Prop} {b : Bool} (hk : constB c = true) (hc : condB σ.regs c = some (p, b)) (hp : p) (ht : b = true → SW X x Q ε σ) (hf : b = false → SW X y Q ε σ) : SW X (.cond c x y) Q ε σ := fun ε' a w hle hh => by
  unfold condB at hc
  split at hc
  · rename_i q b' he
    simp only [Option.some.injEq, Prod.mk.injEq] at hc
    obtain ⟨rfl, rfl⟩ := hc
    have hb : a.eval c = .bool b' := evC_rel hh he (constB_ok hk) hp
    exact wp_cond_split hb (fun h => ht h ε' a w hle hh) (fun h => hf h ε' a w hle hh)
  · cases hc
end

end Go.X
