/- Regions with a guarded operation that the executor does not take under its guard: the guard's truth is split on. -/
import Derived.Test.YtgbeiogbppaogaaX29
set_option linter.unusedVariables false
namespace Go.X

def execKL (tt : TT) (kt : KT) (gt : GT) (md : Md) (ops l : List Oper) (σ : Sig) : Out :=
  match execL tt kt gt md ops l σ True with
  | .done p σ' => clean σ' fun s => .done p s
  | .stop p σ' r => clean σ' fun s => .stop p s r
theorem execKL_eq (tt : TT) (kt : KT) (gt : GT) (md : Md) (ops l : List Oper) (σ : Sig) : execKL tt kt gt md ops l σ = execL tt kt gt md ops l σ True := by
  unfold execKL
  split <;> simp_all only [clean_eq]

/-- The operation as if it had no guard. -/
def bare (o : Oper) : Oper := { o with guard := none }
def exec1K (tt : TT) (kt : KT) (gt : GT) (md : Md) (ops : List Oper) (σ : Sig) (o : Oper) : Option (Prop × Sig) :=
  match exec1 tt kt gt md ops σ (bare o) with
  | some (p, s) => clean s fun s' => some (p, s')
  | none => none
theorem exec1K_eq (tt : TT) (kt : KT) (gt : GT) (md : Md) (ops : List Oper) (σ : Sig) (o : Oper) : exec1K tt kt gt md ops σ o = exec1 tt kt gt md ops σ (bare o) := by
  unfold exec1K
  split <;> simp_all only [clean_eq]

section
variable {X : Ctx} {ε : Env} {σ : Sig} {a : Act} {w : World} {o : Oper} {next : Act → World → Prop} {Q : Exit → Act → World → Prop}

theorem exec0_sound (hX : XOk X) (h : Holds X ε σ a w) {md : Md} {ops : List Oper} {p : Prop} {s : Sig} (hk : operB o = true) (hd : dstB X.nt o = true) (hc : exec1 X.tt X.kt X.gt md ops σ (bare o) = some (p, s)) (hp : p)
    (hn : ∀ ε' a' w', EnvLe ε ε' → Holds X ε' s a' w' → next a' w') : o.wp X.P a w next Q := by
  unfold exec1 at hc
  have hcore : core X.tt X.kt X.gt md σ (bare o) = core X.tt X.kt X.gt md σ o := rfl
  have hdst : (bare o).dst = o.dst := rfl
  simp only [show (bare o).guard = none from rfl, hcore, hdst] at hc
  cases hco : core X.tt X.kt X.gt md σ o with
  | none => simp [hco] at hc
  | some q =>
    obtain ⟨q1, eff⟩ := q
    cases eff with
    | val v =>
      simp only [hco] at hc
      cases hs : setR σ o.dst v σ.blks σ.nxt with
      | none => simp [hs] at hc
      | some s' =>
        simp only [hs, Option.some.injEq, Prod.mk.injEq] at hc
        obtain ⟨rfl, rfl⟩ := hc
        exact core_sound hX h hk hco hp fun ε' x w' hf => hn ε' _ w' hf.le (h.put hd hf.le (hf.rel v rfl) hf.tab hs)
    | fresh v new =>
      simp only [hco] at hc
      cases hs : setR σ o.dst v (addE new σ.nxt σ.blks).1 (addE new σ.nxt σ.blks).2 with
      | none => simp [hs] at hc
      | some s' =>
        simp only [hs, Option.some.injEq, Prod.mk.injEq] at hc
        obtain ⟨rfl, rfl⟩ := hc
        exact core_sound hX h hk hco hp fun ε' x w' hf => hn ε' _ w' hf.le (h.put hd hf.le (hf.rel v rfl) hf.tab hs)
    | turn v bl new =>
      simp only [hco] at hc
      cases v with
      | none =>
        simp only at hc
        cases hs : delR σ o.dst (addE new σ.nxt bl).1 (addE new σ.nxt bl).2 with
        | none => simp [hs] at hc
        | some s' =>
          simp only [hs, Option.some.injEq, Prod.mk.injEq] at hc
          obtain ⟨rfl, rfl⟩ := hc
          exact core_sound hX h hk hco hp fun ε' x w' hf => hn ε' _ w' hf.le (h.skip hd hf.le hf.tab hs)
      | some v =>
        simp only at hc
        cases hs : setR σ o.dst v (addE new σ.nxt bl).1 (addE new σ.nxt bl).2 with
        | none => simp [hs] at hc
        | some s' =>
          simp only [hs, Option.some.injEq, Prod.mk.injEq] at hc
          obtain ⟨rfl, rfl⟩ := hc
          exact core_sound hX h hk hco hp fun ε' x w' hf => hn ε' _ w' hf.le (h.put hd hf.le (hf.rel v rfl) hf.tab hs)

theorem rRegSL {id : Nat} {ops : Array Oper} (h : SL X ops.toList Q ops.toList ε σ) : SW X (.region id ops false) Q ε σ := fun ε' a w hle hh => by
  have := h ε' a w hle hh
  refine wp_region_list ?_
  rwa [Array.toArray_toList] at this

theorem rSLDone (md : Md) {ops l : List Oper} {σ' : Sig} {p : Prop} (hX : XOk X) (hk : opersB l = true) (hd : dstsB X.nt l = true) (he : execKL X.tt X.kt X.gt md ops l σ = .done p σ') (hp : p) (hn : SQ X Q .normal ε σ') : SL X ops Q l ε σ := by
  rw [execKL_eq] at he
  exact (execL_sound hX l σ σ' True p hk hd he hp fun ε' hle ε'' a w hle' hh => hn ε'' a w (hle.trans hle') hh).1

theorem execL_upto (hX : XOk X) {md : Md} {ops : List Oper} : ∀ (l r : List Oper) (σ σ' : Sig) (p0 p : Prop), opersB l = true → dstsB X.nt l = true → execL X.tt X.kt X.gt md ops l σ p0 = .stop p σ' r → p → (opersB r = true → dstsB X.nt r = true → SL X ops Q r ε σ') → SL X ops Q l ε σ ∧ p0
  | [], r, σ, σ', p0, p, _, _, h, hp, hn => by simp [execL] at h
  | o :: rest, r, σ, σ', p0, p, hk, hd, h, hp, hn => by
    simp only [execL] at h
    cases he : exec1 X.tt X.kt X.gt md ops σ o with
    | none =>
      simp only [he, Out.stop.injEq] at h
      obtain ⟨rfl, rfl, rfl⟩ := h
      exact ⟨hn hk hd, hp⟩
    | some q =>
      obtain ⟨q, s⟩ := q
      simp only [he] at h
      have hko := opersB_ok hk o (by simp)
      have hdo := dstsB_ok hd o (by simp)
      have hk' : opersB rest = true := by simp only [opersB, hko] at hk; exact hk
      have hd' : dstsB X.nt rest = true := by simp only [dstsB, hdo] at hd; exact hd
      obtain ⟨hrest, hp0, hq⟩ := execL_upto hX rest r s σ' (p0 ∧ q) p hk' hd' h hp hn
      refine ⟨fun ε' a w hle hh => ?_, hp0⟩
      refine wpList_step fun K hK => ?_
      exact exec1_sound hX hh hko hdo he hq fun ε'' a' w' hle' hh' => hK a' w' (hrest ε'' a' w' (hle.trans hle') hh')

/-- Up to a guarded operation; then with it, or without. -/
theorem rSLG (md : Md) {ops l rest : List Oper} {o : Oper} {σ' s0 s1 : Sig} {p q : Prop} {j : Nat} {want g : Bool} (hX : XOk X) (hk : opersB l = true) (hd : dstsB X.nt l = true)
    (he : execKL X.tt X.kt X.gt md ops l σ = .stop p σ' (o :: rest)) (hp : p) (ho : o.guard = some (j, want)) (hg : guardB σ'.regs ops j want = some g)
    (h1 : exec1K X.tt X.kt X.gt md ops σ' o = some (q, s1)) (h0 : setR σ' o.dst (.g g (.c (.bool false))) σ'.blks σ'.nxt = some s0)
    (hq : g = true → q) (ht : g = true → SL X ops Q rest ε s1) (hf : g = false → SL X ops Q rest ε s0) : SL X ops Q l ε σ := by
  rw [execKL_eq] at he
  rw [exec1K_eq] at h1
  refine (execL_upto hX l (o :: rest) σ σ' True p hk hd he hp fun hk' hd' => ?_).1
  intro ε' a w hle hh
  have hko := opersB_ok hk' o (by simp)
  have hdo := dstsB_ok hd' o (by simp)
  refine wpList_step fun K hK => ?_
  rw [guard_wanted hh ho hg]
  cases hgg : g with
  | true =>
    rw [if_pos rfl]
    exact exec0_sound hX hh hko hdo h1 (hq hgg) fun ε'' a' w' hle' hh' => hK a' w' (ht hgg ε'' a' w' (hle.trans hle') hh')
  | false =>
    rw [if_neg (by simp)]
    refine hK _ _ (hf hgg ε' _ w hle ?_)
    exact hh.put hdo (EnvLe.refl _) (v := .g g (.c (.bool false))) ⟨fun ht => (by rw [hgg] at ht; cases ht), fun _ => rfl⟩ hh.tab h0

/-- Past a guarded operation that is not wanted. -/
theorem rSLSkip (md : Md) {ops l rest : List Oper} {o : Oper} {σ' s0 : Sig} {p : Prop} {j : Nat} {want g : Bool} (hX : XOk X) (hk : opersB l = true) (hd : dstsB X.nt l = true)
    (he : execKL X.tt X.kt X.gt md ops l σ = .stop p σ' (o :: rest)) (hp : p) (ho : o.guard = some (j, want)) (hg : guardB σ'.regs ops j want = some g)
    (h0 : setR σ' o.dst (.g g (.c (.bool false))) σ'.blks σ'.nxt = some s0) (hf : g = false) (hn : SL X ops Q rest ε s0) : SL X ops Q l ε σ := by
  rw [execKL_eq] at he
  refine (execL_upto hX l (o :: rest) σ σ' True p hk hd he hp fun hk' hd' => ?_).1
  intro ε' a w hle hh
  have hdo := dstsB_ok hd' o (by simp)
  refine wpList_step fun K hK => ?_
  rw [guard_wanted hh ho hg, hf, if_neg (by simp)]
  refine hK _ _ (hn ε' _ w hle ?_)
  exact hh.put hdo (EnvLe.refl _) (v := .g g (.c (.bool false))) ⟨fun ht => (by rw [hf] at ht; cases ht), fun _ => rfl⟩ hh.tab h0
end
end Go.X
