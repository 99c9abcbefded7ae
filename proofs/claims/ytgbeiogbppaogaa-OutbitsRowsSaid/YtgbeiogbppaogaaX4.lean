/- Types, entries and worlds. -/
import Derived.Test.YtgbeiogbppaogaaX3
set_option linter.unusedVariables false
namespace Go.X

/-! ### the table of types, held against the program's -/
def denC : C → Option Value
  | .int k n => some (.int k n)
  | .bool b => some (.bool b)
  | .str s => some (.string s)
  | .val v => some v
  | _ => none
def denCs : List C → Option (List Value)
  | [] => some []
  | c :: l => match denC c, denCs l with
    | some v, some vs => some (v :: vs)
    | _, _ => none
def okC : C → Bool
  | .int _ n => n == 0
  | .str s => s.size == 0
  | .val v => v.oneCell'
  | _ => true
def denL : List S0 → Option (List Value)
  | [] => some []
  | .ints n k xs :: l => match xs.length == n && xs.all (· == 0), denL l with
    | true, some vs => some (xs.map (Value.int k) ++ vs)
    | _, _ => none
  | .cs c :: l => match c.all okC, denCs c, denL l with
    | true, some us, some vs => some (us ++ vs)
    | _, _, _ => none
def den1 : V1 → Option Value
  | .c c => if okC c then denC c else none
  | .agg l => (denL l).map fun vs => .agg vs.toArray

theorem denC_rel (ε : Env) {c : C} {v : Value} (h : denC c = some v) (hk : okC c = true) : RelC ε c v := by
  cases c <;> simp_all [denC, okC, RelC, inK_zero]

theorem denCs_rel (ε : Env) : ∀ {l : List C} {vs : List Value}, denCs l = some vs → l.all okC = true → All2 (RelC ε) l vs
  | [], vs, h, _ => by simp [denCs] at h; subst h; trivial
  | c :: l, vs, h, hk => by
    simp only [denCs] at h
    simp only [List.all_cons, Bool.and_eq_true] at hk
    cases h1 : denC c with
    | none => simp [h1] at h
    | some v =>
      cases h2 : denCs l with
      | none => simp [h1, h2] at h
      | some us =>
        simp only [h1, h2, Option.some.injEq] at h
        subst h
        exact ⟨denC_rel ε h1 hk.1, denCs_rel ε h2 hk.2⟩

theorem denL_rel (ε : Env) : ∀ {l : List S0} {vs : List Value}, denL l = some vs → RelL ε l vs
  | [], vs, h => by simp [denL] at h; subst h; rfl
  | .ints n k xs :: l, vs, h => by
    simp only [denL] at h
    cases h1 : (xs.length == n && xs.all (· == 0)) with
    | false => simp [h1] at h
    | true =>
      cases h2 : denL l with
      | none => simp [h1, h2] at h
      | some us =>
        simp only [h1, h2, Option.some.injEq] at h
        subst h
        simp only [Bool.and_eq_true, beq_iff_eq, List.all_eq_true] at h1
        exact ⟨_, _, rfl, ⟨h1.1, rfl, fun x hx => by rw [h1.2 x hx]; exact inK_zero k⟩, denL_rel ε h2⟩
  | .cs c :: l, vs, h => by
    simp only [denL] at h
    cases h1 : c.all okC with
    | false => simp [h1] at h
    | true =>
      cases h2 : denCs c with
      | none => simp [h1, h2] at h
      | some us =>
        cases h3 : denL l with
        | none => simp [h1, h2, h3] at h
        | some ws =>
          simp only [h1, h2, h3, Option.some.injEq] at h
          subst h
          exact ⟨_, _, rfl, denCs_rel ε h2 h1, denL_rel ε h3⟩

theorem den1_rel (ε : Env) {x : V1} {v : Value} (h : den1 x = some v) : Rel1 ε x v := by
  cases x with
  | c c =>
    simp only [den1] at h
    split at h
    · rename_i hk; exact denC_rel ε h hk
    · cases h
  | agg l =>
    simp only [den1, Option.map_eq_some_iff] at h
    obtain ⟨vs, hv, rfl⟩ := h
    exact ⟨vs, rfl, denL_rel ε hv⟩

/-- Equality of values of the kinds that zeros are of. -/
def veq : Value → Value → Bool
  | .int k n, .int k' n' => decide (k = k') && decide (n = n')
  | .bool a, .bool b => a == b
  | .string a, .string b => a.size == 0 && b.size == 0
  | .pointer none, .pointer none => true
  | .slice none 0 0, .slice none 0 0 => true
  | .nilFunc, .nilFunc => true
  | .nilIface, .nilIface => true
  | .map none, .map none => true
  | _, _ => false
def veqL : List Value → List Value → Bool
  | [], [] => true
  | a :: l, b :: m => veq a b && veqL l m
  | _, _ => false
def veq1 : Value → Value → Bool
  | .agg a, .agg b => veqL a.toList b.toList
  | a, b => veq a b

theorem size0 {a : ByteArray} (h : a.size = 0) : a = ⟨#[]⟩ := by
  cases a with
  | mk d => congr 1; exact Array.eq_empty_of_size_eq_zero h

theorem veq_eq {a b : Value} (h : veq a b = true) : a = b := by
  unfold veq at h
  split at h
  case h_3 =>
    simp only [Bool.and_eq_true, beq_iff_eq] at h
    rw [size0 h.1, size0 h.2]
  all_goals simp_all

theorem veqL_eq : ∀ {a b : List Value}, veqL a b = true → a = b
  | [], [], _ => rfl
  | x :: l, y :: m, h => by
    simp only [veqL, Bool.and_eq_true] at h
    rw [veq_eq h.1, veqL_eq h.2]
  | [], _ :: _, h => by simp [veqL] at h
  | _ :: _, [], h => by simp [veqL] at h

theorem veq1_eq {a b : Value} (h : veq1 a b = true) : a = b := by
  unfold veq1 at h
  split at h
  · congr 1
    exact Array.toList_inj.1 (veqL_eq h)
  · exact veq_eq h

def szB (P : Program) (t : TypeId) (n : Nat) : Bool := match P.info? t with
  | some i => Nat.beq i.size n
  | none => false
def byB (P : Program) (t : TypeId) (n : Nat) : Bool := match P.info? t with
  | some i => Nat.beq i.bytes n
  | none => false

def fldB (P : Program) : List Field → List (TypeId × Nat × Nat) → Bool
  | [], [] => true
  | f :: fs, (t, off, sz) :: r => Nat.beq f.type t && (Nat.beq f.offset off && (szB P t sz && (Nat.blt 0 sz && (f.name != "_" && fldB P fs r))))
  | _, _ => false

def dB (P : Program) : TD → TypeDesc → Bool
  | .int k, .int k' => decide (k = k')
  | .bool, .bool => true
  | .str, .string => true
  | .arr n e esz, .array n' e' => Nat.beq n n' && (Nat.beq e e' && szB P e esz)
  | .strct fs, .struct flds => fldB P flds.toList fs
  | .sl e esz eb, .slice e' => Nat.beq e e' && (szB P e esz && byB P e eb)
  | .ptr e, .pointer e' => Nat.beq e e'
  | .other, .func _ _ _ => true
  | _, _ => false

def tyB (P : Program) (t : TypeId) (te : TE) : Bool := match P.underlying t, P.info? t with
  | some d, some i => dB P te.d d && (Nat.beq (width1 te.zero) te.size && (Nat.beq i.size te.size && (Nat.beq i.bytes te.bytes && ((match i.zero, den1 te.zero with
      | some z, some z' => veq1 z z'
      | _, _ => false) && (!te.cmp || (!P.stoodInHeld t && !P.eqGuardType P.depth t))))))
  | _, _ => false

structure TyOk (P : Program) (t : TypeId) (te : TE) : Prop where
  und : ∃ d, P.underlying t = some d ∧ dB P te.d d = true
  inf : ∃ i, P.info? t = some i ∧ i.size = te.size ∧ i.bytes = te.bytes ∧ ∃ z, i.zero = some z ∧ ∀ ε, Rel1 ε te.zero z
  wid : width1 te.zero = te.size
  cmp : te.cmp = true → P.stoodInHeld t = false ∧ P.eqGuardType P.depth t = false

theorem tyB_ok {P : Program} {t : TypeId} {te : TE} (h : tyB P t te = true) : TyOk P t te := by
  unfold tyB at h
  split at h
  · rename_i d i hu hi
    simp only [Bool.and_eq_true] at h
    obtain ⟨h1, h0, h2, h3, h4, h5⟩ := h
    refine ⟨⟨d, hu, h1⟩, ⟨i, hi, Nat.eq_of_beq_eq_true h2, Nat.eq_of_beq_eq_true h3, ?_⟩, Nat.eq_of_beq_eq_true h0, fun hc => ?_⟩
    · split at h4
      · rename_i z z' hz hz'
        exact ⟨z, hz, fun ε => by rw [veq1_eq h4]; exact den1_rel ε hz'⟩
      · cases h4
    · rw [hc] at h5
      simpa using h5
  · cases h

def TtOk (P : Program) (tt : TT) : Prop := ∀ t te, look tt t = some te → TyOk P t te

theorem look_mem {α : Type} : ∀ {l : List (Nat × α)} {n : Nat} {x : α}, look l n = some x → (n, x) ∈ l
  | [], _, _, h => by simp [look] at h
  | (k, v) :: t, n, x, h => by
    simp only [look] at h
    cases hb : Nat.beq k n with
    | true =>
      simp only [hb, Option.some.injEq] at h
      have := Nat.eq_of_beq_eq_true hb
      subst h this
      exact List.mem_cons_self
    | false =>
      simp only [hb] at h
      exact List.mem_cons_of_mem _ (look_mem h)

def ttB (P : Program) : TT → Bool
  | [] => true
  | (t, te) :: l => tyB P t te && ttB P l

theorem ttB_ok {P : Program} : ∀ {tt : TT}, ttB P tt = true → TtOk P tt
  | [], _, t, te, h => by simp [look] at h
  | (u, x) :: l, hb, t, te, h => by
    simp only [ttB, Bool.and_eq_true] at hb
    simp only [look] at h
    cases hk : Nat.beq u t with
    | true =>
      simp only [hk, Option.some.injEq] at h
      have := Nat.eq_of_beq_eq_true hk
      subst h this
      exact tyB_ok hb.1
    | false =>
      simp only [hk] at h
      exact ttB_ok hb.2 t te h

/-! ### look-ups -/
theorem look_del {α : Type} : ∀ {l r : List (Nat × α)} {n : Nat}, del l n = some r → ∀ m, look r m = if m = n then none else look l m
  | [], r, n, h, m => by simp [del] at h; subst h; simp [look]
  | (k, v) :: t, r, n, h, m => by
    simp only [del] at h
    cases hb : Nat.beq k n with
    | true =>
      simp only [hb] at h
      have hk := Nat.eq_of_beq_eq_true hb
      subst hk
      rw [look_del h m]
      simp only [look]
      by_cases hm : m = k
      · simp [hm]
      · rw [if_neg hm, if_neg hm]
        cases hq : Nat.beq k m with
        | true => exact absurd (Nat.eq_of_beq_eq_true hq).symm hm
        | false => rfl
    | false =>
      simp only [hb] at h
      cases hd : del t n with
      | none => simp [hd] at h
      | some u =>
        simp only [hd, Option.some.injEq] at h
        subst h
        simp only [look]
        cases hq : Nat.beq k m with
        | true =>
          have hk := Nat.eq_of_beq_eq_true hq
          subst hk
          have : k ≠ n := by intro e; subst e; rw [Nat.beq_refl] at hb; cases hb
          simp [this]
        | false => simp only; exact look_del hd m

theorem look_cons {α : Type} (k : Nat) (x : α) (l : List (Nat × α)) (m : Nat) : look ((k, x) :: l) m = if m = k then some x else look l m := by
  simp only [look]
  cases hq : Nat.beq k m with
  | true => simp [(Nat.eq_of_beq_eq_true hq)]
  | false =>
    have : m ≠ k := by intro e; subst e; rw [Nat.beq_refl] at hq; cases hq
    simp [this]

theorem look_upd {α : Type} : ∀ {l r : List (Nat × α)} {n : Nat} {x : α}, upd l n x = some r → ∀ m, look r m = if m = n then some x else look l m
  | [], r, n, x, h, m => by
    simp only [upd, Option.some.injEq] at h
    subst h
    rw [look_cons]
  | (k, v) :: t, r, n, x, h, m => by
    simp only [upd] at h
    cases hb : Nat.beq k n with
    | true =>
      simp only [hb, Option.some.injEq] at h
      have hk := Nat.eq_of_beq_eq_true hb
      subst h hk
      rw [look_cons, look_cons]
      by_cases hm : m = k <;> simp [hm]
    | false =>
      simp only [hb] at h
      cases hd : upd t n x with
      | none => simp [hd] at h
      | some u =>
        simp only [hd, Option.some.injEq] at h
        subst h
        have hkn : k ≠ n := by intro e; subst e; rw [Nat.beq_refl] at hb; cases hb
        rw [look_cons, look_cons, look_upd hd m]
        by_cases hm : m = k
        · subst hm; simp [hkn]
        · simp [hm]

/-! ### environments -/
def Env.push (ε : Env) (L : Loc) : Env := ⟨ε.n + 1, fun i => if i = ε.n then L else ε.f i⟩

structure EnvLe (ε ε' : Env) : Prop where
  n : ε.n ≤ ε'.n
  blk : ∀ i, i < ε.n → (ε'.f i).blk = (ε.f i).blk
  off : ∀ i, i < ε.n → (ε'.f i).off = (ε.f i).off
  cap : ∀ i, i < ε.n → (ε'.f i).cap = (ε.f i).cap
  nil : ∀ i, i < ε.n → (ε'.f i).isnil = (ε.f i).isnil

theorem EnvLe.refl (ε : Env) : EnvLe ε ε := ⟨Nat.le_refl _, fun _ _ => rfl, fun _ _ => rfl, fun _ _ => rfl, fun _ _ => rfl⟩
theorem EnvLe.trans {a b c : Env} (h : EnvLe a b) (k : EnvLe b c) : EnvLe a c :=
  ⟨Nat.le_trans h.n k.n, fun i hi => (k.blk i (Nat.lt_of_lt_of_le hi h.n)).trans (h.blk i hi), fun i hi => (k.off i (Nat.lt_of_lt_of_le hi h.n)).trans (h.off i hi),
    fun i hi => (k.cap i (Nat.lt_of_lt_of_le hi h.n)).trans (h.cap i hi), fun i hi => (k.nil i (Nat.lt_of_lt_of_le hi h.n)).trans (h.nil i hi)⟩
theorem Env.push_old (ε : Env) (L : Loc) {i : Nat} (h : i < ε.n) : (ε.push L).f i = ε.f i := if_neg (Nat.ne_of_lt h)
theorem Env.push_new (ε : Env) (L : Loc) : (ε.push L).f ε.n = L := if_pos rfl
theorem EnvLe.push (ε : Env) (L : Loc) : EnvLe ε (ε.push L) :=
  ⟨Nat.le_succ _, fun i h => by rw [ε.push_old L h], fun i h => by rw [ε.push_old L h], fun i h => by rw [ε.push_old L h], fun i h => by rw [ε.push_old L h]⟩

theorem RelC.mono {ε ε' : Env} (h : EnvLe ε ε') {c : C} {v : Value} (hr : RelC ε c v) : RelC ε' c v := by
  cases c with
  | ptr id rst row base stride idx =>
    obtain ⟨h1, h2, h3⟩ := hr
    exact ⟨Nat.lt_of_lt_of_le h1 h.n, by rw [h.nil _ h1]; exact h2, by rw [h.blk _ h1, h.off _ h1]; exact h3⟩
  | sl id a len sz =>
    obtain ⟨h1, h2, h3⟩ := hr
    refine ⟨Nat.lt_of_lt_of_le h1 h.n, h2, ?_⟩
    rw [h.nil _ h1, h.cap _ h1, h.blk _ h1, h.off _ h1]
    exact h3
  | clo f caps =>
    obtain ⟨h1, h2⟩ := hr
    refine ⟨fun i hi => ⟨Nat.lt_of_lt_of_le (h1 i hi).1 h.n, by rw [h.nil _ (h1 i hi).1]; exact (h1 i hi).2⟩, h2.trans ?_⟩
    congr 2
    exact List.map_congr_left fun i hi => by rw [h.blk _ (h1 i hi).1, h.off _ (h1 i hi).1]
  | _ => exact hr

theorem RelS.mono {ε ε' : Env} (h : EnvLe ε ε') {s : S0} {vs : List Value} (hr : RelS ε s vs) : RelS ε' s vs := by
  cases s with
  | ints n k xs => exact hr
  | cs l => exact All2.imp (fun _ _ => RelC.mono h) hr

theorem RelL.mono {ε ε' : Env} (h : EnvLe ε ε') : ∀ {l : List S0} {vs : List Value}, RelL ε l vs → RelL ε' l vs
  | [], _, hr => hr
  | _ :: _, _, ⟨v1, v2, e, h1, h2⟩ => ⟨v1, v2, e, RelS.mono h h1, RelL.mono h h2⟩

theorem RelB.mono {ε ε' : Env} (h : EnvLe ε ε') {b : Body} {vs : List Value} (hr : RelB ε b vs) : RelB ε' b vs := by
  cases b with
  | flat l => exact RelL.mono h hr
  | rows n sz f => exact ⟨hr.1, fun i hi => RelL.mono h (hr.2 i hi)⟩

theorem Rel1.mono {ε ε' : Env} (h : EnvLe ε ε') {x : V1} {v : Value} (hr : Rel1 ε x v) : Rel1 ε' x v := by
  cases x with
  | c c => exact RelC.mono h hr
  | agg l => obtain ⟨vs, e, hv⟩ := hr; exact ⟨vs, e, RelL.mono h hv⟩

theorem RelV.mono {ε ε' : Env} (h : EnvLe ε ε') {x : SV} {v : Value} (hr : RelV ε x v) : RelV ε' x v := by
  cases x with
  | v x => exact Rel1.mono h hr
  | tup l => obtain ⟨vs, e, hv⟩ := hr; exact ⟨vs, e, All2.imp (fun _ _ => Rel1.mono h) hv⟩
  | g b x => exact ⟨fun hb => Rel1.mono h (hr.1 hb), hr.2⟩
  | fnv f a c => obtain ⟨fs, cs, e, h1, h2⟩ := hr; exact ⟨fs, cs, e, All2.imp (fun _ _ => Rel1.mono h) h1, All2.imp (fun _ _ => Rel1.mono h) h2⟩

/-! ### entries -/
def E.own : E → Bool
  | .mem o _ _ _ => o
  | _ => true

/-- The blocks of an entry. -/
def owned (L : Loc) : E → List Nat
  | .mem _ _ _ _ => if L.isnil then [] else [L.blk]
  | .iter _ _ => [L.blk]
  | .obj _ _ => L.blk :: L.aux

/-- The bytes of digits, the highest one of each byte first, noughts behind the last. -/
def byteAt (bits : List Bool) (i : Nat) : Int :=
  (bits.getD (8 * i) false).toInt * 128 + (bits.getD (8 * i + 1) false).toInt * 64 + (bits.getD (8 * i + 2) false).toInt * 32 + (bits.getD (8 * i + 3) false).toInt * 16 +
  (bits.getD (8 * i + 4) false).toInt * 8 + (bits.getD (8 * i + 5) false).toInt * 4 + (bits.getD (8 * i + 6) false).toInt * 2 + (bits.getD (8 * i + 7) false).toInt
def packB (bits : List Bool) : List Int := (List.range ((bits.length + 7) / 8)).map (byteAt bits)

/-- A writer of bits: its struct, and its bytes in a block of their own. -/
def WriterAt (ty' : TypeId) (bits : List Bool) (w : World) (L : Loc) : Prop :=
  L.isnil = false ∧ L.off = 0 ∧ ∃ ty : TypeId, ∃ cap : Nat, ∃ junk : List Value,
    (bits = [] ∧ L.aux = [] ∧ w.heap[L.blk]? = some (.cells #[.slice none 0 0, .int .i64 0] ty (0, 0))) ∨
    (∃ g, L.aux = [g] ∧ g ≠ L.blk ∧ (packB bits).length + junk.length = cap ∧
      w.heap[L.blk]? = some (.cells #[.slice (some ⟨g, 0, none⟩) (packB bits).length cap, .int .i64 bits.length] ty (0, 0)) ∧
      w.heap[g]? = some (.cells ((packB bits).map (Value.int .u8) ++ junk).toArray ty' (0, 0)))

def RelE (ε : Env) (w : World) (L : Loc) : E → Prop
  | .mem own ty tail b =>
    (L.isnil = true → RelB ε b [] ∧ L.cap = 0) ∧
    (L.isnil = false → ∃ vs junk, RelB ε b vs ∧ (tail = none → junk = []) ∧ (∀ sz, tail = some sz → (vs ++ junk).length = L.cap * sz) ∧
      if own then L.off = 0 ∧ w.heap[L.blk]? = some (.cells (vs ++ junk).toArray ty (0, 0))
      else L.blk < w.heap.size ∧ ∀ j v, vs[j]? = some v → w.cell? ⟨L.blk, L.off + j, none⟩ = some v)
  | .iter s pos => L.isnil = false ∧ L.off = 0 ∧ w.heap[L.blk]? = some (.stringIter s pos)
  | .obj k bits => WriterAt k bits w L

theorem cell_congr {w w' : World} {b : Nat} (h : w'.heap[b]? = w.heap[b]?) (o : Nat) : w'.cell? ⟨b, o, none⟩ = w.cell? ⟨b, o, none⟩ := by
  simp [World.cell?, h]

/-- An entry stays while its blocks do. -/
theorem RelE.frame {ε : Env} {w w' : World} {L : Loc} {e : E} (h : RelE ε w L e) (hb : ∀ b ∈ owned L e, w'.heap[b]? = w.heap[b]?) : RelE ε w' L e := by
  cases e with
  | mem own ty tail b =>
    refine ⟨h.1, fun hn => ?_⟩
    obtain ⟨vs, junk, h1, h2, h3, h4⟩ := h.2 hn
    have hL := hb L.blk (by simp [owned, hn])
    refine ⟨vs, junk, h1, h2, h3, ?_⟩
    cases own with
    | true => simp only [if_true] at h4 ⊢; rw [hL]; exact h4
    | false =>
      simp only [Bool.false_eq_true, if_false] at h4 ⊢
      refine ⟨?_, fun j v hv => by rw [cell_congr hL]; exact h4.2 j v hv⟩
      have := h4.1
      rw [Array.getElem?_eq_getElem this] at hL
      exact (Array.getElem?_eq_some_iff.1 hL).1
  | iter s pos => exact ⟨h.1, h.2.1, by rw [hb L.blk (by simp [owned])]; exact h.2.2⟩
  | obj k bits =>
    obtain ⟨h0, h1, ty, cap, junk, hh⟩ := h
    refine ⟨h0, h1, ty, cap, junk, ?_⟩
    rcases hh with ⟨g1, g2, g3⟩ | ⟨g, g1, g2, g3, g4, g5⟩
    · exact .inl ⟨g1, g2, by rw [hb L.blk (by simp [owned])]; exact g3⟩
    · exact .inr ⟨g, g1, g2, g3, by rw [hb L.blk (by simp [owned])]; exact g4, by rw [hb g (by simp [owned, g1])]; exact g5⟩

theorem RelE.mono {ε ε' : Env} {w : World} {L : Loc} {e : E} (h : RelE ε w L e) (hε : EnvLe ε ε') : RelE ε' w L e := by
  cases e with
  | mem own ty tail b =>
    refine ⟨fun hn => ⟨RelB.mono hε (h.1 hn).1, (h.1 hn).2⟩, fun hn => ?_⟩
    obtain ⟨vs, junk, h1, h2⟩ := h.2 hn
    exact ⟨vs, junk, RelB.mono hε h1, h2⟩
  | iter s pos => exact h
  | obj k bits => exact h

/-- Everything but the blocks M (and new ones) is as it was. -/
structure Keep (M : List Nat) (w w' : World) : Prop where
  os : w'.os = w.os
  tape : w'.tape = w.tape
  output : w'.output = w.output
  size : w.heap.size ≤ w'.heap.size
  block : ∀ k, k < w.heap.size → k ∉ M → w'.heap[k]? = w.heap[k]?

theorem Keep.refl (M : List Nat) (w : World) : Keep M w w := ⟨rfl, rfl, rfl, Nat.le_refl _, fun _ _ _ => rfl⟩
theorem Keep.trans {M : List Nat} {a b c : World} (h : Keep M a b) (k : Keep M b c) : Keep M a c :=
  ⟨k.os.trans h.os, k.tape.trans h.tape, k.output.trans h.output, Nat.le_trans h.size k.size, fun i hi hm => (k.block i (Nat.lt_of_lt_of_le hi h.size) hm).trans (h.block i hi hm)⟩
theorem Keep.mono {M M' : List Nat} {a b : World} (h : Keep M a b) (hM : ∀ x ∈ M, x < a.heap.size → x ∈ M') : Keep M' a b :=
  ⟨h.os, h.tape, h.output, h.size, fun k hk hn => h.block k hk fun hm => hn (hM k hm hk)⟩
theorem Keep.below {w w' : World} (h : Keep [] w w') : RowKit.Below w.heap.size w w' := ⟨h.os, h.tape, h.output, h.size, fun k hk => h.block k hk (by simp)⟩

structure Ctx where
  P : Program
  tt : TT
  kt : KT
  gt : GT
  w0 : World
  M : List Nat
  nt : Nat

/-- Table and world. -/
structure Tab (X : Ctx) (ε : Env) (blks : Blks) (nxt : Nat) (w : World) : Prop where
  nxt : nxt = ε.n
  ent : ∀ id e, look blks id = some e → id < ε.n ∧ RelE ε w (ε.f id) e
  sep : ∀ id id' e e', look blks id = some e → look blks id' = some e' → id ≠ id' → e.own = true → ∀ b ∈ owned (ε.f id) e, b ∉ owned (ε.f id') e'
  keep : Keep X.M X.w0 w
  mine : ∀ id e, look blks id = some e → e.own = true → ∀ b ∈ owned (ε.f id) e, X.w0.heap.size ≤ b ∨ b ∈ X.M

structure Holds (X : Ctx) (ε : Env) (σ : Sig) (a : Act) (w : World) : Prop where
  defers : a.defers = []
  size : a.tmps.size = X.nt
  regs : ∀ s v, look σ.regs s = some v → RelV ε v (a.tmps.getD s undef)
  tab : Tab X ε σ.blks σ.nxt w

end Go.X
