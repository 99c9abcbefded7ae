/- Library texts X25 to X38, made one. -/
import Derived.Test.YtbcgkdigfkapcaaDoorL2
import Derived.ChangeSame
import Derived.ReadAgain
import Derived.OpenShut
import Derived.Below
import Derived.ChangeArms
import Derived.LoopN
import Derived.Lib.OthersKept
import Derived.Laws.RangeAny
import Derived.Lib.Strings
/- From contracts to laws: arguments opened, the call's frame. -/
set_option linter.unusedVariables false
namespace Go.X
open Go.ChangeShapes Go.WideShapes

theorem FnOK.callZ {P : Program} {gt : GT} {f : FuncId} {spec : X.Spec} (h : FnOK P gt f spec) (w : World) (hgt : GtOk gt w) {z : Zp} (hz : ∀ b o, z b = some o → w.heap[b]? = some o) {args : List SV} {vals : List Value} {r : Res} (ha : All2 (RelV ⟨0, fun _ => default, z⟩) args vals)
    (hs : spec args (fun _ => none) = some r) (hp : r.p) {b : Bool} (hr : r.r = .v (.c (.bool b))) (hu : r.up = []) : Calls P f vals.toArray w fun e w' => e = .returned (.bool b) ∧ RowKit.Below w.heap.size w w' := by
  have hl : look ([] : Blks) = fun _ => none := rfl
  have hT : Tab ⟨P, [], [], gt, w, [], 0, z⟩ ⟨0, fun _ => default, z⟩ [] 0 w := ⟨rfl, (fun i e h => by cases h), (fun i j e e' h => by cases h), Keep.refl _ _, (fun i e h => by cases h), fun b o hb => ⟨hz b o hb, fun i e h => by cases h⟩, fun b o hb => .inl hb⟩
  refine (h.2 ⟨P, [], [], gt, w, [], 0, z⟩ ⟨0, fun _ => default, z⟩ [] 0 args vals r rfl rfl hgt (fun g b _ hm => by cases hm) hT ha (by rw [hl]; exact hs) hp).mono ?_
  rintro e w' ⟨ε', x, bl, rfl, hle, hx, _, hT'⟩
  rw [hr] at hx
  have hx : x = .bool b := hx
  subst hx
  exact ⟨rfl, hT'.keep.below⟩
theorem FnOK.call {P : Program} {gt : GT} {f : FuncId} {spec : X.Spec} (h : FnOK P gt f spec) (w : World) (hgt : GtOk gt w) {args : List SV} {vals : List Value} {r : Res} (ha : All2 (RelV ⟨0, fun _ => default, fun _ => none⟩) args vals)
    (hs : spec args (fun _ => none) = some r) (hp : r.p) {b : Bool} (hr : r.r = .v (.c (.bool b))) (hu : r.up = []) : Calls P f vals.toArray w fun e w' => e = .returned (.bool b) ∧ RowKit.Below w.heap.size w w' :=
  h.callZ w hgt (z := fun _ => none) (fun b o hb => by cases hb) ha hs hp hr hu

theorem inK_of_wf {k : IntKind} {n : Int} (h : (Lit.int k n).wf = true) : inK k n := by
  cases k <;> simp [Lit.wf, IntKind.min, IntKind.max, IntKind.signed, IntKind.bits, inK] at h ⊢ <;> omega

section
variable {H : Type} {enc : TypeId × Value → H} {P : Program} {w : World} {base : Nat} {spare : Nat → Bool} {held : Bool}

theorem trod_int {fuel : Nat} {t : TypeId} {k : IntKind} {cs : List Value} {x : DataW H × List MemPlace} (ht : P.underlying t = some (.int k)) (h : DataW.trod enc P w base spare held fuel t cs = some x) : ∃ n, cs = [.int k n] ∧ inK k n := by
  cases fuel with
  | zero => simp [DataW.trod] at h
  | succ m =>
    unfold DataW.trod at h
    rw [ht] at h
    split at h <;> simp_all
    exact inK_of_wf (by first | exact h.1.2 | exact (by assumption : _ ∧ _).1 | trace_state)

theorem trod_bool {fuel : Nat} {t : TypeId} {cs : List Value} {x : DataW H × List MemPlace} (ht : P.underlying t = some .bool) (h : DataW.trod enc P w base spare held fuel t cs = some x) : ∃ b, cs = [.bool b] := by
  cases fuel with
  | zero => simp [DataW.trod] at h
  | succ m =>
    unfold DataW.trod at h
    rw [ht] at h
    split at h <;> simp_all

theorem cells_split : ∀ (n : Nat) (cs : List Value) {k : IntKind}, cs.length = n → (∀ i, i < n → ∃ m, (cs.drop i).take 1 = [.int k m] ∧ inK k m) → ∃ xs : List Int, cs = xs.map (Value.int k) ∧ xs.length = n ∧ ∀ x ∈ xs, inK k x
  | 0, cs, k, h, _ => ⟨[], by simpa using h, rfl, by simp⟩
  | n + 1, [], k, h, _ => by simp at h
  | n + 1, c :: cs, k, h, hc => by
    obtain ⟨m, h1, h2⟩ := hc 0 (by omega)
    simp at h1
    subst h1
    obtain ⟨xs, g1, g2, g3⟩ := cells_split n cs (k := k) (by simpa using h) (fun i hi => by
      obtain ⟨m', e1, e2⟩ := hc (i + 1) (by omega)
      exact ⟨m', by simpa using e1, e2⟩)
    exact ⟨m :: xs, by simp [g1], by simp [g2], fun x hx => by
      rcases List.mem_cons.1 hx with rfl | hx
      · exact h2
      · exact g3 x hx⟩

/-- An array of integers. -/
theorem trod_ints {fuel : Nat} {t e : TypeId} {n : Nat} {k : IntKind} {cs : List Value} {x : DataW H × List MemPlace} (ht : P.underlying t = some (.array n e)) (he : P.underlying e = some (.int k)) (hce : P.cellsOf e = 1) (hct : P.cellsOf t = n)
    (h : DataW.trod enc P w base spare held fuel t cs = some x) : ∃ xs : List Int, cs = xs.map (Value.int k) ∧ xs.length = n ∧ ∀ x ∈ xs, inK k x := by
  obtain ⟨ys, m, rfl, rfl, hl, hn, hi⟩ := DataW.trod_array ht h
  rw [hct] at hl
  refine cells_split n cs hl fun i hin => ?_
  have := hi i hin
  rw [hce, Nat.mul_one, List.getElem?_eq_getElem (by omega)] at this
  exact trod_int he this

theorem open_ints_arr {r : Reach} {b0 : Nat} {t e : TypeId} {n : Nat} {k : IntKind} {v : Value} {d : DataW H} {ps : List MemPlace} (ht : P.underlying t = some (.array n e)) (he : P.underlying e = some (.int k)) (hce : P.cellsOf e = 1) (hct : P.cellsOf t = n)
    (hval : Value.okWide P w r b0 t v) (hd : DataW.Trod enc P w base spare held t v d ps) : ∃ xs : List Int, v = .agg (xs.map (Value.int k)).toArray ∧ xs.length = n ∧ ∀ x ∈ xs, inK k x := by
  simp only [Value.okWide, ht] at hval
  obtain ⟨cs, rfl, _, _⟩ := hval
  obtain ⟨fuel, hd⟩ := hd
  obtain ⟨xs, h1, h2, h3⟩ := trod_ints ht he hce hct hd
  refine ⟨xs, ?_, h2, h3⟩
  have : cs.toList = xs.map (Value.int k) := h1
  rw [← this]

/-- Arguments read the same where nothing that was there has changed. -/
theorem trodAll_after (K : Kids P (· < P.types.size)) (hz : ∀ t e, t < P.types.size → P.underlying t = some (.slice e) → 0 < P.cellsOf e) {W W' : World} (hb : RowKit.Below W.heap.size W W') : ∀ {ts : List TypeId} {vs : List Value} {ds : List (DataW H)} {ps : List MemPlace},
    (∀ t ∈ ts, t < P.types.size) → DataW.TrodAll enc P W 0 (fun _ => true) true ts vs ds ps → DataW.TrodAll enc P W' 0 (fun b => decide (b < W.heap.size)) true ts vs ds ps := by
  intro ts vs ds ps hts h
  have hlt := DataW.TrodAll.lt h
  have h2 := DataW.TrodAll.respare (T := (· < P.types.size)) (spare' := fun b => decide (b < W.heap.size)) K hz hts h (fun p hp => by simpa using hlt p hp)
  clear h hts
  induction ts generalizing vs ds ps with
  | nil =>
    obtain ⟨rfl, rfl, rfl⟩ := trodAll_nil h2
    exact trodAll_mk0
  | cons t ts ih =>
    obtain ⟨v, vs1, d, ds1, a, b, rfl, rfl, rfl, h3, h4⟩ := trodAll_cons h2
    obtain ⟨n, hn⟩ := h3
    exact ⟨a, b, ⟨n, DataW.trod_carry n _ _ _ hn fun p hp => hb.same (hlt p (List.mem_append.2 (.inl hp)))⟩, ih (fun p hp => hlt p (List.mem_append.2 (.inr hp))) h4, rfl⟩
end
end Go.X

/- A signature made plain after each region. -/
set_option linter.unusedVariables false
namespace Go.X

section
variable {α : Type}

def smalls : List Nat := [0, 1, 2, 3, 4, 5, 6, 7, 8, 9, 10, 11, 12, 13, 14, 15, 16, 17, 18, 19, 20, 21, 22, 23, 24, 25, 26, 27, 28, 29, 30, 31, 32, 33, 34, 35, 36, 37, 38, 39, 40, 41, 42, 43, 44, 45, 46, 47]
def goN (n : Nat) (k : Nat → α) : List Nat → α
  | [] => k n
  | i :: l => match Nat.beq n i with
    | true => k i
    | false => goN n k l
theorem goN_eq (n : Nat) (k : Nat → α) : ∀ l, goN n k l = k n
  | [] => rfl
  | i :: l => by
    simp only [goN]
    split
    · rename_i h; rw [Nat.eq_of_beq_eq_true h]
    · exact goN_eq n k l
def cleanN (n : Nat) (k : Nat → α) : α := goN n k smalls
theorem cleanN_eq (n : Nat) (k : Nat → α) : cleanN n k = k n := goN_eq n k _

def cleanNs : List Nat → (List Nat → α) → α
  | [], k => k []
  | x :: l, k => cleanN x fun y => cleanNs l fun l' => k (y :: l')
theorem cleanNs_eq : ∀ (l : List Nat) (k : List Nat → α), cleanNs l k = k l
  | [], k => rfl
  | x :: l, k => by simp only [cleanNs, cleanN_eq, cleanNs_eq l]

def cleanC (c : C) (k : C → α) : α := match c with
  | .int a b => k (.int a b)
  | .bool b => k (.bool b)
  | .str s => k (.str s)
  | .val v => k (.val v)
  | .ptr id a b c d e => cleanN id fun i => cleanN a fun a' => cleanN d fun d' => k (.ptr i a' b c d' e)
  | .sl id a b c => cleanN id fun i => cleanN c fun c' => k (.sl i a b c')
  | .clo f l => cleanNs l fun l' => k (.clo f l')
  | .gp g a b c d e => k (.gp g a b c d e)
  | .fz e xs => k (.fz e xs)
  | .fp s x b c d => cleanN b fun b' => cleanN c fun c' => k (.fp s x b' c' d)
theorem cleanC_eq (c : C) (k : C → α) : cleanC c k = k c := by
  cases c <;> simp only [cleanC, cleanN_eq, cleanNs_eq]

def cleanCs : List C → (List C → α) → α
  | [], k => k []
  | x :: l, k => cleanC x fun y => cleanCs l fun l' => k (y :: l')
theorem cleanCs_eq : ∀ (l : List C) (k : List C → α), cleanCs l k = k l
  | [], k => rfl
  | x :: l, k => by simp only [cleanCs, cleanC_eq, cleanCs_eq l]

def cleanS (s : S0) (k : S0 → α) : α := match s with
  | .ints n a xs => k (.ints n a xs)
  | .fzs n e xs => k (.fzs n e xs)
  | .cs l => cleanCs l fun l' => k (.cs l')
theorem cleanS_eq (c : S0) (k : S0 → α) : cleanS c k = k c := by
  cases c <;> simp only [cleanS, cleanCs_eq]

def cleanSs : List S0 → (List S0 → α) → α
  | [], k => k []
  | x :: l, k => cleanS x fun y => cleanSs l fun l' => k (y :: l')
theorem cleanSs_eq : ∀ (l : List S0) (k : List S0 → α), cleanSs l k = k l
  | [], k => rfl
  | x :: l, k => by simp only [cleanSs, cleanS_eq, cleanSs_eq l]

def clean1 (s : V1) (k : V1 → α) : α := match s with
  | .c c => cleanC c fun c' => k (.c c')
  | .agg l => cleanSs l fun l' => k (.agg l')
theorem clean1_eq (c : V1) (k : V1 → α) : clean1 c k = k c := by
  cases c <;> simp only [clean1, cleanC_eq, cleanSs_eq]

def clean1s : List V1 → (List V1 → α) → α
  | [], k => k []
  | x :: l, k => clean1 x fun y => clean1s l fun l' => k (y :: l')
theorem clean1s_eq : ∀ (l : List V1) (k : List V1 → α), clean1s l k = k l
  | [], k => rfl
  | x :: l, k => by simp only [clean1s, clean1_eq, clean1s_eq l]

def cleanV (s : SV) (k : SV → α) : α := match s with
  | .v c => clean1 c fun c' => k (.v c')
  | .tup l => clean1s l fun l' => k (.tup l')
  | .g b c => clean1 c fun c' => k (.g b c')
  | .fnv f a c => clean1s a fun a' => clean1s c fun c' => k (.fnv f a' c')
theorem cleanV_eq (c : SV) (k : SV → α) : cleanV c k = k c := by
  cases c <;> simp only [cleanV, clean1_eq, clean1s_eq]

def cleanR : Regs → (Regs → α) → α
  | [], k => k []
  | x :: l, k => cleanV x.2 fun y => cleanN x.1 fun n => cleanR l fun l' => k ((n, y) :: l')
theorem cleanR_eq : ∀ (l : Regs) (k : Regs → α), cleanR l k = k l
  | [], k => rfl
  | x :: l, k => by simp only [cleanR, cleanV_eq, cleanN_eq, cleanR_eq l]

def cleanB (s : Body) (k : Body → α) : α := match s with
  | .flat l => cleanSs l fun l' => k (.flat l')
  | .rows n z f => cleanN z fun z' => k (.rows n z' f)
  | .lst e xs => k (.lst e xs)
theorem cleanB_eq (c : Body) (k : Body → α) : cleanB c k = k c := by
  cases c <;> simp only [cleanB, cleanSs_eq, cleanN_eq]

def cleanO (s : Option Nat) (k : Option Nat → α) : α := match s with
  | none => k none
  | some n => cleanN n fun n' => k (some n')
theorem cleanO_eq (c : Option Nat) (k : Option Nat → α) : cleanO c k = k c := by
  cases c <;> simp only [cleanO, cleanN_eq]

def cleanE (s : E) (k : E → α) : α := match s with
  | .mem true t l b => cleanO l fun l' => cleanB b fun b' => k (.mem true t l' b')
  | .mem false t l b => cleanO l fun l' => cleanB b fun b' => k (.mem false t l' b')
  | .iter s p => k (.iter s p)
  | .obj a b => k (.obj a b)
theorem cleanE_eq (c : E) (k : E → α) : cleanE c k = k c := by
  cases c with
  | mem o t l b => cases o <;> simp only [cleanE, cleanO_eq, cleanB_eq]
  | _ => rfl

def cleanBl : Blks → (Blks → α) → α
  | [], k => k []
  | x :: l, k => cleanE x.2 fun y => cleanN x.1 fun n => cleanBl l fun l' => k ((n, y) :: l')
theorem cleanBl_eq : ∀ (l : Blks) (k : Blks → α), cleanBl l k = k l
  | [], k => rfl
  | x :: l, k => by simp only [cleanBl, cleanE_eq, cleanN_eq, cleanBl_eq l]

def clean (s : Sig) (k : Sig → α) : α := cleanR s.regs fun r => cleanBl s.blks fun b => cleanN s.nxt fun n => k ⟨r, b, n⟩
theorem clean_eq (s : Sig) (k : Sig → α) : clean s k = k s := by
  simp only [clean, cleanR_eq, cleanBl_eq, cleanN_eq]
end

theorem RLe.nil {r : Regs} : RLe r [] := trivial
theorem RLe.cons {r t : Regs} {s : Nat} {v v' : SV} (h : Go.X.look r s = some v) (hv : SVle v v') (ht : RLe r t) : RLe r ((s, v') :: t) := ⟨by rw [h]; exact hv, ht⟩
theorem BLe.nil {r : Blks} : BLe r [] := trivial
theorem BLe.cons {r t : Blks} {s : Nat} {v v' : E} (h : Go.X.look r s = some v) (hv : Ele v v') (ht : BLe r t) : BLe r ((s, v') :: t) := ⟨by rw [h]; exact hv, ht⟩
theorem Le.mk {r r' : Regs} {b b' : Blks} {n n' : Nat} (h1 : RLe r r') (h2 : BLe b b') (h3 : n = n') : Le ⟨r, b, n⟩ ⟨r', b', n'⟩ := ⟨h1, h2, h3⟩

def execK (tt : TT) (kt : KT) (gt : GT) (md : Md) (ops : List Oper) (σ : Sig) : Out :=
  match execL tt kt gt md ops ops σ True with
  | .done p σ' => clean σ' fun s => .done p s
  | .stop p σ' r => .stop p σ' r
theorem execK_eq (tt : TT) (kt : KT) (gt : GT) (md : Md) (ops : List Oper) (σ : Sig) : execK tt kt gt md ops σ = execL tt kt gt md ops ops σ True := by
  unfold execK
  split <;> simp_all only [clean_eq]

def drawK (tt : TT) (kt : KT) (gt : GT) (md : Md) (ops : List Oper) (σ : Sig) : Option (Prop × Sig) :=
  match drawL tt kt gt md ops (baseOf (dstsOf ops) σ.regs) σ.blks σ.nxt 0 ops [] True with
  | some (p, vals) => clean ⟨allRegs (baseOf (dstsOf ops) σ.regs) vals, σ.blks, σ.nxt⟩ fun s => some (p, s)
  | none => none

section
variable {X : Ctx} {ε : Env} {σ : Sig} {Q : Exit → Act → World → Prop}

theorem rRegC (md : Md) {id : Nat} {ops : Array Oper} {σ' : Sig} {p : Prop} (hX : XOk X) (hk : opersB ops.toList = true) (hd : dstsB X.nt ops.toList = true) (he : execK X.tt X.kt X.gt md ops.toList σ = .done p σ') (hp : p) (hn : SQ X Q .normal ε σ') : SW X (.region id ops false) Q ε σ :=
  rReg0 md hX hk hd (by rw [← execK_eq]; exact he) hp hn

theorem rDrawC (md : Md) {id : Nat} {ops : Array Oper} {σ' : Sig} {p : Prop} (hX : XOk X) (hm : X.P.follows .mixedOrders = true) (hk : opersB ops.toList = true) (hd : dstsB X.nt ops.toList = true) (hnd : nodupB (dstsOf ops.toList) = true)
    (he : drawK X.tt X.kt X.gt md ops.toList σ = some (p, σ')) (hp : p) (hn : SQ X Q .normal ε σ') : SW X (.region id ops true) Q ε σ := by
  unfold drawK at he
  split at he
  · rename_i q vals hv
    rw [clean_eq] at he
    simp only [Option.some.injEq, Prod.mk.injEq] at he
    obtain ⟨rfl, rfl⟩ := he
    exact rRegDraw md hX hm hk hd hnd hv hp hn
  · cases he
end
end Go.X

/- Arguments that are plain values, opened cell by cell. -/
set_option linter.unusedVariables false
namespace Go.X
open Go.ChangeShapes Go.WideShapes

/-- What one cell, or an array of integers, may hold. -/
inductive Sg where
  | int (k : IntKind)
  | bool
  | str
  | ints (n : Nat) (k : IntKind)

def SgRel : Sg → List Value → Prop
  | .int k, vs => ∃ n, vs = [.int k n] ∧ inK k n
  | .bool, vs => ∃ b, vs = [.bool b]
  | .str, vs => ∃ s : ByteArray, vs = [.string s] ∧ (s.size : Int) ≤ 9223372036854775807
  | .ints n k, vs => ∃ xs : List Int, vs = xs.map (Value.int k) ∧ xs.length = n ∧ ∀ x ∈ xs, inK k x

def SgsRel : List Sg → List Value → Prop
  | [], vs => vs = []
  | s :: l, vs => ∃ v1 v2, vs = v1 ++ v2 ∧ SgRel s v1 ∧ SgsRel l v2

def Sg.width : Sg → Nat
  | .ints n _ => n
  | _ => 1
def sgW : List Sg → Nat
  | [] => 0
  | s :: l => s.width + sgW l

theorem SgRel.length {s : Sg} {vs : List Value} (h : SgRel s vs) : vs.length = s.width := by
  cases s with
  | int k => obtain ⟨n, rfl, _⟩ := h; rfl
  | bool => obtain ⟨b, rfl⟩ := h; rfl
  | str => obtain ⟨s, rfl, _⟩ := h; rfl
  | ints n k => obtain ⟨xs, rfl, h1, _⟩ := h; simp [Sg.width, h1]
theorem SgsRel.length : ∀ {l : List Sg} {vs : List Value}, SgsRel l vs → vs.length = sgW l
  | [], vs, h => by cases h; rfl
  | s :: l, vs, ⟨v1, v2, e, h1, h2⟩ => by subst e; simp [sgW, h1.length, SgsRel.length h2]
theorem SgsRel.append : ∀ {l l' : List Sg} {vs vs' : List Value}, SgsRel l vs → SgsRel l' vs' → SgsRel (l ++ l') (vs ++ vs')
  | [], l', vs, vs', h, h' => by cases h; simpa using h'
  | s :: l, l', vs, vs', ⟨v1, v2, e, h1, h2⟩, h' => by subst e; exact ⟨v1, v2 ++ vs', by simp, h1, SgsRel.append h2 h'⟩

/-- The cells of a type, in a row. -/
def repSg (l : List Sg) : Nat → List Sg
  | 0 => []
  | n + 1 => l ++ repSg l n

mutual
def sgs (tt : TT) : Nat → TypeId → Option (List Sg)
  | 0, _ => none
  | fuel + 1, t => match look tt t with
    | some te => match te.d with
      | .int k => some [.int k]
      | .bool => some [.bool]
      | .str => some [.str]
      | .arr n e esz => match look tt e with
        | some ee => match Nat.beq te.size (n * esz) with
          | true => match ee.d, Nat.blt 8 n with
            | .int k, true => match Nat.beq esz 1 with
              | true => some [.ints n k]
              | false => none
            | _, _ => match sgs tt fuel e with
              | some l => match Nat.beq (sgW l) esz with
                | true => some (repSg l n)
                | false => none
              | none => none
          | false => none
        | none => none
      | .strct fs => match sgsF tt fuel fs 0 with
        | some l => match Nat.beq (sgW l) te.size with
          | true => some l
          | false => none
        | none => none
      | _ => none
    | none => none
def sgsF (tt : TT) : Nat → List (TypeId × Nat × Nat) → Nat → Option (List Sg)
  | _, [], _ => some []
  | 0, _ :: _, _ => none
  | fuel + 1, (t, off, sz) :: fs, o => match Nat.beq off o, sgs tt fuel t, sgsF tt fuel fs (o + sz) with
    | true, some l, some r => match Nat.beq (sgW l) sz with
      | true => some (l ++ r)
      | false => none
    | _, _, _ => none
end

section
variable {H : Type} {enc : TypeId × Value → H} {P : Program} {w : World} {base : Nat} {spare : Nat → Bool} {held : Bool} {tt : TT}

theorem cellsOf_info {t : TypeId} {n : Nat} (h : szB P t n = true) : P.cellsOf t = n := by
  obtain ⟨i, h1, h2⟩ := szB_of h
  simp [Program.cellsOf, h1, h2]

theorem rep_split {sz : Nat} {l : List Sg} (hw : sgW l = sz) : ∀ (n : Nat) (cs : List Value), cs.length = n * sz → (∀ i, i < n → SgsRel l ((cs.drop (i * sz)).take sz)) → SgsRel (repSg l n) cs
  | 0, cs, h, _ => by simp at h; subst h; rfl
  | n + 1, cs, h, hc => by
    have h0 := hc 0 (by omega)
    simp only [Nat.zero_mul, List.drop_zero] at h0
    have := rep_split hw n (cs.drop sz) (by rw [List.length_drop, h, Nat.succ_mul]; omega) (fun i hi => by
      have := hc (i + 1) (by omega)
      rw [List.drop_drop]
      rwa [show sz + i * sz = (i + 1) * sz by rw [Nat.succ_mul]; omega])
    have := SgsRel.append h0 this
    rwa [List.take_append_drop] at this

theorem sgW_append : ∀ (a b : List Sg), sgW (a ++ b) = sgW a + sgW b
  | [], b => by simp [sgW]
  | x :: a, b => by simp only [List.cons_append, sgW, sgW_append a b]; omega

theorem sgs_ok (hT : TtOk P tt) : ∀ (fuel : Nat),
    (∀ (t : TypeId) (l : List Sg), sgs tt fuel t = some l → ∀ (n : Nat) (cs : List Value) (x : DataW H × List MemPlace), DataW.trod enc P w base spare held n t cs = some x → SgsRel l cs) ∧
    (∀ (fs : List (TypeId × Nat × Nat)) (o : Nat) (l : List Sg), sgsF tt fuel fs o = some l → ∀ (flds : List Field) (cs : List Value) (m : Nat), fldB P flds fs = true → (∀ f ∈ flds, ∃ y : DataW H × List MemPlace, DataW.trod enc P w base spare held m f.type ((cs.drop f.offset).take (P.cellsOf f.type)) = some y) → SgsRel l ((cs.drop o).take (sgW l)))
  | 0 => ⟨fun t l h => by simp [sgs] at h, fun fs o l h => by
      cases fs with
      | nil => simp only [sgsF, Option.some.injEq] at h; subst h; intro flds cs m _ _; simp [SgsRel, sgW]
      | cons _ _ => simp [sgsF] at h⟩
  | fuel + 1 => by
    obtain ⟨ih1, ih2⟩ := sgs_ok hT fuel
    constructor
    · intro t l h n cs x hx
      simp only [sgs] at h
      cases hl : look tt t with
      | none => simp [hl] at h
      | some te =>
        simp only [hl] at h
        obtain ⟨⟨d, hu, hd⟩, ⟨i, hi, hsz, _⟩, _, _⟩ := hT t te hl
        have hct : P.cellsOf t = te.size := by simp [Program.cellsOf, hi, hsz]
        cases hdd : te.d with
        | int k =>
          rw [hdd] at h hd
          simp only [Option.some.injEq] at h
          subst h
          cases d <;> simp [dB] at hd
          subst hd
          obtain ⟨n', rfl, h2⟩ := trod_int hu hx
          exact ⟨_, [], by simp, ⟨n', rfl, h2⟩, rfl⟩
        | bool =>
          rw [hdd] at h hd
          simp only [Option.some.injEq] at h
          subst h
          cases d <;> simp [dB] at hd
          obtain ⟨b, rfl⟩ := trod_bool hu hx
          exact ⟨_, [], by simp, ⟨b, rfl⟩, rfl⟩
        | str =>
          rw [hdd] at h hd
          simp only [Option.some.injEq] at h
          subst h
          cases d <;> simp [dB] at hd
          obtain ⟨s, rfl, _, hs⟩ := DataW.trod_string hu hx
          exact ⟨_, [], by simp, ⟨s, rfl, by simp only [maxLen] at hs; omega⟩, rfl⟩
        | arr an e esz =>
          rw [hdd] at h hd
          simp only at h
          cases hle : look tt e with
          | none => simp [hle] at h
          | some ee =>
            simp only [hle] at h
            cases hb : Nat.beq te.size (an * esz) with
            | false => simp [hb] at h
            | true =>
              simp only [hb] at h
              have hsize := Nat.eq_of_beq_eq_true hb
              cases d with
              | array n' e' =>
                simp only [dB, Bool.and_eq_true] at hd
                obtain ⟨g1, g2, g3⟩ := hd
                have g1 := Nat.eq_of_beq_eq_true g1
                have g2 := Nat.eq_of_beq_eq_true g2
                subst g1 g2
                have hce := cellsOf_info g3
                have gen : ∀ l', sgs tt fuel e = some l' → sgW l' = esz → SgsRel (repSg l' an) cs := fun l' hl' hw => by
                  obtain ⟨xs, m, _, _, h3, h4, h5⟩ := DataW.trod_array hu hx
                  refine rep_split hw an cs (by rw [h3, hct, hsize]) fun i hi => ?_
                  have := h5 i hi
                  rw [hce, List.getElem?_eq_getElem (by omega)] at this
                  exact ih1 e l' hl' _ _ _ this
                split at h
                · rename_i k hek _
                  split at h
                  · rename_i he1
                    have he1 := Nat.eq_of_beq_eq_true he1
                    simp only [Option.some.injEq] at h
                    subst h
                    obtain ⟨⟨d', hu', hd'⟩, _, _, _⟩ := hT e ee hle
                    rw [hek] at hd'
                    cases d' <;> simp [dB] at hd'
                    subst hd'
                    obtain ⟨ys, e1, e2, e3⟩ := trod_ints hu hu' (by rw [hce, he1]) (by rw [hct, hsize, he1, Nat.mul_one]) hx
                    exact ⟨cs, [], by simp, ⟨ys, e1, e2, e3⟩, rfl⟩
                  · cases h
                · split at h
                  · rename_i l' hl'
                    split at h
                    · rename_i hw
                      simp only [Option.some.injEq] at h
                      subst h
                      exact gen l' hl' (Nat.eq_of_beq_eq_true hw)
                    · cases h
                  · cases h
              | _ => simp [dB] at hd
        | strct fs =>
          rw [hdd] at h hd
          simp only at h
          cases hf : sgsF tt fuel fs 0 with
          | none => simp [hf] at h
          | some l' =>
            simp only [hf] at h
            cases hw : Nat.beq (sgW l') te.size with
            | false => simp [hw] at h
            | true =>
              simp only [hw, Option.some.injEq] at h
              subst h
              cases d with
              | struct flds =>
                simp only [dB] at hd
                obtain ⟨xs, m, _, _, h3, h4, h5⟩ := DataW.trod_struct hu hx
                have := ih2 fs 0 l' hf flds.toList cs m hd (fun f hfm => by
                  obtain ⟨i, hi, hfi⟩ := List.mem_iff_getElem.1 hfm
                  have h6 := h5 i f (by rw [← hfi]; simp)
                  rw [List.getElem?_eq_getElem (by rw [h4]; simpa using hi)] at h6
                  exact ⟨_, h6⟩)
                rw [List.drop_zero, List.take_of_length_le (by rw [h3, hct, ← Nat.eq_of_beq_eq_true hw]; exact Nat.le_refl _)] at this
                exact this
              | _ => simp [dB] at hd
        | _ => rw [hdd] at h; simp at h
    · intro fs o l h flds cs m hf hy
      cases fs with
      | nil => simp only [sgsF, Option.some.injEq] at h; subst h; simp [SgsRel, sgW]
      | cons q fs =>
        obtain ⟨t, off, sz⟩ := q
        simp only [sgsF] at h
        split at h
        · rename_i l1 r ho hl1 hr
          split at h
          · rename_i hw
            simp only [Option.some.injEq] at h
            subst h
            have ho := Nat.eq_of_beq_eq_true ho
            have hw := Nat.eq_of_beq_eq_true hw
            cases flds with
            | nil => simp [fldB] at hf
            | cons f flds =>
              simp only [fldB, Bool.and_eq_true] at hf
              obtain ⟨f1, f2, f3, _, _, f6⟩ := hf
              have f1 := Nat.eq_of_beq_eq_true f1
              have f2 := Nat.eq_of_beq_eq_true f2
              obtain ⟨y, hyy⟩ := hy f (by simp)
              rw [f1, f2, ho, cellsOf_info f3] at hyy
              have a1 := ih1 t l1 hl1 m _ y hyy
              have a2 := ih2 fs (o + sz) r hr flds cs m f6 (fun g hg => hy g (by simp [hg]))
              have := SgsRel.append a1 a2
              rw [sgW_append, hw, List.take_add, List.drop_drop]
              exact this
          · cases h
        · cases h

/-- A value of a type, opened. -/
theorem open_sgs (hT : TtOk P tt) {r : Reach} {b0 : Nat} {t : TypeId} {l : List Sg} (hs : sgs tt 60 t = some l) {te : TE} (hl : look tt t = some te) (ha : te.d.agg = true) {v : Value} {d : DataW H} {ps : List MemPlace} (hval : Value.okWide P w r b0 t v) (hd : DataW.Trod enc P w base spare held t v d ps) :
    ∃ cs : List Value, v = .agg cs.toArray ∧ SgsRel l cs := by
  obtain ⟨fuel, hd⟩ := hd
  have hr := (sgs_ok hT 60).1 t l hs fuel _ _ hd
  obtain ⟨⟨d', hu, hdd⟩, _, _, _⟩ := hT t te hl
  have : ∃ cs, v = .agg cs := by
    cases hh : te.d with
    | arr n e esz =>
      rw [hh] at hdd
      cases d' <;> simp [dB] at hdd
      simp only [Value.okWide, hu] at hval
      obtain ⟨cs, h, _⟩ := hval
      exact ⟨cs, h⟩
    | strct fs =>
      rw [hh] at hdd
      cases d' <;> simp [dB] at hdd
      simp only [Value.okWide, hu] at hval
      obtain ⟨cs, h, _⟩ := hval
      exact ⟨cs, h⟩
    | _ => rw [hh] at ha; cases ha
  obtain ⟨cs, rfl⟩ := this
  exact ⟨cs.toList, by simp, hr⟩

theorem SgsRel.int {k : IntKind} {l : List Sg} {vs : List Value} (h : SgsRel (.int k :: l) vs) : ∃ n vs', vs = .int k n :: vs' ∧ inK k n ∧ SgsRel l vs' := by
  obtain ⟨v1, v2, rfl, ⟨n, rfl, hk⟩, h2⟩ := h
  exact ⟨n, v2, rfl, hk, h2⟩
theorem SgsRel.bool {l : List Sg} {vs : List Value} (h : SgsRel (.bool :: l) vs) : ∃ b vs', vs = .bool b :: vs' ∧ SgsRel l vs' := by
  obtain ⟨v1, v2, rfl, ⟨b, rfl⟩, h2⟩ := h
  exact ⟨b, v2, rfl, h2⟩
theorem SgsRel.nil {vs : List Value} (h : SgsRel [] vs) : vs = [] := h
theorem SgsRel.ints {n : Nat} {k : IntKind} {l : List Sg} {vs : List Value} (h : SgsRel (.ints n k :: l) vs) : ∃ (xs : List Int) (vs' : List Value), vs = xs.map (Value.int k) ++ vs' ∧ xs.length = n ∧ (∀ x ∈ xs, inK k x) ∧ SgsRel l vs' := by
  obtain ⟨v1, v2, rfl, ⟨xs, rfl, h1, h3⟩, h2⟩ := h
  exact ⟨xs, v2, rfl, h1, h3, h2⟩
end
end Go.X

/- Loops of a known number of rounds, walked round by round. -/
set_option linter.unusedVariables false
namespace Go.X

section
variable {X : Ctx} {ε : Env} {σ : Sig} {Q : Exit → Act → World → Prop}

theorem rRounds (n : Nat) {c : Code} (h : SW X c (Exit.then (Code.rounds X.P c Q n) Q) ε σ) : SW X (.loop c) Q ε σ := fun ε' a w hle hh => wp_loop_rounds (n + 1) (h ε' a w hle hh)
theorem rRound {n : Nat} {c : Code} (h : SW X c (Exit.then (Code.rounds X.P c Q n) Q) ε σ) : SQ X (Exit.then (Code.rounds X.P c Q (n + 1)) Q) .normal ε σ := fun ε' a w hle hh => h ε' a w hle hh
end

end Go.X

/- Loops that lay memory in each round: what came anew is forgotten. -/
set_option linter.unusedVariables false
namespace Go.X

def inRegs (D : Nat → Bool) : Regs → Bool
  | [] => true
  | (_, v) :: l => inV D v && inRegs D l
def inBlks (D : Nat → Bool) : Blks → Prop
  | [] => True
  | (i, e) :: l => (D i = true ∧ inE D e) ∧ inBlks D l

theorem inRegs_look {D : Nat → Bool} : ∀ {r : Regs} {s : Nat} {v : SV}, inRegs D r = true → look r s = some v → inV D v = true
  | [], _, _, _, h => by simp [look] at h
  | (t, y) :: r, s, v, hi, h => by
    simp only [inRegs, Bool.and_eq_true] at hi
    rw [look_cons] at h
    by_cases hs : s = t
    · rw [if_pos hs] at h
      injection h with h
      subst h
      exact hi.1
    · rw [if_neg hs] at h
      exact inRegs_look hi.2 h
theorem inBlks_look {D : Nat → Bool} : ∀ {r : Blks} {s : Nat} {v : E}, inBlks D r → look r s = some v → D s = true ∧ inE D v
  | [], _, _, _, h => by simp [look] at h
  | (t, y) :: r, s, v, hi, h => by
    rw [look_cons] at h
    by_cases hs : s = t
    · rw [if_pos hs] at h
      injection h with h
      subst h hs
      exact hi.1
    · rw [if_neg hs] at h
      exact inBlks_look hi.2 h

section
variable {X : Ctx} {ε : Env} {σ : Sig} {a : Act} {w : World} {Q : Exit → Act → World → Prop}

theorem Holds.forget {ε' : Env} {s : Sig} (h : Holds X ε' ⟨s.regs, s.blks, σ.nxt⟩ a w) (hle : s.nxt ≤ σ.nxt) (hr : inRegs (fun k => Nat.blt k s.nxt) s.regs = true) (hb : inBlks (fun k => Nat.blt k s.nxt) s.blks) : Holds X ⟨s.nxt, ε'.f, ε'.z⟩ s a w := by
  have hn : σ.nxt = ε'.n := h.tab.nxt
  have hE : EMap (fun k => Nat.blt k s.nxt) id ε' ⟨s.nxt, ε'.f, ε'.z⟩ := And.intro rfl fun i hi => by
    have := blt_true hi
    exact ⟨⟨fun _ => this, fun _ => by omega⟩, rfl, rfl, rfl, rfl⟩
  refine ⟨h.defers, h.size, fun t v hv => ?_, rfl, fun i e he => ?_, fun i j e e' hi hj => h.tab.sep i j e e' hi hj, h.tab.keep, fun i e he => h.tab.mine i e he, h.tab.froz, h.tab.newz⟩
  · have := (RelV.map hE (inRegs_look hr hv)).1 (h.regs t v hv)
    rwa [mapV_id] at this
  · obtain ⟨h1, h2⟩ := inBlks_look hb he
    refine ⟨blt_true h1, ?_⟩
    have := (RelE.map hE h2).1 (h.tab.ent i e he).2
    rwa [mapE_id] at this

theorem rLoopF {c : Code} {ι : Type} (I : ι → Sig) (m : ι → Nat) (N : Nat) (hN : ∀ i, (I i).nxt = N) (i0 : ι) (h0 : Le σ (I i0))
    (round : ∀ i, ε.n ≤ N → SW X c (Exit.then (Again X I m (m i) ε) Q) ε (I i)) : SW X (.loop c) Q ε σ := by
  intro ε0 a w hle hh
  have hεN : ε.n ≤ N := by
    have h1 := (hh.le h0).tab.nxt
    have h2 := hle.n
    rw [hN] at h1
    omega
  exact rLoop0 I m i0 h0 (fun i => round i hεN) ε0 a w hle hh

theorem rAgainF {ι : Type} {I : ι → Sig} {m : ι → Nat} {n : Nat} (j : ι) (hm : m j < n) (hN : ε.n ≤ (I j).nxt) (hr : RLe σ.regs (I j).regs) (hb : BLe σ.blks (I j).blks) (hle : Nat.ble (I j).nxt σ.nxt = true)
    (hri : inRegs (fun k => Nat.blt k (I j).nxt) (I j).regs = true) (hbi : inBlks (fun k => Nat.blt k (I j).nxt) (I j).blks) : SQ X (Exit.then (Again X I m n ε) Q) .normal ε σ := fun ε' a w hle' hh => by
  have h1 : Holds X ε' ⟨(I j).regs, (I j).blks, σ.nxt⟩ a w := hh.le ⟨hr, hb, rfl⟩
  refine ⟨j, _, hm, ?_, Holds.forget h1 (Nat.le_of_ble_eq_true hle) hri hbi⟩
  exact ⟨hN, hle'.blk, hle'.off, hle'.cap, hle'.nil, hle'.z⟩
end
end Go.X

/- Regions with a guarded operation that the executor does not take under its guard: the guard's truth is split on. -/
set_option linter.unusedVariables false
namespace Go.X

def execKL (tt : TT) (kt : KT) (gt : GT) (md : Md) (ops l : List Oper) (σ : Sig) : Out :=
  match execL tt kt gt md ops l σ True with
  | .done p σ' => clean σ' fun s => .done p s
  | .stop p σ' r => clean σ' fun s => .stop p s r
theorem execKL_eq (tt : TT) (kt : KT) (gt : GT) (md : Md) (ops l : List Oper) (σ : Sig) : execKL tt kt gt md ops l σ = execL tt kt gt md ops l σ True := by
  unfold execKL
  split <;> simp_all only [clean_eq]

/-- The operation as if it had no guard. -/
def bare (o : Oper) : Oper := { o with guard := none }
def exec1K (tt : TT) (kt : KT) (gt : GT) (md : Md) (ops : List Oper) (σ : Sig) (o : Oper) : Option (Prop × Sig) :=
  match exec1 tt kt gt md ops σ (bare o) with
  | some (p, s) => clean s fun s' => some (p, s')
  | none => none
theorem exec1K_eq (tt : TT) (kt : KT) (gt : GT) (md : Md) (ops : List Oper) (σ : Sig) (o : Oper) : exec1K tt kt gt md ops σ o = exec1 tt kt gt md ops σ (bare o) := by
  unfold exec1K
  split <;> simp_all only [clean_eq]

section
variable {X : Ctx} {ε : Env} {σ : Sig} {a : Act} {w : World} {o : Oper} {next : Act → World → Prop} {Q : Exit → Act → World → Prop}

theorem exec0_sound (hX : XOk X) (h : Holds X ε σ a w) {md : Md} {ops : List Oper} {p : Prop} {s : Sig} (hk : operB o = true) (hd : dstB X.nt o = true) (hc : exec1 X.tt X.kt X.gt md ops σ (bare o) = some (p, s)) (hp : p)
    (hn : ∀ ε' a' w', EnvLe ε ε' → Holds X ε' s a' w' → next a' w') : o.wp X.P a w next Q := by
  unfold exec1 at hc
  have hcore : core X.tt X.kt X.gt md σ (bare o) = core X.tt X.kt X.gt md σ o := rfl
  have hdst : (bare o).dst = o.dst := rfl
  simp only [show (bare o).guard = none from rfl, hcore, hdst] at hc
  cases hco : core X.tt X.kt X.gt md σ o with
  | none => simp [hco] at hc
  | some q =>
    obtain ⟨q1, eff⟩ := q
    cases eff with
    | val v =>
      simp only [hco] at hc
      cases hs : setR σ o.dst v σ.blks σ.nxt with
      | none => simp [hs] at hc
      | some s' =>
        simp only [hs, Option.some.injEq, Prod.mk.injEq] at hc
        obtain ⟨rfl, rfl⟩ := hc
        exact core_sound hX h hk hco hp fun ε' x w' hf => hn ε' _ w' hf.le (h.put hd hf.le (hf.rel v rfl) hf.tab hs)
    | fresh v new =>
      simp only [hco] at hc
      cases hs : setR σ o.dst v (addE new σ.nxt σ.blks).1 (addE new σ.nxt σ.blks).2 with
      | none => simp [hs] at hc
      | some s' =>
        simp only [hs, Option.some.injEq, Prod.mk.injEq] at hc
        obtain ⟨rfl, rfl⟩ := hc
        exact core_sound hX h hk hco hp fun ε' x w' hf => hn ε' _ w' hf.le (h.put hd hf.le (hf.rel v rfl) hf.tab hs)
    | turn v bl new =>
      simp only [hco] at hc
      cases v with
      | none =>
        simp only at hc
        cases hs : delR σ o.dst (addE new σ.nxt bl).1 (addE new σ.nxt bl).2 with
        | none => simp [hs] at hc
        | some s' =>
          simp only [hs, Option.some.injEq, Prod.mk.injEq] at hc
          obtain ⟨rfl, rfl⟩ := hc
          exact core_sound hX h hk hco hp fun ε' x w' hf => hn ε' _ w' hf.le (h.skip hd hf.le hf.tab hs)
      | some v =>
        simp only at hc
        cases hs : setR σ o.dst v (addE new σ.nxt bl).1 (addE new σ.nxt bl).2 with
        | none => simp [hs] at hc
        | some s' =>
          simp only [hs, Option.some.injEq, Prod.mk.injEq] at hc
          obtain ⟨rfl, rfl⟩ := hc
          exact core_sound hX h hk hco hp fun ε' x w' hf => hn ε' _ w' hf.le (h.put hd hf.le (hf.rel v rfl) hf.tab hs)

theorem rRegSL {id : Nat} {ops : Array Oper} (h : SL X ops.toList Q ops.toList ε σ) : SW X (.region id ops false) Q ε σ := fun ε' a w hle hh => by
  have := h ε' a w hle hh
  refine wp_region_list ?_
  rwa [Array.toArray_toList] at this

theorem rSLDone (md : Md) {ops l : List Oper} {σ' : Sig} {p : Prop} (hX : XOk X) (hk : opersB l = true) (hd : dstsB X.nt l = true) (he : execKL X.tt X.kt X.gt md ops l σ = .done p σ') (hp : p) (hn : SQ X Q .normal ε σ') : SL X ops Q l ε σ := by
  rw [execKL_eq] at he
  exact (execL_sound hX l σ σ' True p hk hd he hp fun ε' hle ε'' a w hle' hh => hn ε'' a w (hle.trans hle') hh).1

theorem execL_upto (hX : XOk X) {md : Md} {ops : List Oper} : ∀ (l r : List Oper) (σ σ' : Sig) (p0 p : Prop), opersB l = true → dstsB X.nt l = true → execL X.tt X.kt X.gt md ops l σ p0 = .stop p σ' r → p → (opersB r = true → dstsB X.nt r = true → SL X ops Q r ε σ') → SL X ops Q l ε σ ∧ p0
  | [], r, σ, σ', p0, p, _, _, h, hp, hn => by simp [execL] at h
  | o :: rest, r, σ, σ', p0, p, hk, hd, h, hp, hn => by
    simp only [execL] at h
    cases he : exec1 X.tt X.kt X.gt md ops σ o with
    | none =>
      simp only [he, Out.stop.injEq] at h
      obtain ⟨rfl, rfl, rfl⟩ := h
      exact ⟨hn hk hd, hp⟩
    | some q =>
      obtain ⟨q, s⟩ := q
      simp only [he] at h
      have hko := opersB_ok hk o (by simp)
      have hdo := dstsB_ok hd o (by simp)
      have hk' : opersB rest = true := by simp only [opersB, hko] at hk; exact hk
      have hd' : dstsB X.nt rest = true := by simp only [dstsB, hdo] at hd; exact hd
      obtain ⟨hrest, hp0, hq⟩ := execL_upto hX rest r s σ' (p0 ∧ q) p hk' hd' h hp hn
      refine ⟨fun ε' a w hle hh => ?_, hp0⟩
      refine wpList_step fun K hK => ?_
      exact exec1_sound hX hh hko hdo he hq fun ε'' a' w' hle' hh' => hK a' w' (hrest ε'' a' w' (hle.trans hle') hh')

/-- Up to a guarded operation; then with it, or without. -/
theorem rSLG (md : Md) {ops l rest : List Oper} {o : Oper} {σ' s0 s1 : Sig} {p q : Prop} {j : Nat} {want g : Bool} (hX : XOk X) (hk : opersB l = true) (hd : dstsB X.nt l = true)
    (he : execKL X.tt X.kt X.gt md ops l σ = .stop p σ' (o :: rest)) (hp : p) (ho : o.guard = some (j, want)) (hg : guardB σ'.regs ops j want = some g)
    (h1 : exec1K X.tt X.kt X.gt md ops σ' o = some (q, s1)) (h0 : setR σ' o.dst (.g g (.c (.bool false))) σ'.blks σ'.nxt = some s0)
    (hq : g = true → q) (ht : g = true → SL X ops Q rest ε s1) (hf : g = false → SL X ops Q rest ε s0) : SL X ops Q l ε σ := by
  rw [execKL_eq] at he
  rw [exec1K_eq] at h1
  refine (execL_upto hX l (o :: rest) σ σ' True p hk hd he hp fun hk' hd' => ?_).1
  intro ε' a w hle hh
  have hko := opersB_ok hk' o (by simp)
  have hdo := dstsB_ok hd' o (by simp)
  refine wpList_step fun K hK => ?_
  rw [guard_wanted hh ho hg]
  cases hgg : g with
  | true =>
    rw [if_pos rfl]
    exact exec0_sound hX hh hko hdo h1 (hq hgg) fun ε'' a' w' hle' hh' => hK a' w' (ht hgg ε'' a' w' (hle.trans hle') hh')
  | false =>
    rw [if_neg (by simp)]
    refine hK _ _ (hf hgg ε' _ w hle ?_)
    exact hh.put hdo (EnvLe.refl _) (v := .g g (.c (.bool false))) ⟨fun ht => (by rw [hgg] at ht; cases ht), fun _ => rfl⟩ hh.tab h0

/-- Past a guarded operation that is not wanted. -/
theorem rSLSkip (md : Md) {ops l rest : List Oper} {o : Oper} {σ' s0 : Sig} {p : Prop} {j : Nat} {want g : Bool} (hX : XOk X) (hk : opersB l = true) (hd : dstsB X.nt l = true)
    (he : execKL X.tt X.kt X.gt md ops l σ = .stop p σ' (o :: rest)) (hp : p) (ho : o.guard = some (j, want)) (hg : guardB σ'.regs ops j want = some g)
    (h0 : setR σ' o.dst (.g g (.c (.bool false))) σ'.blks σ'.nxt = some s0) (hf : g = false) (hn : SL X ops Q rest ε s0) : SL X ops Q l ε σ := by
  rw [execKL_eq] at he
  refine (execL_upto hX l (o :: rest) σ σ' True p hk hd he hp fun hk' hd' => ?_).1
  intro ε' a w hle hh
  have hdo := dstsB_ok hd' o (by simp)
  refine wpList_step fun K hK => ?_
  rw [guard_wanted hh ho hg, hf, if_neg (by simp)]
  refine hK _ _ (hn ε' _ w hle ?_)
  exact hh.put hdo (EnvLe.refl _) (v := .g g (.c (.bool false))) ⟨fun ht => (by rw [hf] at ht; cases ht), fun _ => rfl⟩ hh.tab h0
end
end Go.X

/- Objects that hold digits, opened and shut; ends of functions that turn entries. -/
set_option linter.unusedVariables false
namespace Go.X

theorem packB_length (bits : List Bool) : (packB bits).length = (bits.length + 7) / 8 := by simp [packB]
theorem bool_in (b : Bool) : 0 ≤ b.toInt ∧ b.toInt ≤ 1 := by cases b <;> simp [Bool.toInt]
theorem byteAt_in (bits : List Bool) (i : Nat) : 0 ≤ byteAt bits i ∧ byteAt bits i ≤ 255 := by
  unfold byteAt
  have h0 := bool_in (bits.getD (8 * i) false)
  have h1 := bool_in (bits.getD (8 * i + 1) false)
  have h2 := bool_in (bits.getD (8 * i + 2) false)
  have h3 := bool_in (bits.getD (8 * i + 3) false)
  have h4 := bool_in (bits.getD (8 * i + 4) false)
  have h5 := bool_in (bits.getD (8 * i + 5) false)
  have h6 := bool_in (bits.getD (8 * i + 6) false)
  have h7 := bool_in (bits.getD (8 * i + 7) false)
  omega
theorem packB_in (bits : List Bool) : ∀ x ∈ packB bits, inK .u8 x := by
  intro x hx
  obtain ⟨i, _, rfl⟩ := List.mem_map.1 hx
  exact byteAt_in bits i

/-- One place's own blocks told anew. -/
def Env.setAux (ε : Env) (i : Nat) (l : List Nat) : Env := ⟨ε.n, fun j => if j = i then { ε.f i with aux := l } else ε.f j, ε.z⟩
theorem EnvLe.setAux (ε : Env) (i : Nat) (l : List Nat) : EnvLe ε (ε.setAux i l) := by
  refine ⟨Nat.le_refl _, fun j _ => ?_, fun j _ => ?_, fun j _ => ?_, fun j _ => ?_, fun _ _ h => h⟩ <;> simp only [Env.setAux] <;> split <;> simp_all
theorem setAux_at (ε : Env) (i : Nat) (l : List Nat) : (ε.setAux i l).f i = { ε.f i with aux := l } := by simp [Env.setAux]
theorem setAux_off (ε : Env) {i j : Nat} (l : List Nat) (h : j ≠ i) : (ε.setAux i l).f j = ε.f j := by simp [Env.setAux, h]

section
variable {X : Ctx} {ε : Env} {σ : Sig} {a : Act} {w : World} {Q : Exit → Act → World → Prop}

theorem nil_cells {ε : Env} {vs : List Value} (h : RelB ε (.flat [.cs [.val (.slice none 0 0), .int .i64 0]]) vs) : vs = [.slice none 0 0, .int .i64 0] := by
  obtain ⟨v1, v2, rfl, h1, rfl⟩ := h
  match v1, h1 with
  | [a, b], h1 =>
    obtain ⟨⟨rfl, _⟩, ⟨rfl, _⟩, _⟩ := h1
    rfl
theorem two_cells {ε : Env} {g len : Nat} {n : Int} {vs : List Value} (h : RelB ε (.flat [.cs [.sl g 0 len 1, .int .i64 n]]) vs) : ∃ v, vs = [v, .int .i64 n] ∧ RelC ε (.sl g 0 len 1) v ∧ inK .i64 n := by
  obtain ⟨v1, v2, rfl, h1, rfl⟩ := h
  match v1, h1 with
  | [a, b], h1 =>
    obtain ⟨h2, ⟨rfl, h3⟩, _⟩ := h1
    exact ⟨a, by simp, h2, h3⟩

/-- A fresh object without digits. -/
theorem Tab.shut0 {bl bl' : Blks} {nxt id k : Nat} {ty : TypeId} (h : Tab X ε bl nxt w) (hl : look bl id = some (.mem true ty none (.flat [.cs [.val (.slice none 0 0), .int .i64 0]]))) (hu : upd bl id (.obj k []) = some bl') :
    Tab X (ε.setAux id []) bl' nxt w := by
  have hlk := look_upd hu
  obtain ⟨h1, h2⟩ := h.ent id _ hl
  have hn : (ε.f id).isnil = false := by
    cases hh : (ε.f id).isnil with
    | false => rfl
    | true => exact absurd (nil_cells (h2.1 hh).1) (by simp)
  obtain ⟨vs, junk, g1, g2, g3, g4⟩ := h2.2 hn
  simp only [if_true] at g4
  have hobj : RelE (ε.setAux id []) w ((ε.setAux id []).f id) (.obj k []) := by
    rw [setAux_at]
    refine ⟨hn, g4.1, ty, 0, [], .inl ⟨rfl, rfl, ?_⟩⟩
    show w.heap[(ε.f id).blk]? = _
    rw [g4.2, nil_cells g1, g2 rfl]; rfl
  have own : owned ((ε.setAux id []).f id) (.obj k []) = [(ε.f id).blk] := by rw [setAux_at]; rfl
  have own0 : owned (ε.f id) (.mem true ty none (.flat [.cs [.val (.slice none 0 0), .int .i64 0]])) = [(ε.f id).blk] := by simp [owned, hn]
  refine ⟨h.nxt, fun i e he => ?_, fun i j e f he hf hne ho b hb hb' => ?_, h.keep, fun i e he ho b hb => ?_, fun b ob hz => ?_, h.newz⟩
  · rw [hlk] at he
    by_cases hi : i = id
    · rw [if_pos hi] at he
      injection he with he
      subst he hi
      exact ⟨h1, hobj⟩
    · rw [if_neg hi] at he
      rw [setAux_off _ _ hi]
      exact ⟨(h.ent i e he).1, (h.ent i e he).2.mono (EnvLe.setAux _ _ _)⟩
  · rw [hlk] at he hf
    by_cases hi : i = id
    · have hj : j ≠ id := fun hj => hne (hi.trans hj.symm)
      rw [if_pos hi] at he
      rw [if_neg hj] at hf
      injection he with he
      subst he hi
      rw [own] at hb
      rw [setAux_off _ _ hj] at hb'
      exact h.sep i j _ _ hl hf hne rfl b (by rw [own0]; exact hb) hb'
    · rw [if_neg hi] at he
      rw [setAux_off _ _ hi] at hb
      by_cases hj : j = id
      · rw [if_pos hj] at hf
        injection hf with hf
        subst hf hj
        rw [own] at hb'
        exact h.sep i j _ _ he hl hne ho b hb (by rw [own0]; exact hb')
      · rw [if_neg hj] at hf
        rw [setAux_off _ _ hj] at hb'
        exact h.sep i j _ _ he hf hne ho b hb hb'
  · rw [hlk] at he
    by_cases hi : i = id
    · rw [if_pos hi] at he
      injection he with he
      subst he hi
      rw [own] at hb
      exact h.mine i _ hl rfl b (by rw [own0]; exact hb)
    · rw [if_neg hi] at he
      rw [setAux_off _ _ hi] at hb
      exact h.mine i e he ho b hb
  · obtain ⟨g1, g2⟩ := h.froz b ob hz
    refine ⟨g1, fun i e he ho hm => ?_⟩
    rw [hlk] at he
    by_cases hi : i = id
    · rw [if_pos hi] at he
      injection he with he
      subst he hi
      rw [own] at hm
      exact g2 i _ hl rfl (by rw [own0]; exact hm)
    · rw [if_neg hi] at he
      rw [setAux_off _ _ hi] at hm
      exact g2 i e he ho hm

theorem Holds.shut0 {bl' : Blks} {id k : Nat} {ty : TypeId} (h : Holds X ε σ a w) (hl : look σ.blks id = some (.mem true ty none (.flat [.cs [.val (.slice none 0 0), .int .i64 0]]))) (hu : upd σ.blks id (.obj k []) = some bl') :
    Holds X (ε.setAux id []) ⟨σ.regs, bl', σ.nxt⟩ a w :=
  ⟨h.defers, h.size, fun s v hs => (h.regs s v hs).mono (EnvLe.setAux _ _ _), h.tab.shut0 hl hu⟩

theorem rShut0 (id k : Nat) {c : Code} {bl' : Blks} {ty : TypeId} (hl : look σ.blks id = some (.mem true ty none (.flat [.cs [.val (.slice none 0 0), .int .i64 0]]))) (hu : upd σ.blks id (.obj k []) = some bl') (h : SW X c Q ε ⟨σ.regs, bl', σ.nxt⟩) : SW X c Q ε σ :=
  fun ε' a w hle hh => h _ a w (hle.trans (EnvLe.setAux _ _ _)) (hh.shut0 hl hu)
theorem rShut0Q (id k : Nat) {e : Exit} {bl' : Blks} {ty : TypeId} (hl : look σ.blks id = some (.mem true ty none (.flat [.cs [.val (.slice none 0 0), .int .i64 0]]))) (hu : upd σ.blks id (.obj k []) = some bl') (h : SQ X Q e ε ⟨σ.regs, bl', σ.nxt⟩) : SQ X Q e ε σ :=
  fun ε' a w hle hh => h _ a w (hle.trans (EnvLe.setAux _ _ _)) (hh.shut0 hl hu)

/-- An object opened, at a function's begin. -/
theorem rOpen {c : Code} {regs : Regs} {k : Nat} {bits : List Bool} (hlen : (bits.length : Int) ≤ 9223372036854775800)
    (h0 : bits = [] → ∀ ty, SW X c Q ε ⟨regs, [(0, .mem true ty none (.flat [.cs [.val (.slice none 0 0), .int .i64 0]]))], 1⟩)
    (h1 : ∀ ty, SW X c Q ε ⟨regs, [(1, .mem true k (some 1) (.flat [.ints ((bits.length + 7) / 8) .u8 (packB bits)])), (0, .mem true ty none (.flat [.cs [.sl 1 0 ((bits.length + 7) / 8) 1, .int .i64 bits.length]]))], 2⟩) :
    SW X c Q ε ⟨regs, [(0, .obj k bits)], 1⟩ := by
  intro ε' a w hle hh
  obtain ⟨e1, e2⟩ := hh.tab.ent 0 (.obj k bits) rfl
  obtain ⟨hn, hoff, ty, cap, junk, hc⟩ := e2
  have hnx : 1 = ε'.n := hh.tab.nxt
  have hmine := hh.tab.mine 0 (.obj k bits) rfl rfl
  rcases hc with ⟨rfl, haux, hheap⟩ | ⟨g, haux, hne, hcap, hheap, hg⟩
  · refine h0 rfl ty ε' a w hle ⟨hh.defers, hh.size, hh.regs, hh.tab.nxt, fun i e he => ?_, fun i j e f he hf hij => ?_, hh.tab.keep, fun i e he ho b hb => ?_, fun b ob hz => ⟨(hh.tab.froz b ob hz).1, fun i e he ho hb => ?_⟩, hh.tab.newz⟩
    · rw [look_cons] at he
      by_cases hi : i = 0
      · rw [if_pos hi] at he
        injection he with he
        subst he hi
        refine ⟨e1, fun h => (by rw [hn] at h; cases h), fun _ => ⟨[.slice none 0 0, .int .i64 0], [], ⟨[.slice none 0 0, .int .i64 0], [], rfl, ⟨⟨rfl, rfl⟩, ⟨rfl, by simp [inK]⟩, trivial⟩, rfl⟩, fun _ => rfl, fun sz h => (by cases h), ?_⟩⟩
        simp only [if_true]
        exact ⟨hoff, hheap⟩
      · rw [if_neg hi] at he; cases he
    · rw [look_cons] at he hf
      by_cases hi : i = 0
      · by_cases hj : j = 0
        · exact absurd (hi.trans hj.symm) hij
        · rw [if_neg hj] at hf; cases hf
      · rw [if_neg hi] at he; cases he
    · rw [look_cons] at he
      by_cases hi : i = 0
      · rw [if_pos hi] at he
        injection he with he
        subst he hi
        simp [owned, hn] at hb
        subst hb
        exact hmine _ (by simp [owned])
      · rw [if_neg hi] at he; cases he
    · rw [look_cons] at he
      by_cases hi : i = 0
      · rw [if_pos hi] at he
        injection he with he
        subst he hi
        simp [owned, hn] at hb
        subst hb
        exact (hh.tab.froz _ ob hz).2 0 _ rfl rfl (by simp [owned])
      · rw [if_neg hi] at he; cases he
  · let L : Loc := ⟨g, 0, cap, false, []⟩
    have hle' := EnvLe.push ε' L
    have f0 : (ε'.push L).f 0 = ε'.f 0 := by rw [ε'.push_old L e1]
    have f1 : (ε'.push L).f 1 = L := by
      show (if 1 = ε'.n then L else _) = L
      rw [if_pos hnx]
    have hpl := packB_length bits
    rw [hpl] at hheap hcap
    refine h1 ty (ε'.push L) a w (hle.trans hle') ⟨hh.defers, hh.size, fun s v hs => (hh.regs s v hs).mono hle', by show 2 = ε'.n + 1; omega, fun i e he => ?_, fun i j e f he hf hij ho b hb hb' => ?_, hh.tab.keep, fun i e he ho b hb => ?_, fun b ob hz => ⟨(hh.tab.froz b ob hz).1, fun i e he ho hb => ?_⟩, hh.tab.newz⟩
    · rw [look_cons, look_cons] at he
      by_cases hi : i = 1
      · rw [if_pos hi] at he
        injection he with he
        subst he hi
        refine ⟨by show 1 < ε'.n + 1; omega, ?_⟩
        rw [f1]
        refine ⟨fun h => (by cases h), fun _ => ⟨(packB bits).map (Value.int .u8), junk, ⟨_, [], (by rw [List.append_nil]), ⟨hpl, rfl, packB_in bits⟩, rfl⟩, fun h => (by cases h), fun sz h => ?_, ?_⟩⟩
        · injection h with h
          subst h
          show ((packB bits).map (Value.int .u8) ++ junk).length = cap * 1
          simp [hpl]; omega
        · simp only [if_true]
          exact ⟨rfl, hg⟩
      · rw [if_neg hi] at he
        by_cases hi0 : i = 0
        · rw [if_pos hi0] at he
          injection he with he
          subst he hi0
          refine ⟨by show 0 < ε'.n + 1; omega, ?_⟩
          rw [f0]
          refine ⟨fun h => (by rw [hn] at h; cases h), fun _ => ⟨[.slice (some ⟨g, 0, none⟩) ((bits.length + 7) / 8) cap, .int .i64 bits.length], [], ⟨[.slice (some ⟨g, 0, none⟩) ((bits.length + 7) / 8) cap, .int .i64 bits.length], [], rfl, ⟨⟨by show 1 < ε'.n + 1; omega, by omega, .inr ⟨by rw [f1], ?_, ?_⟩⟩, ⟨rfl, by simp only [inK]; omega⟩, trivial⟩, rfl⟩, fun _ => rfl, fun sz h => (by cases h), ?_⟩⟩
          · rw [f1]; show 0 + (bits.length + 7) / 8 ≤ cap; omega
          · rw [f1]; exact ⟨⟨g, 0, none⟩, rfl, fun _ => rfl⟩
          · simp only [if_true]
            exact ⟨hoff, hheap⟩
        · rw [if_neg hi0] at he; cases he
    · have key : ∀ i e, look [(1, E.mem true k (some 1) (.flat [.ints ((bits.length + 7) / 8) .u8 (packB bits)])), (0, E.mem true ty none (.flat [.cs [.sl 1 0 ((bits.length + 7) / 8) 1, .int .i64 bits.length]]))] i = some e → ∀ b, b ∈ owned ((ε'.push L).f i) e → (i = 1 ∧ b = g) ∨ (i = 0 ∧ b = (ε'.f 0).blk) := by
        intro i e he b hb
        rw [look_cons, look_cons] at he
        by_cases hi : i = 1
        · rw [if_pos hi] at he
          injection he with he
          subst he hi
          rw [f1] at hb
          simp [owned, L] at hb
          exact .inl ⟨rfl, hb⟩
        · rw [if_neg hi] at he
          by_cases hi0 : i = 0
          · rw [if_pos hi0] at he
            injection he with he
            subst he hi0
            rw [f0] at hb
            simp [owned, hn] at hb
            exact .inr ⟨rfl, hb⟩
          · rw [if_neg hi0] at he; cases he
      rcases key i e he b hb with ⟨rfl, r1⟩ | ⟨rfl, r1⟩ <;> rcases key j f hf b hb' with ⟨rfl, r2⟩ | ⟨rfl, r2⟩
      · exact hij rfl
      · exact hne (r1.symm.trans r2)
      · exact hne (r2.symm.trans r1)
      · exact hij rfl
    · rw [look_cons, look_cons] at he
      by_cases hi : i = 1
      · rw [if_pos hi] at he
        injection he with he
        subst he hi
        rw [f1] at hb
        simp [owned, L] at hb
        subst hb
        exact hmine _ (by simp [owned, haux])
      · rw [if_neg hi] at he
        by_cases hi0 : i = 0
        · rw [if_pos hi0] at he
          injection he with he
          subst he hi0
          rw [f0] at hb
          simp [owned, hn] at hb
          subst hb
          exact hmine _ (by simp [owned])
        · rw [if_neg hi0] at he; cases he
    · rw [look_cons, look_cons] at he
      by_cases hi : i = 1
      · rw [if_pos hi] at he
        injection he with he
        subst he hi
        rw [f1] at hb
        simp [owned, L] at hb
        subst hb
        exact (hh.tab.froz _ ob hz).2 0 _ rfl rfl (by simp [owned, haux])
      · rw [if_neg hi] at he
        by_cases hi0 : i = 0
        · rw [if_pos hi0] at he
          injection he with he
          subst he hi0
          rw [f0] at hb
          simp [owned, hn] at hb
          subst hb
          exact (hh.tab.froz _ ob hz).2 0 _ rfl rfl (by simp [owned])
        · rw [if_neg hi0] at he; cases he

/-- Its struct and its bytes make an object. -/
theorem Tab.shut {bl : Blks} {nxt g k len : Nat} {ty : TypeId} {n : Int} {xs : List Int} {bits : List Bool} (h : Tab X ε bl nxt w) (hl : look bl 0 = some (.mem true ty none (.flat [.cs [.sl g 0 len 1, .int .i64 n]])))
    (hg : look bl g = some (.mem true k (some 1) (.flat [.ints len .u8 xs]))) (hne : g ≠ 0) (hx : xs = packB bits) (hn : n = bits.length) : ∃ l, Tab X (ε.setAux 0 l) [(0, .obj k bits)] nxt w := by
  obtain ⟨a1, a2⟩ := h.ent 0 _ hl
  obtain ⟨b1, b2⟩ := h.ent g _ hg
  have hnil : (ε.f 0).isnil = false := by
    cases hh : (ε.f 0).isnil with
    | false => rfl
    | true => obtain ⟨v, hv, _⟩ := two_cells (a2.1 hh).1; cases hv
  obtain ⟨vs, junk, c1, c2, c3, c4⟩ := a2.2 hnil
  simp only [if_true] at c4
  obtain ⟨v, rfl, hv, hin⟩ := two_cells c1
  rw [c2 rfl] at c4
  have m0 := h.mine 0 _ hl rfl
  have mg := h.mine g _ hg rfl
  obtain ⟨_, hlen, hv⟩ := hv
  have fin : ∀ l, RelE ε w { ε.f 0 with aux := l } (.obj k bits) → (∀ b ∈ l, (X.w0.heap.size ≤ b ∨ b ∈ X.M) ∧ ∀ o, ε.z b ≠ some o) → Tab X (ε.setAux 0 l) [(0, .obj k bits)] nxt w := by
    intro l hobj hl'
    refine ⟨h.nxt, fun i e he => ?_, fun i j e f he hf hij => ?_, h.keep, fun i e he ho b hb => ?_, fun b ob hz => ⟨(h.froz b ob hz).1, fun i e he ho hb => ?_⟩, h.newz⟩
    · rw [look_cons] at he
      by_cases hi : i = 0
      · rw [if_pos hi] at he
        injection he with he
        subst he hi
        rw [setAux_at]
        exact ⟨a1, hobj⟩
      · rw [if_neg hi] at he; cases he
    · rw [look_cons] at he hf
      by_cases hi : i = 0
      · by_cases hj : j = 0
        · exact absurd (hi.trans hj.symm) hij
        · rw [if_neg hj] at hf; cases hf
      · rw [if_neg hi] at he; cases he
    · rw [look_cons] at he
      by_cases hi : i = 0
      · rw [if_pos hi] at he
        injection he with he
        subst he hi
        rw [setAux_at] at hb
        rcases List.mem_cons.1 hb with hb | hb
        · subst hb; exact m0 _ (by simp [owned, hnil])
        · exact (hl' b hb).1
      · rw [if_neg hi] at he; cases he
    · rw [look_cons] at he
      by_cases hi : i = 0
      · rw [if_pos hi] at he
        injection he with he
        subst he hi
        rw [setAux_at] at hb
        rcases List.mem_cons.1 hb with hb | hb
        · subst hb; exact (h.froz _ ob hz).2 0 _ hl rfl (by simp [owned, hnil])
        · exact (hl' b hb).2 ob hz
      · rw [if_neg hi] at he; cases he
  rcases hv with ⟨hgn, rfl, rfl⟩ | ⟨hgn, hcap, ad, rfl, had⟩
  · obtain ⟨v1, v2, e0, ⟨e1, e2, _⟩, _⟩ := (b2.1 hgn).1
    have hb0 : bits = [] := by
      have : (packB bits).length = 0 := by rw [← hx, e1]
      rw [packB_length] at this
      exact List.length_eq_zero_iff.1 (by omega)
    subst hb0
    refine ⟨[], fin [] ⟨hnil, c4.1, ty, 0, [], .inl ⟨rfl, rfl, ?_⟩⟩ (by simp)⟩
    rw [hn] at c4
    exact c4.2
  · obtain ⟨vs, junk', d1, d2, d3, d4⟩ := b2.2 hgn
    simp only [if_true] at d4
    obtain ⟨v1, v2, rfl, ⟨e1, rfl, e2⟩, rfl⟩ := d1
    have hd := had (.inr rfl)
    rw [d4.1] at hd
    simp only [Nat.zero_mul, Nat.add_zero] at hd
    subst hd
    have hc := d3 1 rfl
    subst hx hn
    refine ⟨[(ε.f g).blk], fin [(ε.f g).blk] ⟨hnil, c4.1, ty, (ε.f g).cap, junk', .inr ⟨(ε.f g).blk, rfl, fun he => ?_, ?_, ?_, ?_⟩⟩ (fun b hb => ?_)⟩
    · refine h.sep g 0 _ _ hg hl hne rfl (ε.f g).blk (by simp [owned, hgn]) ?_
      simp only [owned, hnil, Bool.false_eq_true, if_false, List.mem_singleton]
      exact he
    · simp at hc; omega
    · rw [e1]; exact c4.2
    · rw [d4.2]; simp
    · simp only [List.mem_singleton] at hb
      subst hb
      exact ⟨mg _ (by simp [owned, hgn]), fun ob hz => (h.froz _ ob hz).2 g _ hg rfl (by simp [owned, hgn])⟩

/-! ### ends -/
/-- Some entries new, some turned. -/
theorem rDoneAll {fn : Func} {ε0 : Env} {m : Nat} {ι : Nat → Nat} {lb : Blks} {r : Res} (ks : List Nat) (es : List E) (us : List (Nat × E)) (hX : XOk X) {p : Prop} {xs : List V1} (hr : resAll X.tt σ fn.results.toList = some (p, xs)) (hp : p) (hle : EnvLe ε0 ε)
    (hr' : r.r = mapV (fun j => idxN j ks) (retV xs)) (hin : inV (fun j => memN j ks) (retV xs) = true) (hn : r.new = es.map (mapE fun j => idxN j ks))
    (hks : All2 (fun k e => m ≤ k ∧ look σ.blks k = some e ∧ e.own = true ∧ inE (fun k => memN k ks) e) ks es) (hkn : ks.Nodup)
    (hu : r.up = us.map (fun q => (ι q.1, mapE ι q.2))) (hus : ∀ q ∈ us, q.1 < m ∧ look σ.blks q.1 = some q.2 ∧ q.2.own = true ∧ inE (fun k => Nat.blt k m) q.2 ∧ ∃ e, look lb q.1 = some e ∧ e.own = true)
    (hall : ∀ i e, look lb i = some e → e.own = true → ∃ q ∈ us, q.1 = i) (hud : (us.map (·.1)).Nodup) : SQ X (Post X fn ε0 m ι lb r) .ret ε σ :=
  (post_end hX hr hp hle fun v w ε' hle' hrel hT => ⟨ε', σ.blks, σ.nxt, retV xs, ks, es, us, hle', hrel, hT, hr', hin, hn, hks, hkn, hu, hus, hall, hud⟩).1

/-- One entry, handed in, turned. -/
theorem rDoneUp {fn : Func} {ε0 : Env} {ι : Nat → Nat} {e0 e : E} {r : Res} (hX : XOk X) {p : Prop} {xs : List V1} (hr : resAll X.tt σ fn.results.toList = some (p, xs)) (hp : p) (hle : EnvLe ε0 ε)
    (hr' : r.r = mapV (fun j => idxN j []) (retV xs)) (hin : inV (fun j => memN j []) (retV xs) = true) (hn : r.new = []) (he : look σ.blks 0 = some e) (ho : e.own = true) (ho0 : e0.own = true) (hie : inE (fun k => Nat.blt k 1) e)
    (hu : r.up = [(ι 0, mapE ι e)]) : SQ X (Post X fn ε0 1 ι [(0, e0)] r) .ret ε σ :=
  rDoneAll [] [] [(0, e)] hX hr hp hle hr' hin hn trivial List.nodup_nil hu (fun q hq => by
    simp only [List.mem_singleton] at hq
    subst hq
    exact ⟨Nat.zero_lt_one, he, ho, hie, e0, rfl, ho0⟩) (fun i e hi _ => by
    rw [look_cons] at hi
    by_cases h : i = 0
    · exact ⟨_, List.mem_singleton.2 rfl, h.symm⟩
    · rw [if_neg h] at hi; cases hi) (by simp)

/-- The object, opened at the begin, shut at the end. -/
theorem rDoneObj {fn : Func} {ε0 : Env} {ι : Nat → Nat} {e0 : E} {r : Res} (bits : List Bool) (hX : XOk X) {p : Prop} {xs : List V1} (hr : resAll X.tt σ fn.results.toList = some (p, xs)) (hp : p) (hle : EnvLe ε0 ε)
    (hr' : r.r = mapV (fun j => idxN j []) (retV xs)) (hin : inV (fun j => memN j []) (retV xs) = true) (hn : r.new = []) {g k len : Nat} {ty : TypeId} {n : Int} {ys : List Int}
    (hl : look σ.blks 0 = some (.mem true ty none (.flat [.cs [.sl g 0 len 1, .int .i64 n]]))) (hg : look σ.blks g = some (.mem true k (some 1) (.flat [.ints len .u8 ys]))) (hne : Nat.beq g 0 = false) (hx : ys = packB bits) (hnn : n = bits.length) (ho0 : e0.own = true)
    (hu : r.up = [(ι 0, .obj k bits)]) : SQ X (Post X fn ε0 1 ι [(0, e0)] r) .ret ε σ :=
  (post_end hX hr hp hle fun v w ε' hle' hrel hT => by
    obtain ⟨l, hT'⟩ := hT.shut hl hg (fun h => by subst h; cases hne) hx hnn
    refine ⟨ε'.setAux 0 l, [(0, .obj k bits)], σ.nxt, retV xs, [], [], [(0, .obj k bits)], hle'.trans (EnvLe.setAux _ _ _), hrel.mono (EnvLe.setAux _ _ _), hT', hr', hin, hn, trivial, List.nodup_nil, hu, fun q hq => ?_, fun i e hi _ => ?_, by simp⟩
    · simp only [List.mem_singleton] at hq
      subst hq
      exact ⟨Nat.zero_lt_one, rfl, rfl, trivial, e0, rfl, ho0⟩
    · rw [look_cons] at hi
      by_cases h : i = 0
      · exact ⟨_, List.mem_singleton.2 rfl, h.symm⟩
      · rw [if_neg h] at hi; cases hi).1
theorem rDoneObj0 {fn : Func} {ε0 : Env} {ι : Nat → Nat} {e0 : E} {r : Res} (k : Nat) (hX : XOk X) {p : Prop} {xs : List V1} (hr : resAll X.tt σ fn.results.toList = some (p, xs)) (hp : p) (hle : EnvLe ε0 ε)
    (hr' : r.r = mapV (fun j => idxN j []) (retV xs)) (hin : inV (fun j => memN j []) (retV xs) = true) (hn : r.new = []) {ty : TypeId}
    (hl : look σ.blks 0 = some (.mem true ty none (.flat [.cs [.val (.slice none 0 0), .int .i64 0]]))) (ho0 : e0.own = true)
    (hu : r.up = [(ι 0, .obj k [])]) : SQ X (Post X fn ε0 1 ι [(0, e0)] r) .ret ε σ :=
  (post_end hX hr hp hle fun v w ε' hle' hrel hT => by
    have hT' := (hT.sub (bl' := [(0, .mem true ty none (.flat [.cs [.val (.slice none 0 0), .int .i64 0]]))]) (fun i e hi => by
      rw [look_cons] at hi
      by_cases h : i = 0
      · rw [if_pos h] at hi; injection hi with hi; subst hi h; exact hl
      · rw [if_neg h] at hi; cases hi)).shut0 (id := 0) (k := k) rfl rfl
    refine ⟨ε'.setAux 0 [], [(0, .obj k [])], σ.nxt, retV xs, [], [], [(0, .obj k [])], hle'.trans (EnvLe.setAux _ _ _), hrel.mono (EnvLe.setAux _ _ _), hT', hr', hin, hn, trivial, List.nodup_nil, hu, fun q hq => ?_, fun i e hi _ => ?_, by simp⟩
    · simp only [List.mem_singleton] at hq
      subst hq
      exact ⟨Nat.zero_lt_one, rfl, rfl, trivial, e0, rfl, ho0⟩
    · rw [look_cons] at hi
      by_cases h : i = 0
      · exact ⟨_, List.mem_singleton.2 rfl, h.symm⟩
      · rw [if_neg h] at hi; cases hi).1
end
end Go.X

/- Regions of open order with one operation that changes memory: all ahead of it in the text it waits for, all behind it wait for it. -/
set_option linter.unusedVariables false
namespace Go.X

/-- What an operation waits for, as bits. -/
def orE (acc : List (Nat × Nat)) : List Edge → Nat
  | [] => 0
  | e :: l => match Region.binds .any e with
    | true => match look acc e.on with
      | some m => Nat.lor (Nat.lor (2 ^ e.on) m) (orE acc l)
      | none => Nat.lor (2 ^ e.on) (orE acc l)
    | false => orE acc l
def bef : Nat → List Oper → List (Nat × Nat) → List (Nat × Nat)
  | _, [], acc => acc
  | i, o :: l, acc => bef (i + 1) l ((i, orE acc o.after.toList) :: acc)
def behindB (k : Nat) (m : List (Nat × Nat)) : Nat → Nat → Bool
  | 0, _ => true
  | n + 1, i => match look m i with
    | some b => Nat.testBit b k && behindB k m n (i + 1)
    | none => false
def aheadB (b : Nat) : Nat → Bool
  | 0 => true
  | n + 1 => Nat.testBit b n && aheadB b n
def befOK (k n : Nat) (m : List (Nat × Nat)) : Bool :=
  match look m k with
  | some b => aheadB b k && behindB k m (n - (k + 1)) (k + 1)
  | none => false

/-- Operations up to the first that does more than to yield a value. -/
def drawU (tt : TT) (kt : KT) (gt : GT) (md : Md) (ops : List Oper) (base : Regs) (blks : Blks) (nxt : Nat) : Nat → List Oper → Vals → Prop → Prop × Vals × Nat × List Oper
  | i, [], vals, p => (p, vals, i, [])
  | i, o :: rest, vals, p => match o.dst with
    | some d => match edgesB i o.after.toList with
      | true => match execV tt kt gt md ops ⟨avail base vals o.after.toList, blks, nxt⟩ o with
        | some (q, v) => drawU tt kt gt md ops base blks nxt (i + 1) rest ((i, (d, v)) :: vals) (p ∧ q)
        | none => (p, vals, i, o :: rest)
      | false => (p, vals, i, o :: rest)
    | none => (p, vals, i, o :: rest)

def drawS (tt : TT) (kt : KT) (gt : GT) (md : Md) (ops : List Oper) (σ : Sig) : Option (Prop × Sig) :=
  match drawU tt kt gt md ops (baseOf (dstsOf ops) σ.regs) σ.blks σ.nxt 0 ops [] True with
  | (p, vals, k, c :: post) => match befOK k ops.length (bef 0 ops []) with
    | true => match exec1 tt kt gt md ops ⟨allRegs (baseOf (dstsOf ops) σ.regs) vals, σ.blks, σ.nxt⟩ c with
      | some (q, s1) => match drawL tt kt gt md ops (baseOf (dstsOf post) s1.regs) s1.blks s1.nxt (k + 1) post [] True with
        | some (r, vals2) => clean ⟨allRegs (baseOf (dstsOf post) s1.regs) vals2, s1.blks, s1.nxt⟩ fun s => some ((p ∧ q) ∧ r, s)
        | none => none
      | none => none
    | false => none
  | _ => none

theorem drawU_split {tt : TT} {kt : KT} {gt : GT} {md : Md} {ops : List Oper} {base : Regs} {blks : Blks} {nxt : Nat} : ∀ (l : List Oper) (i : Nat) (vals vals' : Vals) (p0 p : Prop) (k : Nat) (rest : List Oper), drawU tt kt gt md ops base blks nxt i l vals p0 = (p, vals', k, rest) →
    ∃ pre, l = pre ++ rest ∧ k = i + pre.length ∧ drawL tt kt gt md ops base blks nxt i pre vals p0 = some (p, vals')
  | [], i, vals, vals', p0, p, k, rest, h => by
    simp only [drawU, Prod.mk.injEq] at h
    obtain ⟨rfl, rfl, rfl, rfl⟩ := h
    exact ⟨[], rfl, rfl, rfl⟩
  | o :: l, i, vals, vals', p0, p, k, rest, h => by
    have stop : (p0, vals, i, o :: l) = (p, vals', k, rest) → ∃ pre, o :: l = pre ++ rest ∧ k = i + pre.length ∧ drawL tt kt gt md ops base blks nxt i pre vals p0 = some (p, vals') := fun h => by
      simp only [Prod.mk.injEq] at h
      obtain ⟨rfl, rfl, rfl, rfl⟩ := h
      exact ⟨[], rfl, rfl, rfl⟩
    simp only [drawU] at h
    split at h
    · rename_i d hd
      split at h
      · rename_i he
        split at h
        · rename_i q v hx
          obtain ⟨pre, h1, h2, h3⟩ := drawU_split l _ _ _ _ _ _ _ h
          refine ⟨o :: pre, by rw [h1]; rfl, by simp; omega, ?_⟩
          simp only [drawL, hd, he, hx]
          exact h3
        · exact stop h
      · exact stop h
    · exact stop h

/-- Lists of operations that are closed. -/
def Closed (ops : List Oper) (L : Array Bool) : Prop := ∀ i o, ops[i]? = some o → L.getD i false = true → ∀ e ∈ o.after.toList, Region.binds .any e = true → L.getD e.on false = true

theorem lor_bit {a b j : Nat} (h : (Nat.lor a b).testBit j = true) : a.testBit j = true ∨ b.testBit j = true := by
  have : (a ||| b).testBit j = true := h
  rw [Nat.testBit_or] at this
  simpa using this
theorem pow_bit {n j : Nat} (h : (2 ^ n).testBit j = true) : j = n := by
  rw [Nat.testBit_two_pow] at h
  simpa using (of_decide_eq_true h).symm

theorem orE_ok {ops : List Oper} {L : Array Bool} (hL : Closed ops L) {acc : List (Nat × Nat)} (hacc : ∀ i m, look acc i = some m → ∃ o, ops[i]? = some o ∧ ∀ j, m.testBit j = true → (∀ e ∈ o.after.toList, Region.binds .any e = true → L.getD e.on false = true) → L.getD j false = true) :
    ∀ {l : List Edge} {j : Nat}, (orE acc l).testBit j = true → (∀ e ∈ l, Region.binds .any e = true → L.getD e.on false = true) → L.getD j false = true
  | [], j, h, _ => by simp [orE] at h
  | e :: l, j, h, hd => by
    have tail : (orE acc l).testBit j = true → L.getD j false = true := fun h => orE_ok hL hacc h fun e' he' => hd e' (by simp [he'])
    simp only [orE] at h
    split at h
    · rename_i hb
      have hon := hd e (by simp) hb
      split at h
      · rename_i m hm
        rcases lor_bit h with h | h
        · rcases lor_bit h with h | h
          · rw [pow_bit h]; exact hon
          · obtain ⟨o, ho, hh⟩ := hacc _ _ hm
            exact hh j h fun e' he' hb' => hL _ o ho hon e' he' hb'
        · exact tail h
      · rcases lor_bit h with h | h
        · rw [pow_bit h]; exact hon
        · exact tail h
    · exact tail h

theorem bef_ok {ops : List Oper} {L : Array Bool} (hL : Closed ops L) : ∀ (l : List Oper) (i : Nat) (acc : List (Nat × Nat)), (∀ k o, l[k]? = some o → ops[i + k]? = some o) →
    (∀ i m, look acc i = some m → ∃ o, ops[i]? = some o ∧ ∀ j, m.testBit j = true → (∀ e ∈ o.after.toList, Region.binds .any e = true → L.getD e.on false = true) → L.getD j false = true) →
    ∀ i' m, look (bef i l acc) i' = some m → ∃ o, ops[i']? = some o ∧ ∀ j, m.testBit j = true → (∀ e ∈ o.after.toList, Region.binds .any e = true → L.getD e.on false = true) → L.getD j false = true
  | [], i, acc, _, hacc => hacc
  | o :: l, i, acc, hl, hacc => by
    refine bef_ok hL l (i + 1) _ (fun k o' hk => ?_) ?_
    · have := hl (k + 1) o' (by simpa using hk)
      rwa [show i + 1 + k = i + (k + 1) by omega]
    · intro i' m hm
      rw [look_cons] at hm
      by_cases hi : i' = i
      · rw [if_pos hi] at hm
        injection hm with hm
        subst hm hi
        exact ⟨o, by simpa using hl 0 o rfl, fun j hj hd => orE_ok hL hacc hj hd⟩
      · rw [if_neg hi] at hm
        exact hacc i' m hm

theorem aheadB_ok {b : Nat} : ∀ {n : Nat}, aheadB b n = true → ∀ j, j < n → b.testBit j = true
  | 0, _, j, h => by omega
  | n + 1, h, j, hj => by
    simp only [aheadB, Bool.and_eq_true] at h
    by_cases e : j = n
    · subst e; exact h.1
    · exact aheadB_ok h.2 j (by omega)
theorem behindB_ok {k : Nat} {m : List (Nat × Nat)} : ∀ {n i : Nat}, behindB k m n i = true → ∀ j, i ≤ j → j < i + n → ∃ b, look m j = some b ∧ b.testBit k = true
  | 0, i, _, j, h1, h2 => by omega
  | n + 1, i, h, j, h1, h2 => by
    simp only [behindB] at h
    split at h
    · rename_i b hb
      simp only [Bool.and_eq_true] at h
      by_cases e : j = i
      · subst e; exact ⟨b, hb, h.1⟩
      · exact behindB_ok h.2 j (by omega) (by omega)
    · cases h

section
variable {X : Ctx} {ε : Env} {σ : Sig} {Q : Exit → Act → World → Prop}

/-- One step of a draw: a value. -/
theorem draw_step {md : Md} {ops : Array Oper} {ε0 : Env} {base : Regs} {vals : Vals} (hX : XOk X) (hk : opersB ops.toList = true) (hd : dstsB X.nt ops.toList = true) (hnd : nodupB (dstsOf ops.toList) = true)
    (hvd : ∀ j d v, look vals j = some (d, v) → ∃ oj, ops.toList[j]? = some oj ∧ oj.dst = some d) {L : Array Bool} {a : Act} {w : World} {i : Nat} {o : Oper} (hol : ops.toList[i]? = some o)
    (hbase : ∀ s v d, look base s = some v → o.dst = some d → s ≠ d) (hfact : OpFact X.tt X.kt X.gt md ops.toList base σ.blks σ.nxt vals i o) (hI : DrawInv X ε0 σ base vals L a w)
    (hedge : ∀ e ∈ o.after.toList, Region.binds .any e = true → L.getD e.on false = true)
    (K : Act → World → Prop) (hK : ∀ a' w', DrawInv X ε0 σ base vals (L.setIfInBounds i true) a' w' → K a' w') : wpOp X.P ops Q i K a w := by
  obtain ⟨ε', hle, hh, hv⟩ := hI
  have ho : ops[i]? = some o := by simpa using hol
  have homem : o ∈ ops.toList := List.mem_of_getElem? hol
  have hkk := opersB_ok hk
  have hdd := dstsB_ok hd
  obtain ⟨d, R, q, v, hod, hvi, hx, hq, h5, hR⟩ := hfact
  have hHR : Holds X ε' ⟨R, σ.blks, σ.nxt⟩ a w := ⟨hh.defers, hh.size, fun s y hs => by
    rcases hR s y hs with h | ⟨e, g1, g2, g3⟩
    · exact hh.regs s y h
    · exact hv _ _ _ g3 (hedge e g1 g2), hh.tab⟩
  have hdn : d < X.nt := by
    have := hdd o homem
    unfold dstB at this
    rw [hod] at this
    exact blt_true this
  have hda : d < a.tmps.size := by rw [hh.size]; exact hdn
  have after : ∀ ε'' x w', EnvLe ε' ε'' → RelV ε'' v x → Tab X ε'' σ.blks σ.nxt w' → K (a.put o.dst x) w' := by
    intro ε'' x w' hle' hrel hT
    refine hK _ _ ⟨ε'', hle.trans hle', ⟨by rw [put_defers]; exact hh.defers, by rw [put_size]; exact hh.size, fun s y hs => ?_, hT⟩, fun j dj vj hj hLj => ?_⟩
    · rw [hod, put_getD a d s x hda, if_neg (hbase s y d hs hod)]
      exact (hh.regs s y hs).mono hle'
    · rw [hod, put_getD a d dj x hda]
      by_cases hji : j = i
      · subst hji
        rw [hvi] at hj
        injection hj with hj
        obtain ⟨rfl, rfl⟩ := Prod.mk.inj hj
        rw [if_pos rfl]
        exact hrel
      · rw [getD_set_ne false (fun e => hji e.symm)] at hLj
        obtain ⟨oj, hoj, hdj⟩ := hvd j dj vj hj
        have hne : dj ≠ d := fun e => by
          subst e
          exact hji (dsts_apart hnd hoj hol hdj hod)
        rw [if_neg hne]
        exact (hv j dj vj hj hLj).mono hle'
  unfold wpOp
  rw [ho]
  have hs := execV_sound (next := K) (Q := Q) hX hHR (hkk o homem) hx hq (fun ε'' x w' hle' hrel hT => after ε'' x w' hle' hrel hT)
  rw [Array.toArray_toList] at hs
  show if _ then _ else _
  split
  · rename_i hw
    rw [if_pos hw] at hs
    exact .inl hs
  · rename_i hw
    rw [if_neg hw] at hs
    exact hs

theorem count_set : ∀ (l : List Bool) (i : Nat), l[i]? = some false → ((l.set i true).filter (fun b => !b)).length + 1 = (l.filter (fun b => !b)).length := by
  intro l
  induction l with
  | nil => intro i h; simp at h
  | cons x l ihl =>
    intro i h
    cases i with
    | zero => simp at h; subst h; simp
    | succ i =>
      have := ihl i (by simpa using h)
      cases x <;> simp_all

/-- A draw in all orders, for an invariant that each step keeps. -/
theorem draw_all {ops : Array Oper} (I : Array Bool → Act → World → Prop) (hsize : ∀ L a w, I L a w → L.size = ops.size)
    (fin : ∀ L a w, I L a w → (∀ i, i < ops.size → L.getD i false = true) → Q .normal a w)
    (hedges : ∀ i o, ops.toList[i]? = some o → ∀ e ∈ o.after.toList, Region.binds .any e = true → e.on < i)
    (step : ∀ (L : Array Bool) a w, I L a w → ∀ i ∈ Region.ready .any ops L, ∀ K : Act → World → Prop, (∀ a' w', I (L.setIfInBounds i true) a' w' → K a' w') → wpOp X.P ops Q i K a w) :
    ∀ (fuel : Nat) (L : Array Bool) a w, I L a w → (L.toList.filter (fun b => !b)).length ≤ fuel → wpAny X.P .any ops Q fuel L a w := by
  have hops : ∀ i : Nat, ops[i]? = ops.toList[i]? := fun i => by simp
  have prog : ∀ (L : Array Bool), L.size = ops.size → Region.ready .any ops L = [] → ∀ i, i < ops.size → L.getD i false = true := by
    intro L hL hr i
    induction i using Nat.strongRecOn with
    | _ i ih =>
      intro hi
      cases hLi : L.getD i false with
      | true => rfl
      | false =>
        exfalso
        have hmem : i ∈ Region.ready .any ops L := by
          rw [mem_ready]
          obtain ⟨o, ho⟩ : ∃ o, ops[i]? = some o := ⟨_, Array.getElem?_eq_getElem hi⟩
          refine ⟨?_, o, ho, fun e he hbe => ?_⟩
          · simp only [Array.getD_eq_getD_getElem?] at hLi ⊢
            rw [Array.getElem?_eq_getElem (by omega)] at hLi ⊢
            simpa using hLi
          · have h6 := hedges i o (by rw [← hops]; exact ho) e (by simpa using he) hbe
            exact ih e.on h6 (by omega)
        rw [hr] at hmem
        cases hmem
  intro fuel
  induction fuel with
  | zero =>
    intro L a w hI hc
    have hL := hsize L a w hI
    have hallT : ∀ i, i < ops.size → L.getD i false = true := fun i hi => by
      have h0 : L.toList.filter (fun b => !b) = [] := List.eq_nil_of_length_eq_zero (by omega)
      rw [List.filter_eq_nil_iff] at h0
      have hi' : i < L.size := by omega
      have := h0 L[i] (by simp)
      simp only [Array.getD_eq_getD_getElem?, Array.getElem?_eq_getElem hi', Option.getD_some]
      simpa using this
    refine ⟨?_, fin L a w hI hallT⟩
    apply List.eq_nil_iff_forall_not_mem.2
    intro i hi
    obtain ⟨hun, o, ho, _⟩ := mem_ready.1 hi
    have hi' : i < ops.size := (Array.getElem?_eq_some_iff.1 ho).1
    have := hallT i hi'
    simp only [Array.getD_eq_getD_getElem?, Array.getElem?_eq_getElem (show i < L.size by omega), Option.getD_some] at this hun
    rw [this] at hun
    cases hun
  | succ fuel ih =>
    intro L a w hI hc
    have hL := hsize L a w hI
    refine ⟨fun hr => fin L a w hI (prog L hL hr), fun i hi => ?_⟩
    refine step L a w hI i hi _ fun a' w' hI' => ih _ a' w' hI' ?_
    obtain ⟨hun, o, ho, _⟩ := mem_ready.1 hi
    have hi' : i < L.size := by rw [hL]; exact (Array.getElem?_eq_some_iff.1 ho).1
    have hfalse : L[i] = false := by
      simp only [Array.getD_eq_getD_getElem?, Array.getElem?_eq_getElem hi', Option.getD_some] at hun
      exact hun
    have h1 := count_set L.toList i (by rw [Array.getElem?_toList, Array.getElem?_eq_getElem hi', hfalse])
    rw [Array.toList_setIfInBounds]
    omega

theorem rDrawS (md : Md) {id : Nat} {ops : Array Oper} {σ' : Sig} {p : Prop} (hX : XOk X) (hm : X.P.follows .mixedOrders = true) (hk : opersB ops.toList = true) (hd : dstsB X.nt ops.toList = true) (hnd : nodupB (dstsOf ops.toList) = true)
    (hed : ∀ i o, ops.toList[i]? = some o → edgesB i o.after.toList = true)
    (he : drawS X.tt X.kt X.gt md ops.toList σ = some (p, σ')) (hp : p) (hn : SQ X Q .normal ε σ') : SW X (.region id ops true) Q ε σ := by
  intro ε0 a0 w0 hle0 hh0
  unfold drawS at he
  split at he
  · rename_i p1 vals k c post hU
    split at he
    · rename_i hbef
      split at he
      · rename_i q1 s1 hex
        split at he
        · rename_i r1 vals2 hL2
          rw [clean_eq] at he
          simp only [Option.some.injEq, Prod.mk.injEq] at he
          obtain ⟨rfl, rfl⟩ := he
          obtain ⟨⟨hp1, hq1⟩, hr1⟩ := hp
          obtain ⟨pre, hsplit, hkl, hL1⟩ := drawU_split _ _ _ _ _ _ _ _ hU
          simp only [Nat.zero_add] at hkl
          obtain ⟨_, _, hlt1, hfact1, hregs1⟩ := drawL_ok _ 0 _ _ _ _ hL1 hp1 (fun j q h => by simp [look] at h)
          obtain ⟨_, _, hlt2, hfact2, hregs2⟩ := drawL_ok _ (k + 1) _ _ _ _ hL2 hr1 (fun j q h => by simp [look] at h)
          simp only [Nat.zero_add] at hfact1 hlt1
          have hops : ∀ i : Nat, ops[i]? = ops.toList[i]? := fun i => by simp
          have hszl : ops.toList.length = ops.size := by simp
          have hlen : ops.size = k + 1 + post.length := by rw [← hszl, hsplit, hkl]; simp; omega
          have hoppre : ∀ i, i < k → ops.toList[i]? = pre[i]? := fun i hi => by rw [hsplit, List.getElem?_append_left (by omega)]
          have hopc : ops.toList[k]? = some c := by rw [hsplit, List.getElem?_append_right (by omega), hkl]; simp
          have hoppost : ∀ j, ops.toList[k + 1 + j]? = post[j]? := fun j => by
            rw [hsplit, List.getElem?_append_right (by omega), show k + 1 + j - pre.length = j + 1 by omega, List.getElem?_cons_succ]
          generalize hb1 : baseOf (dstsOf ops.toList) σ.regs = base at *
          generalize hb2 : baseOf (dstsOf post) s1.regs = base2 at *
          have hbase1 : ∀ s v, look base s = some v → look σ.regs s = some v ∧ memN s (dstsOf ops.toList) = false := fun s v h => baseOf_look (hb1 ▸ h)
          have hbase2 : ∀ s v, look base2 s = some v → look s1.regs s = some v ∧ memN s (dstsOf post) = false := fun s v h => baseOf_look (hb2 ▸ h)
          have hvd1 : ∀ j d v, look vals j = some (d, v) → ∃ oj, ops.toList[j]? = some oj ∧ oj.dst = some d := fun j d v hj => by
            have hjl := hlt1 j _ hj
            obtain ⟨oj, hoj⟩ : ∃ oj, pre[j]? = some oj := ⟨_, List.getElem?_eq_getElem hjl⟩
            obtain ⟨d', _, _, v', hd', hv', _⟩ := hfact1 j oj hoj
            rw [hj] at hv'
            injection hv' with hv'
            obtain ⟨rfl, rfl⟩ := Prod.mk.inj hv'
            exact ⟨oj, by rw [hoppre j (by omega)]; exact hoj, hd'⟩
          have hge2 : ∀ j q, look vals2 j = some q → k + 1 ≤ j := by
            have gen : ∀ (rest : List Oper) (i : Nat) (vals vals' : Vals) (p0 p : Prop), drawL X.tt X.kt X.gt md ops.toList base2 s1.blks s1.nxt i rest vals p0 = some (p, vals') → (∀ j q, look vals j = some q → k + 1 ≤ j) → k + 1 ≤ i → ∀ j q, look vals' j = some q → k + 1 ≤ j := by
              intro rest
              induction rest with
              | nil =>
                intro i vals vals' p0 p h hv _
                simp only [drawL, Option.some.injEq, Prod.mk.injEq] at h
                obtain ⟨_, rfl⟩ := h
                exact hv
              | cons o rest ih =>
                intro i vals vals' p0 p h hv hi
                simp only [drawL] at h
                split at h
                · split at h
                  · split at h
                    · refine ih _ _ _ _ _ h (fun j q hj => ?_) (by omega)
                      rw [look_cons] at hj
                      by_cases hji : j = i
                      · omega
                      · rw [if_neg hji] at hj; exact hv j q hj
                    · cases h
                  · cases h
                · cases h
            exact gen _ _ _ _ _ _ hL2 (fun j q h => by simp [look] at h) (Nat.le_refl _)
          have hvd2 : ∀ j d v, look vals2 j = some (d, v) → ∃ oj, ops.toList[j]? = some oj ∧ oj.dst = some d := fun j d v hj => by
            have hjl := hlt2 j _ hj
            have hjg := hge2 j _ hj
            obtain ⟨oj, hoj⟩ : ∃ oj, post[j - (k + 1)]? = some oj := ⟨_, List.getElem?_eq_getElem (by omega)⟩
            obtain ⟨d', _, _, v', hd', hv', _⟩ := hfact2 (j - (k + 1)) oj hoj
            rw [show k + 1 + (j - (k + 1)) = j by omega, hj] at hv'
            injection hv' with hv'
            obtain ⟨rfl, rfl⟩ := Prod.mk.inj hv'
            have h1 := hoppost (j - (k + 1))
            rw [show k + 1 + (j - (k + 1)) = j by omega] at h1
            exact ⟨oj, by rw [h1]; exact hoj, hd'⟩
          have hedges : ∀ i o, ops.toList[i]? = some o → ∀ e ∈ o.after.toList, Region.binds .any e = true → e.on < i := fun i o ho e he' hbe => edgesB_ok (hed i o ho) e he' hbe
          -- what the bits say
          have hdeps : ∀ L, Closed ops.toList L → ∀ i m, look (bef 0 ops.toList []) i = some m → ∃ o, ops.toList[i]? = some o ∧ ∀ j, m.testBit j = true → (∀ e ∈ o.after.toList, Region.binds .any e = true → L.getD e.on false = true) → L.getD j false = true :=
            fun L hL => bef_ok hL ops.toList 0 [] (fun k' o hk' => by simpa using hk') (fun i m h => by simp [look] at h)
          unfold befOK at hbef
          split at hbef
          · rename_i mk hmk
            simp only [Bool.and_eq_true] at hbef
            obtain ⟨hahead, hbehind⟩ := hbef
            let I : Array Bool → Act → World → Prop := fun L a w => L.size = ops.size ∧ Closed ops.toList L ∧
              ((L.getD k false = false ∧ (∀ i, k < i → L.getD i false = false) ∧ DrawInv X ε0 σ base vals L a w) ∨ (L.getD k false = true ∧ (∀ i, i < k → L.getD i false = true) ∧ DrawInv X ε0 s1 base2 vals2 L a w))
            have fin : ∀ L a w, I L a w → (∀ i, i < ops.size → L.getD i false = true) → Q .normal a w := by
              intro L a w ⟨hL, hC, hcase⟩ hall
              rcases hcase with ⟨h1, _, _⟩ | ⟨h1, _, ε', hle, hh, hv⟩
              · rw [hall k (by omega)] at h1; cases h1
              · refine hn ε' a w (hle0.trans hle) ⟨hh.defers, hh.size, fun s v hs => ?_, hh.tab⟩
                rcases hregs2 s v hs with h | ⟨j, _, h⟩
                · exact hh.regs s v h
                · exact hv j s v h (hall j (by have := hlt2 j _ h; omega))
            have getset : ∀ (L : Array Bool) (i : Nat), i < L.size → (L.setIfInBounds i true).getD i false = true := fun L i hi => by
              simp [Array.getD_eq_getD_getElem?, hi]
            have step : ∀ (L : Array Bool) a w, I L a w → ∀ i ∈ Region.ready .any ops L, ∀ K : Act → World → Prop, (∀ a' w', I (L.setIfInBounds i true) a' w' → K a' w') → wpOp X.P ops Q i K a w := by
              intro L a w ⟨hL, hC, hcase⟩ i hi K hK
              obtain ⟨hun, o, ho, hedge⟩ := mem_ready.1 hi
              have hol : ops.toList[i]? = some o := by rw [← hops]; exact ho
              have hisz : i < ops.size := (Array.getElem?_eq_some_iff.1 ho).1
              have hLi : L.getD i false = false := by
                simp only [Array.getD_eq_getD_getElem?, Array.getElem?_eq_getElem (show i < L.size by omega), Option.getD_some] at hun ⊢
                exact hun
              have hedge' : ∀ e ∈ o.after.toList, Region.binds .any e = true → L.getD e.on false = true := fun e he' hbe => hedge e (by simpa using he') hbe
              have hC' : Closed ops.toList (L.setIfInBounds i true) := fun j oj hj hLj e he' hbe => by
                by_cases hji : j = i
                · subst hji
                  rw [hol] at hj
                  injection hj with hj
                  subst hj
                  exact getD_set_true (hedge' e he' hbe)
                · rw [getD_set_ne false (fun e => hji e.symm)] at hLj
                  exact getD_set_true (hC j oj hj hLj e he' hbe)
              have hsz' : (L.setIfInBounds i true).size = ops.size := by simpa using hL
              rcases hcase with ⟨h1, h2, hI⟩ | ⟨h1, h2, hI⟩
              · rcases Nat.lt_trichotomy i k with hik | hik | hik
                · -- a value ahead
                  have hfact := hfact1 i o (by rw [← hoppre i hik]; exact hol)
                  refine draw_step hX hk hd hnd hvd1 hol (fun s v d hs hd' e => ?_) hfact hI hedge' K fun a' w' hI' => hK a' w' ⟨hsz', hC', .inl ⟨?_, fun j hj => ?_, hI'⟩⟩
                  · subst e
                    have := (hbase1 s v hs).2
                    rw [memN_mem (dstsOf_mem hol hd')] at this
                    cases this
                  · rw [getD_set_ne false (by omega)]; exact h1
                  · rw [getD_set_ne false (by omega)]; exact h2 j hj
                · -- the change
                  subst hik
                  rw [hopc] at hol
                  injection hol with hol
                  subst hol
                  obtain ⟨o', ho', hdep⟩ := hdeps L hC i mk hmk
                  rw [hopc] at ho'
                  injection ho' with ho'
                  subst ho'
                  have hall : ∀ j, j < i → L.getD j false = true := fun j hj => hdep j (aheadB_ok hahead j hj) hedge'
                  obtain ⟨ε', hle, hh, hv⟩ := hI
                  have hH : Holds X ε' ⟨allRegs base vals, σ.blks, σ.nxt⟩ a w := ⟨hh.defers, hh.size, fun s v hs => by
                    rcases hregs1 s v hs with h | ⟨j, _, h⟩
                    · exact hh.regs s v h
                    · exact hv j s v h (hall j (by have := hlt1 j _ h; omega)), hh.tab⟩
                  have hcm : c ∈ ops.toList := List.mem_of_getElem? hopc
                  unfold wpOp
                  rw [ho]
                  have hs := exec1_sound (next := K) (Q := Q) hX hH (opersB_ok hk c hcm) (dstsB_ok hd c hcm) hex hq1 (fun ε'' a' w' hle' hh' => hK a' w' ⟨hsz', hC', .inr ⟨getset L i (by omega), fun j hj => getD_set_true (hall j hj), ε'', hle.trans hle', ⟨hh'.defers, hh'.size, fun s v hs => hh'.regs s v (hbase2 s v hs).1, hh'.tab⟩, fun j d v hj hLj => by
                    have hg := hge2 j _ hj
                    rw [getD_set_ne false (by omega), h2 j (by omega)] at hLj
                    cases hLj⟩⟩)
                  rw [Array.toArray_toList] at hs
                  show if _ then _ else _
                  split
                  · rename_i hw
                    rw [if_pos hw] at hs
                    exact .inl hs
                  · rename_i hw
                    rw [if_neg hw] at hs
                    exact hs
                · -- what stands behind waits
                  obtain ⟨b, hb, hbk⟩ := behindB_ok hbehind i (by omega) (by rw [hszl, hlen] at *; omega)
                  obtain ⟨o', ho', hdep⟩ := hdeps L hC i b hb
                  rw [hol] at ho'
                  injection ho' with ho'
                  subst ho'
                  rw [hdep k hbk hedge'] at h1
                  cases h1
              · rcases Nat.lt_trichotomy i k with hik | hik | hik
                · rw [h2 i hik] at hLi; cases hLi
                · subst hik; rw [h1] at hLi; cases hLi
                · have hpi : post[i - (k + 1)]? = some o := by
                    have := hoppost (i - (k + 1))
                    rw [show k + 1 + (i - (k + 1)) = i by omega] at this
                    rw [← this]; exact hol
                  have hfact := hfact2 (i - (k + 1)) o hpi
                  rw [show k + 1 + (i - (k + 1)) = i by omega] at hfact
                  refine draw_step hX hk hd hnd hvd2 hol (fun s v d hs hd' e => ?_) hfact hI hedge' K fun a' w' hI' => hK a' w' ⟨hsz', hC', .inr ⟨getD_set_true h1, fun j hj => getD_set_true (h2 j hj), hI'⟩⟩
                  subst e
                  have := (hbase2 s v hs).2
                  rw [memN_mem (dstsOf_mem hpi hd')] at this
                  cases this
            refine wp_region_any hm (draw_all (X := X) I (fun L a w h => h.1) fin hedges step ops.size _ a0 _ ⟨by simp, fun i o ho hL => ?_, .inl ⟨?_, fun i _ => ?_, ε0, EnvLe.refl _, ⟨hh0.defers, hh0.size, fun s v hs => hh0.regs s v (hbase1 s v hs).1, ?_⟩, fun i d v _ hL => ?_⟩⟩ ?_)
            · exfalso
              simp only [Array.getD_eq_getD_getElem?] at hL
              rcases Nat.lt_or_ge i ops.size with h | h
              · rw [Array.getElem?_eq_getElem (by simpa using h)] at hL
                simp at hL
              · rw [Array.getElem?_eq_none (by simpa using h)] at hL
                simp at hL
            · simp only [Array.getD_eq_getD_getElem?]
              rw [Array.getElem?_eq_getElem (by simp; omega)]
              simp
            · simp only [Array.getD_eq_getD_getElem?]
              rcases Nat.lt_or_ge i ops.size with h | h
              · rw [Array.getElem?_eq_getElem (by simpa using h)]
                simp
              · rw [Array.getElem?_eq_none (by simpa using h)]
                simp
            · exact hh0.tab.drew _
            · exfalso
              simp only [Array.getD_eq_getD_getElem?] at hL
              rcases Nat.lt_or_ge i ops.size with h | h
              · rw [Array.getElem?_eq_getElem (by simpa using h)] at hL
                simp at hL
              · rw [Array.getElem?_eq_none (by simpa using h)] at hL
                simp at hL
            · refine Nat.le_trans (List.length_filter_le _ _) (by simp)
          · cases hbef
        · cases he
      · cases he
    · cases he
  · cases he

/-- All edges lead back. -/
def backB : Nat → List Oper → Bool
  | _, [] => true
  | i, o :: l => match edgesB i o.after.toList with
    | true => backB (i + 1) l
    | false => false
theorem backB_ok : ∀ {l : List Oper} {i : Nat}, backB i l = true → ∀ k o, l[k]? = some o → edgesB (i + k) o.after.toList = true
  | [], i, _, k, o, h => by simp at h
  | x :: l, i, hb, k, o, h => by
    simp only [backB] at hb
    split at hb
    · rename_i hx
      cases k with
      | zero => simp at h; subst h; exact hx
      | succ k =>
        have := backB_ok hb k o (by simpa using h)
        rwa [show i + 1 + k = i + (k + 1) by omega] at this
    · cases hb
theorem rDrawSC (md : Md) {id : Nat} {ops : Array Oper} {σ' : Sig} {p : Prop} (hX : XOk X) (hm : X.P.follows .mixedOrders = true) (hk : opersB ops.toList = true) (hd : dstsB X.nt ops.toList = true) (hnd : nodupB (dstsOf ops.toList) = true) (hed : backB 0 ops.toList = true)
    (he : drawS X.tt X.kt X.gt md ops.toList σ = some (p, σ')) (hp : p) (hn : SQ X Q .normal ε σ') : SW X (.region id ops true) Q ε σ :=
  rDrawS md hX hm hk hd hnd (fun i o ho => by simpa using backB_ok hed i o ho) he hp hn
end
end Go.X

/- Strings as lists of bytes; digits; the iterator over a string. -/
set_option linter.unusedVariables false
namespace Go.X

/-! ### bytes -/
theorem bl_length (s : ByteArray) : (bl s).length = s.size := by simp [bl]
theorem bl_in (s : ByteArray) : ∀ x ∈ bl s, 0 ≤ x ∧ x ≤ 255 := by
  intro x hx
  obtain ⟨b, _, rfl⟩ := List.mem_map.1 hx
  have := b.toNat_lt
  omega
theorem byteI_bl (s : ByteArray) (i : Nat) : byteI s i = (bl s).getD i 0 := by
  unfold byteI bl
  simp only [List.getD_eq_getElem?_getD, List.getElem?_map]
  cases s.data.toList[i]? <;> rfl
theorem byteI_in (s : ByteArray) (i : Nat) : 0 ≤ byteI s i ∧ byteI s i ≤ 255 := by
  unfold byteI
  have := (s.data.toList.getD i 0).toNat_lt
  omega
theorem bl_append (s t : ByteArray) : bl (s ++ t) = bl s ++ bl t := by
  simp [bl]
theorem bl_extract (s : ByteArray) (a b : Nat) : bl (s.extract a b) = ((bl s).drop a).take (b - a) := by
  unfold bl
  rw [← ByteArray.toList_eq, Lib.extract_toList]
  simp [List.map_take, List.map_drop]
theorem bl_bytesOf {xs : List Int} (h : ∀ x ∈ xs, 0 ≤ x ∧ x ≤ 255) : bl (bytesOf xs) = xs := by
  unfold bl bytesOf
  simp only [List.map_map]
  conv => rhs; rw [← List.map_id xs]
  apply List.map_congr_left
  intro x hx
  have := h x hx
  simp only [Function.comp, UInt8.toNat_ofNat', id_eq]
  omega
theorem bl_inj {s t : ByteArray} (h : bl s = bl t) : s = t := by
  have : s.data.toList = t.data.toList := by
    unfold bl at h
    exact List.map_inj_right (fun a b hab => UInt8.toNat_inj.1 (by omega)) |>.1 h
  cases s; cases t
  simp at this
  simp [this]
theorem bytesOf_bl (s : ByteArray) : bytesOf (bl s) = s := bl_inj (bl_bytesOf (bl_in s))
theorem bytesOf_append (xs ys : List Int) : bytesOf (xs ++ ys) = bytesOf xs ++ bytesOf ys := by
  unfold bytesOf
  apply ByteArray.ext
  simp
theorem bytesOf_nil : bytesOf [] = ⟨#[]⟩ := rfl
theorem strEq (s t : ByteArray) : decide (s.toList = t.toList) = decide (bl s = bl t) := by
  rw [decide_eq_decide, ByteArray.toList_eq, ByteArray.toList_eq]
  constructor
  · intro h; unfold bl; rw [h]
  · intro h; rw [bl_inj h]
theorem strEq_self (s : ByteArray) : decide (s.toList = s.toList) = true := by simp
theorem strEq_of {s t : ByteArray} (h : s = t) : decide (s.toList = t.toList) = true := by rw [h]; simp

/-! ### digits -/
def digits (v : Int) : Nat → List Bool
  | 0 => []
  | n + 1 => digits (v / 2) n ++ [decide (v % 2 = 1)]
theorem digits_length (v : Int) : ∀ n, (digits v n).length = n := by
  intro n
  induction n generalizing v with
  | zero => rfl
  | succ n ih => simp [digits, ih]
def numB (l : List Bool) : Int := l.foldl (fun a b => 2 * a + b.toInt) 0
theorem numB_snoc (l : List Bool) (b : Bool) : numB (l ++ [b]) = 2 * numB l + b.toInt := by simp [numB]
theorem snocB {p : List Bool → Prop} (h0 : p []) (h1 : ∀ l b, p l → p (l ++ [b])) (l : List Bool) : p l := by
  have : ∀ m : List Bool, p m.reverse := by
    intro m
    induction m with
    | nil => exact h0
    | cons b m ih => simpa using h1 _ b ih
  simpa using this l.reverse
theorem numB_in (l : List Bool) : 0 ≤ numB l ∧ numB l < 2 ^ l.length := by
  induction l using snocB with
  | h0 => simp [numB]
  | h1 l b ih =>
    rw [numB_snoc, List.length_append]
    have := bool_in b
    simp only [List.length_cons, List.length_nil, Nat.zero_add, Int.pow_succ]
    omega
theorem numB_digits (v : Int) (n : Nat) (h0 : 0 ≤ v) (h : v < 2 ^ n) : numB (digits v n) = v := by
  induction n generalizing v with
  | zero => simp only [Int.pow_zero] at h; simp [digits, numB]; omega
  | succ n ih =>
    simp only [Int.pow_succ] at h
    rw [digits, numB_snoc, ih (v / 2) (by omega) (by omega)]
    rcases (by omega : v % 2 = 0 ∨ v % 2 = 1) with h | h <;> simp [h, Bool.toInt] <;> omega
theorem digits_numB (l : List Bool) : digits (numB l) l.length = l := by
  induction l using snocB with
  | h0 => rfl
  | h1 l b ih =>
    have hb := bool_in b
    rw [List.length_append, numB_snoc]
    simp only [List.length_cons, List.length_nil, Nat.zero_add, digits]
    rw [show (2 * numB l + b.toInt) / 2 = numB l by omega, ih]
    congr 1
    have : (2 * numB l + b.toInt) % 2 = b.toInt := by omega
    rw [this]
    cases b <;> simp [Bool.toInt]
theorem digits_succ (v : Int) (n : Nat) : digits v (n + 1) = decide (v / 2 ^ n % 2 = 1) :: digits v n := by
  induction n generalizing v with
  | zero => simp [digits]
  | succ n ih =>
    rw [digits, ih (v / 2)]
    show decide (v / 2 / 2 ^ n % 2 = 1) :: (digits (v / 2) n ++ [decide (v % 2 = 1)]) = _
    rw [show digits v (n + 1) = digits (v / 2) n ++ [decide (v % 2 = 1)] from rfl]
    congr 3
    rw [Int.ediv_ediv, if_neg (by omega), Int.sub_zero, Int.pow_succ, Int.mul_comm]
/-- Digits from the highest one on. -/
theorem digits_split (v : Int) (n i : Nat) (h : i < n) : digits v n = (digits v n).take (n - (i + 1)) ++ decide (v / 2 ^ i % 2 = 1) :: digits v i := by
  have key : ∀ m, ∃ l, l.length = m ∧ digits v (m + (i + 1)) = l ++ digits v (i + 1) := by
    intro m
    induction m with
    | zero => exact ⟨[], rfl, by simp⟩
    | succ m ih =>
      obtain ⟨l, h1, h2⟩ := ih
      refine ⟨decide (v / 2 ^ (m + (i + 1)) % 2 = 1) :: l, by simp [h1], ?_⟩
      rw [show m + 1 + (i + 1) = (m + (i + 1)) + 1 by omega, digits_succ, h2, List.cons_append]
  obtain ⟨l, h1, h2⟩ := key (n - (i + 1))
  rw [show n - (i + 1) + (i + 1) = n by omega] at h2
  rw [h2, List.take_append_of_le_length (by omega), List.take_of_length_le (by omega), digits_succ]

/-- A row's text, and the digits of a text that is a row. -/
def txt (l : List Bool) : List Int := l.map fun b => if b then 49 else 48
def bitsT (l : List Int) : List Bool := l.map fun c => decide (c = 49)
def plainL (l : List Int) : Bool := l.all fun c => decide (c = 48) || decide (c = 49)
theorem txt_in (l : List Bool) : ∀ x ∈ txt l, 0 ≤ x ∧ x ≤ 255 := by
  intro x hx
  obtain ⟨b, _, rfl⟩ := List.mem_map.1 hx
  cases b <;> simp
theorem txt_length (l : List Bool) : (txt l).length = l.length := by simp [txt]
theorem bitsT_length (l : List Int) : (bitsT l).length = l.length := by simp [bitsT]
theorem bitsT_txt (l : List Bool) : bitsT (txt l) = l := by
  unfold bitsT txt
  rw [List.map_map]
  conv => rhs; rw [← List.map_id l]
  apply List.map_congr_left
  intro b _
  cases b <;> simp
theorem txt_bitsT {l : List Int} (h : plainL l = true) : txt (bitsT l) = l := by
  unfold bitsT txt
  rw [List.map_map]
  conv => rhs; rw [← List.map_id l]
  apply List.map_congr_left
  intro c hc
  have := List.all_eq_true.1 h c hc
  simp only [Bool.or_eq_true, decide_eq_true_eq] at this
  rcases this with rfl | rfl <;> simp
theorem plainL_txt (l : List Bool) : plainL (txt l) = true := by
  unfold plainL txt
  rw [List.all_eq_true]
  intro c hc
  obtain ⟨b, _, rfl⟩ := List.mem_map.1 hc
  cases b <;> simp
theorem txt_append (a b : List Bool) : txt (a ++ b) = txt a ++ txt b := by simp [txt]
theorem txt_inj {a b : List Bool} (h : txt a = txt b) : a = b := by rw [← bitsT_txt a, h, bitsT_txt]
theorem txt_take (a : List Bool) (n : Nat) : (txt a).take n = txt (a.take n) := by simp [txt, List.map_take]
theorem txt_drop (a : List Bool) (n : Nat) : (txt a).drop n = txt (a.drop n) := by simp [txt, List.map_drop]
theorem txt_getD (a : List Bool) (n : Nat) (h : n < a.length) : (txt a).getD n 0 = if a.getD n false then 49 else 48 := by
  simp [txt, List.getD_eq_getElem?_getD, List.getElem?_eq_getElem h]

/-- The digits of bytes. -/
def unpack (xs : List Int) : List Bool := xs.flatMap fun x => digits x 8
theorem unpack_length (xs : List Int) : (unpack xs).length = 8 * xs.length := by
  induction xs with
  | nil => rfl
  | cons x xs ih => simp only [unpack, List.flatMap_cons, List.length_append, digits_length, List.length_cons] at *; omega
theorem unpack_append (xs ys : List Int) : unpack (xs ++ ys) = unpack xs ++ unpack ys := by simp [unpack]
theorem unpack_drop (xs : List Int) : ∀ i, (unpack xs).drop (8 * i) = unpack (xs.drop i) := by
  intro i
  induction i generalizing xs with
  | zero => simp
  | succ i ih =>
    cases xs with
    | nil => simp [unpack]
    | cons x xs =>
      rw [List.drop_succ_cons, ← ih xs]
      show List.drop (8 * (i + 1)) (digits x 8 ++ unpack xs) = _
      rw [List.drop_append, digits_length, List.drop_eq_nil_of_le (by rw [digits_length]; omega), show 8 * (i + 1) - 8 = 8 * i by omega, List.nil_append]
theorem digits_getD (v : Int) (n i : Nat) (h : i < n) : (digits v n).getD i false = decide (v / 2 ^ (n - 1 - i) % 2 = 1) := by
  have h1 := digits_split v n (n - 1 - i) (by omega)
  rw [h1, List.getD_eq_getElem?_getD, List.getElem?_append_right (by rw [List.length_take, digits_length]; omega), List.length_take, digits_length, show i - min (n - (n - 1 - i + 1)) n = 0 by omega]
  simp
theorem unpack_getD (xs : List Int) (j : Nat) (h : j < 8 * xs.length) : (unpack xs).getD j false = decide (xs.getD (j / 8) 0 / 2 ^ (7 - j % 8) % 2 = 1) := by
  have h1 := unpack_drop xs (j / 8)
  have h2 : j / 8 < xs.length := by omega
  rw [List.getD_eq_getElem?_getD, show j = 8 * (j / 8) + j % 8 by omega, ← List.getElem?_drop, h1, List.drop_eq_getElem_cons h2]
  show ((digits xs[j / 8] 8 ++ unpack _)[j % 8]?).getD false = _
  rw [List.getElem?_append_left (by rw [digits_length]; omega), ← List.getD_eq_getElem?_getD, digits_getD _ _ _ (by omega)]
  rw [show (8 * (j / 8) + j % 8) / 8 = j / 8 by omega, show (8 * (j / 8) + j % 8) % 8 = j % 8 by omega, List.getD_eq_getElem?_getD, List.getElem?_eq_getElem h2]
  rfl

theorem numB8 (l : List Bool) (h : l.length = 8) : numB l = (l.getD 0 false).toInt * 128 + (l.getD 1 false).toInt * 64 + (l.getD 2 false).toInt * 32 + (l.getD 3 false).toInt * 16 + (l.getD 4 false).toInt * 8 + (l.getD 5 false).toInt * 4 + (l.getD 6 false).toInt * 2 + (l.getD 7 false).toInt := by
  match l, h with
  | [a, b, c, d, e, f, g, i], _ =>
    simp [numB]
    omega
/-- Eight digits at a place, noughts behind the last. -/
def octet (bits : List Bool) (i : Nat) : List Bool := ((bits ++ List.replicate 8 false).drop (8 * i)).take 8
theorem byteAt_num (bits : List Bool) (i : Nat) (h : 8 * i ≤ bits.length) : byteAt bits i = numB (octet bits i) := by
  have hl : (octet bits i).length = 8 := by simp [octet]; omega
  rw [numB8 _ hl]
  have key : ∀ k, k < 8 → (octet bits i).getD k false = bits.getD (8 * i + k) false := by
    intro k hk
    unfold octet
    rw [List.getD_eq_getElem?_getD, List.getElem?_take_of_lt hk, List.getElem?_drop, List.getD_eq_getElem?_getD]
    rcases Nat.lt_or_ge (8 * i + k) bits.length with hb | hb
    · rw [List.getElem?_append_left hb]
    · rw [List.getElem?_append_right hb, List.getElem?_eq_none hb, List.getElem?_replicate]
      split <;> rfl
  rw [key 0 (by omega), key 1 (by omega), key 2 (by omega), key 3 (by omega), key 4 (by omega), key 5 (by omega), key 6 (by omega), key 7 (by omega)]
  rfl
theorem unpack_packB (bits : List Bool) : unpack (packB bits) = bits ++ List.replicate ((8 - bits.length % 8) % 8) false := by
  have gen : ∀ n, 8 * n ≤ bits.length + 7 → unpack ((List.range n).map (byteAt bits)) = (bits ++ List.replicate 8 false).take (8 * n) := by
    intro n hn
    induction n with
    | zero => simp [unpack]
    | succ n ih =>
      rw [List.range_succ, List.map_append, unpack_append, ih (by omega)]
      have : unpack (List.map (byteAt bits) [n]) = octet bits n := by
        show digits (byteAt bits n) 8 ++ [] = _
        have hl : (octet bits n).length = 8 := by simp [octet]; omega
        rw [List.append_nil, byteAt_num _ _ (by omega)]
        have := digits_numB (octet bits n)
        rwa [hl] at this
      rw [this, octet, show 8 * (n + 1) = 8 * n + 8 by omega, List.take_add]
  have := gen ((bits.length + 7) / 8) (by omega)
  unfold packB
  rw [this, List.take_append, List.take_of_length_le (by omega), List.take_replicate]
  congr 2
  omega
theorem byteAt_append (a b : List Bool) (i : Nat) (h : 8 * i + 8 ≤ a.length) : byteAt (a ++ b) i = byteAt a i := by
  have : ∀ k, k < 8 → (a ++ b).getD (8 * i + k) false = a.getD (8 * i + k) false := fun k hk => by
    rw [List.getD_eq_getElem?_getD, List.getElem?_append_left (by omega), List.getD_eq_getElem?_getD]
  unfold byteAt
  have h0 := this 0 (by omega)
  rw [Nat.add_zero] at h0
  rw [h0, this 1 (by omega), this 2 (by omega), this 3 (by omega), this 4 (by omega), this 5 (by omega), this 6 (by omega), this 7 (by omega)]

/-! ### the iterator -/
section
variable {X : Ctx} {ε : Env} {σ : Sig} {a : Act} {w : World} {o : Oper} {Q : Exit → Act → World → Prop}

theorem Tab.iterOn {bl bl' : Blks} {nxt : Nat} {id : Nat} {s : ByteArray} {pos pos' : Nat} (h : Tab X ε bl nxt w) (hl : look bl id = some (.iter s pos)) (hu : upd bl id (.iter s pos') = some bl') :
    Tab X ε bl' nxt (w.iterAt (ε.f id).blk s pos') := by
  obtain ⟨h1, h2, h3, h4⟩ := h.ent id _ hl
  refine h.turn (e' := .iter s pos') hl rfl rfl (fun b hb => hb) hu (fun b _ hb => Lib.iterAt_other _ _ _ _ _ (fun e => hb (by simp [owned, e]))) (by rw [Lib.iterAt_size]; exact Nat.le_refl _) rfl rfl rfl ⟨h2, h3, Lib.iterAt_heap _ _ _ _ _ h4⟩

/-- A step of an iterator over a string: there is a rune, or it is over. -/
theorem rSLNext {ops rest : List Oper} {x : Operand} {q : Prop} {id pos d : Nat} {s : ByteArray} {bl' : Blks} {r : Regs} {o : Oper} (hk : constB x = true) (hdn : Nat.blt d X.nt = true) (ho : o.op = .next x true) (hg : o.guard = none) (hd : o.dst = some d)
    (hx : evC σ.regs x = some (q, .ptr id 0 0 0 0 0)) (hq : q) (hl : look σ.blks id = some (.iter s pos)) (hs : (s.size : Int) ≤ 9223372036854775807) (hr : del σ.regs d = some r) (hu : upd σ.blks id (.iter s (pos + (Utf8.decode s pos).2)) = some bl')
    (h1 : pos < s.size → SL X ops Q rest ε ⟨(d, .tup [.c (.bool true), .c (.int .i64 pos), .c (.int .i32 (Utf8.decode s pos).1)]) :: r, bl', σ.nxt⟩)
    (h0 : ¬ pos < s.size → SL X ops Q rest ε ⟨(d, .tup [.c (.bool false)]) :: r, σ.blks, σ.nxt⟩) : SL X ops Q (o :: rest) ε σ := by
  intro ε' a w hle hh
  have hdd : dstB X.nt o = true := by unfold dstB; rw [hd]; exact hdn
  obtain ⟨hid, hnil, hxv⟩ := evC_rel hh hx (constB_ok hk) hq
  obtain ⟨g1, g2, g3, g4⟩ := hh.tab.ent id _ hl
  rw [g3] at hxv
  simp only [Nat.add_zero, Nat.mul_zero] at hxv
  refine wpList_step fun K hK => ?_
  rw [if_pos (wanted_none hg _)]
  by_cases hp : pos < s.size
  · refine wp_value (x := .tuple #[.bool true, .int .i64 pos, .int .i32 (Utf8.decode s pos).1]) (w' := w.iterAt (ε'.f id).blk s (pos + (Utf8.decode s pos).2)) ?_ (hK _ _ (h1 hp ε' _ _ hle ?_))
    · unfold execOp
      simp only [ho, hxv, Sem.run_bind, Lib.run_next_any_at w _ s pos _ g4 hp, Result.andThen_ok, Sem.run_pure]
    · refine hh.put hdd (EnvLe.refl _) (v := .tup [.c (.bool true), .c (.int .i64 pos), .c (.int .i32 (Utf8.decode s pos).1)]) ⟨_, rfl, rfl, ⟨rfl, ?_⟩, ⟨rfl, ?_⟩, trivial⟩ (hh.tab.iterOn hl hu) (by unfold setR; rw [hd]; simp only [hr])
      · simp only [inK]; omega
      · have := decode_le s pos
        simp only [inK]; omega
  · refine wp_value (x := .tuple #[.bool false]) (w' := w) ?_ (hK _ _ (h0 hp ε' _ _ hle ?_))
    · unfold execOp
      simp only [ho, hxv, Sem.run_bind, Lib.run_next_end_at w _ s pos _ g4 hp, Result.andThen_ok, Sem.run_pure]
    · exact hh.put hdd (EnvLe.refl _) (v := .tup [.c (.bool false)]) ⟨_, rfl, rfl, trivial⟩ hh.tab (by unfold setR; rw [hd]; simp only [hr])

theorem decode_plain {s : ByteArray} {pos : Nat} (h : pos < s.size) (hb : byteI s pos < 128) : ((Utf8.decode s pos).1 : Int) = byteI s pos ∧ (Utf8.decode s pos).2 = 1 := by
  have e : byteI s pos = ((s[pos]'h).toNat : Int) := by
    unfold byteI
    rw [List.getD_eq_getElem?_getD, List.getElem?_eq_getElem (by simpa using h)]
    rfl
  rw [e] at hb ⊢
  rw [decode_ascii s pos h (by omega)]
  exact ⟨rfl, rfl⟩
theorem decode_other {s : ByteArray} {pos : Nat} (h : pos < s.size) (hb : 128 ≤ byteI s pos) : 128 ≤ ((Utf8.decode s pos).1 : Int) := by
  have e : byteI s pos = ((s[pos]'h).toNat : Int) := by
    unfold byteI
    rw [List.getD_eq_getElem?_getD, List.getElem?_eq_getElem (by simpa using h)]
    rfl
  rw [e] at hb
  have := (decode_high s pos h (by omega)).1
  omega
end
end Go.X

/- What the functions of the layers of bits come to. -/
set_option linter.unusedVariables false
namespace Go.X

abbrev i64 (n : Int) : SV := .v (.c (.int .i64 n))
abbrev bo (b : Bool) : SV := .v (.c (.bool b))
abbrev st (s : ByteArray) : SV := .v (.c (.str s))
abbrev pt (id : Nat) : SV := .v (.c (.ptr id 0 0 0 0 0))
abbrev nilp : SV := .v (.c (.val (.pointer none)))
abbrev tup2 (a b : Int) : SV := .tup [.c (.int .i64 a), .c (.int .i64 b)]
abbrev tupS (s : ByteArray) (b : Int) : SV := .tup [.c (.str s), .c (.int .i64 b)]
abbrev tupB (a : Int) (b : Bool) : SV := .tup [.c (.int .i64 a), .c (.bool b)]
abbrev tup2B (a b : Int) (c : Bool) : SV := .tup [.c (.int .i64 a), .c (.int .i64 b), .c (.bool c)]
theorem tup2_eq {a b a' b' : Int} (h1 : a = a') (h2 : b = b') : tup2 a b = tup2 a' b' := by rw [h1, h2]
theorem tupS_eq {a a' : ByteArray} {b b' : Int} (h1 : a = a') (h2 : b = b') : tupS a b = tupS a' b' := by rw [h1, h2]
theorem tupB_eq {a a' : Int} {b b' : Bool} (h1 : a = a') (h2 : b = b') : tupB a b = tupB a' b' := by rw [h1, h2]
theorem tup2B_eq {a a' b b' : Int} {c c' : Bool} (h1 : a = a') (h2 : b = b') (h3 : c = c') : tup2B a b c = tup2B a' b' c' := by rw [h1, h2, h3]

/-- So many digits at most. -/
abbrev maxB0 : Nat := 1099511627776

def fitsS (v n : Int) : Bool := decide (0 ≤ n ∧ n ≤ 32 ∧ 0 ≤ v ∧ v < 2 ^ n.toNat)
theorem fitsS_iff (v n : Int) : fitsS v n = true ↔ (0 ≤ n ∧ n ≤ 32 ∧ 0 ≤ v ∧ v < 2 ^ n.toNat) := by simp [fitsS]
theorem fitsS_iff' (v n : Int) : fitsS v n = false ↔ ¬ (0 ≤ n ∧ n ≤ 32 ∧ 0 ≤ v ∧ v < 2 ^ n.toNat) := by simp [fitsS]
theorem pow_inN (n : Nat) (h : n ≤ 32) : 1 ≤ (2 : Int) ^ n ∧ (2 : Int) ^ n ≤ 4294967296 := by
  have h1 : 2 ^ 0 ≤ 2 ^ n := Nat.pow_le_pow_right (by omega) (Nat.zero_le n)
  have h2 : 2 ^ n ≤ 2 ^ 32 := Nat.pow_le_pow_right (by omega) h
  have h3 : (2 : Int) ^ n = ((2 ^ n : Nat) : Int) := by simp
  rw [h3]
  omega
theorem pow_in7 (n : Nat) (h : n ≤ 7) : 1 ≤ (2 : Int) ^ n ∧ (2 : Int) ^ n ≤ 128 := by
  have h1 : 2 ^ 0 ≤ 2 ^ n := Nat.pow_le_pow_right (by omega) (Nat.zero_le n)
  have h2 : 2 ^ n ≤ 2 ^ 7 := Nat.pow_le_pow_right (by omega) h
  have h3 : (2 : Int) ^ n = ((2 ^ n : Nat) : Int) := by simp
  rw [h3]
  omega
theorem pow_in (n : Int) (h : n ≤ 32) : 1 ≤ (2 : Int) ^ n.toNat ∧ (2 : Int) ^ n.toNat ≤ 4294967296 := pow_inN n.toNat (by omega)
def spFits : Spec := fun args _ => match args with
  | [.v (.c (.int .i64 v)), .v (.c (.int .i64 n))] => some ⟨True, bo (fitsS v n), [], []⟩
  | _ => none
def spPlain : Spec := fun args _ => match args with
  | [.v (.c (.str s))] => some ⟨s.size ≤ 1099511627776, bo (plainL (bl s)), [], []⟩
  | _ => none
def spNew (k : Nat) : Spec := fun args _ => match args with
  | [] => some ⟨True, pt 0, [.obj k []], []⟩
  | _ => none
def spBit (ku : Nat) : Spec := fun args lk => match args with
  | [.v (.c (.ptr id 0 0 0 0 0)), .v (.c (.bool b))] => match lk id with
    | some (.obj k bits) => some ⟨k = ku ∧ bits.length ≤ 1099511627776, .tup [], [], [(id, .obj k (bits ++ [b]))]⟩
    | _ => none
  | _ => none
def putE (v n : Int) : Int := if fitsS v n then 0 else 1
def putD (v n : Int) : List Bool := if fitsS v n then digits v n.toNat else []
theorem putD_length (v n : Int) : (putD v n).length ≤ 32 := by
  unfold putD
  split
  · rename_i h
    have := (fitsS_iff v n).1 h
    rw [digits_length]; omega
  · simp
def spPut (ku : Nat) : Spec := fun args lk => match args with
  | [.v (.c (.val (.pointer none))), .v (.c (.int .i64 v)), .v (.c (.int .i64 n))] => some ⟨True, i64 1, [], []⟩
  | [.v (.c (.ptr id 0 0 0 0 0)), .v (.c (.int .i64 v)), .v (.c (.int .i64 n))] => match lk id with
    | some (.obj k bits) => some ⟨k = ku ∧ bits.length + 64 ≤ 1099511627776, i64 (putE v n), [], [(id, .obj k (bits ++ putD v n))]⟩
    | _ => none
  | _ => none
def addE' (s : ByteArray) : Int := if plainL (bl s) then 0 else 1
def addD (s : ByteArray) : List Bool := if plainL (bl s) then bitsT (bl s) else []
theorem addD_length (s : ByteArray) : (addD s).length ≤ s.size := by
  unfold addD
  split
  · rw [bitsT_length, bl_length]; omega
  · simp
def spAdd (ku : Nat) : Spec := fun args lk => match args with
  | [.v (.c (.val (.pointer none))), .v (.c (.str s))] => some ⟨s.size ≤ 1099511627776, i64 1, [], []⟩
  | [.v (.c (.ptr id 0 0 0 0 0)), .v (.c (.str s))] => match lk id with
    | some (.obj k bits) => some ⟨k = ku ∧ bits.length + s.size + 64 ≤ 1099511627776, i64 (addE' s), [], [(id, .obj k (bits ++ addD s))]⟩
    | _ => none
  | _ => none
/-- How many noughts up to a byte's end. -/
def padN (n : Nat) : Nat := (8 - n % 8) % 8
theorem padN_in (n : Nat) : padN n ≤ 7 ∧ (n + padN n) % 8 = 0 := by unfold padN; omega
def spWFill : Spec := fun args lk => match args with
  | [.v (.c (.val (.pointer none)))] => some ⟨True, i64 0, [], []⟩
  | [.v (.c (.ptr id 0 0 0 0 0))] => match lk id with
    | some (.obj k bits) => some ⟨bits.length + 64 ≤ 1099511627776, i64 (padN bits.length : Nat), [], [(id, .obj k (bits ++ List.replicate (padN bits.length) false))]⟩
    | _ => none
  | _ => none
def spLen : Spec := fun args lk => match args with
  | [.v (.c (.val (.pointer none)))] => some ⟨True, i64 0, [], []⟩
  | [.v (.c (.ptr id 0 0 0 0 0))] => match lk id with
    | some (.obj k bits) => some ⟨bits.length ≤ 1099511627776, i64 (bits.length : Nat), [], [(id, .obj k bits)]⟩
    | _ => none
  | _ => none
def spText : Spec := fun args lk => match args with
  | [.v (.c (.val (.pointer none)))] => some ⟨True, st ⟨#[]⟩, [], []⟩
  | [.v (.c (.ptr id 0 0 0 0 0))] => match lk id with
    | some (.obj k bits) => some ⟨bits.length ≤ 1099511627776, st (bytesOf (packB bits)), [], [(id, .obj k bits)]⟩
    | _ => none
  | _ => none
/-- A row's text. -/
def rowT (l : List Bool) : ByteArray := bytesOf (txt l)
theorem rowT_size (l : List Bool) : (rowT l).size = l.length := by rw [rowT, bytesOf_size, txt_length]
theorem bl_rowT (l : List Bool) : bl (rowT l) = txt l := bl_bytesOf (txt_in l)
theorem rowT_append (a b : List Bool) : rowT a ++ rowT b = rowT (a ++ b) := by rw [rowT, rowT, rowT, txt_append, bytesOf_append]
theorem rowT_inj {a b : List Bool} (h : rowT a = rowT b) : a = b := by
  have := congrArg bl h
  rw [bl_rowT, bl_rowT] at this
  exact txt_inj this
theorem rowT_bits {s : ByteArray} (h : plainL (bl s) = true) : rowT (bitsT (bl s)) = s := by
  rw [rowT, txt_bitsT h, bytesOf_bl]
theorem rowT_extract (l : List Bool) (a b : Nat) : (rowT l).extract a b = rowT ((l.drop a).take (b - a)) := by
  apply bl_inj
  rw [bl_extract, bl_rowT, bl_rowT, txt_drop, txt_take]
theorem rowT_byte (l : List Bool) (i : Nat) (h : i < l.length) : byteI (rowT l) i = if l.getD i false then 49 else 48 := by
  rw [byteI_bl, bl_rowT, txt_getD _ _ h]
theorem rowT_nil : rowT [] = ⟨#[]⟩ := rfl

def spRow : Spec := fun args _ => match args with
  | [.v (.c (.int .i64 v)), .v (.c (.int .i64 n))] => some ⟨True, tupS (rowT (putD v n)) (putE v n), [], []⟩
  | _ => none
def spPack : Spec := fun args _ => match args with
  | [.v (.c (.str s))] => some ⟨s.size + 64 ≤ 1099511627776, tupS (bytesOf (packB (addD s))) (addE' s), [], []⟩
  | _ => none
def spShow : Spec := fun args _ => match args with
  | [.v (.c (.str s))] => some ⟨s.size + 64 ≤ 1099511627776, st (rowT (unpack (bl s))), [], []⟩
  | _ => none
def spRRow : Spec := fun args _ => match args with
  | [.v (.c (.int .i64 v)), .v (.c (.int .i64 n))] => some ⟨0 ≤ v ∧ 0 ≤ n ∧ n ≤ 32, st (rowT (digits v n.toNat)), [], []⟩
  | _ => none
def spRPack : Spec := fun args _ => match args with
  | [.v (.c (.str s))] => some ⟨plainL (bl s) = true ∧ s.size + 64 ≤ 1099511627776, st (bytesOf (packB (bitsT (bl s)))), [], []⟩
  | _ => none
def spNumber : Spec := fun args _ => match args with
  | [.v (.c (.str s))] => some ⟨plainL (bl s) = true ∧ s.size ≤ 32, i64 (numB (bitsT (bl s))), [], []⟩
  | _ => none

/-! ### readers -/
def tb (s : ByteArray) : List Bool := unpack (bl s)
theorem tb_length (s : ByteArray) : (tb s).length = 8 * s.size := by rw [tb, unpack_length, bl_length]
def rdOK (s : ByteArray) (at_ : Int) : Prop := 0 ≤ at_ ∧ at_ ≤ 8 * s.size ∧ s.size + 64 ≤ 1099511627776
def peekE (s : ByteArray) (at_ n : Int) : Int := if n < 0 ∨ 32 < n then 1 else if 8 * (s.size : Int) - at_ < n then 2 else 0
def peekV (s : ByteArray) (at_ n : Int) : Int := if n < 0 ∨ 32 < n then 0 else if 8 * (s.size : Int) - at_ < n then 0 else numB (((tb s).drop at_.toNat).take n.toNat)
theorem peekE_cases (s : ByteArray) (at_ n : Int) : ((n < 0 ∨ 32 < n) ∧ peekE s at_ n = 1 ∧ peekV s at_ n = 0) ∨ (0 ≤ n ∧ n ≤ 32 ∧ 8 * (s.size : Int) - at_ < n ∧ peekE s at_ n = 2 ∧ peekV s at_ n = 0) ∨
    (0 ≤ n ∧ n ≤ 32 ∧ n ≤ 8 * (s.size : Int) - at_ ∧ peekE s at_ n = 0 ∧ peekV s at_ n = numB (((tb s).drop at_.toNat).take n.toNat)) := by
  unfold peekE peekV
  by_cases h1 : n < 0 ∨ 32 < n
  · rw [if_pos h1, if_pos h1]; exact .inl ⟨h1, rfl, rfl⟩
  · rw [if_neg h1, if_neg h1]
    by_cases h2 : 8 * (s.size : Int) - at_ < n
    · rw [if_pos h2, if_pos h2]; exact .inr (.inl ⟨by omega, by omega, h2, rfl, rfl⟩)
    · rw [if_neg h2, if_neg h2]; exact .inr (.inr ⟨by omega, by omega, by omega, rfl, rfl⟩)
theorem peekV_in (s : ByteArray) (at_ n : Int) : 0 ≤ peekV s at_ n ∧ peekV s at_ n < 4294967296 := by
  rcases peekE_cases s at_ n with ⟨_, _, h⟩ | ⟨_, _, _, _, h⟩ | ⟨h1, h2, h3, _, h⟩
  · rw [h]; omega
  · rw [h]; omega
  · rw [h]
    have h4 := numB_in (((tb s).drop at_.toNat).take n.toNat)
    have h5 := pow_inN (((tb s).drop at_.toNat).take n.toNat).length (by rw [List.length_take]; omega)
    omega
abbrev rdE (own : Bool) (ty : TypeId) (s : ByteArray) (at_ : Int) : E := .mem own ty none (.flat [.cs [.str s, .int .i64 at_]])
def spRNew (kr : TypeId) : Spec := fun args _ => match args with
  | [.v (.c (.str s))] => some ⟨True, pt 0, [rdE true kr s 0], []⟩
  | _ => none
def spPeek : Spec := fun args lk => match args with
  | [.v (.c (.val (.pointer none))), .v (.c (.int .i64 n))] => some ⟨True, tup2 0 1, [], []⟩
  | [.v (.c (.ptr id 0 0 0 0 0)), .v (.c (.int .i64 n))] => match lk id with
    | some (.mem o ty none (.flat [.cs [.str s, .int .i64 p]])) => some ⟨rdOK s p, tup2 (peekV s p n) (peekE s p n), [], []⟩
    | _ => none
  | _ => none
def takeAt (s : ByteArray) (at_ n : Int) : Int := if peekE s at_ n = 0 then at_ + n else at_
theorem takeAt_ok {s : ByteArray} {at_ n : Int} (h : rdOK s at_) : rdOK s (takeAt s at_ n) := by
  unfold rdOK takeAt at *
  rcases peekE_cases s at_ n with ⟨_, h1, _⟩ | ⟨_, _, _, h1, _⟩ | ⟨_, _, _, h1, _⟩ <;> simp only [h1] <;> simp <;> omega
def spTake : Spec := fun args lk => match args with
  | [.v (.c (.val (.pointer none))), .v (.c (.int .i64 n))] => some ⟨True, tup2 0 1, [], []⟩
  | [.v (.c (.ptr id 0 0 0 0 0)), .v (.c (.int .i64 n))] => match lk id with
    | some (.mem true ty none (.flat [.cs [.str s, .int .i64 p]])) => some ⟨rdOK s p, tup2 (peekV s p n) (peekE s p n), [], [(id, rdE true ty s (takeAt s p n))]⟩
    | _ => none
  | _ => none
def padI (at_ : Int) : Int := (8 - at_ % 8) % 8
theorem padI_in {s : ByteArray} {at_ : Int} (h : rdOK s at_) : 0 ≤ padI at_ ∧ padI at_ ≤ 7 ∧ at_ + padI at_ ≤ 8 * s.size ∧ (at_ + padI at_) % 8 = 0 := by
  unfold padI; unfold rdOK at h; omega
def rfE (s : ByteArray) (at_ : Int) : Int := if peekV s at_ (padI at_) = 0 then 0 else 5
def rfV (s : ByteArray) (at_ : Int) : Int := if peekV s at_ (padI at_) = 0 then padI at_ else 0
theorem rf_ok {s : ByteArray} {at_ : Int} (h : rdOK s at_) : rdOK s (at_ + rfV s at_) := by
  have := padI_in h
  unfold rdOK rfV at *
  split <;> omega
def spRFill : Spec := fun args lk => match args with
  | [.v (.c (.val (.pointer none)))] => some ⟨True, tup2 0 1, [], []⟩
  | [.v (.c (.ptr id 0 0 0 0 0))] => match lk id with
    | some (.mem true ty none (.flat [.cs [.str s, .int .i64 p]])) => some ⟨rdOK s p, tup2 (rfV s p) (rfE s p), [], [(id, rdE true ty s (p + rfV s p))]⟩
    | _ => none
  | _ => none
def skE (s : ByteArray) (n : Int) : Int := if n < 0 ∨ 8 * (s.size : Int) < n then 1 else 0
def skA (s : ByteArray) (p n : Int) : Int := if n < 0 ∨ 8 * (s.size : Int) < n then p else n
theorem sk_ok {s : ByteArray} {p n : Int} (h : rdOK s p) : rdOK s (skA s p n) := by
  unfold rdOK skA at *
  split <;> omega
def spSeek : Spec := fun args lk => match args with
  | [.v (.c (.val (.pointer none))), .v (.c (.int .i64 n))] => some ⟨True, i64 1, [], []⟩
  | [.v (.c (.ptr id 0 0 0 0 0)), .v (.c (.int .i64 n))] => match lk id with
    | some (.mem true ty none (.flat [.cs [.str s, .int .i64 p]])) => some ⟨rdOK s p, i64 (skE s n), [], [(id, rdE true ty s (skA s p n))]⟩
    | _ => none
  | _ => none
def spAt : Spec := fun args lk => match args with
  | [.v (.c (.val (.pointer none)))] => some ⟨True, i64 0, [], []⟩
  | [.v (.c (.ptr id 0 0 0 0 0))] => match lk id with
    | some (.mem o ty none (.flat [.cs [.str s, .int .i64 p]])) => some ⟨rdOK s p, i64 p, [], []⟩
    | _ => none
  | _ => none
def spLeft : Spec := fun args lk => match args with
  | [.v (.c (.val (.pointer none)))] => some ⟨True, i64 0, [], []⟩
  | [.v (.c (.ptr id 0 0 0 0 0))] => match lk id with
    | some (.mem o ty none (.flat [.cs [.str s, .int .i64 p]])) => some ⟨rdOK s p, i64 (8 * (s.size : Int) - p), [], []⟩
    | _ => none
  | _ => none
def spRText : Spec := fun args lk => match args with
  | [.v (.c (.val (.pointer none)))] => some ⟨True, st ⟨#[]⟩, [], []⟩
  | [.v (.c (.ptr id 0 0 0 0 0))] => match lk id with
    | some (.mem o ty none (.flat [.cs [.str s, .int .i64 p]])) => some ⟨rdOK s p, st s, [], []⟩
    | _ => none
  | _ => none
end Go.X

/- A digit put behind others, in bytes; how a function of one place is handed in. -/
set_option linter.unusedVariables false
namespace Go.X

theorem getD_out (bits : List Bool) (i : Nat) (h : bits.length ≤ i) : bits.getD i false = false := by
  rw [List.getD_eq_getElem?_getD, List.getElem?_eq_none h]; rfl
theorem getD_app (bits : List Bool) (b : Bool) (i : Nat) : (bits ++ [b]).getD i false = if i < bits.length then bits.getD i false else if i = bits.length then b else false := by
  rw [List.getD_eq_getElem?_getD, List.getD_eq_getElem?_getD]
  split
  · rename_i h; rw [List.getElem?_append_left h]
  · rename_i h
    rw [List.getElem?_append_right (by omega)]
    split
    · rename_i h'; rw [h', Nat.sub_self]; rfl
    · rename_i h'
      rw [List.getElem?_eq_none (by simp; omega)]; rfl

theorem or_step (k q : Nat) : (2 ^ (k + 1) * q) ||| 2 ^ k = 2 ^ (k + 1) * q + 2 ^ k :=
  (Nat.two_pow_add_eq_or_of_lt (show 2 ^ k < 2 ^ (k + 1) from Nat.pow_lt_pow_right (by omega) (by omega)) q).symm

/-- The byte in which the next digit lies. -/
theorem byteAt_last (bits : List Bool) : ∃ q : Nat, byteAt bits (bits.length / 8) = ((2 ^ (7 - bits.length % 8 + 1) * q : Nat) : Int) ∧
    ∀ b : Bool, byteAt (bits ++ [b]) (bits.length / 8) = byteAt bits (bits.length / 8) + b.toInt * 2 ^ (7 - bits.length % 8) := by
  have hr : bits.length % 8 < 8 := by omega
  generalize hi : bits.length / 8 = i at *
  generalize hrr : bits.length % 8 = r at *
  have hl : bits.length = 8 * i + r := by omega
  have hold : ∀ j, r ≤ j → (bits.getD (8 * i + j) false).toInt = 0 := fun j hj => by rw [getD_out _ _ (by omega)]; rfl
  have hnew : ∀ (b : Bool) j, (j < r → ((bits ++ [b]).getD (8 * i + j) false).toInt = (bits.getD (8 * i + j) false).toInt) ∧ (j = r → ((bits ++ [b]).getD (8 * i + j) false).toInt = b.toInt) ∧ (r < j → ((bits ++ [b]).getD (8 * i + j) false).toInt = 0) := fun b j => by
    rw [getD_app]
    refine ⟨fun h => ?_, fun h => ?_, fun h => ?_⟩
    · rw [if_pos (by omega)]
    · rw [if_neg (by omega), if_pos (by omega)]
    · rw [if_neg (by omega), if_neg (by omega)]; rfl
  have cases8 : r = 0 ∨ r = 1 ∨ r = 2 ∨ r = 3 ∨ r = 4 ∨ r = 5 ∨ r = 6 ∨ r = 7 := by omega
  have z0 := hold 0
  rw [Nat.add_zero] at z0
  have z1 := hold 1
  have z2 := hold 2
  have z3 := hold 3
  have z4 := hold 4
  have z5 := hold 5
  have z6 := hold 6
  have z7 := hold 7
  unfold byteAt
  have e0 := bool_in (bits.getD (8 * i) false)
  have e1 := bool_in (bits.getD (8 * i + 1) false)
  have e2 := bool_in (bits.getD (8 * i + 2) false)
  have e3 := bool_in (bits.getD (8 * i + 3) false)
  have e4 := bool_in (bits.getD (8 * i + 4) false)
  have e5 := bool_in (bits.getD (8 * i + 5) false)
  have e6 := bool_in (bits.getD (8 * i + 6) false)
  have e7 := bool_in (bits.getD (8 * i + 7) false)
  generalize hx0 : (bits.getD (8 * i) false).toInt = x0 at *
  generalize hx1 : (bits.getD (8 * i + 1) false).toInt = x1 at *
  generalize hx2 : (bits.getD (8 * i + 2) false).toInt = x2 at *
  generalize hx3 : (bits.getD (8 * i + 3) false).toInt = x3 at *
  generalize hx4 : (bits.getD (8 * i + 4) false).toInt = x4 at *
  generalize hx5 : (bits.getD (8 * i + 5) false).toInt = x5 at *
  generalize hx6 : (bits.getD (8 * i + 6) false).toInt = x6 at *
  generalize hx7 : (bits.getD (8 * i + 7) false).toInt = x7 at *
  refine ⟨(x0 * 128 + x1 * 64 + x2 * 32 + x3 * 16 + x4 * 8 + x5 * 4 + x6 * 2 + x7).toNat / 2 ^ (7 - r + 1), ?_, fun b => ?_⟩
  · clear hnew hold
    rcases cases8 with rfl | rfl | rfl | rfl | rfl | rfl | rfl | rfl
    · rw [z0 (by decide), z1 (by decide), z2 (by decide), z3 (by decide), z4 (by decide), z5 (by decide), z6 (by decide), z7 (by decide)]
      clear z0 z1 z2 z3 z4 z5 z6 z7
      simp only [Nat.reduceSub, Nat.reduceAdd, Nat.reducePow]; omega
    · rw [z1 (by decide), z2 (by decide), z3 (by decide), z4 (by decide), z5 (by decide), z6 (by decide), z7 (by decide)]
      clear z0 z1 z2 z3 z4 z5 z6 z7
      simp only [Nat.reduceSub, Nat.reduceAdd, Nat.reducePow]; omega
    · rw [z2 (by decide), z3 (by decide), z4 (by decide), z5 (by decide), z6 (by decide), z7 (by decide)]
      clear z0 z1 z2 z3 z4 z5 z6 z7
      simp only [Nat.reduceSub, Nat.reduceAdd, Nat.reducePow]; omega
    · rw [z3 (by decide), z4 (by decide), z5 (by decide), z6 (by decide), z7 (by decide)]
      clear z0 z1 z2 z3 z4 z5 z6 z7
      simp only [Nat.reduceSub, Nat.reduceAdd, Nat.reducePow]; omega
    · rw [z4 (by decide), z5 (by decide), z6 (by decide), z7 (by decide)]
      clear z0 z1 z2 z3 z4 z5 z6 z7
      simp only [Nat.reduceSub, Nat.reduceAdd, Nat.reducePow]; omega
    · rw [z5 (by decide), z6 (by decide), z7 (by decide)]
      clear z0 z1 z2 z3 z4 z5 z6 z7
      simp only [Nat.reduceSub, Nat.reduceAdd, Nat.reducePow]; omega
    · rw [z6 (by decide), z7 (by decide)]
      clear z0 z1 z2 z3 z4 z5 z6 z7
      simp only [Nat.reduceSub, Nat.reduceAdd, Nat.reducePow]; omega
    · rw [z7 (by decide)]
      clear z0 z1 z2 z3 z4 z5 z6 z7
      simp only [Nat.reduceSub, Nat.reduceAdd, Nat.reducePow]; omega
  · have y0 := hnew b 0
    rw [Nat.add_zero] at y0
    have y1 := hnew b 1
    have y2 := hnew b 2
    have y3 := hnew b 3
    have y4 := hnew b 4
    have y5 := hnew b 5
    have y6 := hnew b 6
    have y7 := hnew b 7
    rw [hx0] at y0
    rw [hx1] at y1
    rw [hx2] at y2
    rw [hx3] at y3
    rw [hx4] at y4
    rw [hx5] at y5
    rw [hx6] at y6
    rw [hx7] at y7
    clear hnew hold
    generalize ((bits ++ [b]).getD (8 * i) false).toInt = w0 at *
    generalize ((bits ++ [b]).getD (8 * i + 1) false).toInt = w1 at *
    generalize ((bits ++ [b]).getD (8 * i + 2) false).toInt = w2 at *
    generalize ((bits ++ [b]).getD (8 * i + 3) false).toInt = w3 at *
    generalize ((bits ++ [b]).getD (8 * i + 4) false).toInt = w4 at *
    generalize ((bits ++ [b]).getD (8 * i + 5) false).toInt = w5 at *
    generalize ((bits ++ [b]).getD (8 * i + 6) false).toInt = w6 at *
    generalize ((bits ++ [b]).getD (8 * i + 7) false).toInt = w7 at *
    rcases cases8 with rfl | rfl | rfl | rfl | rfl | rfl | rfl | rfl
    · rw [y0.2.1 rfl, y1.2.2 (by decide), y2.2.2 (by decide), y3.2.2 (by decide), y4.2.2 (by decide), y5.2.2 (by decide), y6.2.2 (by decide), y7.2.2 (by decide), z0 (by decide), z1 (by decide), z2 (by decide), z3 (by decide), z4 (by decide), z5 (by decide), z6 (by decide), z7 (by decide)]
      clear y0 y1 y2 y3 y4 y5 y6 y7 z0 z1 z2 z3 z4 z5 z6 z7
      simp only [Nat.reduceSub, Int.reducePow]; omega
    · rw [y0.1 (by decide), y1.2.1 rfl, y2.2.2 (by decide), y3.2.2 (by decide), y4.2.2 (by decide), y5.2.2 (by decide), y6.2.2 (by decide), y7.2.2 (by decide), z1 (by decide), z2 (by decide), z3 (by decide), z4 (by decide), z5 (by decide), z6 (by decide), z7 (by decide)]
      clear y0 y1 y2 y3 y4 y5 y6 y7 z0 z1 z2 z3 z4 z5 z6 z7
      simp only [Nat.reduceSub, Int.reducePow]; omega
    · rw [y0.1 (by decide), y1.1 (by decide), y2.2.1 rfl, y3.2.2 (by decide), y4.2.2 (by decide), y5.2.2 (by decide), y6.2.2 (by decide), y7.2.2 (by decide), z2 (by decide), z3 (by decide), z4 (by decide), z5 (by decide), z6 (by decide), z7 (by decide)]
      clear y0 y1 y2 y3 y4 y5 y6 y7 z0 z1 z2 z3 z4 z5 z6 z7
      simp only [Nat.reduceSub, Int.reducePow]; omega
    · rw [y0.1 (by decide), y1.1 (by decide), y2.1 (by decide), y3.2.1 rfl, y4.2.2 (by decide), y5.2.2 (by decide), y6.2.2 (by decide), y7.2.2 (by decide), z3 (by decide), z4 (by decide), z5 (by decide), z6 (by decide), z7 (by decide)]
      clear y0 y1 y2 y3 y4 y5 y6 y7 z0 z1 z2 z3 z4 z5 z6 z7
      simp only [Nat.reduceSub, Int.reducePow]; omega
    · rw [y0.1 (by decide), y1.1 (by decide), y2.1 (by decide), y3.1 (by decide), y4.2.1 rfl, y5.2.2 (by decide), y6.2.2 (by decide), y7.2.2 (by decide), z4 (by decide), z5 (by decide), z6 (by decide), z7 (by decide)]
      clear y0 y1 y2 y3 y4 y5 y6 y7 z0 z1 z2 z3 z4 z5 z6 z7
      simp only [Nat.reduceSub, Int.reducePow]; omega
    · rw [y0.1 (by decide), y1.1 (by decide), y2.1 (by decide), y3.1 (by decide), y4.1 (by decide), y5.2.1 rfl, y6.2.2 (by decide), y7.2.2 (by decide), z5 (by decide), z6 (by decide), z7 (by decide)]
      clear y0 y1 y2 y3 y4 y5 y6 y7 z0 z1 z2 z3 z4 z5 z6 z7
      simp only [Nat.reduceSub, Int.reducePow]; omega
    · rw [y0.1 (by decide), y1.1 (by decide), y2.1 (by decide), y3.1 (by decide), y4.1 (by decide), y5.1 (by decide), y6.2.1 rfl, y7.2.2 (by decide), z6 (by decide), z7 (by decide)]
      clear y0 y1 y2 y3 y4 y5 y6 y7 z0 z1 z2 z3 z4 z5 z6 z7
      simp only [Nat.reduceSub, Int.reducePow]; omega
    · rw [y0.1 (by decide), y1.1 (by decide), y2.1 (by decide), y3.1 (by decide), y4.1 (by decide), y5.1 (by decide), y6.1 (by decide), y7.2.1 rfl, z7 (by decide)]
      clear y0 y1 y2 y3 y4 y5 y6 y7 z0 z1 z2 z3 z4 z5 z6 z7
      simp only [Nat.reduceSub, Int.reducePow]; omega

theorem packB_get (bits : List Bool) (i : Nat) : (packB bits)[i]? = if i < (bits.length + 7) / 8 then some (byteAt bits i) else none := by
  unfold packB
  rw [List.getElem?_map]
  split
  · rename_i h; rw [List.getElem?_range h]; rfl
  · rename_i h; rw [List.getElem?_eq_none (by simpa using h)]; rfl

/-- With room for one digit more. -/
def roomy (bits : List Bool) : List Int := if (bits.length : Int) % 8 = 0 then packB bits ++ [0] else packB bits
theorem roomy_get (bits : List Bool) (i : Nat) : (roomy bits)[i]? = if i ≤ bits.length / 8 then some (byteAt bits i) else none := by
  unfold roomy
  split
  · rename_i h
    rw [List.getElem?_append, packB_length]
    split
    · rename_i h'
      rw [packB_get, if_pos h', if_pos (by omega)]
    · rename_i h'
      split
      · rename_i h2
        have hi : i = bits.length / 8 := by omega
        have e : byteAt bits i = 0 := by
          obtain ⟨q, hq, _⟩ := byteAt_last bits
          subst hi
          unfold byteAt
          rw [getD_out _ _ (by omega), getD_out _ _ (by omega), getD_out _ _ (by omega), getD_out _ _ (by omega), getD_out _ _ (by omega), getD_out _ _ (by omega), getD_out _ _ (by omega), getD_out _ _ (by omega)]
          rfl
        rw [show i - (bits.length + 7) / 8 = 0 by omega, e]; rfl
      · rename_i h2
        rw [List.getElem?_eq_none (by simp; omega)]
  · rename_i h
    rw [packB_get]
    by_cases h' : i ≤ bits.length / 8
    · rw [if_pos h', if_pos (by omega)]
    · rw [if_neg h', if_neg (by omega)]
theorem roomy_length (bits : List Bool) : (roomy bits).length = bits.length / 8 + 1 := by
  unfold roomy
  split
  · rw [List.length_append, packB_length]; simp; omega
  · rw [packB_length]; omega

theorem packB_zero (bits : List Bool) : packB (bits ++ [false]) = roomy bits := by
  apply List.ext_getElem?
  intro i
  rw [packB_get, roomy_get]
  by_cases h : i ≤ bits.length / 8
  · rw [if_pos h, if_pos (by simp; omega)]
    congr 1
    rcases Nat.lt_or_ge i (bits.length / 8) with h' | h'
    · exact byteAt_append _ _ _ (by omega)
    · have hi : i = bits.length / 8 := by omega
      subst hi
      obtain ⟨q, _, h2⟩ := byteAt_last bits
      rw [h2]; simp [Bool.toInt]
  · rw [if_neg h, if_neg (by simp; omega)]
theorem packB_one (bits : List Bool) : packB (bits ++ [true]) = (roomy bits).set (bits.length / 8) (((((roomy bits).getD (bits.length / 8) 0).toNat ||| ((1 : Int) * 2 ^ (7 - (bits.length : Int) % 8).toNat).toNat : Nat) : Int)) := by
  have hget : (roomy bits).getD (bits.length / 8) 0 = byteAt bits (bits.length / 8) := by
    rw [List.getD_eq_getElem?_getD, roomy_get, if_pos (Nat.le_refl _)]; rfl
  obtain ⟨q, h1, h2⟩ := byteAt_last bits
  have hexp : (7 - (bits.length : Int) % 8).toNat = 7 - bits.length % 8 := by omega
  have hor : (((byteAt bits (bits.length / 8)).toNat ||| ((1 : Int) * 2 ^ (7 - (bits.length : Int) % 8).toNat).toNat : Nat) : Int) = byteAt (bits ++ [true]) (bits.length / 8) := by
    rw [h2 true, h1, hexp, Int.one_mul, Int.toNat_natCast]
    have : ((2 : Int) ^ (7 - bits.length % 8)).toNat = 2 ^ (7 - bits.length % 8) := by
      rw [show (2 : Int) ^ (7 - bits.length % 8) = ((2 ^ (7 - bits.length % 8) : Nat) : Int) by simp, Int.toNat_natCast]
    rw [this, or_step]
    simp [Bool.toInt]
  rw [hget, hor]
  apply List.ext_getElem?
  intro i
  rw [packB_get, List.getElem?_set, roomy_length, roomy_get]
  by_cases h : i ≤ bits.length / 8
  · rw [if_pos (by simp; omega)]
    by_cases h' : bits.length / 8 = i
    · rw [if_pos h', if_pos (by omega), h']
    · rw [if_neg h', if_pos h]
      exact congrArg some (byteAt_append _ _ _ (by omega))
  · rw [if_neg (by simp; omega), if_neg (by omega), if_neg h]

theorem up_obj {id k : Nat} {a b : List Bool} (h : a = b) : [(id, E.obj k a)] = [(id, E.obj k b)] := by rw [h]
theorem up_rd {id : Nat} {ty : TypeId} {s : ByteArray} {a b : Int} (h : a = b) : [(id, rdE true ty s a)] = [(id, rdE true ty s b)] := by rw [h]

/-! ### how a function is handed in -/
section
variable {P : Program} {gt : GT} {fn : Func} {c : Code} {tt : TT} {kt : KT} {args : List SV} {lk : Nat → Option E} {r : Res}

/-- What fnOK_mk asks of a call. -/
def Handed (P : Program) (gt : GT) (fn : Func) (c : Code) (tt : TT) (kt : KT) (args : List SV) (lk : Nat → Option E) (r : Res) : Prop :=
  ∃ (m : Nat) (ι : Nat → Nat) (largs : List SV) (lb : Blks), args = largs.map (mapV ι) ∧ allB (inV fun k => Nat.blt k m) largs = true ∧ largs.length ≤ fn.ntmps ∧ (∀ i, i < m → (lk (ι i)).isSome = true) ∧
      (∀ i e, look lb i = some e → i < m ∧ inE (fun k => Nat.blt k m) e ∧ ∃ e0, lk (ι i) = some e0 ∧ Sub e0 (mapE ι e)) ∧
      (∀ i j e e', look lb i = some e → look lb j = some e' → i ≠ j → e.own = true → ι i ≠ ι j) ∧
      ∀ w0 M ε0, XOk ⟨P, tt, kt, gt, w0, M, fn.ntmps, ε0.z⟩ → SW ⟨P, tt, kt, gt, w0, M, fn.ntmps, ε0.z⟩ c (Post ⟨P, tt, kt, gt, w0, M, fn.ntmps, ε0.z⟩ fn ε0 m ι lb r) ε0 ⟨argRegs 0 largs, lb, m⟩

theorem fnOK_handed {f : FuncId} {spec : Spec} (hf : P.funcs[f]? = some fn) (hb : fn.body = some c) (hnum : (fn.name == "runtime.NumGoroutine") = false) (htt : TtOk P tt) (hkt : ∀ f s, look kt f = some s → FnOK P gt f s)
    (H : ∀ args lk r, spec args lk = some r → r.p → Handed P gt fn c tt kt args lk r) : FnOK P gt f spec := fnOK_mk hf hb hnum htt hkt H

/-- Values alone. -/
theorem hand0 (h1 : allB (inV fun _ => false) args = true) (h2 : Nat.ble args.length fn.ntmps = true)
    (h : ∀ w0 M ε0, XOk ⟨P, tt, kt, gt, w0, M, fn.ntmps, ε0.z⟩ → SW ⟨P, tt, kt, gt, w0, M, fn.ntmps, ε0.z⟩ c (Post ⟨P, tt, kt, gt, w0, M, fn.ntmps, ε0.z⟩ fn ε0 0 id [] r) ε0 ⟨argRegs 0 args, [], 0⟩) : Handed P gt fn c tt kt args lk r := by
  refine ⟨0, id, args, [], ?_, ?_, Nat.le_of_ble_eq_true h2, fun i hi => (by omega), fun i e he => (by cases he), fun i j e e' he => (by cases he), h⟩
  · rw [mapV_id]; simp
  · have : (fun k => Nat.blt k 0) = fun _ => false := funext fun k => by
      cases h : Nat.blt k 0 with
      | false => rfl
      | true => exact absurd (blt_true h) (by omega)
    rw [this]; exact h1

/-- One place. -/
theorem hand1 {id : Nat} {e e0 : E} (largs : List SV) (ha : args = largs.map (mapV fun _ => id)) (h1 : allB (inV fun k => Nat.blt k 1) largs = true) (h2 : Nat.ble largs.length fn.ntmps = true) (hl : lk id = some e0) (hs : Sub e0 (mapE (fun _ => id) e)) (hi : inE (fun k => Nat.blt k 1) e)
    (h : ∀ w0 M ε0, XOk ⟨P, tt, kt, gt, w0, M, fn.ntmps, ε0.z⟩ → SW ⟨P, tt, kt, gt, w0, M, fn.ntmps, ε0.z⟩ c (Post ⟨P, tt, kt, gt, w0, M, fn.ntmps, ε0.z⟩ fn ε0 1 (fun _ => id) [(0, e)] r) ε0 ⟨argRegs 0 largs, [(0, e)], 1⟩) : Handed P gt fn c tt kt args lk r := by
  refine ⟨1, fun _ => id, largs, [(0, e)], ha, h1, Nat.le_of_ble_eq_true h2, fun i _ => (by rw [hl]; rfl), fun i x hx => ?_, fun i j x y hx hy hij => ?_, h⟩
  · rw [look_cons] at hx
    by_cases h : i = 0
    · rw [if_pos h] at hx
      injection hx with hx
      subst hx h
      exact ⟨by omega, hi, e0, hl, hs⟩
    · rw [if_neg h] at hx; cases hx
  · rw [look_cons] at hx hy
    by_cases h : i = 0
    · by_cases h' : j = 0
      · exact absurd (h.trans h'.symm) hij
      · rw [if_neg h'] at hy; cases hy
    · rw [if_neg h] at hx; cases hx
theorem sub_ro {o : Bool} {ty ty' : TypeId} {tl : Option Nat} {b : Body} : Sub (.mem o ty tl b) (.mem false ty' none b) := .inr ⟨o, b, ty, ty', tl, b, rfl, rfl, Ble.refl _⟩
end
end Go.X

/- Loops whose places change from round to round; nil slices as empty rows. -/
set_option linter.unusedVariables false
namespace Go.X

def idsOK (ρ : Nat → Nat) (m nxt : Nat) : Nat → Bool
  | 0 => true
  | n + 1 => (match Nat.blt n m with | true => Nat.beq (ρ n) n | false => true) && (Nat.blt (ρ n) nxt && idsOK ρ m nxt n)
theorem idsOK_ok {ρ : Nat → Nat} {m nxt : Nat} : ∀ {n : Nat}, idsOK ρ m nxt n = true → ∀ i, i < n → (i < m → ρ i = i) ∧ ρ i < nxt
  | 0, _, i, h => by omega
  | n + 1, h, i, hi => by
    simp only [idsOK, Bool.and_eq_true] at h
    obtain ⟨h1, h2, h3⟩ := h
    by_cases e : i = n
    · subst e
      refine ⟨fun hm => ?_, blt_true h2⟩
      rw [show Nat.blt i m = true from Nat.ble_eq_true_of_le hm] at h1
      exact Nat.eq_of_beq_eq_true h1
    · exact idsOK_ok h3 i (by omega)
def keysOK (ρ : Nat → Nat) (ks : List Nat) : Bool := allB (fun i => allB (fun j => Nat.beq i j || !Nat.beq (ρ i) (ρ j)) ks) ks
theorem keysOK_ok {ρ : Nat → Nat} {ks : List Nat} (h : keysOK ρ ks = true) {i j : Nat} (hi : i ∈ ks) (hj : j ∈ ks) (hne : i ≠ j) : ρ i ≠ ρ j := by
  have := allB_mem (allB_mem h i hi) j hj
  simp only [Bool.or_eq_true, Bool.not_eq_true'] at this
  rcases this with h | h
  · exact absurd (Nat.eq_of_beq_eq_true h) hne
  · intro e
    rw [e, Nat.beq_refl] at h
    cases h
theorem look_key {α : Type} : ∀ {l : List (Nat × α)} {i : Nat} {x : α}, look l i = some x → i ∈ l.map (·.1)
  | [], _, _, h => by simp [look] at h
  | (k, y) :: l, i, x, h => by
    rw [look_cons] at h
    by_cases e : i = k
    · simp [e]
    · rw [if_neg e] at h
      simp [look_key h]
theorem look_mapV {ρ : Nat → Nat} : ∀ {r : Regs} {s : Nat} {v : SV}, look r s = some v → look (r.map fun q => (q.1, mapV ρ q.2)) s = some (mapV ρ v)
  | [], _, _, h => by simp [look] at h
  | (k, y) :: l, i, x, h => by
    rw [look_cons] at h
    rw [List.map_cons, look_cons]
    by_cases e : i = k
    · rw [if_pos e] at h ⊢; injection h with h; rw [h]
    · rw [if_neg e] at h ⊢; exact look_mapV h
theorem look_mapE {ρ : Nat → Nat} : ∀ {r : Blks} {s : Nat} {v : E}, (∀ i ∈ r.map (·.1), i ≠ s → ρ i ≠ ρ s) → look r s = some v → look (r.map fun q => (ρ q.1, mapE ρ q.2)) (ρ s) = some (mapE ρ v)
  | [], _, _, _, h => by simp [look] at h
  | (k, y) :: l, i, x, hinj, h => by
    rw [look_cons] at h
    rw [List.map_cons, look_cons]
    by_cases e : i = k
    · rw [if_pos e] at h; rw [if_pos (by rw [e])]; injection h with h; rw [h]
    · rw [if_neg e] at h
      rw [if_neg (fun he => hinj k (by simp) (fun h => e h.symm) he.symm)]
      exact look_mapE (fun j hj => hinj j (by simp [hj])) h

section
variable {X : Ctx} {ε : Env} {σ : Sig} {a : Act} {w : World} {Q : Exit → Act → World → Prop}

/-- The same places, under other numbers. -/
theorem Holds.rename {ε' : Env} {s : Sig} (ρ : Nat → Nat) (h : Holds X ε' ⟨s.regs.map (fun q => (q.1, mapV ρ q.2)), s.blks.map (fun q => (ρ q.1, mapE ρ q.2)), σ.nxt⟩ a w) (hids : ∀ i, i < s.nxt → ρ i < σ.nxt) (hk : keysOK ρ (s.blks.map (·.1)) = true)
    (hr : inRegs (fun k => Nat.blt k s.nxt) s.regs = true) (hb : inBlks (fun k => Nat.blt k s.nxt) s.blks) : Holds X ⟨s.nxt, fun i => ε'.f (ρ i), ε'.z⟩ s a w := by
  have hn : σ.nxt = ε'.n := h.tab.nxt
  have hE : EMap (fun k => Nat.blt k s.nxt) ρ ⟨s.nxt, fun i => ε'.f (ρ i), ε'.z⟩ ε' := And.intro rfl fun i hi => by
    have hi := blt_true hi
    have := hids i hi
    exact ⟨⟨fun _ => by omega, fun _ => hi⟩, rfl, rfl, rfl, rfl⟩
  have hlk : ∀ {i e}, look s.blks i = some e → look (s.blks.map fun q => (ρ q.1, mapE ρ q.2)) (ρ i) = some (mapE ρ e) := fun {i e} he =>
    look_mapE (fun j hj hne => keysOK_ok hk hj (look_key he) hne) he
  refine ⟨h.defers, h.size, fun t v hv => ?_, rfl, fun i e he => ?_, fun i j e e' hi hj hne ho b hb' => ?_, h.tab.keep, fun i e he ho b hb' => ?_, fun b ob hz => ?_, h.tab.newz⟩
  · exact (RelV.map hE (inRegs_look hr hv)).2 (h.regs t _ (look_mapV hv))
  · obtain ⟨h1, h2⟩ := inBlks_look hb he
    exact ⟨blt_true h1, (RelE.map hE h2).2 (h.tab.ent _ _ (hlk he)).2⟩
  · have := h.tab.sep _ _ _ _ (hlk hi) (hlk hj) (keysOK_ok hk (look_key hi) (look_key hj) hne) (by rw [mapE_own]; exact ho) b (by rw [mapE_owned]; exact hb')
    rw [mapE_owned] at this
    exact this
  · exact h.tab.mine _ _ (hlk he) (by rw [mapE_own]; exact ho) b (by rw [mapE_owned]; exact hb')
  · obtain ⟨g1, g2⟩ := h.tab.froz b ob hz
    exact ⟨g1, fun i e he ho hm => g2 _ _ (hlk he) (by rw [mapE_own]; exact ho) (by rw [mapE_owned]; exact hm)⟩

/-- The end of a round, its places told anew. -/
theorem rAgainR (ρ : Nat → Nat) (m0 : Nat) {ι : Type} {I : ι → Sig} {m : ι → Nat} {n : Nat} (j : ι) (hm : m j < n) (hm0 : ε.n ≤ m0) (hN : ε.n ≤ (I j).nxt) (hids : idsOK ρ m0 σ.nxt (I j).nxt = true) (hk : keysOK ρ ((I j).blks.map (·.1)) = true)
    (hri : inRegs (fun k => Nat.blt k (I j).nxt) (I j).regs = true) (hbi : inBlks (fun k => Nat.blt k (I j).nxt) (I j).blks)
    (hr : RLe σ.regs ((I j).regs.map fun q => (q.1, mapV ρ q.2))) (hb : BLe σ.blks ((I j).blks.map fun q => (ρ q.1, mapE ρ q.2))) : SQ X (Exit.then (Again X I m n ε) Q) .normal ε σ := fun ε' a w hle' hh => by
  have h1 : Holds X ε' ⟨(I j).regs.map (fun q => (q.1, mapV ρ q.2)), (I j).blks.map (fun q => (ρ q.1, mapE ρ q.2)), σ.nxt⟩ a w := hh.le ⟨hr, hb, rfl⟩
  have hid := idsOK_ok hids
  refine ⟨j, ⟨(I j).nxt, fun i => ε'.f (ρ i), ε'.z⟩, hm, ?_, Holds.rename ρ h1 (fun i hi => (hid i hi).2) hk hri hbi⟩
  have key : ∀ i, i < ε.n → ρ i = i := fun i hi => (hid i (by omega)).1 (by omega)
  exact ⟨hN, fun i hi => by show (ε'.f (ρ i)).blk = _; rw [key i hi]; exact hle'.blk i hi, fun i hi => by show (ε'.f (ρ i)).off = _; rw [key i hi]; exact hle'.off i hi,
    fun i hi => by show (ε'.f (ρ i)).cap = _; rw [key i hi]; exact hle'.cap i hi, fun i hi => by show (ε'.f (ρ i)).isnil = _; rw [key i hi]; exact hle'.nil i hi, hle'.z⟩

/-- What the places of the begin say of their number. -/
theorem rCount {c : Code} (h : ε.n ≤ σ.nxt → SW X c Q ε σ) : SW X c Q ε σ := fun ε' a w hle hh => by
  have h1 := hh.tab.nxt
  have h2 := hle.n
  exact h (by omega) ε' a w hle hh

/-- A nil slice is an empty row. -/
theorem Holds.nilRow {s ty sz : Nat} {b : Body} {r : Regs} (hbd : ∀ ε, RelB ε b []) (hl : look σ.regs s = some (.v (.c (.val (.slice none 0 0))))) (hr : upd σ.regs s (.v (.c (.sl σ.nxt 0 0 sz))) = some r) (h : Holds X ε σ a w) :
    Holds X (ε.push ⟨0, 0, 0, true, []⟩) ⟨r, (σ.nxt, .mem true ty (some sz) b) :: σ.blks, σ.nxt + 1⟩ a w := by
  have hn : σ.nxt = ε.n := h.tab.nxt
  have hle := EnvLe.push ε ⟨0, 0, 0, true, []⟩
  have hnew : (ε.push ⟨0, 0, 0, true, []⟩).f σ.nxt = ⟨0, 0, 0, true, []⟩ := by
    show (if σ.nxt = ε.n then _ else _) = _
    rw [if_pos hn]
  have hold : ∀ {i e}, look σ.blks i = some e → i < ε.n ∧ i ≠ σ.nxt ∧ (ε.push ⟨0, 0, 0, true, []⟩).f i = ε.f i := fun {i e} he => by
    have := (h.tab.ent i e he).1
    exact ⟨this, by omega, ε.push_old _ this⟩
  refine ⟨h.defers, h.size, fun t v hv => ?_, by show σ.nxt + 1 = ε.n + 1; omega, fun i e he => ?_, fun i j e f he hf hne ho b' hb hb' => ?_, h.tab.keep, fun i e he ho b' hb => ?_, fun b' ob hz => ?_, h.tab.newz⟩
  · rw [look_upd hr] at hv
    by_cases e : t = s
    · rw [if_pos e] at hv
      injection hv with hv
      subst hv e
      obtain ⟨hx, _⟩ := h.regs t _ hl
      refine ⟨by show σ.nxt < ε.n + 1; omega, by omega, .inl ⟨by rw [hnew], hx, rfl⟩⟩
    · rw [if_neg e] at hv
      exact (h.regs t v hv).mono hle
  · rw [look_cons] at he
    by_cases e' : i = σ.nxt
    · rw [if_pos e'] at he
      injection he with he
      subst he e'
      refine ⟨by show σ.nxt < ε.n + 1; omega, ?_⟩
      rw [hnew]
      exact ⟨fun _ => ⟨hbd _, rfl⟩, fun hh => by cases hh⟩
    · rw [if_neg e'] at he
      obtain ⟨h1, h2, h3⟩ := hold he
      rw [h3]
      exact ⟨by show i < ε.n + 1; omega, (h.tab.ent i e he).2.mono hle⟩
  · rw [look_cons] at he hf
    by_cases ei : i = σ.nxt
    · rw [if_pos ei] at he
      injection he with he
      subst he ei
      rw [hnew] at hb
      simp [owned] at hb
    · rw [if_neg ei] at he
      rw [(hold he).2.2] at hb
      by_cases ej : j = σ.nxt
      · rw [if_pos ej] at hf
        injection hf with hf
        subst hf ej
        rw [hnew] at hb'
        simp [owned] at hb'
      · rw [if_neg ej] at hf
        rw [(hold hf).2.2] at hb'
        exact h.tab.sep i j e f he hf hne ho b' hb hb'
  · rw [look_cons] at he
    by_cases ei : i = σ.nxt
    · rw [if_pos ei] at he
      injection he with he
      subst he ei
      rw [hnew] at hb
      simp [owned] at hb
    · rw [if_neg ei] at he
      rw [(hold he).2.2] at hb
      exact h.tab.mine i e he ho b' hb
  · obtain ⟨g1, g2⟩ := h.tab.froz b' ob hz
    refine ⟨g1, fun i e he ho hm => ?_⟩
    rw [look_cons] at he
    by_cases ei : i = σ.nxt
    · rw [if_pos ei] at he
      injection he with he
      subst he ei
      rw [hnew] at hm
      simp [owned] at hm
    · rw [if_neg ei] at he
      rw [(hold he).2.2] at hm
      exact g2 i e he ho hm
theorem rNilRow (s ty sz : Nat) (b : Body) {c : Code} {r : Regs} (hbd : ∀ ε, RelB ε b []) (hl : look σ.regs s = some (.v (.c (.val (.slice none 0 0))))) (hr : upd σ.regs s (.v (.c (.sl σ.nxt 0 0 sz))) = some r)
    (h : SW X c Q ε ⟨r, (σ.nxt, .mem true ty (some sz) b) :: σ.blks, σ.nxt + 1⟩) : SW X c Q ε σ := fun ε' a w hle hh => h _ a w (hle.trans (EnvLe.push _ _)) (hh.nilRow hbd hl hr)
theorem nil_ints (k : IntKind) : ∀ ε, RelB ε (.flat [.ints 0 k []]) [] := fun ε => ⟨[], [], rfl, ⟨rfl, rfl, by simp⟩, rfl⟩
theorem nil_rows (sz : Nat) (f : Nat → List S0) : ∀ ε, RelB ε (.rows 0 sz f) [] := fun ε => ⟨by simp, fun i hi => by omega⟩

theorem rNormal {fn : Func} {ε0 : Env} {m : Nat} {ι : Nat → Nat} {lb : Blks} {r : Res} (h : SQ X (Post X fn ε0 m ι lb r) .ret ε σ) : SQ X (Post X fn ε0 m ι lb r) .normal ε σ := h

/-! ### for the texts -/
theorem and_one (x : Int) (h : 0 ≤ x) : ((x.toNat &&& (1 : Int).toNat : Nat) : Int) = x % 2 := by
  rw [show (1 : Int).toNat = 1 from rfl, Nat.and_one_is_mod]; omega
theorem shr_in (v : Int) (k : Nat) (h : 0 ≤ v) : 0 ≤ v / 2 ^ k ∧ v / 2 ^ k ≤ v := ⟨Int.ediv_nonneg h (Int.le_of_lt (Int.pow_pos (by omega))), Int.ediv_le_self _ h⟩
theorem rune_cases (s : ByteArray) (i : Nat) : ¬ i < s.size ∨ ((byteI s i = 48 ∨ byteI s i = 49) ∧ ((Utf8.decode s i).1 : Int) = byteI s i ∧ (Utf8.decode s i).2 = 1) ∨ (byteI s i ≠ 48 ∧ byteI s i ≠ 49 ∧ ((Utf8.decode s i).1 : Int) ≠ 48 ∧ ((Utf8.decode s i).1 : Int) ≠ 49) := by
  by_cases h : i < s.size
  · right
    by_cases hb : byteI s i < 128
    · obtain ⟨h1, h2⟩ := decode_plain h hb
      omega
    · have := decode_other h (by omega)
      omega
  · exact .inl h
theorem plain_step {s : ByteArray} {i : Nat} (h : i < s.size) : plainL ((bl s).take (i + 1)) = (plainL ((bl s).take i) && (decide (byteI s i = 48) || decide (byteI s i = 49))) := by
  have hl : i < (bl s).length := by rw [bl_length]; exact h
  rw [← List.take_append_getElem hl, byteI_bl, List.getD_eq_getElem?_getD, List.getElem?_eq_getElem hl]
  unfold plainL
  rw [List.all_append]
  simp
theorem plain_all {s : ByteArray} {i : Nat} (h : s.size ≤ i) : (bl s).take i = bl s := List.take_of_length_le (by rw [bl_length]; exact h)
theorem plain_bad {s : ByteArray} {i : Nat} (h : i < s.size) (h1 : byteI s i ≠ 48) (h2 : byteI s i ≠ 49) : plainL (bl s) = false := by
  have hl : i < (bl s).length := by rw [bl_length]; exact h
  rw [byteI_bl, List.getD_eq_getElem?_getD, List.getElem?_eq_getElem hl] at h1 h2
  unfold plainL
  rw [List.all_eq_false]
  exact ⟨_, List.getElem_mem hl, by simpa using ⟨h1, h2⟩⟩
theorem plain_at {s : ByteArray} (h : plainL (bl s) = true) {i : Nat} (hi : i < s.size) : byteI s i = 48 ∨ byteI s i = 49 := by
  rcases Decidable.em (byteI s i = 48 ∨ byteI s i = 49) with h' | h'
  · exact h'
  · rw [plain_bad hi (by omega) (by omega)] at h; cases h
theorem bits_step {s : ByteArray} {i : Nat} (h : i < s.size) : (bitsT (bl s)).take (i + 1) = (bitsT (bl s)).take i ++ [decide (byteI s i = 49)] := by
  have hl : i < (bl s).length := by rw [bl_length]; exact h
  have hl' : i < (bitsT (bl s)).length := by rw [bitsT_length]; exact hl
  rw [← List.take_append_getElem hl', byteI_bl, List.getD_eq_getElem?_getD, List.getElem?_eq_getElem hl]
  congr 2
  simp [bitsT]
theorem digits_step (v : Int) (n j : Nat) (h : j < n) : (digits v n).take (j + 1) = (digits v n).take j ++ [decide (v / 2 ^ (n - 1 - j) % 2 = 1)] := by
  have h1 := digits_getD v n j h
  have hl : j < (digits v n).length := by rw [digits_length]; exact h
  rw [List.getD_eq_getElem?_getD, List.getElem?_eq_getElem hl, Option.getD_some] at h1
  rw [← List.take_append_getElem hl, h1]
theorem packB_pad (bits : List Bool) (n : Nat) (h : n < 8) (h2 : (bits.length + n + 7) / 8 = (bits.length + 7) / 8) : packB (bits ++ List.replicate n false) = packB bits := by
  unfold packB
  rw [List.length_append, List.length_replicate, h2]
  apply List.map_congr_left
  intro i _
  have : ∀ j, (bits ++ List.replicate n false).getD j false = bits.getD j false := fun j => by
    rw [List.getD_eq_getElem?_getD, List.getD_eq_getElem?_getD]
    rcases Nat.lt_or_ge j bits.length with h | h
    · rw [List.getElem?_append_left h]
    · rw [List.getElem?_append_right h, List.getElem?_eq_none h, List.getElem?_replicate]
      split <;> rfl
  simp only [byteAt, this]
end
theorem add_cases (s : ByteArray) : (addE' s = 0 ∧ plainL (bl s) = true ∧ addD s = bitsT (bl s)) ∨ (addE' s = 1 ∧ plainL (bl s) = false ∧ addD s = []) := by
  unfold addE' addD
  cases h : plainL (bl s)
  · right; exact ⟨rfl, rfl, rfl⟩
  · left; exact ⟨rfl, rfl, rfl⟩
theorem put_cases (v n : Int) : (putE v n = 0 ∧ (0 ≤ n ∧ n ≤ 32 ∧ 0 ≤ v ∧ v < 2 ^ n.toNat) ∧ fitsS v n = true ∧ putD v n = digits v n.toNat) ∨ (putE v n = 1 ∧ ¬ (0 ≤ n ∧ n ≤ 32 ∧ 0 ≤ v ∧ v < 2 ^ n.toNat) ∧ fitsS v n = false ∧ putD v n = []) := by
  unfold putE putD
  cases h : fitsS v n
  · right; exact ⟨rfl, (fitsS_iff' v n).1 h, rfl, rfl⟩
  · left; exact ⟨rfl, (fitsS_iff v n).1 h, rfl, rfl⟩
theorem dig_txt (x : Int) : txt [decide (x % 2 = 1)] = [48 + x % 2] := by
  rcases (by omega : x % 2 = 0 ∨ x % 2 = 1) with h | h <;> simp [txt, h]
theorem dig_str (x : Int) : (ByteArray.mk #[48, 49]).extract (x % 2).toNat (x % 2 + 1).toNat = rowT [decide (x % 2 = 1)] := by
  rcases (by omega : x % 2 = 0 ∨ x % 2 = 1) with h | h <;> rw [h] <;> rfl
theorem div_step (v : Int) (i : Nat) : v / 2 ^ i / 2 = v / 2 ^ (i + 1) := by
  have hp : (0 : Int) < 2 ^ i := Int.pow_pos (by omega)
  rw [Int.ediv_ediv, if_neg (by omega), Int.sub_zero, Int.pow_succ]
theorem div_zero_iff (v : Int) (n : Nat) (h : 0 ≤ v) : v / 2 ^ n = 0 ↔ v < 2 ^ n := by
  have hp : (0 : Int) < 2 ^ n := Int.pow_pos (by omega)
  constructor
  · intro h1
    by_cases h2 : v < 2 ^ n
    · exact h2
    · have := Int.le_ediv_of_mul_le (a := 1) (b := v) hp (by omega)
      omega
  · intro h1; exact Int.ediv_eq_zero_of_lt h h1
theorem unpack_step (xs : List Int) (m : Nat) (h : m < 8 * xs.length) : (unpack xs).take (m + 1) = (unpack xs).take m ++ [decide (xs.getD (m / 8) 0 / 2 ^ (7 - m % 8) % 2 = 1)] := by
  have h1 := unpack_getD xs m h
  have hl : m < (unpack xs).length := by rw [unpack_length]; exact h
  rw [List.getD_eq_getElem?_getD, List.getElem?_eq_getElem hl, Option.getD_some] at h1
  rw [← List.take_append_getElem hl, h1]
theorem unpack_byte (xs : List Int) (i : Nat) (h : i < xs.length) : (unpack xs).take (8 * (i + 1)) = (unpack xs).take (8 * i) ++ digits (xs.getD i 0) 8 := by
  rw [show 8 * (i + 1) = 8 * i + 8 by omega, List.take_add, unpack_drop, List.drop_eq_getElem_cons h, List.getD_eq_getElem?_getD, List.getElem?_eq_getElem h]
  show _ ++ (digits xs[i] 8 ++ unpack _).take 8 = _
  rw [List.take_left' (digits_length _ _)]
  rfl
theorem packB_take_step (bits : List Bool) (i : Nat) (h : 8 * i + 8 ≤ bits.length) : (packB bits).take (i + 1) = (packB bits).take i ++ [numB ((bits.drop (8 * i)).take 8)] := by
  have hl : i < (packB bits).length := by rw [packB_length]; omega
  rw [← List.take_append_getElem hl]
  congr 2
  have h1 := packB_get bits i
  rw [if_pos (by omega), List.getElem?_eq_getElem hl] at h1
  injection h1 with h1
  rw [h1, byteAt_num _ _ (by omega), octet, List.drop_append_of_le_length (by omega), List.take_append_of_le_length (by rw [List.length_drop]; omega)]
theorem numB_step {s : ByteArray} {i : Nat} (h : i < s.size) (hp : byteI s i = 48 ∨ byteI s i = 49) : numB ((bitsT (bl s)).take (i + 1)) = 2 * numB ((bitsT (bl s)).take i) + (byteI s i - 48) := by
  rw [bits_step h, numB_snoc]
  rcases hp with hp | hp <;> rw [hp] <;> rfl
theorem numB_take_in (l : List Bool) (i : Nat) (h : i ≤ 32) : 0 ≤ numB (l.take i) ∧ numB (l.take i) < 4294967296 := by
  have h1 := numB_in (l.take i)
  have h2 := pow_inN (l.take i).length (by rw [List.length_take]; omega)
  omega
theorem ext_num (B : List Bool) (m : Nat) : numB (bitsT (bl ((rowT B).extract (8 * (m : Int)).toNat (8 * (m : Int) + 8).toNat))) = numB ((B.drop (8 * m)).take 8) := by
  rw [rowT_extract, bl_rowT, bitsT_txt, show (8 * (m : Int)).toNat = 8 * m by omega, show (8 * (m : Int) + 8).toNat - 8 * m = 8 by omega]
theorem num8_in (l : List Bool) (a : Nat) : 0 ≤ numB ((l.drop a).take 8) ∧ numB ((l.drop a).take 8) ≤ 255 := by
  have h := numB_in ((l.drop a).take 8)
  have h1 : ((l.drop a).take 8).length ≤ 8 := by rw [List.length_take]; omega
  have h2 : 2 ^ ((l.drop a).take 8).length ≤ 2 ^ 8 := Nat.pow_le_pow_right (by omega) h1
  have h3 : (2 : Int) ^ ((l.drop a).take 8).length = ((2 ^ ((l.drop a).take 8).length : Nat) : Int) := by simp
  rw [h3] at h
  omega
theorem row_zero (l : List Bool) (i : Nat) : rowT (l ++ List.replicate i false) ++ ⟨#[48]⟩ = rowT (l ++ List.replicate (i + 1) false) := by
  rw [show (⟨#[48]⟩ : ByteArray) = rowT [false] from rfl, rowT_append, List.append_assoc, ← List.replicate_succ']
theorem or_bit (a b : Int) (h : 0 ≤ a) (hb : b = 0 ∨ b = 1) : (((a * 2 ^ (1 : Int).toNat).toNat ||| b.toNat : Nat) : Int) = 2 * a + b := by
  have h1 : (a * 2 ^ (1 : Int).toNat).toNat = 2 ^ 1 * a.toNat := by
    show (a * 2).toNat = 2 * a.toNat
    omega
  rw [h1, ← Nat.two_pow_add_eq_or_of_lt (by rcases hb with h | h <;> subst h <;> decide)]
  omega
theorem bit_of (x : Int) : (decide (x % 2 = 1)).toInt = x % 2 := by
  rcases (by omega : x % 2 = 0 ∨ x % 2 = 1) with h | h <;> rw [h] <;> rfl
theorem peek_step {s : ByteArray} {p : Int} {i : Nat} (h0 : 0 ≤ p) (h : p + i < 8 * s.size) :
    numB (((tb s).drop p.toNat).take (i + 1)) = 2 * numB (((tb s).drop p.toNat).take i) + byteI s ((p + i) / 8).toNat / 2 ^ (7 - (p + i) % 8).toNat % 2 := by
  have hl : i < ((tb s).drop p.toNat).length := by rw [List.length_drop, tb_length]; omega
  have h1 := unpack_getD (bl s) (p.toNat + i) (by rw [bl_length]; omega)
  rw [← List.take_append_getElem hl, numB_snoc, List.getElem_drop]
  have h2 : (tb s)[p.toNat + i]'(by rw [tb_length]; omega) = (unpack (bl s)).getD (p.toNat + i) false := by
    rw [List.getD_eq_getElem?_getD, List.getElem?_eq_getElem (by rw [unpack_length, bl_length]; omega)]; rfl
  rw [h2, h1, bit_of, ← byteI_bl, show ((p + i) / 8).toNat = (p.toNat + i) / 8 by omega, show (7 - (p + i) % 8).toNat = 7 - (p.toNat + i) % 8 by omega]
theorem peek_num {s : ByteArray} {p : Int} {i : Nat} (h0 : 0 ≤ p) (h : p + i < 8 * s.size) :
    (((numB (((tb s).drop p.toNat).take i) * 2 ^ (1 : Int).toNat).toNat ||| ((((byteI s ((p + i) / 8).toNat / 2 ^ (7 - (p + i) % 8).toNat).toNat &&& (1 : Int).toNat : Nat) : Int)).toNat : Nat) : Int) = numB (((tb s).drop p.toNat).take (i + 1)) := by
  have hb := (shr_in _ (7 - (p + i) % 8).toNat (byteI_in s ((p + i) / 8).toNat).1).1
  rw [and_one _ hb, or_bit _ _ (numB_in _).1 (by omega), peek_step h0 h]
end Go.X

/- What the document's readers and the layer of marks come to. -/
set_option linter.unusedVariables false
namespace Go.X

def rtE (l at_ n : Int) : Int := if n < 0 ∨ 32 < n then 1 else if l - at_ < n then 2 else 0
def rtV (bits : List Bool) (l at_ n : Int) : Int := if n < 0 ∨ 32 < n then 0 else if l - at_ < n then 0 else numB ((bits.drop at_.toNat).take n.toNat)
theorem peekE_rt (s : ByteArray) (p n : Int) : peekE s p n = rtE (8 * s.size) p n := rfl
theorem peekV_rt (s : ByteArray) (p n : Int) : peekV s p n = rtV (tb s) (8 * s.size) p n := rfl
def spRTake : Spec := fun args _ => match args with
  | [.v (.c (.str s)), .v (.c (.int .i64 p)), .v (.c (.int .i64 n))] => some ⟨plainL (bl s) = true ∧ s.size ≤ 8796093022208 ∧ 0 ≤ p ∧ p ≤ s.size, tup2 (rtV (bitsT (bl s)) s.size p n) (rtE s.size p n), [], []⟩
  | _ => none
theorem rt_cases (bits : List Bool) (l p n : Int) : ((n < 0 ∨ 32 < n) ∧ rtE l p n = 1 ∧ rtV bits l p n = 0) ∨ (0 ≤ n ∧ n ≤ 32 ∧ l - p < n ∧ rtE l p n = 2 ∧ rtV bits l p n = 0) ∨
    (0 ≤ n ∧ n ≤ 32 ∧ n ≤ l - p ∧ rtE l p n = 0 ∧ rtV bits l p n = numB ((bits.drop p.toNat).take n.toNat)) := by
  unfold rtE rtV
  by_cases h1 : n < 0 ∨ 32 < n
  · rw [if_pos h1, if_pos h1]; exact .inl ⟨h1, rfl, rfl⟩
  · rw [if_neg h1, if_neg h1]
    by_cases h2 : l - p < n
    · rw [if_pos h2, if_pos h2]; exact .inr (.inl ⟨by omega, by omega, h2, rfl, rfl⟩)
    · rw [if_neg h2, if_neg h2]; exact .inr (.inr ⟨by omega, by omega, by omega, rfl, rfl⟩)
/-- Nothing but noughts up to a byte's end? -/
def rfE' (bits : List Bool) (p : Int) : Int := if numB ((bits.drop p.toNat).take (padI p).toNat) = 0 then 0 else 5
def rfV' (bits : List Bool) (p : Int) : Int := if numB ((bits.drop p.toNat).take (padI p).toNat) = 0 then padI p else 0
theorem rf_peek {s : ByteArray} {p : Int} (h : rdOK s p) : peekV s p (padI p) = numB (((tb s).drop p.toNat).take (padI p).toNat) := by
  have h1 := padI_in h
  rcases peekE_cases s p (padI p) with ⟨h2, _⟩ | ⟨_, _, h2, _⟩ | ⟨_, _, _, _, h2⟩
  · omega
  · omega
  · exact h2
theorem rfE_eq {s : ByteArray} {p : Int} (h : rdOK s p) : rfE s p = rfE' (tb s) p := by unfold rfE rfE'; rw [rf_peek h]
theorem rfV_eq {s : ByteArray} {p : Int} (h : rdOK s p) : rfV s p = rfV' (tb s) p := by unfold rfV rfV'; rw [rf_peek h]
def spRFillR : Spec := fun args _ => match args with
  | [.v (.c (.str s)), .v (.c (.int .i64 p))] => some ⟨plainL (bl s) = true ∧ s.size ≤ 8796093022208 ∧ s.size % 8 = 0 ∧ 0 ≤ p ∧ p ≤ s.size, tup2 (rfV' (bitsT (bl s)) p) (rfE' (bitsT (bl s)) p), [], []⟩
  | _ => none

theorem numB_append (a b : List Bool) : numB (a ++ b) = numB a * 2 ^ b.length + numB b := by
  induction b using snocB with
  | h0 => simp [numB]
  | h1 b x ih =>
    rw [← List.append_assoc, numB_snoc, numB_snoc, ih, List.length_append, Int.pow_add, Int.mul_add, ← Int.mul_assoc, Int.mul_comm (numB a) _]
    simp only [List.length_cons, List.length_nil, Nat.zero_add, Int.pow_one]
    have e : 2 * (numB a * 2 ^ b.length) = 2 ^ b.length * 2 * numB a := by rw [Int.mul_comm (numB a), ← Int.mul_assoc, Int.mul_comm 2]
    have e2 := Int.mul_assoc 2 (numB a) (2 ^ b.length)
    omega
theorem digits_zero : ∀ n, digits 0 n = List.replicate n false := by
  intro n
  induction n with
  | zero => rfl
  | succ n ih => rw [digits, show (0 : Int) / 2 = 0 from rfl, ih, List.replicate_succ']; rfl
theorem numB_zero {l : List Bool} (h : numB l = 0) : l = List.replicate l.length false := by
  have := digits_numB l
  rw [h, digits_zero] at this
  exact this.symm
theorem numB_zeros (n : Nat) : numB (List.replicate n false) = 0 := by
  have := numB_digits 0 n (by omega) (Int.pow_pos (by omega))
  rwa [digits_zero] at this
/-- One digit more. -/
theorem numB_one (l : List Bool) (i : Nat) (h : i < l.length) : numB (l.take (i + 1)) = 2 * numB (l.take i) + (l.getD i false).toInt := by
  rw [← List.take_append_getElem h, numB_snoc, List.getD_eq_getElem?_getD, List.getElem?_eq_getElem h]; rfl
theorem numB_bad {l : List Bool} {i m : Nat} (hi : i < m) (hm : m ≤ l.length) (h : l.getD i false = true) : numB (l.take m) ≠ 0 := by
  intro h0
  have h1 := numB_zero h0
  have h2 : (l.take m).getD i false = true := by
    rw [List.getD_eq_getElem?_getD, List.getElem?_take_of_lt hi, ← List.getD_eq_getElem?_getD]; exact h
  rw [h1, List.getD_eq_getElem?_getD, List.getElem?_replicate] at h2
  split at h2 <;> simp at h2
theorem drop_getD (l : List Bool) (a i : Nat) : (l.drop a).getD i false = l.getD (a + i) false := by
  rw [List.getD_eq_getElem?_getD, List.getElem?_drop, List.getD_eq_getElem?_getD]
theorem byte_bit {s : ByteArray} (h : plainL (bl s) = true) {i : Nat} (hi : i < s.size) : (byteI s i = 48 ∧ (bitsT (bl s)).getD i false = false) ∨ (byteI s i = 49 ∧ (bitsT (bl s)).getD i false = true) := by
  have hl : i < (bl s).length := by rw [bl_length]; exact hi
  have e : (bitsT (bl s)).getD i false = decide (byteI s i = 49) := by
    rw [byteI_bl, List.getD_eq_getElem?_getD, List.getD_eq_getElem?_getD, bitsT, List.getElem?_map, List.getElem?_eq_getElem hl]; rfl
  rw [e]
  rcases plain_at h hi with h | h <;> rw [h] <;> simp

/-! ### marks -/
def mkN (bits : List Bool) (p : Int) : Int := numB ((bits.drop p.toNat).take 22)
def mkE (bits : List Bool) (p : Int) : Int := if p < 0 ∨ (bits.length : Int) < p then 1 else if (bits.length : Int) - p < 22 then 2 else if mkN bits p / 32 ≠ 1 then 4 else 0
def mkV (bits : List Bool) (p : Int) : Int := if mkE bits p = 0 then mkN bits p % 32 else 0
theorem mkN_in (bits : List Bool) (p : Int) : 0 ≤ mkN bits p ∧ mkN bits p < 4194304 := by
  unfold mkN
  have h := numB_in ((bits.drop p.toNat).take 22)
  have h1 : ((bits.drop p.toNat).take 22).length ≤ 22 := by rw [List.length_take]; omega
  have h2 : 2 ^ ((bits.drop p.toNat).take 22).length ≤ 2 ^ 22 := Nat.pow_le_pow_right (by omega) h1
  have h3 : (2 : Int) ^ ((bits.drop p.toNat).take 22).length = ((2 ^ ((bits.drop p.toNat).take 22).length : Nat) : Int) := by simp
  rw [h3] at h
  omega
theorem mk_cases (bits : List Bool) (p : Int) : ((p < 0 ∨ (bits.length : Int) < p) ∧ mkE bits p = 1 ∧ mkV bits p = 0) ∨ (0 ≤ p ∧ p ≤ bits.length ∧ (bits.length : Int) - p < 22 ∧ mkE bits p = 2 ∧ mkV bits p = 0) ∨
    (0 ≤ p ∧ 22 ≤ (bits.length : Int) - p ∧ mkN bits p / 32 ≠ 1 ∧ mkE bits p = 4 ∧ mkV bits p = 0) ∨ (0 ≤ p ∧ 22 ≤ (bits.length : Int) - p ∧ mkN bits p / 32 = 1 ∧ mkE bits p = 0 ∧ mkV bits p = mkN bits p % 32) := by
  unfold mkV mkE
  by_cases h1 : p < 0 ∨ (bits.length : Int) < p
  · simp only [if_pos h1]; exact .inl ⟨h1, trivial, rfl⟩
  · simp only [if_neg h1]
    by_cases h2 : (bits.length : Int) - p < 22
    · simp only [if_pos h2]; exact .inr (.inl ⟨by omega, by omega, h2, trivial, rfl⟩)
    · simp only [if_neg h2]
      by_cases h3 : mkN bits p / 32 ≠ 1
      · simp only [if_pos h3]; exact .inr (.inr (.inl ⟨by omega, by omega, h3, trivial, rfl⟩))
      · simp only [if_neg h3]; exact .inr (.inr (.inr ⟨by omega, by omega, by omega, trivial, rfl⟩))
def spMAt : Spec := fun args _ => match args with
  | [.v (.c (.str s)), .v (.c (.int .i64 p))] => some ⟨s.size + 64 ≤ 1099511627776, tup2 (mkV (tb s) p) (mkE (tb s) p), [], []⟩
  | _ => none
def spMAtR : Spec := fun args _ => match args with
  | [.v (.c (.str s)), .v (.c (.int .i64 p))] => some ⟨plainL (bl s) = true ∧ s.size ≤ 8796093022208, tup2 (mkV (bitsT (bl s)) p) (mkE (bitsT (bl s)) p), [], []⟩
  | _ => none
/-- Noughts from a place on. -/
def zeroN (bits : List Bool) (p : Int) : Nat := if p < 0 ∨ (bits.length : Int) < p then 0 else ((bits.drop p.toNat).takeWhile fun b => !b).length
theorem zero_hit {l : List Bool} {n : Nat} (h0 : numB (l.take n) = 0) (h1 : n < l.length) (h2 : l.getD n false = true) : (l.takeWhile fun b => !b).length = n := by
  have e := numB_zero h0
  have hl : (l.take n).length = n := by rw [List.length_take]; omega
  have hd : l.drop n = true :: l.drop (n + 1) := by
    rw [List.drop_eq_getElem_cons h1]
    rw [List.getD_eq_getElem?_getD, List.getElem?_eq_getElem h1] at h2
    rw [show l[n] = true from h2]
  have hs : l = List.replicate n false ++ true :: l.drop (n + 1) := by
    conv => lhs; rw [← List.take_append_drop n l, e, hl, hd]
  rw [hs, List.takeWhile_append_of_pos (by intro x hx; rw [List.eq_of_mem_replicate hx]; rfl)]
  simp
theorem zero_end {l : List Bool} {n : Nat} (h0 : numB (l.take n) = 0) (h1 : n = l.length) : (l.takeWhile fun b => !b).length = n := by
  have e := numB_zero h0
  rw [h1, List.take_length] at e
  rw [e, h1, List.takeWhile_replicate]
  simp
def spZeros : Spec := fun args _ => match args with
  | [.v (.c (.str s)), .v (.c (.int .i64 p))] => some ⟨s.size + 64 ≤ 1099511627776, i64 (zeroN (tb s) p : Nat), [], []⟩
  | _ => none
def spZerosR : Spec := fun args _ => match args with
  | [.v (.c (.str s)), .v (.c (.int .i64 p))] => some ⟨plainL (bl s) = true ∧ s.size ≤ 8796093022208, i64 (zeroN (bitsT (bl s)) p : Nat), [], []⟩
  | _ => none
def nxB (bits : List Bool) (p : Int) : Bool := decide (0 ≤ p ∧ p ≤ bits.length ∧ rfE' bits p = 0 ∧ mkE bits (p + padI p) = 0)
def nxV (bits : List Bool) (p : Int) : Int := if 0 ≤ p ∧ p ≤ bits.length ∧ rfE' bits p = 0 then mkV bits (p + padI p) else 0
def spMNext : Spec := fun args _ => match args with
  | [.v (.c (.str s)), .v (.c (.int .i64 p))] => some ⟨s.size + 64 ≤ 1099511627776, tupB (nxV (tb s) p) (nxB (tb s) p), [], []⟩
  | _ => none
def spMNextR : Spec := fun args _ => match args with
  | [.v (.c (.str s)), .v (.c (.int .i64 p))] => some ⟨plainL (bl s) = true ∧ s.size ≤ 8796093022208 ∧ s.size % 8 = 0, tupB (nxV (bitsT (bl s)) p) (nxB (bitsT (bl s)) p), [], []⟩
  | _ => none
/-- The first byte at which a sheet or the end begins. -/
def fdG (bits : List Bool) (from_ : Int) (i : Nat) : Bool := decide (from_ ≤ i ∧ mkE bits (8 * (i : Int)) = 0 ∧ (mkV bits (8 * (i : Int)) = 0 ∨ mkV bits (8 * (i : Int)) = 31))
def fdI (bits : List Bool) (from_ : Int) : Option Nat := (List.range (bits.length / 8)).find? (fdG bits from_)
def fdA (bits : List Bool) (f : Int) : Int := match fdI bits f with | some i => (i : Int) | none => 0
def fdN (bits : List Bool) (f : Int) : Int := match fdI bits f with | some i => mkV bits (8 * (i : Int)) | none => 0
def fdB (bits : List Bool) (f : Int) : Bool := match fdI bits f with | some _ => true | none => false
theorem find_hit {bits : List Bool} {f : Int} {i : Nat} (hi : i < bits.length / 8) (hg : fdG bits f i = true) (hn : ∀ j, j < i → fdG bits f j = false) : fdI bits f = some i := by
  unfold fdI
  have h1 : List.range (bits.length / 8) = List.range i ++ i :: (List.range' (i + 1) (bits.length / 8 - (i + 1))) := by
    rw [List.range_eq_range', List.range_eq_range', show bits.length / 8 = i + ((bits.length / 8 - (i + 1)) + 1) by omega, ← List.range'_append_1]
    congr 1
    rw [List.range'_succ]
    simp only [Nat.zero_add]
    congr 2
    omega
  rw [h1, List.find?_append, List.find?_eq_none.2 (fun j hj => by rw [hn j (List.mem_range.1 hj)]; simp)]
  simp [hg]
theorem find_miss {bits : List Bool} {f : Int} (hn : ∀ j, j < bits.length / 8 → fdG bits f j = false) : fdI bits f = none :=
  List.find?_eq_none.2 fun j hj => by rw [hn j (List.mem_range.1 hj)]; simp
def spFind : Spec := fun args _ => match args with
  | [.v (.c (.str s)), .v (.c (.int .i64 f))] => some ⟨s.size + 64 ≤ 1099511627776, tup2B (fdA (tb s) f) (fdN (tb s) f) (fdB (tb s) f), [], []⟩
  | _ => none
def spFindR : Spec := fun args _ => match args with
  | [.v (.c (.str s)), .v (.c (.int .i64 f))] => some ⟨plainL (bl s) = true ∧ s.size ≤ 8796093022208 ∧ s.size % 8 = 0, tup2B (fdA (bitsT (bl s)) f) (fdN (bitsT (bl s)) f) (fdB (bitsT (bl s)) f), [], []⟩
  | _ => none
def mpE (n : Int) : Int := if n < 0 ∨ 31 < n then 1 else 0
def mpD (l : Nat) (n : Int) : List Bool := if n < 0 ∨ 31 < n then [] else List.replicate (padN l) false ++ digits (32 + n) 22
def spMPut (ku : Nat) : Spec := fun args lk => match args with
  | [.v (.c (.val (.pointer none))), .v (.c (.int .i64 n))] => some ⟨True, i64 1, [], []⟩
  | [.v (.c (.ptr id 0 0 0 0 0)), .v (.c (.int .i64 n))] => match lk id with
    | some (.obj k bits) => some ⟨k = ku ∧ bits.length + 128 ≤ 1099511627776, i64 (mpE n), [], [(id, .obj k (bits ++ mpD bits.length n))]⟩
    | _ => none
  | _ => none
theorem and_31 (x : Int) (h : 0 ≤ x) : ((x.toNat &&& (31 : Int).toNat : Nat) : Int) = x % 32 := by
  rw [show (31 : Int).toNat = 2 ^ 5 - 1 from rfl, Nat.and_two_pow_sub_one_eq_mod]; omega
theorem or_32 (n : Int) (h : 0 ≤ n) (h2 : n ≤ 31) : (((32 : Int).toNat ||| n.toNat : Nat) : Int) = 32 + n := by
  rw [show (32 : Int).toNat = 2 ^ 5 * 1 from rfl, ← Nat.two_pow_add_eq_or_of_lt (by omega)]
  omega
/-- Twenty-two digits: seventeen and five. -/
theorem mk_split (bits : List Bool) (p : Int) (h : 22 ≤ (bits.length : Int) - p) (h0 : 0 ≤ p) : mkN bits p / 32 = numB ((bits.drop p.toNat).take 17) ∧ mkN bits p % 32 = numB ((bits.drop (p.toNat + 17)).take 5) := by
  have e : (bits.drop p.toNat).take 22 = (bits.drop p.toNat).take 17 ++ (bits.drop (p.toNat + 17)).take 5 := by
    rw [show 22 = 17 + 5 from rfl, List.take_add, List.drop_drop]
  have hl : ((bits.drop (p.toNat + 17)).take 5).length = 5 := by rw [List.length_take, List.length_drop]; omega
  have hb := numB_in ((bits.drop (p.toNat + 17)).take 5)
  unfold mkN
  rw [e, numB_append, hl] at *
  rw [show (2 : Int) ^ 5 = 32 from rfl] at *
  omega
theorem mk_one (bits : List Bool) (p : Int) (h : 22 ≤ (bits.length : Int) - p) (h0 : 0 ≤ p) : mkN bits p / 32 = 1 ↔ (bits.drop p.toNat).take 17 = digits 1 17 := by
  rw [(mk_split bits p h h0).1]
  constructor
  · intro h1
    have h2 := digits_numB ((bits.drop p.toNat).take 17)
    rw [h1, show ((bits.drop p.toNat).take 17).length = 17 by rw [List.length_take, List.length_drop]; omega] at h2
    exact h2.symm
  · intro h1; rw [h1]; exact numB_digits 1 17 (by omega) (by decide)
/-- A register's number lies in its kind. -/
theorem rKnow {X : Ctx} {ε : Env} {σ : Sig} {Q : Exit → Act → World → Prop} {c : Code} (s : Nat) {k : IntKind} {n : Int} (hl : look σ.regs s = some (.v (.c (.int k n)))) (h : inK k n → SW X c Q ε σ) : SW X c Q ε σ :=
  fun ε' a w hle hh => h (hh.regs s _ hl).2 ε' a w hle hh
end Go.X

/- What is turned to what it was is not turned. -/
set_option linter.unusedVariables false
namespace Go.X

theorem addE_congr {b b' : Blks} (h : ∀ i, look b' i = look b i) : ∀ (l : List E) (n : Nat), (∀ i, look (addE l n b').1 i = look (addE l n b).1 i) ∧ (addE l n b').2 = (addE l n b).2
  | [], n => ⟨h, rfl⟩
  | e :: l, n => by
    simp only [addE]
    exact addE_congr (fun i => by rw [look_cons, look_cons, h]) l (n + 1)

theorem updAll_same : ∀ {l : List (Nat × E)} {b bl : Blks}, (∀ q ∈ l, look b q.1 = some q.2) → updAll b l = some bl → ∀ i, look bl i = look b i
  | [], b, bl, _, h, i => by simp only [updAll, Option.some.injEq] at h; rw [h]
  | (id, e) :: l, b, bl, hq, h, i => by
    simp only [updAll] at h
    split at h
    · rename_i b1 hb1
      have h1 : ∀ j, look b1 j = look b j := fun j => by
        rw [look_upd hb1]
        split
        · rename_i hj; subst hj; exact (hq (_, e) (by simp)).symm
        · rfl
      rw [updAll_same (fun q hq' => by rw [h1]; exact hq q (by simp [hq'])) h, h1]
    · cases h

theorem FnOK.noUp {P : Program} {gt : GT} {f : FuncId} {spec spec' : Spec} (h : FnOK P gt f spec)
    (hs : ∀ args lk r', spec' args lk = some r' → ∃ r, spec args lk = some r ∧ (r'.p → r.p) ∧ r'.r = r.r ∧ r'.new = r.new ∧ r'.up = [] ∧ ∀ q ∈ r.up, lk q.1 = some q.2) : FnOK P gt f spec' := by
  refine ⟨h.1, fun X ε blks nxt args vals r' hP hg hgt hgm hT ha hsp hp => ?_⟩
  obtain ⟨r, h1, h2, h3, h4, h5, h6⟩ := hs args _ r' hsp
  refine (h.2 X ε blks nxt args vals r hP hg hgt hgm hT ha h1 (h2 hp)).mono ?_
  rintro e w' ⟨ε', x, bl, he, hle, hx, hu, hT'⟩
  have hl := updAll_same h6 hu
  obtain ⟨c1, c2⟩ := addE_congr hl (r.new.map (renE nxt)) nxt
  refine ⟨ε', x, blks, he, hle, by rw [h3]; exact hx, by rw [h5]; rfl, ?_⟩
  rw [h4, ← c2]
  exact hT'.sub fun i e hi => by rw [c1]; exact hi

def spLenR : Spec := fun args lk => match args with
  | [.v (.c (.val (.pointer none)))] => some ⟨True, i64 0, [], []⟩
  | [.v (.c (.ptr id 0 0 0 0 0))] => match lk id with
    | some (.obj k bits) => some ⟨bits.length ≤ 1099511627776, i64 (bits.length : Nat), [], []⟩
    | _ => none
  | _ => none
def spTextR : Spec := fun args lk => match args with
  | [.v (.c (.val (.pointer none)))] => some ⟨True, st ⟨#[]⟩, [], []⟩
  | [.v (.c (.ptr id 0 0 0 0 0))] => match lk id with
    | some (.obj k bits) => some ⟨bits.length ≤ 1099511627776, st (bytesOf (packB bits)), [], []⟩
    | _ => none
  | _ => none
theorem lenR {P : Program} {gt : GT} {f : FuncId} (h : FnOK P gt f spLen) : FnOK P gt f spLenR := h.noUp fun args lk r' hr => by
  unfold spLenR at hr
  split at hr
  · cases hr; exact ⟨_, rfl, fun h => h, rfl, rfl, rfl, by simp⟩
  · rename_i id
    split at hr
    · rename_i k bits hl
      cases hr
      refine ⟨⟨bits.length ≤ 1099511627776, i64 (bits.length : Nat), [], [(id, .obj k bits)]⟩, by simp only [spLen, hl], fun h => h, rfl, rfl, rfl, ?_⟩
      intro q hq
      simp only [List.mem_singleton] at hq
      subst hq
      exact hl
    · cases hr
  · cases hr
theorem textR {P : Program} {gt : GT} {f : FuncId} (h : FnOK P gt f spText) : FnOK P gt f spTextR := h.noUp fun args lk r' hr => by
  unfold spTextR at hr
  split at hr
  · cases hr; exact ⟨_, rfl, fun h => h, rfl, rfl, rfl, by simp⟩
  · rename_i id
    split at hr
    · rename_i k bits hl
      cases hr
      refine ⟨⟨bits.length ≤ 1099511627776, st (bytesOf (packB bits)), [], [(id, .obj k bits)]⟩, by simp only [spText, hl], fun h => h, rfl, rfl, rfl, ?_⟩
      intro q hq
      simp only [List.mem_singleton] at hq
      subst hq
      exact hl
    · cases hr
  · cases hr
theorem bits_rowT (l : List Bool) : bitsT (bl (rowT l)) = l := by rw [bl_rowT, bitsT_txt]
theorem plain_rowT (l : List Bool) : plainL (bl (rowT l)) = true := by rw [bl_rowT]; exact plainL_txt l
theorem tb_pack (bits : List Bool) : tb (bytesOf (packB bits)) = bits ++ List.replicate ((8 - bits.length % 8) % 8) false := by
  rw [tb, bl_bytesOf (fun x hx => packB_in _ x hx), unpack_packB]
/-! ### rewriting, under short names -/
theorem bsL : (∀ a b : Bool, (bif a then true else b) = (a || b)) ∧ (∀ a b : Bool, (bif a then b else false) = (a && b)) ∧ (∀ a b : Bool, ((a || b) = true) = (a = true ∨ b = true)) ∧ (∀ a b : Bool, ((a && b) = true) = (a = true ∧ b = true)) ∧
    (∀ a b : Bool, ((a || b) = false) = (a = false ∧ b = false)) ∧ (∀ a b : Bool, ((a && b) = false) = (a = false ∨ b = false)) ∧ (∀ (p : Prop) [Decidable p], (decide p = true) = p) ∧ (∀ (p : Prop) [Decidable p], (decide p = false) = ¬ p) ∧
    (∀ b : Bool, ((!b) = true) = (b = false)) ∧ (∀ b : Bool, ((!b) = false) = (b = true)) ∧ (∀ a b : Int, ((a == b) = true) = (a = b)) ∧ (∀ a b : Bool, ((a == b) = true) = (a = b)) ∧ (∀ a b : Int, ((a != b) = true) = ¬ (a = b)) ∧ (∀ a b : Bool, ((a != b) = true) = ¬ (a = b)) ∧
    (∀ a b : Int, ((a == b) = false) = ¬ (a = b)) ∧ (∀ a b : Bool, ((a == b) = false) = ¬ (a = b)) ∧ (∀ b : Bool, (¬ (b = true)) = (b = false)) := by
  refine ⟨?_, ?_, ?_, ?_, ?_, ?_, ?_, ?_, ?_, ?_, ?_, ?_, ?_, ?_, ?_, ?_, ?_⟩
  all_goals first | (intro p _; simp; done) | (intro a b; cases a <;> cases b <;> simp; done) | (intro a; cases a <;> simp; done) | (intro a b; simp; done)
theorem blL : ((true = false) = False) ∧ ((false = true) = False) ∧ (∀ p : Prop, (False ∧ p) = False) ∧ (∀ p : Prop, (p ∧ False) = False) ∧ (∀ p : Prop, (False ∨ p) = p) ∧ (∀ p : Prop, (p ∨ False) = p) ∧ (∀ p : Prop, (True ∨ p) = True) ∧ (∀ p : Prop, (p ∨ True) = True) ∧
    (∀ p : Prop, (True ∧ p) = p) ∧ (∀ p : Prop, (p ∧ True) = p) ∧ ((¬ True) = False) ∧ ((¬ False) = True) := by
  refine ⟨?_, ?_, ?_, ?_, ?_, ?_, ?_, ?_, ?_, ?_, ?_, ?_⟩ <;> first | simp | (intro p; simp)
theorem btL : IntKind.i64.bits = 64 ∧ IntKind.u64.bits = 64 ∧ IntKind.u8.bits = 8 ∧ IntKind.i32.bits = 32 := ⟨rfl, rfl, rfl, rfl⟩
/-! ### slices among a law's arguments -/
theorem SgsRel.str {l : List Sg} {vs : List Value} (h : SgsRel (.str :: l) vs) : ∃ s vs', vs = .string s :: vs' ∧ (s.size : Int) ≤ 9223372036854775807 ∧ SgsRel l vs' := by
  obtain ⟨v1, v2, rfl, ⟨s, rfl, hs⟩, h2⟩ := h
  exact ⟨s, v2, rfl, hs, h2⟩

/-- A cell's value as the executor has it. -/
def cOf : Value → C
  | .int k n => .int k n
  | .bool b => .bool b
  | .string s => .str s
  | v => .val v
def plainSg : List Sg → Bool
  | [] => true
  | .ints _ _ :: _ => false
  | _ :: l => plainSg l
theorem cOf_rel {ε : Env} : ∀ {l : List Sg} {cs : List Value}, plainSg l = true → SgsRel l cs → All2 (RelC ε) (cs.map cOf) cs
  | [], cs, _, h => by cases h; exact trivial
  | .int k :: l, cs, hp, h => by
    obtain ⟨n, vs, rfl, hk, h2⟩ := h.int
    exact ⟨⟨rfl, hk⟩, cOf_rel (by simpa [plainSg] using hp) h2⟩
  | .bool :: l, cs, hp, h => by
    obtain ⟨b, vs, rfl, h2⟩ := h.bool
    exact ⟨rfl, cOf_rel (by simpa [plainSg] using hp) h2⟩
  | .str :: l, cs, hp, h => by
    obtain ⟨s, vs, rfl, hs, h2⟩ := h.str
    exact ⟨⟨rfl, hs⟩, cOf_rel (by simpa [plainSg] using hp) h2⟩
  | .ints n k :: l, cs, hp, h => by simp [plainSg] at hp

section
open Go.ChangeShapes Go.WideShapes
variable {H : Type} {enc : TypeId × Value → H} {P : Program} {w : World} {base : Nat} {spare : Nat → Bool} {held : Bool} {tt : TT}

theorem rows_all {ab ao : Nat} {sz : Nat} {l : List Sg} : ∀ (n : Nat), (∀ i, i < n → ∃ cs, w.cells? base (⟨ab, ao + i * sz, none⟩ : Addr) sz = some cs ∧ SgsRel l cs) →
    ∃ vs : List Value, vs.length = n * sz ∧ (∀ i, i < n → SgsRel l ((vs.drop (i * sz)).take sz)) ∧ ∀ j v, vs[j]? = some v → w.cell? ⟨ab, ao + j, none⟩ = some v
  | 0, _ => ⟨[], by simp, fun i hi => by omega, fun j v h => by simp at h⟩
  | n + 1, h => by
    obtain ⟨vs, h1, h2, h3⟩ := rows_all n fun i hi => h i (by omega)
    obtain ⟨cs, g1, g2⟩ := h n (by omega)
    obtain ⟨_, g3, g4⟩ := World.cells?_some g1
    refine ⟨vs ++ cs, by rw [List.length_append, h1, g3, Nat.succ_mul], fun i hi => ?_, fun j v hv => ?_⟩
    · by_cases e : i = n
      · subst e
        rw [List.drop_left' h1, List.take_of_length_le (by omega)]
        exact g2
      · have hle : (i + 1) * sz ≤ n * sz := Nat.mul_le_mul_right _ (by omega)
        rw [Nat.succ_mul] at hle
        rw [List.drop_append_of_le_length (by omega), List.take_append_of_le_length (by simp; omega)]
        exact h2 i (by omega)
    · by_cases hj : j < vs.length
      · rw [List.getElem?_append_left hj] at hv
        exact h3 j v hv
      · rw [List.getElem?_append_right (by omega)] at hv
        have hjl := (List.getElem?_eq_some_iff.1 hv).1
        have := g4 (j - vs.length) (by omega)
        rw [hv] at this
        rw [← this]
        rw [Addr.add_lit, show ao + n * sz + (j - vs.length) = ao + j by omega]

/-- A slice of plain structs, opened. -/
theorem open_rows (hT : TtOk P tt) {b0 : Nat} {t e : TypeId} {l : List Sg} {sz : Nat} (ht : P.underlying t = some (.slice e)) (hs : sgs tt 60 e = some l) (hp : plainSg l = true) (hw : sgW l = sz) (hce : P.cellsOf e = sz) {v : Value} {d : DataW H} {ps : List MemPlace}
    (hval : Value.okWide P w .any b0 t v) (hd : DataW.Trod enc P w base spare held t v d ps) :
    ∃ (L : Loc) (n : Nat) (f : Nat → List S0), RelV ⟨1, fun _ => L, fun _ => none⟩ (.v (.c (.sl 0 0 n sz))) v ∧ (∀ ε, RelE ε w L (.mem false e none (.rows n sz f))) ∧ n ≤ 9223372036854775807 ∧ ∀ i, i < n → ∃ cs, SgsRel l cs ∧ f i = [.cs (cs.map cOf)] := by
  obtain ⟨ao, len0, cap0, rfl⟩ := okWide_slice ht hval
  obtain ⟨fuel, hd⟩ := hd
  rcases DataW.trod_slice ht hd with ⟨h0, _⟩ | ⟨a, len, cap, elems, rest, n, _, h0, _, hb, hl, hm, hlen, hel, _, _⟩
  · simp only [Value.cells, List.cons.injEq, and_true] at h0
    rw [h0]
    exact ⟨⟨0, 0, 0, true, []⟩, 0, fun _ => [], ⟨by show 0 < 1; omega, by decide, .inl ⟨rfl, rfl, rfl⟩⟩, fun ε => ⟨fun _ => ⟨⟨by simp, fun i hi => by omega⟩, rfl⟩, fun hh => by cases hh⟩, by omega, fun i hi => by omega⟩
  · simp only [Value.cells, List.cons.injEq, and_true] at h0
    rw [h0] at hval ⊢
    simp only [Value.okWide, ht, Cell.okWide, Cell.ok] at hval
    obtain ⟨_, _, _, hspot, row, cells, hsh, _⟩ := hval
    have hblk : a.block < w.heap.size := by
      unfold World.shape? at hsh
      rcases Nat.lt_or_ge a.block w.heap.size with h | h
      · exact h
      · rw [Array.getElem?_eq_none h] at hsh; simp at hsh
    obtain ⟨ab, ao, asp⟩ := a
    simp only at hspot hblk
    subst hspot
    obtain ⟨vs, h1, h2, h3⟩ := rows_all (w := w) (base := base) (ab := ab) (ao := ao) (sz := sz) (l := l) len fun i hi => by
      have := hel i hi
      rw [hce, List.getElem?_eq_getElem (by omega), Option.bind_eq_some_iff, Addr.add_lit] at this
      obtain ⟨cs, g1, g2⟩ := this
      exact ⟨cs, g1, (sgs_ok hT 60).1 e l hs _ _ _ g2⟩
    have hcap : cap ≤ 9223372036854775807 := by simp only [maxLen] at hm; omega
    refine ⟨⟨ab, ao, cap, false, []⟩, len, fun i => [.cs (((vs.drop (i * sz)).take sz).map cOf)], ⟨by show 0 < 1; omega, by omega, .inr ⟨rfl, by simpa using hl, ⟨ab, ao, none⟩, by simp, fun _ => by simp⟩⟩, fun ε => ⟨(fun hh => by cases hh), fun _ => ⟨vs, [], ⟨h1, fun i hi => ?_⟩, fun _ => rfl, (fun sz' hh => by cases hh), ?_⟩⟩, by omega, fun i hi => ⟨_, h2 i hi, rfl⟩⟩
    · exact RelL.single (s := .cs _) (cOf_rel hp (h2 i hi))
    · simp only [Bool.false_eq_true, if_false]
      exact ⟨hblk, fun j v hv => h3 j v hv⟩

/-- A law's call, with entries that are only read. -/
theorem FnOK.callG {gt : GT} {f : FuncId} {spec : X.Spec} (h : FnOK P gt f spec) (w : World) (hgt : GtOk gt w) (ε : Env) (hz : ∀ b o, ε.z b = some o → w.heap[b]? = some o) (bl : Blks) (hbl : ∀ i e, look bl i = some e → i < ε.n ∧ RelE ε w (ε.f i) e ∧ e.own = false) {args : List SV} {vals : List Value} {r : Res} (ha : All2 (RelV ε) args vals)
    (hs : spec args (look bl) = some r) (hp : r.p) {b : Bool} (hr : r.r = .v (.c (.bool b))) (hu : r.up = []) : Calls P f vals.toArray w fun e w' => e = .returned (.bool b) ∧ RowKit.Below w.heap.size w w' := by
  have hT : Tab ⟨P, [], [], gt, w, [], 0, ε.z⟩ ε bl ε.n w := ⟨rfl, fun i e he => ⟨(hbl i e he).1, (hbl i e he).2.1⟩, fun i j e e' hi hj hne ho => (by rw [(hbl i e hi).2.2] at ho; cases ho), Keep.refl _ _, fun i e he ho => (by rw [(hbl i e he).2.2] at ho; cases ho), fun b o hb => ⟨hz b o hb, fun i e he ho => (by rw [(hbl i e he).2.2] at ho; cases ho)⟩, fun b o hb => .inl hb⟩
  refine (h.2 ⟨P, [], [], gt, w, [], 0, ε.z⟩ ε bl ε.n args vals r rfl rfl hgt (fun g b _ hm => by cases hm) hT ha hs hp).mono ?_
  rintro e w' ⟨ε', x, bl', rfl, hle, hx, _, hT'⟩
  rw [hr] at hx
  have hx : x = .bool b := hx
  subst hx
  exact ⟨rfl, hT'.keep.below⟩
end
end Go.X
