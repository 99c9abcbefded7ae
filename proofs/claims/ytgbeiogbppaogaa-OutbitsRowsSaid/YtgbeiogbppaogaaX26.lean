/- A signature made plain after each region. -/
import Derived.Test.YtgbeiogbppaogaaX25
set_option linter.unusedVariables false
namespace Go.X

section
variable {α : Type}

def smalls : List Nat := [0, 1, 2, 3, 4, 5, 6, 7, 8, 9, 10, 11, 12, 13, 14, 15, 16, 17, 18, 19, 20, 21, 22, 23, 24, 25, 26, 27, 28, 29, 30, 31, 32, 33, 34, 35, 36, 37, 38, 39, 40, 41, 42, 43, 44, 45, 46, 47]
def goN (n : Nat) (k : Nat → α) : List Nat → α
  | [] => k n
  | i :: l => match Nat.beq n i with
    | true => k i
    | false => goN n k l
theorem goN_eq (n : Nat) (k : Nat → α) : ∀ l, goN n k l = k n
  | [] => rfl
  | i :: l => by
    simp only [goN]
    split
    · rename_i h; rw [Nat.eq_of_beq_eq_true h]
    · exact goN_eq n k l
def cleanN (n : Nat) (k : Nat → α) : α := goN n k smalls
theorem cleanN_eq (n : Nat) (k : Nat → α) : cleanN n k = k n := goN_eq n k _

def cleanNs : List Nat → (List Nat → α) → α
  | [], k => k []
  | x :: l, k => cleanN x fun y => cleanNs l fun l' => k (y :: l')
theorem cleanNs_eq : ∀ (l : List Nat) (k : List Nat → α), cleanNs l k = k l
  | [], k => rfl
  | x :: l, k => by simp only [cleanNs, cleanN_eq, cleanNs_eq l]

def cleanC (c : C) (k : C → α) : α := match c with
  | .int a b => k (.int a b)
  | .bool b => k (.bool b)
  | .str s => k (.str s)
  | .val v => k (.val v)
  | .ptr id a b c d e => cleanN id fun i => cleanN a fun a' => cleanN d fun d' => k (.ptr i a' b c d' e)
  | .sl id a b c => cleanN id fun i => cleanN c fun c' => k (.sl i a b c')
  | .clo f l => cleanNs l fun l' => k (.clo f l')
  | .gp g a b c d e => k (.gp g a b c d e)
theorem cleanC_eq (c : C) (k : C → α) : cleanC c k = k c := by
  cases c <;> simp only [cleanC, cleanN_eq, cleanNs_eq]

def cleanCs : List C → (List C → α) → α
  | [], k => k []
  | x :: l, k => cleanC x fun y => cleanCs l fun l' => k (y :: l')
theorem cleanCs_eq : ∀ (l : List C) (k : List C → α), cleanCs l k = k l
  | [], k => rfl
  | x :: l, k => by simp only [cleanCs, cleanC_eq, cleanCs_eq l]

def cleanS (s : S0) (k : S0 → α) : α := match s with
  | .ints n a xs => k (.ints n a xs)
  | .cs l => cleanCs l fun l' => k (.cs l')
theorem cleanS_eq (c : S0) (k : S0 → α) : cleanS c k = k c := by
  cases c <;> simp only [cleanS, cleanCs_eq]

def cleanSs : List S0 → (List S0 → α) → α
  | [], k => k []
  | x :: l, k => cleanS x fun y => cleanSs l fun l' => k (y :: l')
theorem cleanSs_eq : ∀ (l : List S0) (k : List S0 → α), cleanSs l k = k l
  | [], k => rfl
  | x :: l, k => by simp only [cleanSs, cleanS_eq, cleanSs_eq l]

def clean1 (s : V1) (k : V1 → α) : α := match s with
  | .c c => cleanC c fun c' => k (.c c')
  | .agg l => cleanSs l fun l' => k (.agg l')
theorem clean1_eq (c : V1) (k : V1 → α) : clean1 c k = k c := by
  cases c <;> simp only [clean1, cleanC_eq, cleanSs_eq]

def clean1s : List V1 → (List V1 → α) → α
  | [], k => k []
  | x :: l, k => clean1 x fun y => clean1s l fun l' => k (y :: l')
theorem clean1s_eq : ∀ (l : List V1) (k : List V1 → α), clean1s l k = k l
  | [], k => rfl
  | x :: l, k => by simp only [clean1s, clean1_eq, clean1s_eq l]

def cleanV (s : SV) (k : SV → α) : α := match s with
  | .v c => clean1 c fun c' => k (.v c')
  | .tup l => clean1s l fun l' => k (.tup l')
  | .g b c => clean1 c fun c' => k (.g b c')
  | .fnv f a c => clean1s a fun a' => clean1s c fun c' => k (.fnv f a' c')
theorem cleanV_eq (c : SV) (k : SV → α) : cleanV c k = k c := by
  cases c <;> simp only [cleanV, clean1_eq, clean1s_eq]

def cleanR : Regs → (Regs → α) → α
  | [], k => k []
  | x :: l, k => cleanV x.2 fun y => cleanN x.1 fun n => cleanR l fun l' => k ((n, y) :: l')
theorem cleanR_eq : ∀ (l : Regs) (k : Regs → α), cleanR l k = k l
  | [], k => rfl
  | x :: l, k => by simp only [cleanR, cleanV_eq, cleanN_eq, cleanR_eq l]

def cleanB (s : Body) (k : Body → α) : α := match s with
  | .flat l => cleanSs l fun l' => k (.flat l')
  | .rows n z f => cleanN z fun z' => k (.rows n z' f)
theorem cleanB_eq (c : Body) (k : Body → α) : cleanB c k = k c := by
  cases c <;> simp only [cleanB, cleanSs_eq, cleanN_eq]

def cleanO (s : Option Nat) (k : Option Nat → α) : α := match s with
  | none => k none
  | some n => cleanN n fun n' => k (some n')
theorem cleanO_eq (c : Option Nat) (k : Option Nat → α) : cleanO c k = k c := by
  cases c <;> simp only [cleanO, cleanN_eq]

def cleanE (s : E) (k : E → α) : α := match s with
  | .mem true t l b => cleanO l fun l' => cleanB b fun b' => k (.mem true t l' b')
  | .mem false t l b => cleanO l fun l' => cleanB b fun b' => k (.mem false t l' b')
  | .iter s p => k (.iter s p)
  | .obj a b => k (.obj a b)
theorem cleanE_eq (c : E) (k : E → α) : cleanE c k = k c := by
  cases c with
  | mem o t l b => cases o <;> simp only [cleanE, cleanO_eq, cleanB_eq]
  | _ => rfl

def cleanBl : Blks → (Blks → α) → α
  | [], k => k []
  | x :: l, k => cleanE x.2 fun y => cleanN x.1 fun n => cleanBl l fun l' => k ((n, y) :: l')
theorem cleanBl_eq : ∀ (l : Blks) (k : Blks → α), cleanBl l k = k l
  | [], k => rfl
  | x :: l, k => by simp only [cleanBl, cleanE_eq, cleanN_eq, cleanBl_eq l]

def clean (s : Sig) (k : Sig → α) : α := cleanR s.regs fun r => cleanBl s.blks fun b => cleanN s.nxt fun n => k ⟨r, b, n⟩
theorem clean_eq (s : Sig) (k : Sig → α) : clean s k = k s := by
  simp only [clean, cleanR_eq, cleanBl_eq, cleanN_eq]
end

theorem RLe.nil {r : Regs} : RLe r [] := trivial
theorem RLe.cons {r t : Regs} {s : Nat} {v v' : SV} (h : Go.X.look r s = some v) (hv : SVle v v') (ht : RLe r t) : RLe r ((s, v') :: t) := ⟨by rw [h]; exact hv, ht⟩
theorem BLe.nil {r : Blks} : BLe r [] := trivial
theorem BLe.cons {r t : Blks} {s : Nat} {v v' : E} (h : Go.X.look r s = some v) (hv : Ele v v') (ht : BLe r t) : BLe r ((s, v') :: t) := ⟨by rw [h]; exact hv, ht⟩
theorem Le.mk {r r' : Regs} {b b' : Blks} {n n' : Nat} (h1 : RLe r r') (h2 : BLe b b') (h3 : n = n') : Le ⟨r, b, n⟩ ⟨r', b', n'⟩ := ⟨h1, h2, h3⟩

def execK (tt : TT) (kt : KT) (gt : GT) (md : Md) (ops : List Oper) (σ : Sig) : Out :=
  match execL tt kt gt md ops ops σ True with
  | .done p σ' => clean σ' fun s => .done p s
  | .stop p σ' r => .stop p σ' r
theorem execK_eq (tt : TT) (kt : KT) (gt : GT) (md : Md) (ops : List Oper) (σ : Sig) : execK tt kt gt md ops σ = execL tt kt gt md ops ops σ True := by
  unfold execK
  split <;> simp_all only [clean_eq]

def drawK (tt : TT) (kt : KT) (gt : GT) (md : Md) (ops : List Oper) (σ : Sig) : Option (Prop × Sig) :=
  match drawL tt kt gt md ops (baseOf (dstsOf ops) σ.regs) σ.blks σ.nxt 0 ops [] True with
  | some (p, vals) => clean ⟨allRegs (baseOf (dstsOf ops) σ.regs) vals, σ.blks, σ.nxt⟩ fun s => some (p, s)
  | none => none

section
variable {X : Ctx} {ε : Env} {σ : Sig} {Q : Exit → Act → World → Prop}

theorem rRegC (md : Md) {id : Nat} {ops : Array Oper} {σ' : Sig} {p : Prop} (hX : XOk X) (hk : opersB ops.toList = true) (hd : dstsB X.nt ops.toList = true) (he : execK X.tt X.kt X.gt md ops.toList σ = .done p σ') (hp : p) (hn : SQ X Q .normal ε σ') : SW X (.region id ops false) Q ε σ :=
  rReg0 md hX hk hd (by rw [← execK_eq]; exact he) hp hn

theorem rDrawC (md : Md) {id : Nat} {ops : Array Oper} {σ' : Sig} {p : Prop} (hX : XOk X) (hm : X.P.follows .mixedOrders = true) (hk : opersB ops.toList = true) (hd : dstsB X.nt ops.toList = true) (hnd : nodupB (dstsOf ops.toList) = true)
    (he : drawK X.tt X.kt X.gt md ops.toList σ = some (p, σ')) (hp : p) (hn : SQ X Q .normal ε σ') : SW X (.region id ops true) Q ε σ := by
  unfold drawK at he
  split at he
  · rename_i q vals hv
    rw [clean_eq] at he
    simp only [Option.some.injEq, Prod.mk.injEq] at he
    obtain ⟨rfl, rfl⟩ := he
    exact rRegDraw md hX hm hk hd hnd hv hp hn
  · cases he
end
end Go.X
