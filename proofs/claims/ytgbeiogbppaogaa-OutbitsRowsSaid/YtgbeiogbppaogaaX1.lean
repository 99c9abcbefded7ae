/- A reflective executor over the model's operations: registers and a table of memory blocks as plain data, evaluated by rfl. Definitions. -/
import Derived.WalkKit
set_option linter.unusedVariables false
namespace Go.X

/-- Where an entry of the table lies: its block, its first cell, its capacity (for slices), whether it is the nil slice, and further blocks that it owns. -/
structure Loc where
  blk : Nat
  off : Nat
  cap : Nat
  isnil : Bool
  aux : List Nat
deriving Inhabited

structure Env where
  n : Nat
  f : Nat → Loc

/-- One cell's value. -/
inductive C where
  | int (k : IntKind) (n : Int)
  | bool (b : Bool)
  | str (s : ByteArray)
  | val (v : Value)
  | ptr (id rst row base stride idx : Nat)      -- cell base + rst * row + stride * idx of the entry
  | sl (id a len sz : Nat)
  | clo (f : FuncId) (caps : List Nat)
  | gp (g rst row base stride idx : Nat)             -- the same, of a package-level variable

/-- Some cells in a row. -/
inductive S0 where
  | ints (n : Nat) (k : IntKind) (xs : List Int)
  | cs (l : List C)

/-- What a block holds: cells, or n elements of sz cells each. -/
inductive Body where
  | flat (l : List S0)
  | rows (n sz : Nat) (f : Nat → List S0)

inductive V1 where
  | c (x : C)
  | agg (l : List S0)

/-- A register's value; g: as x says, if b holds. -/
inductive SV where
  | v (x : V1)
  | tup (l : List V1)
  | g (b : Bool) (x : V1)
  | fnv (f : FuncId) (first caps : List V1)

/-- An entry of the table: cells (own: nobody else's; old: only to be read); tail: spare cells behind, elements of so many cells; an iterator over a string; an abstract object that holds digits. -/
inductive E where
  | mem (own : Bool) (ty : TypeId) (tail : Option Nat) (b : Body)
  | iter (s : ByteArray) (pos : Nat)
  | obj (kind : Nat) (bits : List Bool)

abbrev Regs := List (Nat × SV)
abbrev Blks := List (Nat × E)

structure Sig where
  regs : Regs
  blks : Blks
  nxt : Nat

/-! ### look-ups that evaluate -/
def look {α : Type} : List (Nat × α) → Nat → Option α
  | [], _ => none
  | (k, v) :: t, n => match Nat.beq k n with | true => some v | false => look t n

def del {α : Type} : List (Nat × α) → Nat → Option (List (Nat × α))
  | [], _ => some []
  | (k, v) :: t, n => match Nat.beq k n with
    | true => del t n
    | false => match del t n with
      | some r => some ((k, v) :: r)
      | none => none

/-- In place, where it is there; else ahead. -/
def upd {α : Type} : List (Nat × α) → Nat → α → Option (List (Nat × α))
  | [], n, x => some [(n, x)]
  | (k, v) :: t, n, x => match Nat.beq k n with
    | true => some ((k, x) :: t)
    | false => match upd t n x with
      | some r => some ((k, v) :: r)
      | none => none

def nth {α : Type} : List α → Nat → Option α
  | [], _ => none
  | x :: _, 0 => some x
  | _ :: t, n + 1 => nth t n

def setNth {α : Type} : List α → Nat → α → Option (List α)
  | [], _, _ => none
  | _ :: t, 0, y => some (y :: t)
  | x :: t, n + 1, y => match setNth t n y with
    | some r => some (x :: r)
    | none => none

/-! ### types -/
inductive TD where
  | int (k : IntKind) | bool | str
  | arr (n : Nat) (e : TypeId) (esz : Nat)
  | strct (fs : List (TypeId × Nat × Nat))      -- type, offset, size
  | sl (e : TypeId) (esz ebytes : Nat)
  | ptr (e : TypeId)
  | other

structure TE where
  d : TD
  size : Nat
  bytes : Nat
  cmp : Bool
  zero : V1

def TD.agg : TD → Bool
  | .arr .. => true
  | .strct _ => true
  | _ => false

abbrev TT := List (Nat × TE)

/-! ### numbers -/
def inK : IntKind → Int → Prop
  | .i8, n => -128 ≤ n ∧ n ≤ 127
  | .i16, n => -32768 ≤ n ∧ n ≤ 32767
  | .i32, n => -2147483648 ≤ n ∧ n ≤ 2147483647
  | .i64, n => -9223372036854775808 ≤ n ∧ n ≤ 9223372036854775807
  | .u8, n => 0 ≤ n ∧ n ≤ 255
  | .u16, n => 0 ≤ n ∧ n ≤ 65535
  | .u32, n => 0 ≤ n ∧ n ≤ 4294967295
  | .u64, n => 0 ≤ n ∧ n ≤ 18446744073709551615

/-- How sums are told: as they are, with what must hold for it; or wrapped. And quotients: of what is not below 0, or as Go has them. -/
structure Md where
  wrap : Bool
  tdiv : Bool

/-! ### operands -/
def constV : Value → Option V1
  | .int k n => some (.c (.int k n))
  | .bool b => some (.c (.bool b))
  | .string s => some (.c (.str s))
  | .agg _ => none
  | .tuple _ => none
  | v => some (.c (.val v))

def rawO (regs : Regs) : Operand → Option SV
  | .tmp t => look regs t
  | .const v => match constV v with | some x => some (.v x) | none => none
  | .global g => some (.v (.c (.gp g 0 0 0 0 0)))
  | .func f => some (.v (.c (.clo f [])))

/-- An operand: what must hold, and its value (of a guarded one: under its guard). -/
def evO (regs : Regs) (x : Operand) : Option (Prop × SV) :=
  match rawO regs x with
  | some (.g b v) => some (b = true, .v v)
  | some v => some (True, v)
  | none => none

def ev1 (regs : Regs) (x : Operand) : Option (Prop × V1) :=
  match rawO regs x with
  | some (.g b v) => some (b = true, v)
  | some (.v v) => some (True, v)
  | _ => none

def evC (regs : Regs) (x : Operand) : Option (Prop × C) :=
  match ev1 regs x with
  | some (p, .c c) => some (p, c)
  | _ => none

/-- A conjunction, without what is trivially so. -/
inductive Ob where
  | tt
  | of (p : Prop)
  | and (a b : Ob)

/-! ### operations on numbers -/
def shiftN (k : IntKind) (y : Int) : Nat := min y.toNat k.bits

def binC (md : Md) : BinOp → C → C → Option (Prop × V1)
  | .add, .int k a, .int k' b => match md.wrap with
    | true => some (k' = k, .c (.int k (k.wrap (a + b))))
    | false => some (k' = k ∧ inK k (a + b), .c (.int k (a + b)))
  | .sub, .int k a, .int k' b => match md.wrap with
    | true => some (k' = k, .c (.int k (k.wrap (a - b))))
    | false => some (k' = k ∧ inK k (a - b), .c (.int k (a - b)))
  | .mul, .int k a, .int k' b => match md.wrap with
    | true => some (k' = k, .c (.int k (k.wrap (a * b))))
    | false => some (k' = k ∧ inK k (a * b), .c (.int k (a * b)))
  | .quo, .int k a, .int k' b => match md.tdiv with
    | false => some (k' = k ∧ 0 ≤ a ∧ 0 < b, .c (.int k (a / b)))
    | true => some (k' = k ∧ b ≠ 0 ∧ inK k (a.tdiv b), .c (.int k (a.tdiv b)))
  | .rem, .int k a, .int k' b => match md.tdiv with
    | false => some (k' = k ∧ 0 ≤ a ∧ 0 < b, .c (.int k (a % b)))
    | true => some (k' = k ∧ b ≠ 0, .c (.int k (a.tmod b)))
  | .shl, .int k a, .int _ b => match md.wrap with
    | true => some (0 ≤ b, .c (.int k (k.wrap (a * 2 ^ shiftN k b))))
    | false => some (0 ≤ b ∧ b.toNat ≤ k.bits ∧ inK k (a * 2 ^ b.toNat), .c (.int k (a * 2 ^ b.toNat)))
  | .shr, .int k a, .int _ b => some (0 ≤ b ∧ b.toNat ≤ k.bits, .c (.int k (a / 2 ^ b.toNat)))
  | .and, .int k a, .int k' b => some (k' = k ∧ 0 ≤ a ∧ 0 ≤ b, .c (.int k ((a.toNat &&& b.toNat : Nat) : Int)))
  | .or, .int k a, .int k' b => some (k' = k ∧ 0 ≤ a ∧ 0 ≤ b, .c (.int k ((a.toNat ||| b.toNat : Nat) : Int)))
  | .xor, .int k a, .int k' b => some (k' = k ∧ 0 ≤ a ∧ 0 ≤ b, .c (.int k ((a.toNat ^^^ b.toNat : Nat) : Int)))
  | .eql, .int k a, .int k' b => some (k' = k, .c (.bool (decide (a = b))))
  | .neq, .int k a, .int k' b => some (k' = k, .c (.bool (decide (a ≠ b))))
  | .lss, .int k a, .int k' b => some (k' = k, .c (.bool (decide (a < b))))
  | .leq, .int k a, .int k' b => some (k' = k, .c (.bool (decide (a ≤ b))))
  | .gtr, .int k a, .int k' b => some (k' = k, .c (.bool (decide (b < a))))
  | .geq, .int k a, .int k' b => some (k' = k, .c (.bool (decide (b ≤ a))))
  | .add, .str a, .str b => some ((a.size : Int) + b.size ≤ 9223372036854775807, .c (.str (a ++ b)))
  | .eql, .str a, .str b => some (True, .c (.bool (decide (a.toList = b.toList))))
  | .neq, .str a, .str b => some (True, .c (.bool (decide (a.toList ≠ b.toList))))
  | _, _, _ => none


/-! ### cells of blocks -/
def S0.width : S0 → Nat
  | .ints n _ _ => n
  | .cs l => l.length

def widthL : List S0 → Nat
  | [] => 0
  | s :: r => s.width + widthL r

/-- The segment in which a cell lies, and its place there (the last one is not measured). -/
def seek : List S0 → Nat → Option (S0 × Nat)
  | [], _ => none
  | [s], base => some (s, base)
  | s :: t :: r, base => match Nat.blt base s.width with
    | true => some (s, base)
    | false => seek (t :: r) (base - s.width)

def put : List S0 → Nat → S0 → Option (List S0)
  | [], _, _ => none
  | [_], _, x => some [x]
  | s :: t :: r, base, x => match Nat.blt base s.width with
    | true => some (x :: t :: r)
    | false => match put (t :: r) (base - s.width) x with
      | some l => some (s :: l)
      | none => none

def dropC : List C → Nat → Option (List C)
  | l, 0 => some l
  | [], _ + 1 => none
  | _ :: t, n + 1 => dropC t n

def takeC : List C → Nat → Option (List C)
  | _, 0 => some []
  | [], _ + 1 => none
  | x :: t, n + 1 => match takeC t n with
    | some r => some (x :: r)
    | none => none

/-- rel + rst * row + stride * idx, without the parts that are plainly none. -/
def dispK {α : Type} (rel rst row stride idx : Nat) (k : Nat → α) : α :=
  match Nat.beq rel 0, Nat.beq rst 0, Nat.beq rst 1, Nat.beq stride 0, Nat.beq stride 1 with
  | true, true, _, true, _ => k 0
  | true, true, _, false, true => k idx
  | true, true, _, false, false => k (stride * idx)
  | true, false, true, true, _ => k row
  | true, false, false, true, _ => k (rst * row)
  | false, true, _, true, _ => k rel
  | false, true, _, false, true => k (rel + idx)
  | false, true, _, false, false => k (rel + stride * idx)
  | _, _, _, _, _ => k (rel + rst * row + stride * idx)

def loadS : S0 → Nat → Option (Prop × C)
  | .ints n k xs, j => some (j < n, .int k (xs.getD j 0))
  | .cs l, j => match nth l j with
    | some c => some (True, c)
    | none => none

/-- Cells from 'skip' on, so many. -/
def takeL : List S0 → Nat → Nat → Option (List S0)
  | [], _, size => match size with
    | 0 => some []
    | _ + 1 => none
  | s :: r, skip, size => match Nat.ble s.width skip with
    | true => takeL r (skip - s.width) size
    | false => match Nat.ble (skip + size) s.width with
      | true => match size, s with
        | 0, _ => some []
        | n, .cs c => match dropC c skip with
          | some d => match takeC d n with
            | some e => some [.cs e]
            | none => none
          | none => none
        | n, .ints m k xs => match Nat.beq n m with
          | true => some [.ints m k xs]
          | false => some [.ints n k ((xs.drop skip).take n)]
      | false => match s with
        | .cs c => match dropC c skip, takeL r 0 (skip + size - s.width) with
          | some d, some t => some (.cs d :: t)
          | _, _ => none
        | .ints m k xs => match takeL r 0 (skip + size - s.width), Nat.beq skip 0 with
          | some t, true => some (.ints m k xs :: t)
          | some t, false => some (.ints (m - skip) k (xs.drop skip) :: t)
          | none, _ => none

def appL {α : Type} : List α → List α → Option (List α)
  | [], b => some b
  | x :: a, b => match appL a b with
    | some r => some (x :: r)
    | none => none

/-- An aggregate of so many cells, out of a flat block. Where it begins inside one segment of numbers: by a place that may be unknown. -/
def loadA (l : List S0) (base rst row stride idx size : Nat) : Option (Prop × List S0) :=
  match seek l base with
  | some (.ints n k xs, rel) => match Nat.ble size n with
    | true => match Nat.beq size n with
      | true => dispK rel rst row stride idx fun j => some (j = 0, [.ints n k xs])
      | false => dispK rel rst row stride idx fun j => some (j + size ≤ n, [.ints size k ((xs.drop j).take size)])
    | false => dispK base rst row stride idx fun j => match takeL l j size with
      | some t => some (j + size ≤ widthL l, t)
      | none => none
  | some (.cs _, _) => dispK base rst row stride idx fun j => match takeL l j size with
    | some t => some (j + size ≤ widthL l, t)
    | none => none
  | none => none

def storeS : S0 → Nat → C → Option (Prop × S0)
  | .ints n k xs, j, .int k' v => some (k' = k ∧ j < n, .ints n k (xs.set j v))
  | .cs l, j, c => match setNth l j c with
    | some r => some (True, .cs r)
    | none => none
  | _, _, _ => none

def splice (l : List S0) (b size : Nat) (v : List S0) : Option (Prop × List S0) :=
  match takeL l 0 b, takeL l (b + size) (widthL l - (b + size)) with
  | some p, some q => match appL v q with
    | some vq => match appL p vq with
      | some r => some (b + size ≤ widthL l, r)
      | none => none
    | none => none
  | _, _ => none

/-- An aggregate of so many cells, laid into a flat block. -/
def storeA (l : List S0) (base rst row stride idx size : Nat) (v : List S0) : Option (Prop × List S0) :=
  match Nat.beq size (widthL l) with
  | true => dispK base rst row stride idx fun j => some (j = 0, v)
  | false => match seek l base, v with
    | some (.ints n k xs, rel), [.ints m k' ys] => match Nat.beq m n with
      | true => match put l base (.ints n k ys) with
        | some r => dispK rel rst row stride idx fun j => some (k' = k ∧ j = 0, r)
        | none => none
      | false => dispK rel rst row stride idx fun j => match put l base (.ints n k (xs.take j ++ ys ++ xs.drop (j + m))) with
        | some r => some (k' = k ∧ j + m ≤ n, r)
        | none => none
    | _, _ => dispK base rst row stride idx fun j => splice l j size v

def upF (f : Nat → List S0) (i : Nat) (x : List S0) : Nat → List S0 := fun j => bif Nat.beq j i then x else f j

def loadF (l : List S0) (agg : Bool) (size base rst row stride idx : Nat) : Option (Prop × V1) :=
  match agg with
  | true => match loadA l base rst row stride idx size with
    | some (p, t) => some (p, .agg t)
    | none => none
  | false => match seek l base with
    | some (s, rel) => dispK rel rst row stride idx fun j => match loadS s j with
      | some (p, c) => some (p, .c c)
      | none => none
    | none => none

def storeF (l : List S0) (size base rst row stride idx : Nat) : V1 → Option (Prop × List S0)
  | .agg t => match Nat.beq (widthL t) size with
    | true => storeA l base rst row stride idx size t
    | false => none
  | .c c => match Nat.beq size 1 with
    | false => none
    | true => match seek l base with
      | some (s, rel) => dispK rel rst row stride idx fun j => match storeS s j c with
        | some (p, s') => match put l base s' with
          | some r => some (p, r)
          | none => none
        | none => none
      | none => none

def loadB (b : Body) (agg : Bool) (size rst row base stride idx : Nat) : Option (Prop × V1) :=
  match b with
  | .flat l => loadF l agg size base rst row stride idx
  | .rows n sz f => match Nat.beq rst sz with
    | true => match loadF (f row) agg size base 0 0 stride idx with
      | some (p, v) => some (row < n ∧ p, v)
      | none => none
    | false => none

def storeB (b : Body) (size rst row base stride idx : Nat) (v : V1) : Option (Prop × Body) :=
  match b with
  | .flat l => match storeF l size base rst row stride idx v with
    | some (p, r) => some (p, .flat r)
    | none => none
  | .rows n sz f => match Nat.beq rst sz with
    | true => match storeF (f row) size base 0 0 stride idx v with
      | some (p, r) => some (row < n ∧ p, .rows n sz (upF f row r))
      | none => none
    | false => none

/-! ### specifications of functions -/
/-- What a call comes to: what must hold, its result, new entries (in result and entries their ids count from 0 on), entries that are there and turn. -/
structure Res where
  p : Prop
  r : SV
  new : List E
  up : List (Nat × E)

abbrev Spec := List SV → (Nat → Option E) → Option Res
abbrev KT := List (Nat × Spec)
/-- Package-level variables: what they hold. -/
abbrev GT := List (Nat × Body)

def renC (b : Nat) : C → C
  | .ptr id rst row base stride idx => .ptr (b + id) rst row base stride idx
  | .sl id a len sz => .sl (b + id) a len sz
  | .clo f caps => .clo f (caps.map (b + ·))
  | c => c
def renS (b : Nat) : S0 → S0
  | .ints n k xs => .ints n k xs
  | .cs l => .cs (l.map (renC b))
def ren1 (b : Nat) : V1 → V1
  | .c c => .c (renC b c)
  | .agg l => .agg (l.map (renS b))
def renV (b : Nat) : SV → SV
  | .v x => .v (ren1 b x)
  | .tup l => .tup (l.map (ren1 b))
  | .g c x => .g c (ren1 b x)
  | .fnv f a c => .fnv f (a.map (ren1 b)) (c.map (ren1 b))
def renB (b : Nat) : Body → Body
  | .flat l => .flat (l.map (renS b))
  | .rows n sz f => .rows n sz (fun i => (f i).map (renS b))
def renE (b : Nat) : E → E
  | .mem o ty tl x => .mem o ty tl (renB b x)
  | e => e

inductive Eff where
  | val (v : SV)
  | fresh (v : SV) (new : List E)               -- ids of the new ones: nxt, nxt + 1, ..
  | turn (v : Option SV) (blks : Blks) (new : List E)

/-! ### single operations -/
def getD' (tt : TT) (t : TypeId) : Option TE := look tt t

def bodyOf : V1 → Body
  | .c c => .flat [.cs [c]]
  | .agg l => .flat l

def opAlloc (tt : TT) (nxt : Nat) (t : TypeId) : Option (Prop × Eff) :=
  match look tt t with
  | some te => some (True, .fresh (.v (.c (.ptr nxt 0 0 0 0 0))) [.mem true t none (bodyOf te.zero)])
  | none => none

def opBox (regs : Regs) (nxt : Nat) (t : TypeId) (x : Operand) : Option (Prop × Eff) :=
  match ev1 regs x with
  | some (p, v) => some (p, .fresh (.v (.c (.ptr nxt 0 0 0 0 0))) [.mem true t none (bodyOf v)])
  | none => none

def opLoad (tt : TT) (gt : GT) (σ : Sig) (t : TypeId) (a : Operand) : Option (Prop × Eff) :=
  match evC σ.regs a, look tt t with
  | some (p, .gp g rst row base stride idx), some te => match look gt g with
    | some b => match loadB b te.d.agg te.size rst row base stride idx with
      | some (q, v) => some (p ∧ q, .val (.v v))
      | none => none
    | none => none
  | some (p, .ptr id rst row base stride idx), some te => match look σ.blks id with
    | some (.mem _ _ _ b) => match loadB b te.d.agg te.size rst row base stride idx with
      | some (q, v) => some (p ∧ q, .val (.v v))
      | none => none
    | _ => none
  | _, _ => none

def opStore (tt : TT) (σ : Sig) (t : TypeId) (a x : Operand) : Option (Prop × Eff) :=
  match evC σ.regs a, ev1 σ.regs x, look tt t with
  | some (p, .ptr id rst row base stride idx), some (q, v), some te => match look σ.blks id with
    | some (.mem true ty tl b) => match storeB b te.size rst row base stride idx v with
      | some (r, b') => match upd σ.blks id (.mem true ty tl b') with
        | some bl => some (p ∧ q ∧ r, .turn none bl [])
        | none => none
      | none => none
    | _ => none
  | _, _, _ => none

def opFieldAddr (tt : TT) (regs : Regs) (t : TypeId) (x : Operand) (i : Nat) : Option (Prop × Eff) :=
  match evC regs x, look tt t with
  | some (p, .ptr id rst row base stride idx), some te => match te.d with
    | .strct fs => match nth fs i with
      | some (_, off, _) => match Nat.beq stride 0 with
        | true => some (p, .val (.v (.c (.ptr id rst row (base + off) 0 0))))
        | false => some (p, .val (.v (.c (.ptr id rst row (base + off) stride idx))))
      | none => none
    | _ => none
  | _, _ => none

/-- A pointer moved on by 'stride' times 'idx' cells. -/
def movePtr (id rst row base s i stride idx : Nat) : C :=
  match Nat.beq s 0 with
  | true => .ptr id rst row base stride idx
  | false => .ptr id rst row base stride (i * (s / stride) + idx)

def opIndexAddr (tt : TT) (regs : Regs) (t : TypeId) (x ix : Operand) : Option (Prop × Eff) :=
  match evC regs x, evC regs ix, look tt t with
  | some (p, .ptr id rst row base s i), some (q, .int _ j), some te => match te.d with
    | .arr n _ esz => match ix with
      | .const _ => some (p ∧ q ∧ 0 ≤ j ∧ j < n, .val (.v (.c (.ptr id rst row (base + j.toNat * esz) s i))))
      | _ => match Nat.beq (s % esz) 0 with
        | true => some (p ∧ q ∧ 0 ≤ j ∧ j < n, .val (.v (.c (movePtr id rst row base s i esz j.toNat))))
        | false => none
    | _ => none
  | some (p, .gp g rst row base s i), some (q, .int _ j), some te => match te.d with
    | .arr n _ esz => match ix with
      | .const _ => some (p ∧ q ∧ 0 ≤ j ∧ j < n, .val (.v (.c (.gp g rst row (base + j.toNat * esz) s i))))
      | _ => match Nat.beq (s % esz) 0 with
        | true => match Nat.beq s 0 with
          | true => some (p ∧ q ∧ 0 ≤ j ∧ j < n, .val (.v (.c (.gp g rst row base esz j.toNat))))
          | false => some (p ∧ q ∧ 0 ≤ j ∧ j < n, .val (.v (.c (.gp g rst row base esz (i * (s / esz) + j.toNat)))))
        | false => none
    | _ => none
  | some (p, .sl id a len sz), some (q, .int _ j), some te => match te.d with
    | .sl _ esz _ => match Nat.beq sz esz with
      | true => match Nat.beq a 0 with
        | true => some (p ∧ q ∧ 0 ≤ j ∧ j < len, .val (.v (.c (.ptr id sz j.toNat 0 0 0))))
        | false => some (p ∧ q ∧ 0 ≤ j ∧ j < len, .val (.v (.c (.ptr id sz (a + j.toNat) 0 0 0))))
      | false => none
    | _ => none
  | _, _, _ => none

/-- A string's byte. -/
def byteI (s : ByteArray) (i : Nat) : Int := ((s.data.toList.getD i 0).toNat : Int)

def opIndex (tt : TT) (regs : Regs) (t : TypeId) (x ix : Operand) : Option (Prop × Eff) :=
  match ev1 regs x, evC regs ix, look tt t with
  | some (p, .agg l), some (q, .int _ j), some te => match te.d with
    | .arr n e esz => match look tt e with
      | some ee => match loadF l ee.d.agg esz 0 esz j.toNat 0 0 with
        | some (r, v) => some (p ∧ q ∧ (0 ≤ j ∧ j < n) ∧ r, .val (.v v))
        | none => none
      | none => none
    | _ => none
  | some (p, .c (.str s)), some (q, .int _ j), some te => match te.d with
    | .str => some (p ∧ q ∧ 0 ≤ j ∧ j < s.size, .val (.v (.c (.int .u8 (byteI s j.toNat)))))
    | _ => none
  | _, _, _ => none

def opField (tt : TT) (regs : Regs) (t : TypeId) (x : Operand) (i : Nat) : Option (Prop × Eff) :=
  match ev1 regs x, look tt t with
  | some (p, .agg l), some te => match te.d with
    | .strct fs => match nth fs i with
      | some (ft, off, sz) => match look tt ft with
        | some fe => match loadF l fe.d.agg sz off 0 0 0 0 with
          | some (r, v) => some (p ∧ r, .val (.v v))
          | none => none
        | none => none
      | none => none
    | _ => none
  | _, _ => none

/-- The parts of a literal, one after the other. -/
def fillL (places : Nat → Option (Nat × Nat)) (regs : Regs) : List S0 → List (Nat × Operand) → Option (Prop × List S0)
  | l, [] => some (True, l)
  | l, (i, x) :: r => match places i, ev1 regs x with
    | some (off, sz), some (p, v) => match storeF l sz off 0 0 0 0 v with
      | some (q, l') => match fillL places regs l' r with
        | some (s, l'') => some (p ∧ q ∧ s, l'')
        | none => none
      | none => none
    | _, _ => none

def placeF (fs : List (TypeId × Nat × Nat)) (i : Nat) : Option (Nat × Nat) :=
  match nth fs i with
  | some (_, off, sz) => some (off, sz)
  | none => none
def placeA (esz i : Nat) : Option (Nat × Nat) := some (i * esz, esz)

def opBuild (tt : TT) (regs : Regs) (t : TypeId) (parts : List (Nat × Operand)) : Option (Prop × Eff) :=
  match look tt t with
  | some te => match te.zero, te.d with
    | .agg z, .strct fs => match fillL (placeF fs) regs z parts with
      | some (p, l) => some (p, .val (.v (.agg l)))
      | none => none
    | .agg z, .arr _ _ esz => match fillL (placeA esz) regs z parts with
      | some (p, l) => some (p, .val (.v (.agg l)))
      | none => none
    | _, _ => none
  | none => none


/-- Elements from a to b of a slice's content, of sz cells each. -/
def subB (b : Body) (a len sz : Nat) : Option (Prop × Body) :=
  match b with
  | .flat [.ints n k xs] => match Nat.beq sz 1, Nat.beq a 0 with
    | true, true => some (len ≤ n, .flat [.ints len k (xs.take len)])
    | true, false => some (a + len ≤ n, .flat [.ints len k ((xs.drop a).take len)])
    | false, _ => none
  | .rows n sz' f => match Nat.beq sz sz', Nat.beq a 0 with
    | true, true => some (len ≤ n, .rows len sz' f)
    | true, false => some (a + len ≤ n, .rows len sz' (fun i => f (a + i)))
    | false, _ => none
  | _ => none

/-- One content behind another one. -/
def appB : Body → Body → Option (Prop × Body)
  | .flat [.ints n k xs], .flat [.ints m k' ys] => some (k' = k, .flat [.ints (n + m) k (xs ++ ys)])
  | .rows n sz f, .rows m sz' g => match Nat.beq sz sz' with
    | true => some (True, .rows (n + m) sz (fun i => bif Nat.blt i n then f i else g (i - n)))
    | false => none
  | _, _ => none

def segsOf : V1 → List S0
  | .c c => [.cs [c]]
  | .agg l => l

def zeroRow (te : TE) (n : Nat) : Body :=
  match te.zero with
  | .c (.int k z) => .flat [.ints n k (List.replicate n z)]
  | z => .rows n te.size (fun _ => segsOf z)

def rowsList (l : List S0) (esz : Nat) : Nat → Nat → Option (List (List S0))
  | 0, _ => some []
  | n + 1, i => match takeL l (i * esz) esz, rowsList l esz n (i + 1) with
    | some t, some r => some (t :: r)
    | _, _ => none

def rowAt (rows : List (List S0)) (i : Nat) : List S0 :=
  match nth rows i with
  | some t => t
  | none => []

def opBuildSlice (tt : TT) (regs : Regs) (nxt : Nat) (t : TypeId) (len : Nat) (parts : List (Nat × Operand)) : Option (Prop × Eff) :=
  match look tt t with
  | some te => match te.d with
    | .sl e esz _ => match look tt e with
      | some ee => match ee.zero with
        | .c (.int k z) => match fillL (placeA esz) regs [.ints len k (List.replicate len z)] parts with
          | some (p, l) => some (p ∧ esz = 1 ∧ len * esz ≤ 16777216, .fresh (.v (.c (.sl nxt 0 len esz))) [.mem true e (some esz) (.flat l)])
          | none => none
        | z => match fillL (placeA esz) regs ((List.replicate len (segsOf z)).flatten) parts with
          | some (p, l) => match rowsList l esz len 0 with
            | some rows => some (p ∧ len * esz ≤ 16777216 ∧ 0 < esz, .fresh (.v (.c (.sl nxt 0 len esz))) [.mem true e (some esz) (.rows len esz (rowAt rows))])
            | none => none
          | none => none
      | none => none
    | _ => none
  | none => none

def opMakeSlice (tt : TT) (regs : Regs) (nxt : Nat) (t : TypeId) (len cap : Operand) : Option (Prop × Eff) :=
  match look tt t, evC regs len, evC regs cap with
  | some te, some (p, .int .i64 n), some (q, .int .i64 c) => match te.d with
    | .sl e esz eb => match look tt e with
      | some ee => match zeroRow ee n.toNat with
        | .flat l => some (p ∧ q ∧ 0 ≤ n ∧ n ≤ c ∧ c * eb ≤ 140737488355328, .fresh (.v (.c (.sl nxt 0 n.toNat esz))) [.mem true e (some esz) (.flat l)])
        | .rows m sz f => some (p ∧ q ∧ 0 ≤ n ∧ n ≤ c ∧ c * eb ≤ 140737488355328, .fresh (.v (.c (.sl nxt 0 n.toNat esz))) [.mem true e (some esz) (.rows m sz f)])
      | none => none
    | _ => none
  | _, _, _ => none

/-- Bounds of a slice expression: what must hold, from, to. -/
def opSlice (tt : TT) (σ : Sig) (t : TypeId) (x : Operand) (lo hi mx : Option Operand) : Option (Prop × Eff) :=
  match mx with
  | some _ => none
  | none =>
  match ev1 σ.regs x, look tt t, (match lo with | none => some (True, C.int .i64 0) | some o => evC σ.regs o) with
  | some (p, .c (.str s)), some te, some (q, .int _ l) => match te.d, (match hi with | none => some (True, C.int .i64 s.size) | some o => evC σ.regs o) with
    | .str, some (r, .int _ h) => some (p ∧ q ∧ r ∧ 0 ≤ l ∧ l ≤ h ∧ h ≤ s.size, .val (.v (.c (.str (s.extract l.toNat h.toNat)))))
    | _, _ => none
  | some (p, .c (.sl id a len sz)), some te, some (q, .int _ l) => match te.d, (match hi with | none => some (True, C.int .i64 len) | some o => evC σ.regs o) with
    | .sl _ esz _, some (r, .int _ h) => match lo with
      | none => some (p ∧ q ∧ r ∧ 0 ≤ h ∧ h ≤ len ∧ esz = sz, .val (.v (.c (.sl id a h.toNat sz))))
      | some _ => match Nat.beq a 0 with
        | true => some (p ∧ q ∧ r ∧ 0 ≤ l ∧ l ≤ h ∧ h ≤ len ∧ esz = sz, .val (.v (.c (.sl id l.toNat (h - l).toNat sz))))
        | false => some (p ∧ q ∧ r ∧ 0 ≤ l ∧ l ≤ h ∧ h ≤ len ∧ esz = sz, .val (.v (.c (.sl id (a + l.toNat) (h - l).toNat sz))))
    | _, _ => none
  | _, _, _ => none

/-! ### bytes and strings -/
/-- The bytes of a string. -/
def bl (s : ByteArray) : List Int := s.data.toList.map fun b => (b.toNat : Int)
def bytesOf (xs : List Int) : ByteArray := ⟨(xs.map fun x => UInt8.ofNat x.toNat).toArray⟩

def opConvert (tt : TT) (md : Md) (σ : Sig) (src dst : TypeId) (x : Operand) : Option (Prop × Eff) :=
  match look tt src, look tt dst, ev1 σ.regs x with
  | some ts, some td, some (p, v) => match ts.d, td.d, v with
    | .int _, .int k, .c (.int _ n) => match md.wrap with
      | true => some (p, .val (.v (.c (.int k (k.wrap n)))))
      | false => some (p ∧ inK k n, .val (.v (.c (.int k n))))
    | .str, .str, .c (.str s) => some (p, .val (.v (.c (.str s))))
    | .sl e _ _, .str, .c (.sl id a len sz) => match look σ.blks id, look tt e with
      | some (.mem _ _ _ b), some ee => match ee.d, subB b a len sz with
        | .int .u8, some (q, .flat [.ints _ .u8 xs]) => some (p ∧ q ∧ sz = 1 ∧ (len : Int) ≤ 9223372036854775807, .val (.v (.c (.str (bytesOf xs)))))
        | _, _ => none
      | _, _ => none
    | .sl e _ _, .str, .c (.val (.slice none 0 0)) => match look tt e with
      | some ee => match ee.d with
        | .int .u8 => some (p, .val (.v (.c (.str ⟨#[]⟩))))
        | _ => none
      | none => none
    | _, _, _ => none
  | _, _, _ => none

/-! ### comparing -/
def leafInt (tt : TT) : Nat → TypeId → Bool
  | 0, _ => false
  | d + 1, t => match look tt t with
    | some te => match te.d with
      | .int _ => Nat.beq te.size 1
      | .arr n e esz => match Nat.beq te.size (n * esz) with
        | true => leafInt tt d e
        | false => false
      | _ => false
    | none => false

/-- Cells that are compared one by one. -/
def eqCs (tt : TT) : List (TypeId × Nat × Nat) → List C → List C → Option (Prop × Bool)
  | [], [], [] => some (True, true)
  | (t, _, _) :: fs, .int k a :: l, .int k' b :: l' => match look tt t with
    | some te => match te.d, eqCs tt fs l l' with
      | .int _, some (p, r) => some (k' = k ∧ p, decide (a = b) && r)
      | _, _ => none
    | none => none
  | (t, _, _) :: fs, .bool a :: l, .bool b :: l' => match look tt t with
    | some te => match te.d, eqCs tt fs l l' with
      | .bool, some (p, r) => some (p, (a == b) && r)
      | _, _ => none
    | none => none
  | _, _, _ => none

/-- Fields that lie one behind the other, a cell each. -/
def consec : Nat → List (TypeId × Nat × Nat) → Bool
  | _, [] => true
  | n, (_, off, _) :: fs => match Nat.beq off n with
    | true => consec (n + 1) fs
    | false => false

def eqV (tt : TT) (t : TypeId) : V1 → V1 → Option (Prop × Bool)
  | .c (.bool a), .c (.bool b) => match look tt t with
    | some te => match te.d with
      | .bool => some (True, a == b)
      | _ => none
    | none => none
  | .c (.ptr _ _ _ _ _ _), .c (.val (.pointer none)) => match look tt t with
    | some te => match te.d with
      | .ptr _ => some (True, false)
      | _ => none
    | none => none
  | .c (.val (.pointer none)), .c (.val (.pointer none)) => match look tt t with
    | some te => match te.d with
      | .ptr _ => some (True, true)
      | _ => none
    | none => none
  | .agg l, .agg l' => match look tt t with
    | some te => match te.cmp, te.d, l, l' with
      | true, .arr _ _ _, [.ints n k xs], [.ints m k' ys] => match leafInt tt 6 t with
        | true => some (k' = k ∧ m = n ∧ n = te.size, decide (xs = ys))
        | false => none
      | true, .strct fs, [.cs a], [.cs b] => match consec 0 fs with
        | true => eqCs tt fs a b
        | false => none
      | _, _, _, _ => none
    | none => none
  | _, _ => none

def bin1 (md : Md) (op : BinOp) : V1 → V1 → Option (Prop × V1)
  | .c a, .c b => binC md op a b
  | _, _ => none

def eqEff (tt : TT) (op : BinOp) (t : TypeId) (a b : V1) (p q : Prop) : Option (Prop × Eff) :=
  match op with
  | .eql => match eqV tt t a b with
    | some (r, e) => some (p ∧ q ∧ r, .val (.v (.c (.bool e))))
    | none => none
  | .neq => match eqV tt t a b with
    | some (r, e) => some (p ∧ q ∧ r, .val (.v (.c (.bool (!e)))))
    | none => none
  | _ => none

def opBin (tt : TT) (md : Md) (regs : Regs) (op : BinOp) (t : TypeId) (x y : Operand) : Option (Prop × Eff) :=
  match ev1 regs x, ev1 regs y with
  | some (p, a), some (q, b) => match bin1 md op a b with
    | some (r, v) => some (p ∧ q ∧ r, .val (.v v))
    | none => eqEff tt op t a b p q
  | _, _ => none

def opUn (md : Md) (regs : Regs) (op : UnOp) (x : Operand) : Option (Prop × Eff) :=
  match op, evC regs x with
  | .neg, some (p, .int k n) => match md.wrap with
    | true => some (p, .val (.v (.c (.int k (k.wrap (0 - n))))))
    | false => some (p ∧ inK k (-n), .val (.v (.c (.int k (-n)))))
  | .not, some (p, .bool b) => some (p, .val (.v (.c (.bool (!b)))))
  | _, _ => none

/-! ### choice -/
def partG (regs : Regs) (x : Operand) : Option (Bool × V1) :=
  match rawO regs x with
  | some (.g b v) => some (b, v)
  | some (.v v) => some (true, v)
  | _ => none

def opPick (regs : Regs) (c x y : Operand) : Option (Prop × Eff) :=
  match evC regs c, partG regs x, partG regs y with
  | some (p, .bool g), some (gx, .c (.bool a)), some (gy, .c (.bool b)) => some (p ∧ (g = true → gx = true) ∧ (g = false → gy = true), .val (.v (.c (.bool (bif g then a else b)))))
  | some (p, .bool g), some (gx, .c (.int k a)), some (gy, .c (.int k' b)) => some (p ∧ k' = k ∧ (g = true → gx = true) ∧ (g = false → gy = true), .val (.v (.c (.int k (bif g then a else b)))))
  | _, _, _ => none

/-! ### calls -/
def evAll (regs : Regs) : List Operand → Option (Prop × List SV)
  | [] => some (True, [])
  | x :: l => match evO regs x, evAll regs l with
    | some (p, v), some (q, vs) => some (p ∧ q, v :: vs)
    | _, _ => none

def updAll (blks : Blks) : List (Nat × E) → Option Blks
  | [] => some blks
  | (id, e) :: l => match upd blks id e with
    | some b => updAll b l
    | none => none

def opCallF (kt : KT) (σ : Sig) (f : FuncId) (args : List SV) : Option (Prop × Eff) :=
  match look kt f with
  | some spec => match spec args (look σ.blks) with
    | some r => match r.up with
      | [] => some (r.p, .fresh (renV σ.nxt r.r) (r.new.map (renE σ.nxt)))
      | up => match updAll σ.blks up with
        | some bl => some (r.p, .turn (some (renV σ.nxt r.r)) bl (r.new.map (renE σ.nxt)))
        | none => none
    | none => none
  | none => none

def opCall (kt : KT) (σ : Sig) (f : Operand) (args : List Operand) : Option (Prop × Eff) :=
  match rawO σ.regs f, evAll σ.regs args with
  | some (.v (.c (.clo g caps))), some (p, vs) => match caps with
    | [] => match opCallF kt σ g vs with
      | some (q, e) => some (p ∧ q, e)
      | none => none
    | _ => match opCallF kt σ g (vs ++ caps.map fun i => .v (.c (.ptr i 0 0 0 0 0))) with
      | some (q, e) => some (p ∧ q, e)
      | none => none
  | some (.fnv g first caps), some (p, vs) => match opCallF kt σ g (first.map .v ++ vs ++ caps.map .v) with
    | some (q, e) => some (p ∧ q, e)
    | none => none
  | _, _ => none

/-! ### built-in functions -/
def opLen (tt : TT) (regs : Regs) (t : TypeId) (x : Operand) : Option (Prop × Eff) :=
  match look tt t with
  | some te => match te.d with
    | .arr n _ _ => some ((n : Int) ≤ 9223372036854775807, .val (.v (.c (.int .i64 n))))
    | .str => match evC regs x with
      | some (p, .str s) => some (p, .val (.v (.c (.int .i64 s.size))))
      | _ => none
    | .sl _ _ _ => match evC regs x with
      | some (p, .sl _ _ len _) => some (p, .val (.v (.c (.int .i64 len))))
      | some (p, .val (.slice none 0 0)) => some (p, .val (.v (.c (.int .i64 0))))
      | _ => none
    | _ => none
  | none => none

def opMinMax (mx : Bool) (regs : Regs) : List Operand → Option (Prop × Eff)
  | [x, y] => match evC regs x, evC regs y with
    | some (p, .int k a), some (q, .int k' b) => some (p ∧ q ∧ k' = k, .val (.v (.c (.int k (match mx with | true => max a b | false => min a b)))))
    | _, _ => none
  | _ => none

/-- A slice's own row, from its head on: its id, if there is one, its block's type, how many elements, what it holds. -/
def headRow (blks : Blks) : C → Option (Option Nat × Nat × Nat × Nat × Option Body)
  | .val (.slice none 0 0) => some (none, 0, 0, 0, none)
  | .sl id a len sz => match Nat.beq a 0, look blks id with
    | true, some (.mem true ty (some sz') b) => match Nat.beq sz sz' with
      | true => some (some id, ty, len, sz, some b)
      | false => none
    | _, _ => none
  | _ => none

def rowOf (blks : Blks) : C → Option (Prop × Nat × Nat × Option Body)
  | .val (.slice none 0 0) => some (True, 0, 0, none)
  | .sl id a len sz => match look blks id with
    | some (.mem _ _ _ b) => match subB b a len sz with
      | some (p, b') => some (p, len, sz, some b')
      | none => none
    | _ => none
  | _ => none

def bodyN : Body → Nat → Nat → Prop
  | .flat [.ints n _ _], len, sz => n = len ∧ sz = 1
  | .rows n sz' _, len, sz => n = len ∧ sz' = sz
  | _, _, _ => False

def opAppend (tt : TT) (σ : Sig) (t : TypeId) (x y : Operand) : Option (Prop × Eff) :=
  match look tt t, evC σ.regs x, evC σ.regs y with
  | some te, some (p, a), some (q, b) => match te.d with
    | .sl e esz eb => match look tt e, headRow σ.blks a, rowOf σ.blks b with
      | some _, some (some id, ty, len, sz, some body), some (r, m, sz', some body') => match appB body body' with
        | some (s, nb) => match del σ.blks id with
          | some bl => some (p ∧ q ∧ r ∧ s ∧ bodyN body len esz ∧ ty = e ∧ sz = esz ∧ sz' = esz ∧ 0 < esz ∧ (len + m) * eb ≤ 140737488355328 ∧ len + m ≤ 9223372036854775807, .turn (some (.v (.c (.sl σ.nxt 0 (len + m) esz)))) bl [.mem true e (some esz) nb])
          | none => none
        | none => none
      | some _, some (none, _, _, _, _), some (r, m, sz', some body') => some (p ∧ q ∧ r ∧ sz' = esz ∧ 0 < esz ∧ m * eb ≤ 140737488355328 ∧ m ≤ 9223372036854775807, .turn (some (.v (.c (.sl σ.nxt 0 m esz)))) σ.blks [.mem true e (some esz) body'])
      | _, _, _ => none
    | _ => none
  | _, _, _ => none

/-- A string's bytes behind a row of bytes. -/
def opAppendS (tt : TT) (σ : Sig) (t t' : TypeId) (x y : Operand) : Option (Prop × Eff) :=
  match look tt t, look tt t', evC σ.regs x, evC σ.regs y with
  | some te, some te', some (p, a), some (q, .str s) => match te.d, te'.d with
    | .sl e esz eb, .str => match look tt e, headRow σ.blks a with
      | some _, some (some id, ty, len, sz, some body) => match appB body (.flat [.ints s.size .u8 (bl s)]) with
        | some (r, nb) => match del σ.blks id with
          | some bl => some (p ∧ q ∧ r ∧ bodyN body len esz ∧ ty = e ∧ sz = esz ∧ esz = 1 ∧ (len + s.size) * eb ≤ 140737488355328 ∧ len + s.size ≤ 9223372036854775807, .turn (some (.v (.c (.sl σ.nxt 0 (len + s.size) esz)))) bl [.mem true e (some esz) nb])
          | none => none
        | none => none
      | some _, some (none, _, _, _, _) => some (p ∧ q ∧ esz = 1 ∧ s.size * eb ≤ 140737488355328 ∧ s.size ≤ 9223372036854775807, .turn (some (.v (.c (.sl σ.nxt 0 s.size esz)))) σ.blks [.mem true e (some esz) (.flat [.ints s.size .u8 (bl s)])])
      | _, _ => none
    | _, _ => none
  | _, _, _, _ => none

def opCopy (σ : Sig) (x y : Operand) : Option (Prop × Eff) :=
  match evC σ.regs x, evC σ.regs y with
  | some (p, .sl id a len sz), some (q, b) => match Nat.beq a 0, look σ.blks id, rowOf σ.blks b with
    | true, some (.mem true ty tl (.flat [.ints n k xs])), some (r, m, sz', some (.flat [.ints m' k' ys])) =>
      match upd σ.blks id (.mem true ty tl (.flat [.ints n k (ys ++ xs.drop m)])) with
      | some bl => some (p ∧ q ∧ r ∧ k' = k ∧ sz = 1 ∧ sz' = 1 ∧ m' = m ∧ m ≤ len ∧ m ≤ n, .turn (some (.v (.c (.int .i64 m)))) bl [])
      | none => none
    | _, _, _ => none
  | _, _ => none

def capIds : List V1 → Option (List Nat)
  | [] => some []
  | .c (.ptr id 0 0 0 0 0) :: r => match capIds r with
    | some l => some (id :: l)
    | none => none
  | _ => none

def ev1All (regs : Regs) : List Operand → Option (Prop × List V1)
  | [] => some (True, [])
  | x :: l => match ev1 regs x, ev1All regs l with
    | some (p, v), some (q, vs) => some (p ∧ q, v :: vs)
    | _, _ => none

def opMakeFunc (regs : Regs) (fn : Fn) (first captured : List Operand) : Option (Prop × Eff) :=
  match fn, ev1All regs first, ev1All regs captured with
  | .func f, some (p, a), some (q, c) => match a, capIds c with
    | [], some ids => some (p ∧ q, .val (.v (.c (.clo f ids))))
    | _, _ => some (p ∧ q, .val (.fnv f a c))
  | _, _, _ => none

def opExtract (regs : Regs) (x : Operand) (i : Nat) : Option (Prop × Eff) :=
  match evO regs x with
  | some (p, .tup l) => match nth l i with
    | some v => some (p, .val (.v v))
    | none => none
  | _ => none

def opNilCheck (regs : Regs) (x : Operand) : Option (Prop × Eff) :=
  match evC regs x with
  | some (p, .ptr id rst row base stride idx) => some (p, .val (.v (.c (.ptr id rst row base stride idx))))
  | some (p, .clo f caps) => some (p, .val (.v (.c (.clo f caps))))
  | _ => none

def opRange (tt : TT) (regs : Regs) (nxt : Nat) (t : TypeId) (x : Operand) : Option (Prop × Eff) :=
  match evC regs x, look tt t with
  | some (p, .str s), some te => match te.d with
    | .str => some (p, .fresh (.v (.c (.ptr nxt 0 0 0 0 0))) [.iter s 0])
    | _ => none
  | _, _ => none

/-- What an operation comes to: what must hold, and its effect. -/
def core (tt : TT) (kt : KT) (gt : GT) (md : Md) (σ : Sig) (o : Oper) : Option (Prop × Eff) :=
  match o.op with
  | .move x => match evO σ.regs x with
    | some (p, v) => some (p, .val v)
    | none => none
  | .assign x => match evO σ.regs x with
    | some (p, v) => some (p, .val v)
    | none => none
  | .pick c x y => opPick σ.regs c x y
  | .alloc t => opAlloc tt σ.nxt t
  | .box t x => opBox σ.regs σ.nxt t x
  | .build t parts => opBuild tt σ.regs t parts.toList
  | .buildSlice t len parts => opBuildSlice tt σ.regs σ.nxt t len parts.toList
  | .load t a => opLoad tt gt σ t a
  | .store t a x => opStore tt σ t a x
  | .nilCheck x => opNilCheck σ.regs x
  | .binOp op t x y _ => opBin tt md σ.regs op t x y
  | .unOp op _ x => opUn md σ.regs op x
  | .convert src dst x => opConvert tt md σ src dst x
  | .makeFunc fn first captured => opMakeFunc σ.regs fn first.toList captured.toList
  | .makeSlice t l c => opMakeSlice tt σ.regs σ.nxt t l c
  | .slice t x lo hi mx => opSlice tt σ t x lo hi mx
  | .fieldAddr t x i => opFieldAddr tt σ.regs t x i
  | .field t x i => opField tt σ.regs t x i
  | .indexAddr t x ix => opIndexAddr tt σ.regs t x ix
  | .index t x ix => opIndex tt σ.regs t x ix
  | .range t x => opRange tt σ.regs σ.nxt t x
  | .extract x i => opExtract σ.regs x i
  | .call c => match c.callee with
    | .value f => opCall kt σ f c.args.toList
    | .builtin .len => match c.argTypes.toList, c.args.toList with
      | [t], [x] => opLen tt σ.regs t x
      | _, _ => none
    | .builtin .max => opMinMax true σ.regs c.args.toList
    | .builtin .min => opMinMax false σ.regs c.args.toList
    | .builtin .append => match c.argTypes.toList, c.args.toList with
      | [t, t'], [x, y] => match Nat.beq t t' with
        | true => opAppend tt σ t x y
        | false => opAppendS tt σ t t' x y
      | _, _ => none
    | _ => none
  | _ => none

/-! ### lists of operations -/
def addE : List E → Nat → Blks → Blks × Nat
  | [], n, b => (b, n)
  | e :: l, n, b => addE l (n + 1) ((n, e) :: b)

def setR (σ : Sig) (dst : Option Nat) (v : SV) (blks : Blks) (nxt : Nat) : Option Sig :=
  match dst with
  | none => some ⟨σ.regs, blks, nxt⟩
  | some d => match del σ.regs d with
    | some r => some ⟨(d, v) :: r, blks, nxt⟩
    | none => none

def delR (σ : Sig) (dst : Option Nat) (blks : Blks) (nxt : Nat) : Option Sig :=
  match dst with
  | none => some ⟨σ.regs, blks, nxt⟩
  | some d => match del σ.regs d with
    | some r => some ⟨r, blks, nxt⟩
    | none => none

def sel (b : Bool) : Bool → Bool
  | true => b
  | false => !b

def guardB (regs : Regs) (ops : List Oper) (j : Nat) (want : Bool) : Option Bool :=
  match nth ops j with
  | some o => match o.dst with
    | some d => match look regs d with
      | some (.v (.c (.bool b))) => some (sel b want)
      | some (.g c (.c (.bool b))) => some (c && sel b want)
      | _ => none
    | none => none
  | none => none

def idless : C → Bool
  | .int _ _ => true
  | .bool _ => true
  | .str _ => true
  | .val _ => true
  | _ => false

def exec1 (tt : TT) (kt : KT) (gt : GT) (md : Md) (ops : List Oper) (σ : Sig) (o : Oper) : Option (Prop × Sig) :=
  match o.guard with
  | none => match core tt kt gt md σ o with
    | some (p, .val v) => match setR σ o.dst v σ.blks σ.nxt with
      | some s => some (p, s)
      | none => none
    | some (p, .fresh v new) => match addE new σ.nxt σ.blks with
      | (bl, n) => match setR σ o.dst v bl n with
        | some s => some (p, s)
        | none => none
    | some (p, .turn v blks new) => match addE new σ.nxt blks with
      | (bl, n) => match v with
        | some x => match setR σ o.dst x bl n with
          | some s => some (p, s)
          | none => none
        | none => match delR σ o.dst bl n with
          | some s => some (p, s)
          | none => none
    | none => none
  | some (j, want) => match guardB σ.regs ops j want with
    | some g => match core tt kt gt md σ o with
      | some (p, .val (.v x)) => match setR σ o.dst (.g g x) σ.blks σ.nxt with
        | some s => some (g = true → p, s)
        | none => none
      | some (p, .fresh (.v (.c c)) new) => match idless c with
        | true => match setR σ o.dst (.g g (.c c)) σ.blks (addE new σ.nxt σ.blks).2 with
          | some s => some (g = true → p, s)
          | none => none
        | false => none
      | _ => none
    | none => none

inductive Out where
  | done (p : Prop) (σ : Sig)
  | stop (p : Prop) (σ : Sig) (rest : List Oper)

def execL (tt : TT) (kt : KT) (gt : GT) (md : Md) (ops : List Oper) : List Oper → Sig → Prop → Out
  | [], σ, p => .done p σ
  | o :: rest, σ, p => match exec1 tt kt gt md ops σ o with
    | some (q, σ') => execL tt kt gt md ops rest σ' (p ∧ q)
    | none => .stop p σ (o :: rest)

end Go.X
