/- What the functions of the layers of bits come to. -/
import Derived.Test.YtgbeiogbppaogaaX33
set_option linter.unusedVariables false
namespace Go.X

abbrev i64 (n : Int) : SV := .v (.c (.int .i64 n))
abbrev bo (b : Bool) : SV := .v (.c (.bool b))
abbrev st (s : ByteArray) : SV := .v (.c (.str s))
abbrev pt (id : Nat) : SV := .v (.c (.ptr id 0 0 0 0 0))
abbrev nilp : SV := .v (.c (.val (.pointer none)))
abbrev tup2 (a b : Int) : SV := .tup [.c (.int .i64 a), .c (.int .i64 b)]
abbrev tupS (s : ByteArray) (b : Int) : SV := .tup [.c (.str s), .c (.int .i64 b)]
abbrev tupB (a : Int) (b : Bool) : SV := .tup [.c (.int .i64 a), .c (.bool b)]
abbrev tup2B (a b : Int) (c : Bool) : SV := .tup [.c (.int .i64 a), .c (.int .i64 b), .c (.bool c)]
theorem tup2_eq {a b a' b' : Int} (h1 : a = a') (h2 : b = b') : tup2 a b = tup2 a' b' := by rw [h1, h2]
theorem tupS_eq {a a' : ByteArray} {b b' : Int} (h1 : a = a') (h2 : b = b') : tupS a b = tupS a' b' := by rw [h1, h2]
theorem tupB_eq {a a' : Int} {b b' : Bool} (h1 : a = a') (h2 : b = b') : tupB a b = tupB a' b' := by rw [h1, h2]
theorem tup2B_eq {a a' b b' : Int} {c c' : Bool} (h1 : a = a') (h2 : b = b') (h3 : c = c') : tup2B a b c = tup2B a' b' c' := by rw [h1, h2, h3]

/-- So many digits at most. -/
abbrev maxB0 : Nat := 1099511627776

def fitsS (v n : Int) : Bool := decide (0 ≤ n ∧ n ≤ 32 ∧ 0 ≤ v ∧ v < 2 ^ n.toNat)
theorem fitsS_iff (v n : Int) : fitsS v n = true ↔ (0 ≤ n ∧ n ≤ 32 ∧ 0 ≤ v ∧ v < 2 ^ n.toNat) := by simp [fitsS]
theorem fitsS_iff' (v n : Int) : fitsS v n = false ↔ ¬ (0 ≤ n ∧ n ≤ 32 ∧ 0 ≤ v ∧ v < 2 ^ n.toNat) := by simp [fitsS]
theorem pow_inN (n : Nat) (h : n ≤ 32) : 1 ≤ (2 : Int) ^ n ∧ (2 : Int) ^ n ≤ 4294967296 := by
  have h1 : 2 ^ 0 ≤ 2 ^ n := Nat.pow_le_pow_right (by omega) (Nat.zero_le n)
  have h2 : 2 ^ n ≤ 2 ^ 32 := Nat.pow_le_pow_right (by omega) h
  have h3 : (2 : Int) ^ n = ((2 ^ n : Nat) : Int) := by simp
  rw [h3]
  omega
theorem pow_in7 (n : Nat) (h : n ≤ 7) : 1 ≤ (2 : Int) ^ n ∧ (2 : Int) ^ n ≤ 128 := by
  have h1 : 2 ^ 0 ≤ 2 ^ n := Nat.pow_le_pow_right (by omega) (Nat.zero_le n)
  have h2 : 2 ^ n ≤ 2 ^ 7 := Nat.pow_le_pow_right (by omega) h
  have h3 : (2 : Int) ^ n = ((2 ^ n : Nat) : Int) := by simp
  rw [h3]
  omega
theorem pow_in (n : Int) (h : n ≤ 32) : 1 ≤ (2 : Int) ^ n.toNat ∧ (2 : Int) ^ n.toNat ≤ 4294967296 := pow_inN n.toNat (by omega)
def spFits : Spec := fun args _ => match args with
  | [.v (.c (.int .i64 v)), .v (.c (.int .i64 n))] => some ⟨True, bo (fitsS v n), [], []⟩
  | _ => none
def spPlain : Spec := fun args _ => match args with
  | [.v (.c (.str s))] => some ⟨s.size ≤ 1099511627776, bo (plainL (bl s)), [], []⟩
  | _ => none
def spNew (k : Nat) : Spec := fun args _ => match args with
  | [] => some ⟨True, pt 0, [.obj k []], []⟩
  | _ => none
def spBit (ku : Nat) : Spec := fun args lk => match args with
  | [.v (.c (.ptr id 0 0 0 0 0)), .v (.c (.bool b))] => match lk id with
    | some (.obj k bits) => some ⟨k = ku ∧ bits.length ≤ 1099511627776, .tup [], [], [(id, .obj k (bits ++ [b]))]⟩
    | _ => none
  | _ => none
def putE (v n : Int) : Int := if fitsS v n then 0 else 1
def putD (v n : Int) : List Bool := if fitsS v n then digits v n.toNat else []
theorem putD_length (v n : Int) : (putD v n).length ≤ 32 := by
  unfold putD
  split
  · rename_i h
    have := (fitsS_iff v n).1 h
    rw [digits_length]; omega
  · simp
def spPut (ku : Nat) : Spec := fun args lk => match args with
  | [.v (.c (.val (.pointer none))), .v (.c (.int .i64 v)), .v (.c (.int .i64 n))] => some ⟨True, i64 1, [], []⟩
  | [.v (.c (.ptr id 0 0 0 0 0)), .v (.c (.int .i64 v)), .v (.c (.int .i64 n))] => match lk id with
    | some (.obj k bits) => some ⟨k = ku ∧ bits.length + 64 ≤ 1099511627776, i64 (putE v n), [], [(id, .obj k (bits ++ putD v n))]⟩
    | _ => none
  | _ => none
def addE' (s : ByteArray) : Int := if plainL (bl s) then 0 else 1
def addD (s : ByteArray) : List Bool := if plainL (bl s) then bitsT (bl s) else []
theorem addD_length (s : ByteArray) : (addD s).length ≤ s.size := by
  unfold addD
  split
  · rw [bitsT_length, bl_length]; omega
  · simp
def spAdd (ku : Nat) : Spec := fun args lk => match args with
  | [.v (.c (.val (.pointer none))), .v (.c (.str s))] => some ⟨s.size ≤ 1099511627776, i64 1, [], []⟩
  | [.v (.c (.ptr id 0 0 0 0 0)), .v (.c (.str s))] => match lk id with
    | some (.obj k bits) => some ⟨k = ku ∧ bits.length + s.size + 64 ≤ 1099511627776, i64 (addE' s), [], [(id, .obj k (bits ++ addD s))]⟩
    | _ => none
  | _ => none
/-- How many noughts up to a byte's end. -/
def padN (n : Nat) : Nat := (8 - n % 8) % 8
theorem padN_in (n : Nat) : padN n ≤ 7 ∧ (n + padN n) % 8 = 0 := by unfold padN; omega
def spWFill : Spec := fun args lk => match args with
  | [.v (.c (.val (.pointer none)))] => some ⟨True, i64 0, [], []⟩
  | [.v (.c (.ptr id 0 0 0 0 0))] => match lk id with
    | some (.obj k bits) => some ⟨bits.length + 64 ≤ 1099511627776, i64 (padN bits.length : Nat), [], [(id, .obj k (bits ++ List.replicate (padN bits.length) false))]⟩
    | _ => none
  | _ => none
def spLen : Spec := fun args lk => match args with
  | [.v (.c (.val (.pointer none)))] => some ⟨True, i64 0, [], []⟩
  | [.v (.c (.ptr id 0 0 0 0 0))] => match lk id with
    | some (.obj k bits) => some ⟨bits.length ≤ 1099511627776, i64 (bits.length : Nat), [], [(id, .obj k bits)]⟩
    | _ => none
  | _ => none
def spText : Spec := fun args lk => match args with
  | [.v (.c (.val (.pointer none)))] => some ⟨True, st ⟨#[]⟩, [], []⟩
  | [.v (.c (.ptr id 0 0 0 0 0))] => match lk id with
    | some (.obj k bits) => some ⟨bits.length ≤ 1099511627776, st (bytesOf (packB bits)), [], [(id, .obj k bits)]⟩
    | _ => none
  | _ => none
/-- A row's text. -/
def rowT (l : List Bool) : ByteArray := bytesOf (txt l)
theorem rowT_size (l : List Bool) : (rowT l).size = l.length := by rw [rowT, bytesOf_size, txt_length]
theorem bl_rowT (l : List Bool) : bl (rowT l) = txt l := bl_bytesOf (txt_in l)
theorem rowT_append (a b : List Bool) : rowT a ++ rowT b = rowT (a ++ b) := by rw [rowT, rowT, rowT, txt_append, bytesOf_append]
theorem rowT_inj {a b : List Bool} (h : rowT a = rowT b) : a = b := by
  have := congrArg bl h
  rw [bl_rowT, bl_rowT] at this
  exact txt_inj this
theorem rowT_bits {s : ByteArray} (h : plainL (bl s) = true) : rowT (bitsT (bl s)) = s := by
  rw [rowT, txt_bitsT h, bytesOf_bl]
theorem rowT_extract (l : List Bool) (a b : Nat) : (rowT l).extract a b = rowT ((l.drop a).take (b - a)) := by
  apply bl_inj
  rw [bl_extract, bl_rowT, bl_rowT, txt_drop, txt_take]
theorem rowT_byte (l : List Bool) (i : Nat) (h : i < l.length) : byteI (rowT l) i = if l.getD i false then 49 else 48 := by
  rw [byteI_bl, bl_rowT, txt_getD _ _ h]
theorem rowT_nil : rowT [] = ⟨#[]⟩ := rfl

def spRow : Spec := fun args _ => match args with
  | [.v (.c (.int .i64 v)), .v (.c (.int .i64 n))] => some ⟨True, tupS (rowT (putD v n)) (putE v n), [], []⟩
  | _ => none
def spPack : Spec := fun args _ => match args with
  | [.v (.c (.str s))] => some ⟨s.size + 64 ≤ 1099511627776, tupS (bytesOf (packB (addD s))) (addE' s), [], []⟩
  | _ => none
def spShow : Spec := fun args _ => match args with
  | [.v (.c (.str s))] => some ⟨s.size + 64 ≤ 1099511627776, st (rowT (unpack (bl s))), [], []⟩
  | _ => none
def spRRow : Spec := fun args _ => match args with
  | [.v (.c (.int .i64 v)), .v (.c (.int .i64 n))] => some ⟨0 ≤ v ∧ 0 ≤ n ∧ n ≤ 32, st (rowT (digits v n.toNat)), [], []⟩
  | _ => none
def spRPack : Spec := fun args _ => match args with
  | [.v (.c (.str s))] => some ⟨plainL (bl s) = true ∧ s.size + 64 ≤ 1099511627776, st (bytesOf (packB (bitsT (bl s)))), [], []⟩
  | _ => none
def spNumber : Spec := fun args _ => match args with
  | [.v (.c (.str s))] => some ⟨plainL (bl s) = true ∧ s.size ≤ 32, i64 (numB (bitsT (bl s))), [], []⟩
  | _ => none

/-! ### readers -/
def tb (s : ByteArray) : List Bool := unpack (bl s)
theorem tb_length (s : ByteArray) : (tb s).length = 8 * s.size := by rw [tb, unpack_length, bl_length]
def rdOK (s : ByteArray) (at_ : Int) : Prop := 0 ≤ at_ ∧ at_ ≤ 8 * s.size ∧ s.size + 64 ≤ 1099511627776
def peekE (s : ByteArray) (at_ n : Int) : Int := if n < 0 ∨ 32 < n then 1 else if 8 * (s.size : Int) - at_ < n then 2 else 0
def peekV (s : ByteArray) (at_ n : Int) : Int := if n < 0 ∨ 32 < n then 0 else if 8 * (s.size : Int) - at_ < n then 0 else numB (((tb s).drop at_.toNat).take n.toNat)
theorem peekE_cases (s : ByteArray) (at_ n : Int) : ((n < 0 ∨ 32 < n) ∧ peekE s at_ n = 1 ∧ peekV s at_ n = 0) ∨ (0 ≤ n ∧ n ≤ 32 ∧ 8 * (s.size : Int) - at_ < n ∧ peekE s at_ n = 2 ∧ peekV s at_ n = 0) ∨
    (0 ≤ n ∧ n ≤ 32 ∧ n ≤ 8 * (s.size : Int) - at_ ∧ peekE s at_ n = 0 ∧ peekV s at_ n = numB (((tb s).drop at_.toNat).take n.toNat)) := by
  unfold peekE peekV
  by_cases h1 : n < 0 ∨ 32 < n
  · rw [if_pos h1, if_pos h1]; exact .inl ⟨h1, rfl, rfl⟩
  · rw [if_neg h1, if_neg h1]
    by_cases h2 : 8 * (s.size : Int) - at_ < n
    · rw [if_pos h2, if_pos h2]; exact .inr (.inl ⟨by omega, by omega, h2, rfl, rfl⟩)
    · rw [if_neg h2, if_neg h2]; exact .inr (.inr ⟨by omega, by omega, by omega, rfl, rfl⟩)
theorem peekV_in (s : ByteArray) (at_ n : Int) : 0 ≤ peekV s at_ n ∧ peekV s at_ n < 4294967296 := by
  rcases peekE_cases s at_ n with ⟨_, _, h⟩ | ⟨_, _, _, _, h⟩ | ⟨h1, h2, h3, _, h⟩
  · rw [h]; omega
  · rw [h]; omega
  · rw [h]
    have h4 := numB_in (((tb s).drop at_.toNat).take n.toNat)
    have h5 := pow_inN (((tb s).drop at_.toNat).take n.toNat).length (by rw [List.length_take]; omega)
    omega
abbrev rdE (own : Bool) (ty : TypeId) (s : ByteArray) (at_ : Int) : E := .mem own ty none (.flat [.cs [.str s, .int .i64 at_]])
def spRNew (kr : TypeId) : Spec := fun args _ => match args with
  | [.v (.c (.str s))] => some ⟨True, pt 0, [rdE true kr s 0], []⟩
  | _ => none
def spPeek : Spec := fun args lk => match args with
  | [.v (.c (.val (.pointer none))), .v (.c (.int .i64 n))] => some ⟨True, tup2 0 1, [], []⟩
  | [.v (.c (.ptr id 0 0 0 0 0)), .v (.c (.int .i64 n))] => match lk id with
    | some (.mem o ty none (.flat [.cs [.str s, .int .i64 p]])) => some ⟨rdOK s p, tup2 (peekV s p n) (peekE s p n), [], []⟩
    | _ => none
  | _ => none
def takeAt (s : ByteArray) (at_ n : Int) : Int := if peekE s at_ n = 0 then at_ + n else at_
theorem takeAt_ok {s : ByteArray} {at_ n : Int} (h : rdOK s at_) : rdOK s (takeAt s at_ n) := by
  unfold rdOK takeAt at *
  rcases peekE_cases s at_ n with ⟨_, h1, _⟩ | ⟨_, _, _, h1, _⟩ | ⟨_, _, _, h1, _⟩ <;> simp only [h1] <;> simp <;> omega
def spTake : Spec := fun args lk => match args with
  | [.v (.c (.val (.pointer none))), .v (.c (.int .i64 n))] => some ⟨True, tup2 0 1, [], []⟩
  | [.v (.c (.ptr id 0 0 0 0 0)), .v (.c (.int .i64 n))] => match lk id with
    | some (.mem true ty none (.flat [.cs [.str s, .int .i64 p]])) => some ⟨rdOK s p, tup2 (peekV s p n) (peekE s p n), [], [(id, rdE true ty s (takeAt s p n))]⟩
    | _ => none
  | _ => none
def padI (at_ : Int) : Int := (8 - at_ % 8) % 8
theorem padI_in {s : ByteArray} {at_ : Int} (h : rdOK s at_) : 0 ≤ padI at_ ∧ padI at_ ≤ 7 ∧ at_ + padI at_ ≤ 8 * s.size ∧ (at_ + padI at_) % 8 = 0 := by
  unfold padI; unfold rdOK at h; omega
def rfE (s : ByteArray) (at_ : Int) : Int := if peekV s at_ (padI at_) = 0 then 0 else 5
def rfV (s : ByteArray) (at_ : Int) : Int := if peekV s at_ (padI at_) = 0 then padI at_ else 0
theorem rf_ok {s : ByteArray} {at_ : Int} (h : rdOK s at_) : rdOK s (at_ + rfV s at_) := by
  have := padI_in h
  unfold rdOK rfV at *
  split <;> omega
def spRFill : Spec := fun args lk => match args with
  | [.v (.c (.val (.pointer none)))] => some ⟨True, tup2 0 1, [], []⟩
  | [.v (.c (.ptr id 0 0 0 0 0))] => match lk id with
    | some (.mem true ty none (.flat [.cs [.str s, .int .i64 p]])) => some ⟨rdOK s p, tup2 (rfV s p) (rfE s p), [], [(id, rdE true ty s (p + rfV s p))]⟩
    | _ => none
  | _ => none
def skE (s : ByteArray) (n : Int) : Int := if n < 0 ∨ 8 * (s.size : Int) < n then 1 else 0
def skA (s : ByteArray) (p n : Int) : Int := if n < 0 ∨ 8 * (s.size : Int) < n then p else n
theorem sk_ok {s : ByteArray} {p n : Int} (h : rdOK s p) : rdOK s (skA s p n) := by
  unfold rdOK skA at *
  split <;> omega
def spSeek : Spec := fun args lk => match args with
  | [.v (.c (.val (.pointer none))), .v (.c (.int .i64 n))] => some ⟨True, i64 1, [], []⟩
  | [.v (.c (.ptr id 0 0 0 0 0)), .v (.c (.int .i64 n))] => match lk id with
    | some (.mem true ty none (.flat [.cs [.str s, .int .i64 p]])) => some ⟨rdOK s p, i64 (skE s n), [], [(id, rdE true ty s (skA s p n))]⟩
    | _ => none
  | _ => none
def spAt : Spec := fun args lk => match args with
  | [.v (.c (.val (.pointer none)))] => some ⟨True, i64 0, [], []⟩
  | [.v (.c (.ptr id 0 0 0 0 0))] => match lk id with
    | some (.mem o ty none (.flat [.cs [.str s, .int .i64 p]])) => some ⟨rdOK s p, i64 p, [], []⟩
    | _ => none
  | _ => none
def spLeft : Spec := fun args lk => match args with
  | [.v (.c (.val (.pointer none)))] => some ⟨True, i64 0, [], []⟩
  | [.v (.c (.ptr id 0 0 0 0 0))] => match lk id with
    | some (.mem o ty none (.flat [.cs [.str s, .int .i64 p]])) => some ⟨rdOK s p, i64 (8 * (s.size : Int) - p), [], []⟩
    | _ => none
  | _ => none
def spRText : Spec := fun args lk => match args with
  | [.v (.c (.val (.pointer none)))] => some ⟨True, st ⟨#[]⟩, [], []⟩
  | [.v (.c (.ptr id 0 0 0 0 0))] => match lk id with
    | some (.mem o ty none (.flat [.cs [.str s, .int .i64 p]])) => some ⟨rdOK s p, st s, [], []⟩
    | _ => none
  | _ => none
end Go.X
