/- Strings as lists of bytes; digits; the iterator over a string. -/
import Derived.Test.YtgbeiogbppaogaaX32
import Derived.Lib.OthersKept
import Derived.Laws.RangeAny
import Derived.Lib.Strings
set_option linter.unusedVariables false
namespace Go.X

/-! ### bytes -/
theorem bl_length (s : ByteArray) : (bl s).length = s.size := by simp [bl]
theorem bl_in (s : ByteArray) : ∀ x ∈ bl s, 0 ≤ x ∧ x ≤ 255 := by
  intro x hx
  obtain ⟨b, _, rfl⟩ := List.mem_map.1 hx
  have := b.toNat_lt
  omega
theorem byteI_bl (s : ByteArray) (i : Nat) : byteI s i = (bl s).getD i 0 := by
  unfold byteI bl
  simp only [List.getD_eq_getElem?_getD, List.getElem?_map]
  cases s.data.toList[i]? <;> rfl
theorem byteI_in (s : ByteArray) (i : Nat) : 0 ≤ byteI s i ∧ byteI s i ≤ 255 := by
  unfold byteI
  have := (s.data.toList.getD i 0).toNat_lt
  omega
theorem bl_append (s t : ByteArray) : bl (s ++ t) = bl s ++ bl t := by
  simp [bl]
theorem bl_extract (s : ByteArray) (a b : Nat) : bl (s.extract a b) = ((bl s).drop a).take (b - a) := by
  unfold bl
  rw [← ByteArray.toList_eq, Lib.extract_toList]
  simp [List.map_take, List.map_drop]
theorem bl_bytesOf {xs : List Int} (h : ∀ x ∈ xs, 0 ≤ x ∧ x ≤ 255) : bl (bytesOf xs) = xs := by
  unfold bl bytesOf
  simp only [List.map_map]
  conv => rhs; rw [← List.map_id xs]
  apply List.map_congr_left
  intro x hx
  have := h x hx
  simp only [Function.comp, UInt8.toNat_ofNat', id_eq]
  omega
theorem bl_inj {s t : ByteArray} (h : bl s = bl t) : s = t := by
  have : s.data.toList = t.data.toList := by
    unfold bl at h
    exact List.map_inj_right (fun a b hab => UInt8.toNat_inj.1 (by omega)) |>.1 h
  cases s; cases t
  simp at this
  simp [this]
theorem bytesOf_bl (s : ByteArray) : bytesOf (bl s) = s := bl_inj (bl_bytesOf (bl_in s))
theorem bytesOf_append (xs ys : List Int) : bytesOf (xs ++ ys) = bytesOf xs ++ bytesOf ys := by
  unfold bytesOf
  apply ByteArray.ext
  simp
theorem bytesOf_nil : bytesOf [] = ⟨#[]⟩ := rfl
theorem strEq (s t : ByteArray) : decide (s.toList = t.toList) = decide (bl s = bl t) := by
  rw [decide_eq_decide, ByteArray.toList_eq, ByteArray.toList_eq]
  constructor
  · intro h; unfold bl; rw [h]
  · intro h; rw [bl_inj h]
theorem strEq_self (s : ByteArray) : decide (s.toList = s.toList) = true := by simp
theorem strEq_of {s t : ByteArray} (h : s = t) : decide (s.toList = t.toList) = true := by rw [h]; simp

/-! ### digits -/
def digits (v : Int) : Nat → List Bool
  | 0 => []
  | n + 1 => digits (v / 2) n ++ [decide (v % 2 = 1)]
theorem digits_length (v : Int) : ∀ n, (digits v n).length = n := by
  intro n
  induction n generalizing v with
  | zero => rfl
  | succ n ih => simp [digits, ih]
def numB (l : List Bool) : Int := l.foldl (fun a b => 2 * a + b.toInt) 0
theorem numB_snoc (l : List Bool) (b : Bool) : numB (l ++ [b]) = 2 * numB l + b.toInt := by simp [numB]
theorem snocB {p : List Bool → Prop} (h0 : p []) (h1 : ∀ l b, p l → p (l ++ [b])) (l : List Bool) : p l := by
  have : ∀ m : List Bool, p m.reverse := by
    intro m
    induction m with
    | nil => exact h0
    | cons b m ih => simpa using h1 _ b ih
  simpa using this l.reverse
theorem numB_in (l : List Bool) : 0 ≤ numB l ∧ numB l < 2 ^ l.length := by
  induction l using snocB with
  | h0 => simp [numB]
  | h1 l b ih =>
    rw [numB_snoc, List.length_append]
    have := bool_in b
    simp only [List.length_cons, List.length_nil, Nat.zero_add, Int.pow_succ]
    omega
theorem numB_digits (v : Int) (n : Nat) (h0 : 0 ≤ v) (h : v < 2 ^ n) : numB (digits v n) = v := by
  induction n generalizing v with
  | zero => simp only [Int.pow_zero] at h; simp [digits, numB]; omega
  | succ n ih =>
    simp only [Int.pow_succ] at h
    rw [digits, numB_snoc, ih (v / 2) (by omega) (by omega)]
    rcases (by omega : v % 2 = 0 ∨ v % 2 = 1) with h | h <;> simp [h, Bool.toInt] <;> omega
theorem digits_numB (l : List Bool) : digits (numB l) l.length = l := by
  induction l using snocB with
  | h0 => rfl
  | h1 l b ih =>
    have hb := bool_in b
    rw [List.length_append, numB_snoc]
    simp only [List.length_cons, List.length_nil, Nat.zero_add, digits]
    rw [show (2 * numB l + b.toInt) / 2 = numB l by omega, ih]
    congr 1
    have : (2 * numB l + b.toInt) % 2 = b.toInt := by omega
    rw [this]
    cases b <;> simp [Bool.toInt]
theorem digits_succ (v : Int) (n : Nat) : digits v (n + 1) = decide (v / 2 ^ n % 2 = 1) :: digits v n := by
  induction n generalizing v with
  | zero => simp [digits]
  | succ n ih =>
    rw [digits, ih (v / 2)]
    show decide (v / 2 / 2 ^ n % 2 = 1) :: (digits (v / 2) n ++ [decide (v % 2 = 1)]) = _
    rw [show digits v (n + 1) = digits (v / 2) n ++ [decide (v % 2 = 1)] from rfl]
    congr 3
    rw [Int.ediv_ediv, if_neg (by omega), Int.sub_zero, Int.pow_succ, Int.mul_comm]
/-- Digits from the highest one on. -/
theorem digits_split (v : Int) (n i : Nat) (h : i < n) : digits v n = (digits v n).take (n - (i + 1)) ++ decide (v / 2 ^ i % 2 = 1) :: digits v i := by
  have key : ∀ m, ∃ l, l.length = m ∧ digits v (m + (i + 1)) = l ++ digits v (i + 1) := by
    intro m
    induction m with
    | zero => exact ⟨[], rfl, by simp⟩
    | succ m ih =>
      obtain ⟨l, h1, h2⟩ := ih
      refine ⟨decide (v / 2 ^ (m + (i + 1)) % 2 = 1) :: l, by simp [h1], ?_⟩
      rw [show m + 1 + (i + 1) = (m + (i + 1)) + 1 by omega, digits_succ, h2, List.cons_append]
  obtain ⟨l, h1, h2⟩ := key (n - (i + 1))
  rw [show n - (i + 1) + (i + 1) = n by omega] at h2
  rw [h2, List.take_append_of_le_length (by omega), List.take_of_length_le (by omega), digits_succ]

/-- A row's text, and the digits of a text that is a row. -/
def txt (l : List Bool) : List Int := l.map fun b => if b then 49 else 48
def bitsT (l : List Int) : List Bool := l.map fun c => decide (c = 49)
def plainL (l : List Int) : Bool := l.all fun c => decide (c = 48) || decide (c = 49)
theorem txt_in (l : List Bool) : ∀ x ∈ txt l, 0 ≤ x ∧ x ≤ 255 := by
  intro x hx
  obtain ⟨b, _, rfl⟩ := List.mem_map.1 hx
  cases b <;> simp
theorem txt_length (l : List Bool) : (txt l).length = l.length := by simp [txt]
theorem bitsT_length (l : List Int) : (bitsT l).length = l.length := by simp [bitsT]
theorem bitsT_txt (l : List Bool) : bitsT (txt l) = l := by
  unfold bitsT txt
  rw [List.map_map]
  conv => rhs; rw [← List.map_id l]
  apply List.map_congr_left
  intro b _
  cases b <;> simp
theorem txt_bitsT {l : List Int} (h : plainL l = true) : txt (bitsT l) = l := by
  unfold bitsT txt
  rw [List.map_map]
  conv => rhs; rw [← List.map_id l]
  apply List.map_congr_left
  intro c hc
  have := List.all_eq_true.1 h c hc
  simp only [Bool.or_eq_true, decide_eq_true_eq] at this
  rcases this with rfl | rfl <;> simp
theorem plainL_txt (l : List Bool) : plainL (txt l) = true := by
  unfold plainL txt
  rw [List.all_eq_true]
  intro c hc
  obtain ⟨b, _, rfl⟩ := List.mem_map.1 hc
  cases b <;> simp
theorem txt_append (a b : List Bool) : txt (a ++ b) = txt a ++ txt b := by simp [txt]
theorem txt_inj {a b : List Bool} (h : txt a = txt b) : a = b := by rw [← bitsT_txt a, h, bitsT_txt]
theorem txt_take (a : List Bool) (n : Nat) : (txt a).take n = txt (a.take n) := by simp [txt, List.map_take]
theorem txt_drop (a : List Bool) (n : Nat) : (txt a).drop n = txt (a.drop n) := by simp [txt, List.map_drop]
theorem txt_getD (a : List Bool) (n : Nat) (h : n < a.length) : (txt a).getD n 0 = if a.getD n false then 49 else 48 := by
  simp [txt, List.getD_eq_getElem?_getD, List.getElem?_eq_getElem h]

/-- The digits of bytes. -/
def unpack (xs : List Int) : List Bool := xs.flatMap fun x => digits x 8
theorem unpack_length (xs : List Int) : (unpack xs).length = 8 * xs.length := by
  induction xs with
  | nil => rfl
  | cons x xs ih => simp only [unpack, List.flatMap_cons, List.length_append, digits_length, List.length_cons] at *; omega
theorem unpack_append (xs ys : List Int) : unpack (xs ++ ys) = unpack xs ++ unpack ys := by simp [unpack]
theorem unpack_drop (xs : List Int) : ∀ i, (unpack xs).drop (8 * i) = unpack (xs.drop i) := by
  intro i
  induction i generalizing xs with
  | zero => simp
  | succ i ih =>
    cases xs with
    | nil => simp [unpack]
    | cons x xs =>
      rw [List.drop_succ_cons, ← ih xs]
      show List.drop (8 * (i + 1)) (digits x 8 ++ unpack xs) = _
      rw [List.drop_append, digits_length, List.drop_eq_nil_of_le (by rw [digits_length]; omega), show 8 * (i + 1) - 8 = 8 * i by omega, List.nil_append]
theorem digits_getD (v : Int) (n i : Nat) (h : i < n) : (digits v n).getD i false = decide (v / 2 ^ (n - 1 - i) % 2 = 1) := by
  have h1 := digits_split v n (n - 1 - i) (by omega)
  rw [h1, List.getD_eq_getElem?_getD, List.getElem?_append_right (by rw [List.length_take, digits_length]; omega), List.length_take, digits_length, show i - min (n - (n - 1 - i + 1)) n = 0 by omega]
  simp
theorem unpack_getD (xs : List Int) (j : Nat) (h : j < 8 * xs.length) : (unpack xs).getD j false = decide (xs.getD (j / 8) 0 / 2 ^ (7 - j % 8) % 2 = 1) := by
  have h1 := unpack_drop xs (j / 8)
  have h2 : j / 8 < xs.length := by omega
  rw [List.getD_eq_getElem?_getD, show j = 8 * (j / 8) + j % 8 by omega, ← List.getElem?_drop, h1, List.drop_eq_getElem_cons h2]
  show ((digits xs[j / 8] 8 ++ unpack _)[j % 8]?).getD false = _
  rw [List.getElem?_append_left (by rw [digits_length]; omega), ← List.getD_eq_getElem?_getD, digits_getD _ _ _ (by omega)]
  rw [show (8 * (j / 8) + j % 8) / 8 = j / 8 by omega, show (8 * (j / 8) + j % 8) % 8 = j % 8 by omega, List.getD_eq_getElem?_getD, List.getElem?_eq_getElem h2]
  rfl

theorem numB8 (l : List Bool) (h : l.length = 8) : numB l = (l.getD 0 false).toInt * 128 + (l.getD 1 false).toInt * 64 + (l.getD 2 false).toInt * 32 + (l.getD 3 false).toInt * 16 + (l.getD 4 false).toInt * 8 + (l.getD 5 false).toInt * 4 + (l.getD 6 false).toInt * 2 + (l.getD 7 false).toInt := by
  match l, h with
  | [a, b, c, d, e, f, g, i], _ =>
    simp [numB]
    omega
/-- Eight digits at a place, noughts behind the last. -/
def octet (bits : List Bool) (i : Nat) : List Bool := ((bits ++ List.replicate 8 false).drop (8 * i)).take 8
theorem byteAt_num (bits : List Bool) (i : Nat) (h : 8 * i ≤ bits.length) : byteAt bits i = numB (octet bits i) := by
  have hl : (octet bits i).length = 8 := by simp [octet]; omega
  rw [numB8 _ hl]
  have key : ∀ k, k < 8 → (octet bits i).getD k false = bits.getD (8 * i + k) false := by
    intro k hk
    unfold octet
    rw [List.getD_eq_getElem?_getD, List.getElem?_take_of_lt hk, List.getElem?_drop, List.getD_eq_getElem?_getD]
    rcases Nat.lt_or_ge (8 * i + k) bits.length with hb | hb
    · rw [List.getElem?_append_left hb]
    · rw [List.getElem?_append_right hb, List.getElem?_eq_none hb, List.getElem?_replicate]
      split <;> rfl
  rw [key 0 (by omega), key 1 (by omega), key 2 (by omega), key 3 (by omega), key 4 (by omega), key 5 (by omega), key 6 (by omega), key 7 (by omega)]
  rfl
theorem unpack_packB (bits : List Bool) : unpack (packB bits) = bits ++ List.replicate ((8 - bits.length % 8) % 8) false := by
  have gen : ∀ n, 8 * n ≤ bits.length + 7 → unpack ((List.range n).map (byteAt bits)) = (bits ++ List.replicate 8 false).take (8 * n) := by
    intro n hn
    induction n with
    | zero => simp [unpack]
    | succ n ih =>
      rw [List.range_succ, List.map_append, unpack_append, ih (by omega)]
      have : unpack (List.map (byteAt bits) [n]) = octet bits n := by
        show digits (byteAt bits n) 8 ++ [] = _
        have hl : (octet bits n).length = 8 := by simp [octet]; omega
        rw [List.append_nil, byteAt_num _ _ (by omega)]
        have := digits_numB (octet bits n)
        rwa [hl] at this
      rw [this, octet, show 8 * (n + 1) = 8 * n + 8 by omega, List.take_add]
  have := gen ((bits.length + 7) / 8) (by omega)
  unfold packB
  rw [this, List.take_append, List.take_of_length_le (by omega), List.take_replicate]
  congr 2
  omega
theorem byteAt_append (a b : List Bool) (i : Nat) (h : 8 * i + 8 ≤ a.length) : byteAt (a ++ b) i = byteAt a i := by
  have : ∀ k, k < 8 → (a ++ b).getD (8 * i + k) false = a.getD (8 * i + k) false := fun k hk => by
    rw [List.getD_eq_getElem?_getD, List.getElem?_append_left (by omega), List.getD_eq_getElem?_getD]
  unfold byteAt
  have h0 := this 0 (by omega)
  rw [Nat.add_zero] at h0
  rw [h0, this 1 (by omega), this 2 (by omega), this 3 (by omega), this 4 (by omega), this 5 (by omega), this 6 (by omega), this 7 (by omega)]

/-! ### the iterator -/
section
variable {X : Ctx} {ε : Env} {σ : Sig} {a : Act} {w : World} {o : Oper} {Q : Exit → Act → World → Prop}

theorem Tab.iterOn {bl bl' : Blks} {nxt : Nat} {id : Nat} {s : ByteArray} {pos pos' : Nat} (h : Tab X ε bl nxt w) (hl : look bl id = some (.iter s pos)) (hu : upd bl id (.iter s pos') = some bl') :
    Tab X ε bl' nxt (w.iterAt (ε.f id).blk s pos') := by
  obtain ⟨h1, h2, h3, h4⟩ := h.ent id _ hl
  refine h.turn (e' := .iter s pos') hl rfl rfl (fun b hb => hb) hu (fun b _ hb => Lib.iterAt_other _ _ _ _ _ (fun e => hb (by simp [owned, e]))) (by rw [Lib.iterAt_size]; exact Nat.le_refl _) rfl rfl rfl ⟨h2, h3, Lib.iterAt_heap _ _ _ _ _ h4⟩

/-- A step of an iterator over a string: there is a rune, or it is over. -/
theorem rSLNext {ops rest : List Oper} {x : Operand} {q : Prop} {id pos d : Nat} {s : ByteArray} {bl' : Blks} {r : Regs} {o : Oper} (hk : constB x = true) (hdn : Nat.blt d X.nt = true) (ho : o.op = .next x true) (hg : o.guard = none) (hd : o.dst = some d)
    (hx : evC σ.regs x = some (q, .ptr id 0 0 0 0 0)) (hq : q) (hl : look σ.blks id = some (.iter s pos)) (hs : (s.size : Int) ≤ 9223372036854775807) (hr : del σ.regs d = some r) (hu : upd σ.blks id (.iter s (pos + (Utf8.decode s pos).2)) = some bl')
    (h1 : pos < s.size → SL X ops Q rest ε ⟨(d, .tup [.c (.bool true), .c (.int .i64 pos), .c (.int .i32 (Utf8.decode s pos).1)]) :: r, bl', σ.nxt⟩)
    (h0 : ¬ pos < s.size → SL X ops Q rest ε ⟨(d, .tup [.c (.bool false)]) :: r, σ.blks, σ.nxt⟩) : SL X ops Q (o :: rest) ε σ := by
  intro ε' a w hle hh
  have hdd : dstB X.nt o = true := by unfold dstB; rw [hd]; exact hdn
  obtain ⟨hid, hnil, hxv⟩ := evC_rel hh hx (constB_ok hk) hq
  obtain ⟨g1, g2, g3, g4⟩ := hh.tab.ent id _ hl
  rw [g3] at hxv
  simp only [Nat.add_zero, Nat.mul_zero] at hxv
  refine wpList_step fun K hK => ?_
  rw [if_pos (wanted_none hg _)]
  by_cases hp : pos < s.size
  · refine wp_value (x := .tuple #[.bool true, .int .i64 pos, .int .i32 (Utf8.decode s pos).1]) (w' := w.iterAt (ε'.f id).blk s (pos + (Utf8.decode s pos).2)) ?_ (hK _ _ (h1 hp ε' _ _ hle ?_))
    · unfold execOp
      simp only [ho, hxv, Sem.run_bind, Lib.run_next_any_at w _ s pos _ g4 hp, Result.andThen_ok, Sem.run_pure]
    · refine hh.put hdd (EnvLe.refl _) (v := .tup [.c (.bool true), .c (.int .i64 pos), .c (.int .i32 (Utf8.decode s pos).1)]) ⟨_, rfl, rfl, ⟨rfl, ?_⟩, ⟨rfl, ?_⟩, trivial⟩ (hh.tab.iterOn hl hu) (by unfold setR; rw [hd]; simp only [hr])
      · simp only [inK]; omega
      · have := decode_le s pos
        simp only [inK]; omega
  · refine wp_value (x := .tuple #[.bool false]) (w' := w) ?_ (hK _ _ (h0 hp ε' _ _ hle ?_))
    · unfold execOp
      simp only [ho, hxv, Sem.run_bind, Lib.run_next_end_at w _ s pos _ g4 hp, Result.andThen_ok, Sem.run_pure]
    · exact hh.put hdd (EnvLe.refl _) (v := .tup [.c (.bool false)]) ⟨_, rfl, rfl, trivial⟩ hh.tab (by unfold setR; rw [hd]; simp only [hr])

theorem decode_plain {s : ByteArray} {pos : Nat} (h : pos < s.size) (hb : byteI s pos < 128) : ((Utf8.decode s pos).1 : Int) = byteI s pos ∧ (Utf8.decode s pos).2 = 1 := by
  have e : byteI s pos = ((s[pos]'h).toNat : Int) := by
    unfold byteI
    rw [List.getD_eq_getElem?_getD, List.getElem?_eq_getElem (by simpa using h)]
    rfl
  rw [e] at hb ⊢
  rw [decode_ascii s pos h (by omega)]
  exact ⟨rfl, rfl⟩
theorem decode_other {s : ByteArray} {pos : Nat} (h : pos < s.size) (hb : 128 ≤ byteI s pos) : 128 ≤ ((Utf8.decode s pos).1 : Int) := by
  have e : byteI s pos = ((s[pos]'h).toNat : Int) := by
    unfold byteI
    rw [List.getD_eq_getElem?_getD, List.getElem?_eq_getElem (by simpa using h)]
    rfl
  rw [e] at hb
  have := (decode_high s pos h (by omega)).1
  omega
end
end Go.X
