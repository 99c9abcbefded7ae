/- Loops whose places change from round to round; nil slices as empty rows. -/
import Derived.Test.YtgbeiogbppaogaaX35
set_option linter.unusedVariables false
namespace Go.X

def idsOK (ρ : Nat → Nat) (m nxt : Nat) : Nat → Bool
  | 0 => true
  | n + 1 => (match Nat.blt n m with | true => Nat.beq (ρ n) n | false => true) && (Nat.blt (ρ n) nxt && idsOK ρ m nxt n)
theorem idsOK_ok {ρ : Nat → Nat} {m nxt : Nat} : ∀ {n : Nat}, idsOK ρ m nxt n = true → ∀ i, i < n → (i < m → ρ i = i) ∧ ρ i < nxt
  | 0, _, i, h => by omega
  | n + 1, h, i, hi => by
    simp only [idsOK, Bool.and_eq_true] at h
    obtain ⟨h1, h2, h3⟩ := h
    by_cases e : i = n
    · subst e
      refine ⟨fun hm => ?_, blt_true h2⟩
      rw [show Nat.blt i m = true from Nat.ble_eq_true_of_le hm] at h1
      exact Nat.eq_of_beq_eq_true h1
    · exact idsOK_ok h3 i (by omega)
def keysOK (ρ : Nat → Nat) (ks : List Nat) : Bool := allB (fun i => allB (fun j => Nat.beq i j || !Nat.beq (ρ i) (ρ j)) ks) ks
theorem keysOK_ok {ρ : Nat → Nat} {ks : List Nat} (h : keysOK ρ ks = true) {i j : Nat} (hi : i ∈ ks) (hj : j ∈ ks) (hne : i ≠ j) : ρ i ≠ ρ j := by
  have := allB_mem (allB_mem h i hi) j hj
  simp only [Bool.or_eq_true, Bool.not_eq_true'] at this
  rcases this with h | h
  · exact absurd (Nat.eq_of_beq_eq_true h) hne
  · intro e
    rw [e, Nat.beq_refl] at h
    cases h
theorem look_key {α : Type} : ∀ {l : List (Nat × α)} {i : Nat} {x : α}, look l i = some x → i ∈ l.map (·.1)
  | [], _, _, h => by simp [look] at h
  | (k, y) :: l, i, x, h => by
    rw [look_cons] at h
    by_cases e : i = k
    · simp [e]
    · rw [if_neg e] at h
      simp [look_key h]
theorem look_mapV {ρ : Nat → Nat} : ∀ {r : Regs} {s : Nat} {v : SV}, look r s = some v → look (r.map fun q => (q.1, mapV ρ q.2)) s = some (mapV ρ v)
  | [], _, _, h => by simp [look] at h
  | (k, y) :: l, i, x, h => by
    rw [look_cons] at h
    rw [List.map_cons, look_cons]
    by_cases e : i = k
    · rw [if_pos e] at h ⊢; injection h with h; rw [h]
    · rw [if_neg e] at h ⊢; exact look_mapV h
theorem look_mapE {ρ : Nat → Nat} : ∀ {r : Blks} {s : Nat} {v : E}, (∀ i ∈ r.map (·.1), i ≠ s → ρ i ≠ ρ s) → look r s = some v → look (r.map fun q => (ρ q.1, mapE ρ q.2)) (ρ s) = some (mapE ρ v)
  | [], _, _, _, h => by simp [look] at h
  | (k, y) :: l, i, x, hinj, h => by
    rw [look_cons] at h
    rw [List.map_cons, look_cons]
    by_cases e : i = k
    · rw [if_pos e] at h; rw [if_pos (by rw [e])]; injection h with h; rw [h]
    · rw [if_neg e] at h
      rw [if_neg (fun he => hinj k (by simp) (fun h => e h.symm) he.symm)]
      exact look_mapE (fun j hj => hinj j (by simp [hj])) h

section
variable {X : Ctx} {ε : Env} {σ : Sig} {a : Act} {w : World} {Q : Exit → Act → World → Prop}

/-- The same places, under other numbers. -/
theorem Holds.rename {ε' : Env} {s : Sig} (ρ : Nat → Nat) (h : Holds X ε' ⟨s.regs.map (fun q => (q.1, mapV ρ q.2)), s.blks.map (fun q => (ρ q.1, mapE ρ q.2)), σ.nxt⟩ a w) (hids : ∀ i, i < s.nxt → ρ i < σ.nxt) (hk : keysOK ρ (s.blks.map (·.1)) = true)
    (hr : inRegs (fun k => Nat.blt k s.nxt) s.regs = true) (hb : inBlks (fun k => Nat.blt k s.nxt) s.blks) : Holds X ⟨s.nxt, fun i => ε'.f (ρ i)⟩ s a w := by
  have hn : σ.nxt = ε'.n := h.tab.nxt
  have hE : EMap (fun k => Nat.blt k s.nxt) ρ ⟨s.nxt, fun i => ε'.f (ρ i)⟩ ε' := fun i hi => by
    have hi := blt_true hi
    have := hids i hi
    exact ⟨⟨fun _ => by omega, fun _ => hi⟩, rfl, rfl, rfl, rfl⟩
  have hlk : ∀ {i e}, look s.blks i = some e → look (s.blks.map fun q => (ρ q.1, mapE ρ q.2)) (ρ i) = some (mapE ρ e) := fun {i e} he =>
    look_mapE (fun j hj hne => keysOK_ok hk hj (look_key he) hne) he
  refine ⟨h.defers, h.size, fun t v hv => ?_, rfl, fun i e he => ?_, fun i j e e' hi hj hne ho b hb' => ?_, h.tab.keep, fun i e he ho b hb' => ?_⟩
  · exact (RelV.map hE (inRegs_look hr hv)).2 (h.regs t _ (look_mapV hv))
  · obtain ⟨h1, h2⟩ := inBlks_look hb he
    exact ⟨blt_true h1, (RelE.map hE h2).2 (h.tab.ent _ _ (hlk he)).2⟩
  · have := h.tab.sep _ _ _ _ (hlk hi) (hlk hj) (keysOK_ok hk (look_key hi) (look_key hj) hne) (by rw [mapE_own]; exact ho) b (by rw [mapE_owned]; exact hb')
    rw [mapE_owned] at this
    exact this
  · exact h.tab.mine _ _ (hlk he) (by rw [mapE_own]; exact ho) b (by rw [mapE_owned]; exact hb')

/-- The end of a round, its places told anew. -/
theorem rAgainR (ρ : Nat → Nat) (m0 : Nat) {ι : Type} {I : ι → Sig} {m : ι → Nat} {n : Nat} (j : ι) (hm : m j < n) (hm0 : ε.n ≤ m0) (hN : ε.n ≤ (I j).nxt) (hids : idsOK ρ m0 σ.nxt (I j).nxt = true) (hk : keysOK ρ ((I j).blks.map (·.1)) = true)
    (hri : inRegs (fun k => Nat.blt k (I j).nxt) (I j).regs = true) (hbi : inBlks (fun k => Nat.blt k (I j).nxt) (I j).blks)
    (hr : RLe σ.regs ((I j).regs.map fun q => (q.1, mapV ρ q.2))) (hb : BLe σ.blks ((I j).blks.map fun q => (ρ q.1, mapE ρ q.2))) : SQ X (Exit.then (Again X I m n ε) Q) .normal ε σ := fun ε' a w hle' hh => by
  have h1 : Holds X ε' ⟨(I j).regs.map (fun q => (q.1, mapV ρ q.2)), (I j).blks.map (fun q => (ρ q.1, mapE ρ q.2)), σ.nxt⟩ a w := hh.le ⟨hr, hb, rfl⟩
  have hid := idsOK_ok hids
  refine ⟨j, ⟨(I j).nxt, fun i => ε'.f (ρ i)⟩, hm, ?_, Holds.rename ρ h1 (fun i hi => (hid i hi).2) hk hri hbi⟩
  have key : ∀ i, i < ε.n → ρ i = i := fun i hi => (hid i (by omega)).1 (by omega)
  exact ⟨hN, fun i hi => by show (ε'.f (ρ i)).blk = _; rw [key i hi]; exact hle'.blk i hi, fun i hi => by show (ε'.f (ρ i)).off = _; rw [key i hi]; exact hle'.off i hi,
    fun i hi => by show (ε'.f (ρ i)).cap = _; rw [key i hi]; exact hle'.cap i hi, fun i hi => by show (ε'.f (ρ i)).isnil = _; rw [key i hi]; exact hle'.nil i hi⟩

/-- What the places of the begin say of their number. -/
theorem rCount {c : Code} (h : ε.n ≤ σ.nxt → SW X c Q ε σ) : SW X c Q ε σ := fun ε' a w hle hh => by
  have h1 := hh.tab.nxt
  have h2 := hle.n
  exact h (by omega) ε' a w hle hh

/-- A nil slice is an empty row. -/
theorem Holds.nilRow {s ty sz : Nat} {b : Body} {r : Regs} (hbd : ∀ ε, RelB ε b []) (hl : look σ.regs s = some (.v (.c (.val (.slice none 0 0))))) (hr : upd σ.regs s (.v (.c (.sl σ.nxt 0 0 sz))) = some r) (h : Holds X ε σ a w) :
    Holds X (ε.push ⟨0, 0, 0, true, []⟩) ⟨r, (σ.nxt, .mem true ty (some sz) b) :: σ.blks, σ.nxt + 1⟩ a w := by
  have hn : σ.nxt = ε.n := h.tab.nxt
  have hle := EnvLe.push ε ⟨0, 0, 0, true, []⟩
  have hnew : (ε.push ⟨0, 0, 0, true, []⟩).f σ.nxt = ⟨0, 0, 0, true, []⟩ := by
    show (if σ.nxt = ε.n then _ else _) = _
    rw [if_pos hn]
  have hold : ∀ {i e}, look σ.blks i = some e → i < ε.n ∧ i ≠ σ.nxt ∧ (ε.push ⟨0, 0, 0, true, []⟩).f i = ε.f i := fun {i e} he => by
    have := (h.tab.ent i e he).1
    exact ⟨this, by omega, ε.push_old _ this⟩
  refine ⟨h.defers, h.size, fun t v hv => ?_, by show σ.nxt + 1 = ε.n + 1; omega, fun i e he => ?_, fun i j e f he hf hne ho b' hb hb' => ?_, h.tab.keep, fun i e he ho b' hb => ?_⟩
  · rw [look_upd hr] at hv
    by_cases e : t = s
    · rw [if_pos e] at hv
      injection hv with hv
      subst hv e
      obtain ⟨hx, _⟩ := h.regs t _ hl
      refine ⟨by show σ.nxt < ε.n + 1; omega, by omega, .inl ⟨by rw [hnew], hx, rfl⟩⟩
    · rw [if_neg e] at hv
      exact (h.regs t v hv).mono hle
  · rw [look_cons] at he
    by_cases e' : i = σ.nxt
    · rw [if_pos e'] at he
      injection he with he
      subst he e'
      refine ⟨by show σ.nxt < ε.n + 1; omega, ?_⟩
      rw [hnew]
      exact ⟨fun _ => ⟨hbd _, rfl⟩, fun hh => by cases hh⟩
    · rw [if_neg e'] at he
      obtain ⟨h1, h2, h3⟩ := hold he
      rw [h3]
      exact ⟨by show i < ε.n + 1; omega, (h.tab.ent i e he).2.mono hle⟩
  · rw [look_cons] at he hf
    by_cases ei : i = σ.nxt
    · rw [if_pos ei] at he
      injection he with he
      subst he ei
      rw [hnew] at hb
      simp [owned] at hb
    · rw [if_neg ei] at he
      rw [(hold he).2.2] at hb
      by_cases ej : j = σ.nxt
      · rw [if_pos ej] at hf
        injection hf with hf
        subst hf ej
        rw [hnew] at hb'
        simp [owned] at hb'
      · rw [if_neg ej] at hf
        rw [(hold hf).2.2] at hb'
        exact h.tab.sep i j e f he hf hne ho b' hb hb'
  · rw [look_cons] at he
    by_cases ei : i = σ.nxt
    · rw [if_pos ei] at he
      injection he with he
      subst he ei
      rw [hnew] at hb
      simp [owned] at hb
    · rw [if_neg ei] at he
      rw [(hold he).2.2] at hb
      exact h.tab.mine i e he ho b' hb
theorem rNilRow (s ty sz : Nat) (b : Body) {c : Code} {r : Regs} (hbd : ∀ ε, RelB ε b []) (hl : look σ.regs s = some (.v (.c (.val (.slice none 0 0))))) (hr : upd σ.regs s (.v (.c (.sl σ.nxt 0 0 sz))) = some r)
    (h : SW X c Q ε ⟨r, (σ.nxt, .mem true ty (some sz) b) :: σ.blks, σ.nxt + 1⟩) : SW X c Q ε σ := fun ε' a w hle hh => h _ a w (hle.trans (EnvLe.push _ _)) (hh.nilRow hbd hl hr)
theorem nil_ints (k : IntKind) : ∀ ε, RelB ε (.flat [.ints 0 k []]) [] := fun ε => ⟨[], [], rfl, ⟨rfl, rfl, by simp⟩, rfl⟩
theorem nil_rows (sz : Nat) (f : Nat → List S0) : ∀ ε, RelB ε (.rows 0 sz f) [] := fun ε => ⟨by simp, fun i hi => by omega⟩

theorem rNormal {fn : Func} {ε0 : Env} {m : Nat} {ι : Nat → Nat} {lb : Blks} {r : Res} (h : SQ X (Post X fn ε0 m ι lb r) .ret ε σ) : SQ X (Post X fn ε0 m ι lb r) .normal ε σ := h

/-! ### for the texts -/
theorem and_one (x : Int) (h : 0 ≤ x) : ((x.toNat &&& (1 : Int).toNat : Nat) : Int) = x % 2 := by
  rw [show (1 : Int).toNat = 1 from rfl, Nat.and_one_is_mod]; omega
theorem shr_in (v : Int) (k : Nat) (h : 0 ≤ v) : 0 ≤ v / 2 ^ k ∧ v / 2 ^ k ≤ v := ⟨Int.ediv_nonneg h (Int.le_of_lt (Int.pow_pos (by omega))), Int.ediv_le_self _ h⟩
theorem rune_cases (s : ByteArray) (i : Nat) : ¬ i < s.size ∨ ((byteI s i = 48 ∨ byteI s i = 49) ∧ ((Utf8.decode s i).1 : Int) = byteI s i ∧ (Utf8.decode s i).2 = 1) ∨ (byteI s i ≠ 48 ∧ byteI s i ≠ 49 ∧ ((Utf8.decode s i).1 : Int) ≠ 48 ∧ ((Utf8.decode s i).1 : Int) ≠ 49) := by
  by_cases h : i < s.size
  · right
    by_cases hb : byteI s i < 128
    · obtain ⟨h1, h2⟩ := decode_plain h hb
      omega
    · have := decode_other h (by omega)
      omega
  · exact .inl h
theorem plain_step {s : ByteArray} {i : Nat} (h : i < s.size) : plainL ((bl s).take (i + 1)) = (plainL ((bl s).take i) && (decide (byteI s i = 48) || decide (byteI s i = 49))) := by
  have hl : i < (bl s).length := by rw [bl_length]; exact h
  rw [← List.take_append_getElem hl, byteI_bl, List.getD_eq_getElem?_getD, List.getElem?_eq_getElem hl]
  unfold plainL
  rw [List.all_append]
  simp
theorem plain_all {s : ByteArray} {i : Nat} (h : s.size ≤ i) : (bl s).take i = bl s := List.take_of_length_le (by rw [bl_length]; exact h)
theorem plain_bad {s : ByteArray} {i : Nat} (h : i < s.size) (h1 : byteI s i ≠ 48) (h2 : byteI s i ≠ 49) : plainL (bl s) = false := by
  have hl : i < (bl s).length := by rw [bl_length]; exact h
  rw [byteI_bl, List.getD_eq_getElem?_getD, List.getElem?_eq_getElem hl] at h1 h2
  unfold plainL
  rw [List.all_eq_false]
  exact ⟨_, List.getElem_mem hl, by simpa using ⟨h1, h2⟩⟩
theorem plain_at {s : ByteArray} (h : plainL (bl s) = true) {i : Nat} (hi : i < s.size) : byteI s i = 48 ∨ byteI s i = 49 := by
  rcases Decidable.em (byteI s i = 48 ∨ byteI s i = 49) with h' | h'
  · exact h'
  · rw [plain_bad hi (by omega) (by omega)] at h; cases h
theorem bits_step {s : ByteArray} {i : Nat} (h : i < s.size) : (bitsT (bl s)).take (i + 1) = (bitsT (bl s)).take i ++ [decide (byteI s i = 49)] := by
  have hl : i < (bl s).length := by rw [bl_length]; exact h
  have hl' : i < (bitsT (bl s)).length := by rw [bitsT_length]; exact hl
  rw [← List.take_append_getElem hl', byteI_bl, List.getD_eq_getElem?_getD, List.getElem?_eq_getElem hl]
  congr 2
  simp [bitsT]
theorem digits_step (v : Int) (n j : Nat) (h : j < n) : (digits v n).take (j + 1) = (digits v n).take j ++ [decide (v / 2 ^ (n - 1 - j) % 2 = 1)] := by
  have h1 := digits_getD v n j h
  have hl : j < (digits v n).length := by rw [digits_length]; exact h
  rw [List.getD_eq_getElem?_getD, List.getElem?_eq_getElem hl, Option.getD_some] at h1
  rw [← List.take_append_getElem hl, h1]
theorem packB_pad (bits : List Bool) (n : Nat) (h : n < 8) (h2 : (bits.length + n + 7) / 8 = (bits.length + 7) / 8) : packB (bits ++ List.replicate n false) = packB bits := by
  unfold packB
  rw [List.length_append, List.length_replicate, h2]
  apply List.map_congr_left
  intro i _
  have : ∀ j, (bits ++ List.replicate n false).getD j false = bits.getD j false := fun j => by
    rw [List.getD_eq_getElem?_getD, List.getD_eq_getElem?_getD]
    rcases Nat.lt_or_ge j bits.length with h | h
    · rw [List.getElem?_append_left h]
    · rw [List.getElem?_append_right h, List.getElem?_eq_none h, List.getElem?_replicate]
      split <;> rfl
  simp only [byteAt, this]
end
theorem add_cases (s : ByteArray) : (addE' s = 0 ∧ plainL (bl s) = true ∧ addD s = bitsT (bl s)) ∨ (addE' s = 1 ∧ plainL (bl s) = false ∧ addD s = []) := by
  unfold addE' addD
  cases h : plainL (bl s)
  · right; exact ⟨rfl, rfl, rfl⟩
  · left; exact ⟨rfl, rfl, rfl⟩
theorem put_cases (v n : Int) : (putE v n = 0 ∧ (0 ≤ n ∧ n ≤ 32 ∧ 0 ≤ v ∧ v < 2 ^ n.toNat) ∧ fitsS v n = true ∧ putD v n = digits v n.toNat) ∨ (putE v n = 1 ∧ ¬ (0 ≤ n ∧ n ≤ 32 ∧ 0 ≤ v ∧ v < 2 ^ n.toNat) ∧ fitsS v n = false ∧ putD v n = []) := by
  unfold putE putD
  cases h : fitsS v n
  · right; exact ⟨rfl, (fitsS_iff' v n).1 h, rfl, rfl⟩
  · left; exact ⟨rfl, (fitsS_iff v n).1 h, rfl, rfl⟩
theorem dig_txt (x : Int) : txt [decide (x % 2 = 1)] = [48 + x % 2] := by
  rcases (by omega : x % 2 = 0 ∨ x % 2 = 1) with h | h <;> simp [txt, h]
theorem dig_str (x : Int) : (ByteArray.mk #[48, 49]).extract (x % 2).toNat (x % 2 + 1).toNat = rowT [decide (x % 2 = 1)] := by
  rcases (by omega : x % 2 = 0 ∨ x % 2 = 1) with h | h <;> rw [h] <;> rfl
theorem div_step (v : Int) (i : Nat) : v / 2 ^ i / 2 = v / 2 ^ (i + 1) := by
  have hp : (0 : Int) < 2 ^ i := Int.pow_pos (by omega)
  rw [Int.ediv_ediv, if_neg (by omega), Int.sub_zero, Int.pow_succ]
theorem div_zero_iff (v : Int) (n : Nat) (h : 0 ≤ v) : v / 2 ^ n = 0 ↔ v < 2 ^ n := by
  have hp : (0 : Int) < 2 ^ n := Int.pow_pos (by omega)
  constructor
  · intro h1
    by_cases h2 : v < 2 ^ n
    · exact h2
    · have := Int.le_ediv_of_mul_le (a := 1) (b := v) hp (by omega)
      omega
  · intro h1; exact Int.ediv_eq_zero_of_lt h h1
theorem unpack_step (xs : List Int) (m : Nat) (h : m < 8 * xs.length) : (unpack xs).take (m + 1) = (unpack xs).take m ++ [decide (xs.getD (m / 8) 0 / 2 ^ (7 - m % 8) % 2 = 1)] := by
  have h1 := unpack_getD xs m h
  have hl : m < (unpack xs).length := by rw [unpack_length]; exact h
  rw [List.getD_eq_getElem?_getD, List.getElem?_eq_getElem hl, Option.getD_some] at h1
  rw [← List.take_append_getElem hl, h1]
theorem unpack_byte (xs : List Int) (i : Nat) (h : i < xs.length) : (unpack xs).take (8 * (i + 1)) = (unpack xs).take (8 * i) ++ digits (xs.getD i 0) 8 := by
  rw [show 8 * (i + 1) = 8 * i + 8 by omega, List.take_add, unpack_drop, List.drop_eq_getElem_cons h, List.getD_eq_getElem?_getD, List.getElem?_eq_getElem h]
  show _ ++ (digits xs[i] 8 ++ unpack _).take 8 = _
  rw [List.take_left' (digits_length _ _)]
  rfl
theorem packB_take_step (bits : List Bool) (i : Nat) (h : 8 * i + 8 ≤ bits.length) : (packB bits).take (i + 1) = (packB bits).take i ++ [numB ((bits.drop (8 * i)).take 8)] := by
  have hl : i < (packB bits).length := by rw [packB_length]; omega
  rw [← List.take_append_getElem hl]
  congr 2
  have h1 := packB_get bits i
  rw [if_pos (by omega), List.getElem?_eq_getElem hl] at h1
  injection h1 with h1
  rw [h1, byteAt_num _ _ (by omega), octet, List.drop_append_of_le_length (by omega), List.take_append_of_le_length (by rw [List.length_drop]; omega)]
theorem numB_step {s : ByteArray} {i : Nat} (h : i < s.size) (hp : byteI s i = 48 ∨ byteI s i = 49) : numB ((bitsT (bl s)).take (i + 1)) = 2 * numB ((bitsT (bl s)).take i) + (byteI s i - 48) := by
  rw [bits_step h, numB_snoc]
  rcases hp with hp | hp <;> rw [hp] <;> rfl
theorem numB_take_in (l : List Bool) (i : Nat) (h : i ≤ 32) : 0 ≤ numB (l.take i) ∧ numB (l.take i) < 4294967296 := by
  have h1 := numB_in (l.take i)
  have h2 := pow_inN (l.take i).length (by rw [List.length_take]; omega)
  omega
theorem ext_num (B : List Bool) (m : Nat) : numB (bitsT (bl ((rowT B).extract (8 * (m : Int)).toNat (8 * (m : Int) + 8).toNat))) = numB ((B.drop (8 * m)).take 8) := by
  rw [rowT_extract, bl_rowT, bitsT_txt, show (8 * (m : Int)).toNat = 8 * m by omega, show (8 * (m : Int) + 8).toNat - 8 * m = 8 by omega]
theorem num8_in (l : List Bool) (a : Nat) : 0 ≤ numB ((l.drop a).take 8) ∧ numB ((l.drop a).take 8) ≤ 255 := by
  have h := numB_in ((l.drop a).take 8)
  have h1 : ((l.drop a).take 8).length ≤ 8 := by rw [List.length_take]; omega
  have h2 : 2 ^ ((l.drop a).take 8).length ≤ 2 ^ 8 := Nat.pow_le_pow_right (by omega) h1
  have h3 : (2 : Int) ^ ((l.drop a).take 8).length = ((2 ^ ((l.drop a).take 8).length : Nat) : Int) := by simp
  rw [h3] at h
  omega
theorem row_zero (l : List Bool) (i : Nat) : rowT (l ++ List.replicate i false) ++ ⟨#[48]⟩ = rowT (l ++ List.replicate (i + 1) false) := by
  rw [show (⟨#[48]⟩ : ByteArray) = rowT [false] from rfl, rowT_append, List.append_assoc, ← List.replicate_succ']
end Go.X
