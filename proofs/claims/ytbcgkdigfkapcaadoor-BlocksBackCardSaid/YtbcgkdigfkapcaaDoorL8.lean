/- A law's arguments, of whatever shape, told as plain values that stay. -/
import Derived.Test.YtbcgkdigfkapcaaDoorL7
set_option linter.unusedVariables false
namespace Go.X
open Go.ChangeShapes Go.WideShapes

/-- All that is there when a law is called. -/
def zw (w : World) : Zp := fun b => w.heap[b]?

mutual
def shOf (tt : TT) : Nat → TypeId → Option Sh
  | 0, _ => none
  | f + 1, t => match look tt t with
    | some te => match te.d with
      | .int k => some (.int k)
      | .bool => some .bool
      | .str => some .str
      | .sl e esz _ => match shOf tt f e with
        | some s => match Nat.beq s.size esz, Nat.blt 0 esz with
          | true, true => some (.sl s)
          | _, _ => none
        | none => none
      | .arr n e esz => match shOf tt f e with
        | some (.int k) => match Nat.beq esz 1, Nat.beq te.size n with
          | true, true => some (.arr te.size k)
          | _, _ => none
        | some (.arr m k) => match Nat.beq esz m, Nat.beq te.size (n * m) with
          | true, true => some (.arr te.size k)
          | _, _ => none
        | some (.sl s) => match Nat.beq esz 1, Nat.beq te.size n with
          | true, true => some (.arrS te.size s)
          | _, _ => none
        | _ => none
      | .strct fs => match shF tt f fs 0 with
        | some s => match Nat.beq s.size te.size with
          | true => some s
          | false => none
        | none => none
      | _ => none
    | none => none
def shF (tt : TT) : Nat → List (TypeId × Nat × Nat) → Nat → Option Sh
  | _, [], _ => some .unit
  | 0, _ :: _, _ => none
  | f + 1, (t, off, sz) :: fs, o => match Nat.beq off o, shOf tt f t with
    | true, some s => match Nat.beq s.size sz with
      | true => match fs with
        | [] => some s
        | q :: l => match shF tt f (q :: l) (o + sz) with
          | some r => some (.pair s r)
          | none => none
      | false => none
    | _, _ => none
end

section
variable {H : Type} {enc : TypeId × Value → H} {P : Program} {w : World} {base : Nat} {spare : Nat → Bool} {held : Bool} {tt : TT}

theorem zcell_zw {b o : Nat} {c : Value} (h : w.cell? ⟨b, o, none⟩ = some c) : zcell (zw w) b o = some c := by
  unfold World.cell? at h
  unfold zcell zw
  cases hb : w.heap[b]? with
  | none => simp [hb] at h
  | some x => cases x <;> simp_all

/-- One for each number. -/
theorem choose_list {α : Type} {R : Nat → α → Prop} : ∀ (n : Nat), (∀ i, i < n → ∃ y, R i y) → ∃ ys : List α, ys.length = n ∧ ∀ i y, ys[i]? = some y → R i y
  | 0, _ => ⟨[], rfl, by simp⟩
  | n + 1, h => by
    obtain ⟨ys, h1, h2⟩ := choose_list n fun i hi => h i (by omega)
    obtain ⟨y, hy⟩ := h n (by omega)
    refine ⟨ys ++ [y], by simp [h1], fun i z hz => ?_⟩
    by_cases hi : i < ys.length
    · rw [List.getElem?_append_left hi] at hz; exact h2 i z hz
    · rw [List.getElem?_append_right (by omega)] at hz
      have : i = n := by
        have := (List.getElem?_eq_some_iff.1 hz).1
        simp at this
        omega
      subst this
      rw [show i - ys.length = 0 by omega] at hz
      simp at hz
      subst hz
      exact hy

theorem rep_ints {m : Nat} {k : IntKind} : ∀ (n : Nat) (cs : List Value), cs.length = n * m → (∀ i, i < n → ∃ ys, RelInts m k ys ((cs.drop (i * m)).take m)) → ∃ xs, RelInts (n * m) k xs cs
  | 0, cs, h, _ => by simp at h; subst h; exact ⟨[], by simp [RelInts]⟩
  | n + 1, cs, h, hc => by
    obtain ⟨ys, a1, a2, a3⟩ := hc 0 (by omega)
    simp only [Nat.zero_mul, List.drop_zero] at a2
    obtain ⟨zs, b1, b2, b3⟩ := rep_ints (m := m) (k := k) n (cs.drop m) (by rw [List.length_drop, h, Nat.succ_mul]; omega) (fun i hi => by
      have := hc (i + 1) (by omega)
      rw [List.drop_drop]
      rwa [show m + i * m = (i + 1) * m by rw [Nat.succ_mul]; omega])
    refine ⟨ys ++ zs, by rw [List.length_append, a1, b1, Nat.succ_mul]; omega, ?_, fun x hx => ?_⟩
    · rw [List.map_append, ← a2, ← b2, List.take_append_drop]
    · rcases List.mem_append.1 hx with hx | hx
      · exact a3 x hx
      · exact b3 x hx

theorem all2_of {α : Type} {R : α → Value → Prop} : ∀ (ys : List α) (cs : List Value), cs.length = ys.length → (∀ i y, ys[i]? = some y → ∃ v, (cs.drop i).take 1 = [v] ∧ R y v) → All2 R ys cs
  | [], [], _, _ => trivial
  | [], _ :: _, h, _ => by simp at h
  | _ :: _, [], h, _ => by simp at h
  | y :: ys, c :: cs, h, hr => by
    obtain ⟨v, hv, hy⟩ := hr 0 y rfl
    simp at hv
    subst hv
    exact ⟨hy, all2_of ys cs (by simpa using h) fun i z hz => by
      obtain ⟨u, hu, hz'⟩ := hr (i + 1) z (by simpa using hz)
      exact ⟨u, by simpa using hu, hz'⟩⟩

theorem trod_sh (hT : TtOk P tt) : ∀ (fuel : Nat),
    (∀ (t : TypeId) (s : Sh), shOf tt fuel t = some s → ∀ (n : Nat) (cs : List Value) (x : DataW H × List MemPlace), DataW.trod enc P w base spare held n t cs = some x → ∃ y : s.den, RelZ (zw w) s y cs) ∧
    (∀ (fs : List (TypeId × Nat × Nat)) (o : Nat) (s : Sh), shF tt fuel fs o = some s → ∀ (flds : List Field) (cs : List Value) (m : Nat), fldB P flds fs = true → (∀ f ∈ flds, ∃ y : DataW H × List MemPlace, DataW.trod enc P w base spare held m f.type ((cs.drop f.offset).take (P.cellsOf f.type)) = some y) → ∃ y : s.den, RelZ (zw w) s y ((cs.drop o).take s.size))
  | 0 => ⟨fun t s h => by simp [shOf] at h, fun fs o s h => by
      cases fs with
      | nil => simp only [shF, Option.some.injEq] at h; subst h; intro flds cs m _ _; exact ⟨(), by show (cs.drop o).take 0 = []; simp⟩
      | cons _ _ => simp [shF] at h⟩
  | fuel + 1 => by
    obtain ⟨ih1, ih2⟩ := trod_sh hT fuel
    constructor
    · intro t s h n cs x hx
      simp only [shOf] at h
      cases hl : look tt t with
      | none => simp [hl] at h
      | some te =>
        simp only [hl] at h
        obtain ⟨⟨d, hu, hd⟩, ⟨i, hi, hsz, _⟩, _, _⟩ := hT t te hl
        have hct : P.cellsOf t = te.size := by simp [Program.cellsOf, hi, hsz]
        cases hdd : te.d with
        | int k =>
          rw [hdd] at h hd
          simp only [Option.some.injEq] at h
          subst h
          cases d <;> simp [dB] at hd
          subst hd
          obtain ⟨n', rfl, h2⟩ := trod_int hu hx
          exact ⟨n', rfl, h2⟩
        | bool =>
          rw [hdd] at h hd
          simp only [Option.some.injEq] at h
          subst h
          cases d <;> simp [dB] at hd
          obtain ⟨b, rfl⟩ := trod_bool hu hx
          exact ⟨b, rfl⟩
        | str =>
          rw [hdd] at h hd
          simp only [Option.some.injEq] at h
          subst h
          cases d <;> simp [dB] at hd
          obtain ⟨s, rfl, _, hs⟩ := DataW.trod_string hu hx
          exact ⟨s, rfl, by simp only [maxLen] at hs; omega⟩
        | sl e esz eb =>
          rw [hdd] at h hd
          simp only at h
          cases hs : shOf tt fuel e with
          | none => simp [hs] at h
          | some s' =>
            simp only [hs] at h
            split at h
            · rename_i hb1 hb2
              simp only [Option.some.injEq] at h
              subst h
              have hb1 := Nat.eq_of_beq_eq_true hb1
              have hb2 := blt_true hb2
              cases d with
              | slice e' =>
                simp only [dB, Bool.and_eq_true] at hd
                obtain ⟨g1, g2, g3⟩ := hd
                have g1 := Nat.eq_of_beq_eq_true g1
                subst g1
                have hce := cellsOf_info g2
                rcases DataW.trod_slice hu hx with ⟨rfl, _⟩ | ⟨a, len, cap, elems, rest, n', _, rfl, _, hb, hl', hm, hlen, hel, _, _⟩
                · exact ⟨[], _, rfl, SlZ.nil⟩
                · have hcap : cap ≤ 9223372036854775807 := by simp only [maxLen] at hm; omega
                  rcases Nat.eq_zero_or_pos len with h0 | hpos
                  · subst h0
                    exact ⟨[], _, rfl, some a, cap, rfl, Nat.zero_le _, by simp, (fun hn => by cases hn), fun hne => absurd rfl hne⟩
                  · have hsp : a.spot = none := by
                      have := hel 0 hpos
                      rw [hce, List.getElem?_eq_getElem (by omega), Option.bind_eq_some_iff] at this
                      obtain ⟨cs, g1, _⟩ := this
                      obtain ⟨_, g3, g4⟩ := World.cells?_some g1
                      have g5 := g4 0 hb2
                      rw [List.getElem?_eq_getElem (by omega), Nat.zero_mul] at g5
                      have e0 : (a.add 0).add 0 = a := by simp [Addr.add]
                      rw [e0] at g5
                      unfold World.cell? at g5
                      split at g5
                      · split at g5
                        · cases g5
                        · rename_i hh; cases hsp : a.spot <;> simp_all
                      · cases g5
                    obtain ⟨ab, ao, asp⟩ := a
                    simp only at hsp
                    subst hsp
                    obtain ⟨ys, h1, h2⟩ := choose_list (R := fun i y => ∃ cs, RelZ (zw w) s' y cs ∧ cs.length = s'.size ∧ ∀ j c, cs[j]? = some c → zcell (zw w) ab (ao + i * s'.size + j) = some c) len fun i hi => by
                      have := hel i hi
                      rw [hce, List.getElem?_eq_getElem (by omega), Option.bind_eq_some_iff] at this
                      obtain ⟨cs, g1, g2⟩ := this
                      obtain ⟨_, g3, g4⟩ := World.cells?_some g1
                      obtain ⟨y, hy⟩ := ih1 e s' hs _ _ _ g2
                      refine ⟨y, cs, hy, by omega, fun j c hj => ?_⟩
                      have hjl := (List.getElem?_eq_some_iff.1 hj).1
                      have g5 := g4 j (by omega)
                      rw [hj, Addr.add_lit, Addr.add_lit] at g5
                      rw [hb1]
                      exact zcell_zw g5
                    exact ⟨ys, _, rfl, some ⟨ab, ao, none⟩, cap, by rw [h1], by omega, by omega, (fun hn => by cases hn), fun hne => ⟨ab, ao, rfl, h2⟩⟩
              | _ => simp [dB] at hd
            · cases h
        | arr an e esz =>
          rw [hdd] at h hd
          simp only at h
          cases d with
          | array n' e' =>
            simp only [dB, Bool.and_eq_true] at hd
            obtain ⟨g1, g2, g3⟩ := hd
            have g1 := Nat.eq_of_beq_eq_true g1
            have g2 := Nat.eq_of_beq_eq_true g2
            subst g1 g2
            have hce := cellsOf_info g3
            obtain ⟨xs, m, _, _, h3, h4, h5⟩ := DataW.trod_array hu hx
            split at h
            · rename_i k hs
              split at h
              · rename_i hb1 hb2
                simp only [Option.some.injEq] at h
                subst h
                have hb1 := Nat.eq_of_beq_eq_true hb1
                have hb2 := Nat.eq_of_beq_eq_true hb2
                have := rep_ints (m := 1) (k := k) an cs (by rw [h3, hct, hb2]; omega) fun i hi => by
                  have := h5 i hi
                  rw [hce, hb1, List.getElem?_eq_getElem (by omega)] at this
                  obtain ⟨y, hy, hk⟩ := ih1 e _ hs _ _ _ this
                  exact ⟨[y], rfl, hy, fun z hz => by rw [show z = y from List.mem_singleton.1 hz]; exact hk⟩
                rw [Nat.mul_one, ← hb2] at this
                exact this
              · cases h
            · rename_i mm k hs
              split at h
              · rename_i hb1 hb2
                simp only [Option.some.injEq] at h
                subst h
                have hb1 := Nat.eq_of_beq_eq_true hb1
                have hb2 := Nat.eq_of_beq_eq_true hb2
                have := rep_ints (m := mm) (k := k) an cs (by rw [h3, hct, hb2]) fun i hi => by
                  have := h5 i hi
                  rw [hce, hb1, List.getElem?_eq_getElem (by omega)] at this
                  exact ih1 e _ hs _ _ _ this
                rw [← hb2] at this
                exact this
              · cases h
            · rename_i s' hs
              split at h
              · rename_i hb1 hb2
                simp only [Option.some.injEq] at h
                subst h
                have hb1 := Nat.eq_of_beq_eq_true hb1
                have hb2 := Nat.eq_of_beq_eq_true hb2
                obtain ⟨ys, k1, k2⟩ := choose_list (R := fun i (y : List s'.den) => RelZ (zw w) (.sl s') y ((cs.drop i).take 1)) an fun i hi => by
                  have := h5 i hi
                  rw [hce, hb1, Nat.mul_one, List.getElem?_eq_getElem (by omega)] at this
                  exact ih1 e _ hs _ _ _ this
                exact ⟨ys, by show ys.length = te.size; omega, all2_of ys cs (by omega) k2⟩
              · cases h
            · cases h
          | _ => simp [dB] at hd
        | strct fs =>
          rw [hdd] at h hd
          simp only at h
          cases hf : shF tt fuel fs 0 with
          | none => simp [hf] at h
          | some s' =>
            simp only [hf] at h
            cases hw : Nat.beq s'.size te.size with
            | false => simp [hw] at h
            | true =>
              simp only [hw, Option.some.injEq] at h
              subst h
              cases d with
              | struct flds =>
                simp only [dB] at hd
                obtain ⟨xs, m, _, _, h3, h4, h5⟩ := DataW.trod_struct hu hx
                have := ih2 fs 0 s' hf flds.toList cs m hd (fun f hfm => by
                  obtain ⟨i, hi, hfi⟩ := List.mem_iff_getElem.1 hfm
                  have h6 := h5 i f (by rw [← hfi]; simp)
                  rw [List.getElem?_eq_getElem (by rw [h4]; simpa using hi)] at h6
                  exact ⟨_, h6⟩)
                rw [List.drop_zero, List.take_of_length_le (by rw [h3, hct, ← Nat.eq_of_beq_eq_true hw]; exact Nat.le_refl _)] at this
                exact this
              | _ => simp [dB] at hd
        | _ => rw [hdd] at h; simp at h
    · intro fs o s h flds cs m hf hy
      cases fs with
      | nil => simp only [shF, Option.some.injEq] at h; subst h; exact ⟨(), by show (cs.drop o).take 0 = []; simp⟩
      | cons q fs =>
        obtain ⟨t, off, sz⟩ := q
        simp only [shF] at h
        split at h
        · rename_i s1 ho hs1
          split at h
          · rename_i hw
            have ho := Nat.eq_of_beq_eq_true ho
            have hw := Nat.eq_of_beq_eq_true hw
            cases flds with
            | nil => simp [fldB] at hf
            | cons f flds =>
              simp only [fldB, Bool.and_eq_true] at hf
              obtain ⟨f1, f2, f3, _, _, f6⟩ := hf
              have f1 := Nat.eq_of_beq_eq_true f1
              have f2 := Nat.eq_of_beq_eq_true f2
              obtain ⟨y, hyy⟩ := hy f (by simp)
              rw [f1, f2, ho, cellsOf_info f3] at hyy
              obtain ⟨y1, a1⟩ := ih1 t s1 hs1 m _ y hyy
              split at h
              · simp only [Option.some.injEq] at h
                subst h
                rw [hw]
                exact ⟨y1, a1⟩
              · rename_i q' l
                split at h
                · rename_i r hr
                  simp only [Option.some.injEq] at h
                  subst h
                  obtain ⟨y2, a2⟩ := ih2 (q' :: l) (o + sz) r hr flds cs m f6 (fun g hg => hy g (by simp [hg]))
                  refine ⟨(y1, y2), (cs.drop o).take sz, (cs.drop (o + sz)).take r.size, ?_, a1, a2⟩
                  show (cs.drop o).take (s1.size + r.size) = _
                  rw [hw, List.take_add, List.drop_drop]
                · cases h
          · cases h
        · cases h

def Sh.v1 : (s : Sh) → s.den → V1
  | .int k, x => .c (.int k x)
  | .bool, x => .c (.bool x)
  | .str, x => .c (.str x)
  | .sl e, xs => .c (.fz e xs)
  | s, x => .agg (s.open x)
def Sh.isAgg : Sh → Bool
  | .int _ => false
  | .bool => false
  | .str => false
  | .sl _ => false
  | _ => true
/-- A value of a type, told. -/
theorem open_z (hT : TtOk P tt) {b0 : Nat} {t : TypeId} {s : Sh} (hs : shOf tt 20 t = some s) {te : TE} (hl : look tt t = some te) (ha : te.d.agg = s.isAgg) {v : Value} {d : DataW H} {ps : List MemPlace} (hval : Value.okWide P w .any b0 t v) (hd : DataW.Trod enc P w base spare held t v d ps) :
    ∃ y : s.den, RelZ (zw w) s y v.cells.toList ∧ RelV ⟨0, fun _ => default, zw w⟩ (.v (s.v1 y)) v := by
  obtain ⟨fuel, hd⟩ := hd
  obtain ⟨y, hy⟩ := (trod_sh hT 20).1 t s hs fuel _ _ hd
  obtain ⟨⟨d', hu, hdd⟩, _, _, _⟩ := hT t te hl
  refine ⟨y, hy, ?_⟩
  have agg : te.d.agg = true → ∃ cs, v = .agg cs := by
    intro ha'
    cases hh : te.d with
    | arr n e esz =>
      rw [hh] at hdd
      cases d' <;> simp [dB] at hdd
      simp only [Value.okWide, hu] at hval
      obtain ⟨cs, h, _⟩ := hval
      exact ⟨cs, h⟩
    | strct fs =>
      rw [hh] at hdd
      cases d' <;> simp [dB] at hdd
      simp only [Value.okWide, hu] at hval
      obtain ⟨cs, h, _⟩ := hval
      exact ⟨cs, h⟩
    | _ => rw [hh] at ha'; cases ha'
  have one : te.d.agg = false → ∀ c, v.cells.toList = [c] → v = c := by
    intro ha' c hc
    have : ∀ cs, v ≠ .agg cs := by
      intro cs e
      subst e
      cases hh : te.d with
      | arr n e esz => rw [hh] at ha'; cases ha'
      | strct fs => rw [hh] at ha'; cases ha'
      | _ =>
        rw [hh] at hdd
        cases d' <;> simp [dB] at hdd <;> simp [Value.okWide, hu, Cell.okWide, Cell.ok] at hval
    cases v <;> simp_all [Value.cells]
  have big : te.d.agg = true → RelV ⟨0, fun _ => default, zw w⟩ (.v (.agg (s.open y))) v := by
    intro ha'
    obtain ⟨cs, rfl⟩ := agg ha'
    exact ⟨cs.toList, by simp, Sh.open_rel (ε := ⟨0, fun _ => default, zw w⟩) s hy⟩
  cases s with
  | int k =>
    obtain ⟨h1, h2⟩ := hy
    exact ⟨one ha _ h1, h2⟩
  | bool => exact one ha _ hy
  | str =>
    obtain ⟨h1, h2⟩ := hy
    exact ⟨one ha _ h1, h2⟩
  | sl e =>
    obtain ⟨c, h1, h2⟩ := hy
    obtain rfl := one ha _ h1
    exact h2
  | unit => exact big ha
  | pair a b => exact big ha
  | arr n k => exact big ha
  | arrS n e => exact big ha
end
/-- What a plain value's parts keep to. -/
def Sh.wf : (s : Sh) → s.den → Prop
  | .int k, x => inK k x
  | .bool, _ => True
  | .str, x => (ByteArray.size x : Int) ≤ 9223372036854775807
  | .unit, _ => True
  | .pair a b, x => a.wf x.1 ∧ b.wf x.2
  | .arr n k, xs => List.length (α := Int) xs = n ∧ ∀ i : Nat, i < n → inK k (List.getD (α := Int) xs i 0)
  | .arrS n e, xss => List.length (α := List e.den) xss = n ∧ ∀ xs, xs ∈ (show List (List e.den) from xss) → (xs.length : Int) ≤ 9223372036854775807 ∧ ∀ x, x ∈ xs → e.wf x
  | .sl e, xs => (List.length (α := e.den) xs : Int) ≤ 9223372036854775807 ∧ ∀ x, x ∈ (show List e.den from xs) → e.wf x
theorem RelZ.wf {z : Zp} (s : Sh) : ∀ {x : s.den} {vs : List Value}, RelZ z s x vs → s.wf x := by
  have sl : ∀ (e : Sh) (ih : ∀ {x : e.den} {vs : List Value}, RelZ z e x vs → e.wf x) (xs : List e.den) (v : Value), SlZ z e.size (RelZ z e) xs v → (xs.length : Int) ≤ 9223372036854775807 ∧ ∀ x, x ∈ xs → e.wf x := by
    intro e ih xs v h
    obtain ⟨p, cap, _, _, h3, _, h5⟩ := h
    refine ⟨h3, fun x hx => ?_⟩
    obtain ⟨b, o, _, hel⟩ := h5 (List.ne_nil_of_mem hx)
    obtain ⟨i, hi⟩ := List.getElem?_of_mem hx
    obtain ⟨cs, h, _⟩ := hel i x hi
    exact ih h
  induction s with
  | int k => intro x vs h; exact h.2
  | bool => intro x vs h; trivial
  | str => intro x vs h; exact h.2
  | unit => intro x vs h; trivial
  | pair a b iha ihb =>
    intro x vs h
    obtain ⟨v1, v2, _, h1, h2⟩ := h
    exact ⟨iha h1, ihb h2⟩
  | arr n k =>
    intro x vs h
    obtain ⟨h1, _, h3⟩ := h
    have gen : ∀ (l : List Int), l.length = n → ∀ i : Nat, i < n → l.getD i 0 ∈ l := fun l hl i hi => by
      rw [List.getD_eq_getElem?_getD, List.getElem?_eq_getElem (by omega)]
      exact List.getElem_mem (by omega)
    exact ⟨h1, fun i hi => h3 _ (gen x h1 i hi)⟩
  | arrS n e ih =>
    intro x vs h
    obtain ⟨h1, h2⟩ := h
    refine ⟨h1, fun xs hx => ?_⟩
    obtain ⟨i, hi⟩ := List.getElem?_of_mem hx
    obtain ⟨v, _, hv⟩ := All2.get h2 i xs hi
    exact sl e ih xs v hv
  | sl e ih =>
    intro x vs h
    obtain ⟨v, _, hv⟩ := h
    exact sl e ih x v hv
end Go.X
