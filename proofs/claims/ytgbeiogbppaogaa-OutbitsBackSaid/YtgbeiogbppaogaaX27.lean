/- Arguments that are plain values, opened cell by cell. -/
import Derived.Test.YtgbeiogbppaogaaX26
import Derived.ChangeArms
set_option linter.unusedVariables false
namespace Go.X
open Go.ChangeShapes Go.WideShapes

/-- What one cell, or an array of integers, may hold. -/
inductive Sg where
  | int (k : IntKind)
  | bool
  | ints (n : Nat) (k : IntKind)

def SgRel : Sg → List Value → Prop
  | .int k, vs => ∃ n, vs = [.int k n] ∧ inK k n
  | .bool, vs => ∃ b, vs = [.bool b]
  | .ints n k, vs => ∃ xs : List Int, vs = xs.map (Value.int k) ∧ xs.length = n ∧ ∀ x ∈ xs, inK k x

def SgsRel : List Sg → List Value → Prop
  | [], vs => vs = []
  | s :: l, vs => ∃ v1 v2, vs = v1 ++ v2 ∧ SgRel s v1 ∧ SgsRel l v2

def Sg.width : Sg → Nat
  | .ints n _ => n
  | _ => 1
def sgW : List Sg → Nat
  | [] => 0
  | s :: l => s.width + sgW l

theorem SgRel.length {s : Sg} {vs : List Value} (h : SgRel s vs) : vs.length = s.width := by
  cases s with
  | int k => obtain ⟨n, rfl, _⟩ := h; rfl
  | bool => obtain ⟨b, rfl⟩ := h; rfl
  | ints n k => obtain ⟨xs, rfl, h1, _⟩ := h; simp [Sg.width, h1]
theorem SgsRel.length : ∀ {l : List Sg} {vs : List Value}, SgsRel l vs → vs.length = sgW l
  | [], vs, h => by cases h; rfl
  | s :: l, vs, ⟨v1, v2, e, h1, h2⟩ => by subst e; simp [sgW, h1.length, SgsRel.length h2]
theorem SgsRel.append : ∀ {l l' : List Sg} {vs vs' : List Value}, SgsRel l vs → SgsRel l' vs' → SgsRel (l ++ l') (vs ++ vs')
  | [], l', vs, vs', h, h' => by cases h; simpa using h'
  | s :: l, l', vs, vs', ⟨v1, v2, e, h1, h2⟩, h' => by subst e; exact ⟨v1, v2 ++ vs', by simp, h1, SgsRel.append h2 h'⟩

/-- The cells of a type, in a row. -/
def repSg (l : List Sg) : Nat → List Sg
  | 0 => []
  | n + 1 => l ++ repSg l n

mutual
def sgs (tt : TT) : Nat → TypeId → Option (List Sg)
  | 0, _ => none
  | fuel + 1, t => match look tt t with
    | some te => match te.d with
      | .int k => some [.int k]
      | .bool => some [.bool]
      | .arr n e esz => match look tt e with
        | some ee => match Nat.beq te.size (n * esz) with
          | true => match ee.d, Nat.blt 8 n with
            | .int k, true => match Nat.beq esz 1 with
              | true => some [.ints n k]
              | false => none
            | _, _ => match sgs tt fuel e with
              | some l => match Nat.beq (sgW l) esz with
                | true => some (repSg l n)
                | false => none
              | none => none
          | false => none
        | none => none
      | .strct fs => match sgsF tt fuel fs 0 with
        | some l => match Nat.beq (sgW l) te.size with
          | true => some l
          | false => none
        | none => none
      | _ => none
    | none => none
def sgsF (tt : TT) : Nat → List (TypeId × Nat × Nat) → Nat → Option (List Sg)
  | _, [], _ => some []
  | 0, _ :: _, _ => none
  | fuel + 1, (t, off, sz) :: fs, o => match Nat.beq off o, sgs tt fuel t, sgsF tt fuel fs (o + sz) with
    | true, some l, some r => match Nat.beq (sgW l) sz with
      | true => some (l ++ r)
      | false => none
    | _, _, _ => none
end

section
variable {H : Type} {enc : TypeId × Value → H} {P : Program} {w : World} {base : Nat} {spare : Nat → Bool} {held : Bool} {tt : TT}

theorem cellsOf_info {t : TypeId} {n : Nat} (h : szB P t n = true) : P.cellsOf t = n := by
  obtain ⟨i, h1, h2⟩ := szB_of h
  simp [Program.cellsOf, h1, h2]

theorem rep_split {sz : Nat} {l : List Sg} (hw : sgW l = sz) : ∀ (n : Nat) (cs : List Value), cs.length = n * sz → (∀ i, i < n → SgsRel l ((cs.drop (i * sz)).take sz)) → SgsRel (repSg l n) cs
  | 0, cs, h, _ => by simp at h; subst h; rfl
  | n + 1, cs, h, hc => by
    have h0 := hc 0 (by omega)
    simp only [Nat.zero_mul, List.drop_zero] at h0
    have := rep_split hw n (cs.drop sz) (by rw [List.length_drop, h, Nat.succ_mul]; omega) (fun i hi => by
      have := hc (i + 1) (by omega)
      rw [List.drop_drop]
      rwa [show sz + i * sz = (i + 1) * sz by rw [Nat.succ_mul]; omega])
    have := SgsRel.append h0 this
    rwa [List.take_append_drop] at this

theorem sgW_append : ∀ (a b : List Sg), sgW (a ++ b) = sgW a + sgW b
  | [], b => by simp [sgW]
  | x :: a, b => by simp only [List.cons_append, sgW, sgW_append a b]; omega

theorem sgs_ok (hT : TtOk P tt) : ∀ (fuel : Nat),
    (∀ (t : TypeId) (l : List Sg), sgs tt fuel t = some l → ∀ (n : Nat) (cs : List Value) (x : DataW H × List MemPlace), DataW.trod enc P w base spare held n t cs = some x → SgsRel l cs) ∧
    (∀ (fs : List (TypeId × Nat × Nat)) (o : Nat) (l : List Sg), sgsF tt fuel fs o = some l → ∀ (flds : List Field) (cs : List Value) (m : Nat), fldB P flds fs = true → (∀ f ∈ flds, ∃ y : DataW H × List MemPlace, DataW.trod enc P w base spare held m f.type ((cs.drop f.offset).take (P.cellsOf f.type)) = some y) → SgsRel l ((cs.drop o).take (sgW l)))
  | 0 => ⟨fun t l h => by simp [sgs] at h, fun fs o l h => by
      cases fs with
      | nil => simp only [sgsF, Option.some.injEq] at h; subst h; intro flds cs m _ _; simp [SgsRel, sgW]
      | cons _ _ => simp [sgsF] at h⟩
  | fuel + 1 => by
    obtain ⟨ih1, ih2⟩ := sgs_ok hT fuel
    constructor
    · intro t l h n cs x hx
      simp only [sgs] at h
      cases hl : look tt t with
      | none => simp [hl] at h
      | some te =>
        simp only [hl] at h
        obtain ⟨⟨d, hu, hd⟩, ⟨i, hi, hsz, _⟩, _, _⟩ := hT t te hl
        have hct : P.cellsOf t = te.size := by simp [Program.cellsOf, hi, hsz]
        cases hdd : te.d with
        | int k =>
          rw [hdd] at h hd
          simp only [Option.some.injEq] at h
          subst h
          cases d <;> simp [dB] at hd
          subst hd
          obtain ⟨n', rfl, h2⟩ := trod_int hu hx
          exact ⟨_, [], by simp, ⟨n', rfl, h2⟩, rfl⟩
        | bool =>
          rw [hdd] at h hd
          simp only [Option.some.injEq] at h
          subst h
          cases d <;> simp [dB] at hd
          obtain ⟨b, rfl⟩ := trod_bool hu hx
          exact ⟨_, [], by simp, ⟨b, rfl⟩, rfl⟩
        | arr an e esz =>
          rw [hdd] at h hd
          simp only at h
          cases hle : look tt e with
          | none => simp [hle] at h
          | some ee =>
            simp only [hle] at h
            cases hb : Nat.beq te.size (an * esz) with
            | false => simp [hb] at h
            | true =>
              simp only [hb] at h
              have hsize := Nat.eq_of_beq_eq_true hb
              cases d with
              | array n' e' =>
                simp only [dB, Bool.and_eq_true] at hd
                obtain ⟨g1, g2, g3⟩ := hd
                have g1 := Nat.eq_of_beq_eq_true g1
                have g2 := Nat.eq_of_beq_eq_true g2
                subst g1 g2
                have hce := cellsOf_info g3
                have gen : ∀ l', sgs tt fuel e = some l' → sgW l' = esz → SgsRel (repSg l' an) cs := fun l' hl' hw => by
                  obtain ⟨xs, m, _, _, h3, h4, h5⟩ := DataW.trod_array hu hx
                  refine rep_split hw an cs (by rw [h3, hct, hsize]) fun i hi => ?_
                  have := h5 i hi
                  rw [hce, List.getElem?_eq_getElem (by omega)] at this
                  exact ih1 e l' hl' _ _ _ this
                split at h
                · rename_i k hek _
                  split at h
                  · rename_i he1
                    have he1 := Nat.eq_of_beq_eq_true he1
                    simp only [Option.some.injEq] at h
                    subst h
                    obtain ⟨⟨d', hu', hd'⟩, _, _, _⟩ := hT e ee hle
                    rw [hek] at hd'
                    cases d' <;> simp [dB] at hd'
                    subst hd'
                    obtain ⟨ys, e1, e2, e3⟩ := trod_ints hu hu' (by rw [hce, he1]) (by rw [hct, hsize, he1, Nat.mul_one]) hx
                    exact ⟨cs, [], by simp, ⟨ys, e1, e2, e3⟩, rfl⟩
                  · cases h
                · split at h
                  · rename_i l' hl'
                    split at h
                    · rename_i hw
                      simp only [Option.some.injEq] at h
                      subst h
                      exact gen l' hl' (Nat.eq_of_beq_eq_true hw)
                    · cases h
                  · cases h
              | _ => simp [dB] at hd
        | strct fs =>
          rw [hdd] at h hd
          simp only at h
          cases hf : sgsF tt fuel fs 0 with
          | none => simp [hf] at h
          | some l' =>
            simp only [hf] at h
            cases hw : Nat.beq (sgW l') te.size with
            | false => simp [hw] at h
            | true =>
              simp only [hw, Option.some.injEq] at h
              subst h
              cases d with
              | struct flds =>
                simp only [dB] at hd
                obtain ⟨xs, m, _, _, h3, h4, h5⟩ := DataW.trod_struct hu hx
                have := ih2 fs 0 l' hf flds.toList cs m hd (fun f hfm => by
                  obtain ⟨i, hi, hfi⟩ := List.mem_iff_getElem.1 hfm
                  have h6 := h5 i f (by rw [← hfi]; simp)
                  rw [List.getElem?_eq_getElem (by rw [h4]; simpa using hi)] at h6
                  exact ⟨_, h6⟩)
                rw [List.drop_zero, List.take_of_length_le (by rw [h3, hct, ← Nat.eq_of_beq_eq_true hw]; exact Nat.le_refl _)] at this
                exact this
              | _ => simp [dB] at hd
        | _ => rw [hdd] at h; simp at h
    · intro fs o l h flds cs m hf hy
      cases fs with
      | nil => simp only [sgsF, Option.some.injEq] at h; subst h; simp [SgsRel, sgW]
      | cons q fs =>
        obtain ⟨t, off, sz⟩ := q
        simp only [sgsF] at h
        split at h
        · rename_i l1 r ho hl1 hr
          split at h
          · rename_i hw
            simp only [Option.some.injEq] at h
            subst h
            have ho := Nat.eq_of_beq_eq_true ho
            have hw := Nat.eq_of_beq_eq_true hw
            cases flds with
            | nil => simp [fldB] at hf
            | cons f flds =>
              simp only [fldB, Bool.and_eq_true] at hf
              obtain ⟨f1, f2, f3, _, _, f6⟩ := hf
              have f1 := Nat.eq_of_beq_eq_true f1
              have f2 := Nat.eq_of_beq_eq_true f2
              obtain ⟨y, hyy⟩ := hy f (by simp)
              rw [f1, f2, ho, cellsOf_info f3] at hyy
              have a1 := ih1 t l1 hl1 m _ y hyy
              have a2 := ih2 fs (o + sz) r hr flds cs m f6 (fun g hg => hy g (by simp [hg]))
              have := SgsRel.append a1 a2
              rw [sgW_append, hw, List.take_add, List.drop_drop]
              exact this
          · cases h
        · cases h

/-- A value of a type, opened. -/
theorem open_sgs (hT : TtOk P tt) {r : Reach} {b0 : Nat} {t : TypeId} {l : List Sg} (hs : sgs tt 60 t = some l) {te : TE} (hl : look tt t = some te) (ha : te.d.agg = true) {v : Value} {d : DataW H} {ps : List MemPlace} (hval : Value.okWide P w r b0 t v) (hd : DataW.Trod enc P w base spare held t v d ps) :
    ∃ cs : List Value, v = .agg cs.toArray ∧ SgsRel l cs := by
  obtain ⟨fuel, hd⟩ := hd
  have hr := (sgs_ok hT 60).1 t l hs fuel _ _ hd
  obtain ⟨⟨d', hu, hdd⟩, _, _, _⟩ := hT t te hl
  have : ∃ cs, v = .agg cs := by
    cases hh : te.d with
    | arr n e esz =>
      rw [hh] at hdd
      cases d' <;> simp [dB] at hdd
      simp only [Value.okWide, hu] at hval
      obtain ⟨cs, h, _⟩ := hval
      exact ⟨cs, h⟩
    | strct fs =>
      rw [hh] at hdd
      cases d' <;> simp [dB] at hdd
      simp only [Value.okWide, hu] at hval
      obtain ⟨cs, h, _⟩ := hval
      exact ⟨cs, h⟩
    | _ => rw [hh] at ha; cases ha
  obtain ⟨cs, rfl⟩ := this
  exact ⟨cs.toList, by simp, hr⟩

theorem SgsRel.int {k : IntKind} {l : List Sg} {vs : List Value} (h : SgsRel (.int k :: l) vs) : ∃ n vs', vs = .int k n :: vs' ∧ inK k n ∧ SgsRel l vs' := by
  obtain ⟨v1, v2, rfl, ⟨n, rfl, hk⟩, h2⟩ := h
  exact ⟨n, v2, rfl, hk, h2⟩
theorem SgsRel.bool {l : List Sg} {vs : List Value} (h : SgsRel (.bool :: l) vs) : ∃ b vs', vs = .bool b :: vs' ∧ SgsRel l vs' := by
  obtain ⟨v1, v2, rfl, ⟨b, rfl⟩, h2⟩ := h
  exact ⟨b, v2, rfl, h2⟩
theorem SgsRel.nil {vs : List Value} (h : SgsRel [] vs) : vs = [] := h
theorem SgsRel.ints {n : Nat} {k : IntKind} {l : List Sg} {vs : List Value} (h : SgsRel (.ints n k :: l) vs) : ∃ (xs : List Int) (vs' : List Value), vs = xs.map (Value.int k) ++ vs' ∧ xs.length = n ∧ (∀ x ∈ xs, inK k x) ∧ SgsRel l vs' := by
  obtain ⟨v1, v2, rfl, ⟨xs, rfl, h1, h3⟩, h2⟩ := h
  exact ⟨xs, v2, rfl, h1, h3, h2⟩
end
end Go.X
