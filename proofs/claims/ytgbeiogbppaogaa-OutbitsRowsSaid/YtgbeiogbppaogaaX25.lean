/- From contracts to laws: arguments opened, the call's frame. -/
import Derived.Test.YtgbeiogbppaogaaX24
import Derived.ChangeSame
import Derived.ReadAgain
import Derived.OpenShut
import Derived.Below
set_option linter.unusedVariables false
namespace Go.X
open Go.ChangeShapes Go.WideShapes

theorem FnOK.call {P : Program} {gt : GT} {f : FuncId} {spec : X.Spec} (h : FnOK P gt f spec) (w : World) (hgt : GtOk gt w) {args : List SV} {vals : List Value} {r : Res} (ha : All2 (RelV ⟨0, fun _ => default⟩) args vals)
    (hs : spec args (fun _ => none) = some r) (hp : r.p) {b : Bool} (hr : r.r = .v (.c (.bool b))) (hu : r.up = []) : Calls P f vals.toArray w fun e w' => e = .returned (.bool b) ∧ RowKit.Below w.heap.size w w' := by
  have hl : look ([] : Blks) = fun _ => none := rfl
  have hT : Tab ⟨P, [], [], gt, w, [], 0⟩ ⟨0, fun _ => default⟩ [] 0 w := ⟨rfl, (fun i e h => by cases h), (fun i j e e' h => by cases h), Keep.refl _ _, (fun i e h => by cases h)⟩
  refine (h.2 ⟨P, [], [], gt, w, [], 0⟩ ⟨0, fun _ => default⟩ [] 0 args vals r rfl rfl hgt (fun g b _ hm => by cases hm) hT ha (by rw [hl]; exact hs) hp).mono ?_
  rintro e w' ⟨ε', x, bl, rfl, hle, hx, _, hT'⟩
  rw [hr] at hx
  have hx : x = .bool b := hx
  subst hx
  exact ⟨rfl, hT'.keep.below⟩

theorem inK_of_wf {k : IntKind} {n : Int} (h : (Lit.int k n).wf = true) : inK k n := by
  cases k <;> simp [Lit.wf, IntKind.min, IntKind.max, IntKind.signed, IntKind.bits, inK] at h ⊢ <;> omega

section
variable {H : Type} {enc : TypeId × Value → H} {P : Program} {w : World} {base : Nat} {spare : Nat → Bool} {held : Bool}

theorem trod_int {fuel : Nat} {t : TypeId} {k : IntKind} {cs : List Value} {x : DataW H × List MemPlace} (ht : P.underlying t = some (.int k)) (h : DataW.trod enc P w base spare held fuel t cs = some x) : ∃ n, cs = [.int k n] ∧ inK k n := by
  cases fuel with
  | zero => simp [DataW.trod] at h
  | succ m =>
    unfold DataW.trod at h
    rw [ht] at h
    split at h <;> simp_all
    exact inK_of_wf (by first | exact h.1.2 | exact (by assumption : _ ∧ _).1 | trace_state)

theorem trod_bool {fuel : Nat} {t : TypeId} {cs : List Value} {x : DataW H × List MemPlace} (ht : P.underlying t = some .bool) (h : DataW.trod enc P w base spare held fuel t cs = some x) : ∃ b, cs = [.bool b] := by
  cases fuel with
  | zero => simp [DataW.trod] at h
  | succ m =>
    unfold DataW.trod at h
    rw [ht] at h
    split at h <;> simp_all

theorem cells_split : ∀ (n : Nat) (cs : List Value) {k : IntKind}, cs.length = n → (∀ i, i < n → ∃ m, (cs.drop i).take 1 = [.int k m] ∧ inK k m) → ∃ xs : List Int, cs = xs.map (Value.int k) ∧ xs.length = n ∧ ∀ x ∈ xs, inK k x
  | 0, cs, k, h, _ => ⟨[], by simpa using h, rfl, by simp⟩
  | n + 1, [], k, h, _ => by simp at h
  | n + 1, c :: cs, k, h, hc => by
    obtain ⟨m, h1, h2⟩ := hc 0 (by omega)
    simp at h1
    subst h1
    obtain ⟨xs, g1, g2, g3⟩ := cells_split n cs (k := k) (by simpa using h) (fun i hi => by
      obtain ⟨m', e1, e2⟩ := hc (i + 1) (by omega)
      exact ⟨m', by simpa using e1, e2⟩)
    exact ⟨m :: xs, by simp [g1], by simp [g2], fun x hx => by
      rcases List.mem_cons.1 hx with rfl | hx
      · exact h2
      · exact g3 x hx⟩

/-- An array of integers. -/
theorem trod_ints {fuel : Nat} {t e : TypeId} {n : Nat} {k : IntKind} {cs : List Value} {x : DataW H × List MemPlace} (ht : P.underlying t = some (.array n e)) (he : P.underlying e = some (.int k)) (hce : P.cellsOf e = 1) (hct : P.cellsOf t = n)
    (h : DataW.trod enc P w base spare held fuel t cs = some x) : ∃ xs : List Int, cs = xs.map (Value.int k) ∧ xs.length = n ∧ ∀ x ∈ xs, inK k x := by
  obtain ⟨ys, m, rfl, rfl, hl, hn, hi⟩ := DataW.trod_array ht h
  rw [hct] at hl
  refine cells_split n cs hl fun i hin => ?_
  have := hi i hin
  rw [hce, Nat.mul_one, List.getElem?_eq_getElem (by omega)] at this
  exact trod_int he this

theorem open_ints_arr {r : Reach} {b0 : Nat} {t e : TypeId} {n : Nat} {k : IntKind} {v : Value} {d : DataW H} {ps : List MemPlace} (ht : P.underlying t = some (.array n e)) (he : P.underlying e = some (.int k)) (hce : P.cellsOf e = 1) (hct : P.cellsOf t = n)
    (hval : Value.okWide P w r b0 t v) (hd : DataW.Trod enc P w base spare held t v d ps) : ∃ xs : List Int, v = .agg (xs.map (Value.int k)).toArray ∧ xs.length = n ∧ ∀ x ∈ xs, inK k x := by
  simp only [Value.okWide, ht] at hval
  obtain ⟨cs, rfl, _, _⟩ := hval
  obtain ⟨fuel, hd⟩ := hd
  obtain ⟨xs, h1, h2, h3⟩ := trod_ints ht he hce hct hd
  refine ⟨xs, ?_, h2, h3⟩
  have : cs.toList = xs.map (Value.int k) := h1
  rw [← this]

/-- Arguments read the same where nothing that was there has changed. -/
theorem trodAll_after (K : Kids P (· < P.types.size)) (hz : ∀ t e, t < P.types.size → P.underlying t = some (.slice e) → 0 < P.cellsOf e) {W W' : World} (hb : RowKit.Below W.heap.size W W') : ∀ {ts : List TypeId} {vs : List Value} {ds : List (DataW H)} {ps : List MemPlace},
    (∀ t ∈ ts, t < P.types.size) → DataW.TrodAll enc P W 0 (fun _ => true) true ts vs ds ps → DataW.TrodAll enc P W' 0 (fun b => decide (b < W.heap.size)) true ts vs ds ps := by
  intro ts vs ds ps hts h
  have hlt := DataW.TrodAll.lt h
  have h2 := DataW.TrodAll.respare (T := (· < P.types.size)) (spare' := fun b => decide (b < W.heap.size)) K hz hts h (fun p hp => by simpa using hlt p hp)
  clear h hts
  induction ts generalizing vs ds ps with
  | nil =>
    obtain ⟨rfl, rfl, rfl⟩ := trodAll_nil h2
    exact trodAll_mk0
  | cons t ts ih =>
    obtain ⟨v, vs1, d, ds1, a, b, rfl, rfl, rfl, h3, h4⟩ := trodAll_cons h2
    obtain ⟨n, hn⟩ := h3
    exact ⟨a, b, ⟨n, DataW.trod_carry n _ _ _ hn fun p hp => hb.same (hlt p (List.mem_append.2 (.inl hp)))⟩, ih (fun p hp => hlt p (List.mem_append.2 (.inr hp))) h4, rfl⟩
end
end Go.X
