/- Package-level tables of numbers, flat or in rows. -/
import Derived.Test.YtbcgkdigfkapcaaDoorL8
set_option linter.unusedVariables false
namespace Go.X
open Go.ChangeShapes Go.WideShapes
section
variable {H : Type} {enc : TypeId × Value → H} {P : Program} {w : World} {base : Nat} {spare : Nat → Bool} {held : Bool}

theorem chunk_eq {m : Nat} {f : Int → Value} : ∀ (xss : List (List Int)) (cs : List Value), cs.length = xss.length * m → (∀ i r, xss[i]? = some r → (cs.drop (i * m)).take m = r.map f) → cs = xss.flatten.map f
  | [], cs, h, _ => by simp at h; simp [h]
  | r :: xss, cs, h, hc => by
    have h0 := hc 0 r rfl
    simp only [Nat.zero_mul, List.drop_zero] at h0
    have := chunk_eq (m := m) (f := f) xss (cs.drop m) (by rw [List.length_drop, h, List.length_cons, Nat.succ_mul]; omega) (fun i r hr => by
      have := hc (i + 1) r (by simpa using hr)
      rw [List.drop_drop]
      rwa [show m + i * m = (i + 1) * m by rw [Nat.succ_mul]; omega])
    rw [List.flatten_cons, List.map_append, ← h0, ← this, List.take_append_drop]

theorem trod_ints2D {fuel : Nat} {t e i : TypeId} {n m : Nat} {k : IntKind} {cs : List Value} {x : DataW H × List MemPlace} (ht : P.underlying t = some (.array n e)) (he : P.underlying e = some (.array m i)) (hi : P.underlying i = some (.int k)) (hci : P.cellsOf i = 1) (hce : P.cellsOf e = m) (hct : P.cellsOf t = n * m)
    (h : DataW.trod enc P w base spare held fuel t cs = some x) : ∃ xss : List (List Int), cs = xss.flatten.map (Value.int k) ∧ xss.length = n ∧ (∀ r ∈ xss, r.length = m ∧ ∀ y ∈ r, inK k y) ∧ x.1 = .agg (xss.map fun r => .agg (r.map fun y => .lit (.int k y))) := by
  obtain ⟨ys, f, rfl, rfl, hl, hn, hel⟩ := DataW.trod_array ht h
  obtain ⟨xss, h1, h2⟩ := choose_list (R := fun j (r : List Int) => (cs.drop (j * m)).take m = r.map (Value.int k) ∧ (r.length = m ∧ ∀ y ∈ r, inK k y) ∧ (ys[j]?).map (·.1) = some (.agg (r.map fun y => .lit (.int k y)))) n fun j hj => by
    have := hel j hj
    rw [hce, List.getElem?_eq_getElem (by omega)] at this
    obtain ⟨r, e1, e2, e3, e4⟩ := trod_intsD he hi hci hce this
    exact ⟨r, e1, ⟨e2, e3⟩, by rw [List.getElem?_eq_getElem (by omega), Option.map_some, e4]⟩
  refine ⟨xss, chunk_eq (m := m) xss cs (by rw [h1, hl, hct]) fun j r hr => (h2 j r hr).1, h1, fun r hr => ?_, ?_⟩
  · obtain ⟨j, hj⟩ := List.getElem?_of_mem hr
    exact (h2 j r hj).2.1
  · show DataW.agg (ys.map (·.1)) = _
    refine congrArg _ (List.ext_getElem? fun j => ?_)
    rw [List.getElem?_map, List.getElem?_map]
    cases hj : xss[j]? with
    | none =>
      have := List.getElem?_eq_none_iff.1 hj
      rw [List.getElem?_eq_none (by omega)]; rfl
    | some r => exact (h2 j r hj).2.2
end

/-- What a table holds, by what it reads as. -/
def TabIs (P : Program) (name : String) (g : Nat) (b : Body) (d : DataW Unit) : Prop :=
  P.globalNamed name = some g ∧ ∃ t, (P.globals[g]?).map (·.type) = some t ∧ ∀ (enc : TypeId × Value → Unit) (w : World) (base : Nat) (spare : Nat → Bool) (held : Bool) (fuel : Nat) (cs : List Value) (p : List MemPlace), DataW.trod enc P w base spare held fuel t cs = some (d, p) → RelB ⟨0, fun _ => default, fun _ => none⟩ b cs
theorem tabIs_flat {P : Program} {name : String} {g n : Nat} {k : IntKind} {xs : List Int} {t e : TypeId} (hg : P.globalNamed name = some g) (ht : (P.globals[g]?).map (·.type) = some t) (hu : P.underlying t = some (.array n e)) (he : P.underlying e = some (.int k)) (hce : P.cellsOf e = 1) (hct : P.cellsOf t = n) :
    TabIs P name g (.flat [.ints n k xs]) (.agg (xs.map fun y => .lit (.int k y))) := by
  refine ⟨hg, t, ht, fun enc w base spare held fuel cs p h => ?_⟩
  obtain ⟨ys, e1, e2, e3, e4⟩ := trod_intsD hu he hce hct h
  have hx : xs = ys := lit_inj (DataW.agg.inj e4)
  subst hx
  exact RelL.single ⟨e2, e1, e3⟩
theorem agg_inj {k : IntKind} : ∀ {xss yss : List (List Int)}, (xss.map fun r => (DataW.agg (r.map fun y => (DataW.lit (.int k y) : DataW Unit)))) = yss.map (fun r => .agg (r.map fun y => .lit (.int k y))) → xss = yss
  | [], [], _ => rfl
  | [], _ :: _, h => by simp at h
  | _ :: _, [], h => by simp at h
  | x :: xs, y :: ys, h => by
    simp only [List.map_cons, List.cons.injEq] at h
    rw [lit_inj (DataW.agg.inj h.1), agg_inj h.2]
theorem tabIs_rows {P : Program} {name : String} {g n m : Nat} {k : IntKind} {xss : List (List Int)} {t e i : TypeId} (hg : P.globalNamed name = some g) (ht : (P.globals[g]?).map (·.type) = some t) (hu : P.underlying t = some (.array n e)) (he : P.underlying e = some (.array m i)) (hi : P.underlying i = some (.int k)) (hci : P.cellsOf i = 1) (hce : P.cellsOf e = m) (hct : P.cellsOf t = n * m) {nm : Nat} (hnm : nm = n * m) {xs : List Int} (hx : xs = xss.flatten) :
    TabIs P name g (.flat [.ints nm k xs]) (.agg (xss.map fun r => .agg (r.map fun y => .lit (.int k y)))) := by
  refine ⟨hg, t, ht, fun enc w base spare held fuel cs p h => ?_⟩
  obtain ⟨ys, e1, e2, e3, e4⟩ := trod_ints2D hu he hi hci hce hct h
  have hx' : xss = ys := agg_inj (DataW.agg.inj e4)
  subst hx' hx hnm
  refine RelL.single ⟨?_, e1, fun y hy => ?_⟩
  · rw [← e2]
    clear e1 e2 e4 h
    induction xss with
    | nil => simp
    | cons r l ih =>
      rw [List.flatten_cons, List.length_append, (e3 r (by simp)).1, ih (fun r hr => e3 r (by simp [hr])), List.length_cons, Nat.succ_mul]
      omega
  · obtain ⟨r, hr, hy⟩ := List.mem_flatten.1 hy
    exact (e3 r hr).2 y hy

inductive TabsAre (P : Program) : List (String × DataW Unit) → GT → Prop
  | nil : TabsAre P [] []
  | cons {name : String} {g : Nat} {b : Body} {d : DataW Unit} {l : List (String × DataW Unit)} {gt : GT} (h : TabIs P name g b d) (t : TabsAre P l gt) : TabsAre P ((name, d) :: l) ((g, b) :: gt)

theorem gtOk_tabs {P : Program} {w : World} : ∀ {l : List (String × DataW Unit)} {gt : GT} {ps : List MemPlace}, TabsAre P l gt → DataW.LaidVars P w l ps → GtOk gt w
  | _, _, _, .nil, _ => fun g b h => by cases h
  | _, _, ps, .cons ⟨hg', t', ht', hb'⟩ tl, h => by
    obtain ⟨g, t, cs, fuel, p, r, hg, ht, hv, hd, hr, _⟩ := h
    obtain rfl := Option.some.inj (hg'.symm.trans hg)
    obtain rfl := Option.some.inj (ht'.symm.trans ht)
    intro g b hb
    rw [look_cons] at hb
    split at hb
    · rename_i hgi
      injection hb with hb
      subst hb hgi
      refine ⟨cs.toList, hb' _ _ _ _ _ _ _ _ hd, ?_, fun j v hj => ?_⟩
      · simp only [World.var?, hg', Option.bind_some] at hv
        split at hv
        · rename_i h0
          exact (Array.getElem?_eq_some_iff.1 h0).1
        · cases hv
      · rw [World.var?_cell hg' hv j, ← hj, Array.getElem?_toList]
    · exact gtOk_tabs tl hr g b hb
theorem gtOk_met {P : Program} {w : World} {gt : GT} {laid : List (String × DataW Unit)} (hp : (laid.all fun x => x.2.handleName?.isNone) = true) (ht : TabsAre P laid gt) (h : laidMetH P laid w) : GtOk gt w := by
  rw [MakeChecks.laidMetH_plain _ _ _ hp] at h
  obtain ⟨ps, h, _⟩ := h
  exact gtOk_tabs ht h
end Go.X
