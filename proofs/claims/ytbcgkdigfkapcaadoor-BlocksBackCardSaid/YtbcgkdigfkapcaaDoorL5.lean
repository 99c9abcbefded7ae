/- Package-level tables: what a row lays, as library X's GT has it. -/
import Derived.Test.YtbcgkdigfkapcaaDoorL4
import Derived.ProofKit
import Derived.LaidMore
import Derived.OpenShut
import Derived.MakeChecks
set_option linter.unusedVariables false
namespace Go.X
open Go.ChangeShapes Go.WideShapes
section
variable {H : Type} {enc : TypeId × Value → H} {P : Program} {w : World} {base : Nat} {spare : Nat → Bool} {held : Bool}

/-- An array of integers, and what it reads as. -/
theorem trod_intsD {fuel : Nat} {t e : TypeId} {n : Nat} {k : IntKind} {cs : List Value} {x : DataW H × List MemPlace} (ht : P.underlying t = some (.array n e)) (he : P.underlying e = some (.int k)) (hce : P.cellsOf e = 1) (hct : P.cellsOf t = n)
    (h : DataW.trod enc P w base spare held fuel t cs = some x) : ∃ xs : List Int, cs = xs.map (Value.int k) ∧ xs.length = n ∧ (∀ x ∈ xs, inK k x) ∧ x.1 = .agg (xs.map fun y => .lit (.int k y)) := by
  obtain ⟨zs, e1, e2, e3⟩ := trod_ints ht he hce hct h
  obtain ⟨ys, m, rfl, rfl, hl, hn, hi⟩ := DataW.trod_array ht h
  refine ⟨zs, e1, e2, e3, ?_⟩
  show DataW.agg (ys.map (·.1)) = _
  refine congrArg _ (List.ext_getElem? fun i => ?_)
  rw [List.getElem?_map, List.getElem?_map]
  by_cases hin : i < n
  · have := hi i hin
    rw [hce, Nat.mul_one, List.getElem?_eq_getElem (by omega)] at this
    obtain ⟨v, g1, g2, _⟩ := DataW.trod_int he this
    rw [List.getElem?_eq_getElem (by omega), g2, List.getElem?_eq_getElem (by omega)]
    have h0 : ((cs.drop i).take 1)[0]? = some (Value.int k v) := by rw [g1]; rfl
    rw [List.getElem?_take_of_lt (by omega), List.getElem?_drop, Nat.add_zero, e1, List.getElem?_map, List.getElem?_eq_getElem (by omega)] at h0
    simp only [Option.map_some, Option.some.injEq, Value.int.injEq, true_and] at h0
    simp only [Option.map_some, h0]
  · rw [List.getElem?_eq_none (by omega), List.getElem?_eq_none (by omega)]; rfl
end
/-- A table of integers that a row lays: its name, its place, its kind, what it holds. -/
structure LT where
  name : String
  g : Nat
  k : IntKind
  xs : List Int
def LT.datum (q : LT) : DataW Unit := .agg (q.xs.map fun y => .lit (.int q.k y))
def gtOf (L : List LT) : GT := L.map fun q => (q.g, .flat [.ints q.xs.length q.k q.xs])
def LT.fits (P : Program) (q : LT) : Prop := P.globalNamed q.name = some q.g ∧ ∃ t e n, (P.globals[q.g]?).map (·.type) = some t ∧ P.underlying t = some (.array n e) ∧ P.underlying e = some (.int q.k) ∧ P.cellsOf e = 1 ∧ P.cellsOf t = n
theorem lit_inj {H : Type} {k : IntKind} : ∀ {xs ys : List Int}, (xs.map fun y => (DataW.lit (.int k y) : DataW H)) = ys.map (fun y => .lit (.int k y)) → xs = ys
  | [], [], _ => rfl
  | [], _ :: _, h => by simp at h
  | _ :: _, [], h => by simp at h
  | x :: xs, y :: ys, h => by
    simp only [List.map_cons, List.cons.injEq, DataW.lit.injEq, Lit.int.injEq, true_and] at h
    rw [h.1, lit_inj h.2]
theorem gtOk_vars {P : Program} {w : World} : ∀ {L : List LT} {ps : List MemPlace}, (∀ q ∈ L, q.fits P) → DataW.LaidVars P w (L.map fun q => (q.name, q.datum)) ps → GtOk (gtOf L) w
  | [], _, _, _ => fun g b h => by cases h
  | q :: L, ps, hL, h => by
    obtain ⟨g, t, cs, fuel, p, r, hg, ht, hv, hd, hr, _⟩ := h
    obtain ⟨hg', t', e, n, ht', hu, he, hce, hct⟩ := hL q (by simp)
    obtain rfl := Option.some.inj (hg'.symm.trans hg)
    obtain rfl := Option.some.inj (ht'.symm.trans ht)
    obtain ⟨xs, e1, e2, e3, e4⟩ := trod_intsD hu he hce hct hd
    have hx : q.xs = xs := lit_inj (DataW.agg.inj e4)
    subst hx
    intro g b hb
    rw [gtOf, List.map_cons, look_cons] at hb
    split at hb
    · rename_i hgi
      injection hb with hb
      subst hb hgi
      refine ⟨q.xs.map (Value.int q.k), RelL.single ⟨rfl, rfl, e3⟩, ?_, fun j v hj => ?_⟩
      · simp only [World.var?, hg', Option.bind_some] at hv
        split at hv
        · rename_i h0
          exact (Array.getElem?_eq_some_iff.1 h0).1
        · cases hv
      · rw [World.var?_cell hg' hv j, ← hj, ← e1, Array.getElem?_toList]
    · exact gtOk_vars (fun q hq => hL q (by simp [hq])) hr g b hb
theorem gtOk_laid {P : Program} {w : World} {L : List LT} {laid : List (String × DataW Unit)} (hp : (laid.all fun x => x.2.handleName?.isNone) = true) (he : laid = L.map fun q => (q.name, q.datum)) (hL : ∀ q ∈ L, q.fits P) (h : laidMetH P laid w) : GtOk (gtOf L) w := by
  rw [MakeChecks.laidMetH_plain _ _ _ hp] at h
  obtain ⟨ps, h, _⟩ := h
  rw [he] at h
  exact gtOk_vars hL h
end Go.X
