/- The law RowheadTakes, as its row says it. -/
import Derived.Test.YtgbeiogbppaogaaRows
import Derived.Test.YtgbeiogbppaogaaLK
import Derived.Test.YtgbeiogbppaogaaD4
import Derived.WalkKit
import Derived.ProofKit
import Derived.OpenShut
import Derived.ShutString
import Derived.ChangeOld
import Derived.Below
import Derived.SizedLaws
import Derived.ChangeMaps5
namespace Go.Proofs.Ytgbeiogbppaogaa.rowheadTakes
open Go.ChangeShapes Go.WideShapes Go.ChangeAt Go.RowKit
open Go.X
set_option linter.unusedVariables false
open Go.Proofs.Ytgbeiogbppaogaa.LawK
theorem gtOk (w : World) : GtOk gt0 w := fun g b h => by cases h
set_option maxRecDepth 100000 in
theorem lifted (os : Os) (started : os.Started) (H : Type) (enc : TypeId × Value → H) :
    ReturnsInHanded {} Try.checked os 12 .any (Rows.rowheadTakesSpec.pre6 enc Try.prog Try.f12 Rows.rowheadTakesRow.domain false) (Rows.rowheadTakesSpec.post enc Try.prog Try.f12 false true false false) := by
  refine returnsInHanded_of_change_sized (C := Try.checked) own started (by kernel_rfl) Try.func12
    (ChangeSpec.witness6 (enc := enc) (C := Try.checked) false ⟨#[], #[.string ⟨#[]⟩, .int .i64 0, .int .i64 0], []⟩ 8 (by kernel_rfl) (by kernel_rfl) (by kernel_rfl) (by kernel_rfl)) ?_
  intro W base args ds gs before hval0 hW hcnd hsz0 _
  have hval : ∀ (j : Nat) t v, Try.f12.params[j]? = some t → args[j]? = some v → Value.okWide Try.prog W .any base t v := hval0
  have hW' := hW
  obtain ⟨p, q, hA0, hV, rfl, hfz, hnd⟩ := hW
  have hA : DataW.TrodAll enc Try.prog W 0 (fun _ => true) true Try.f12.params.toList args.toList ds p := hA0
  have hAfter := fun W' (bel : Below W.heap.size W W') => trodAll_after kids full bel (by decide) hA0
  rw [Try.params12] at hA hval
  obtain ⟨v0, vs0, d0, ds0, p0, q0, hargs, rfl, rfl, h0, r0⟩ := trodAll_cons hA
  obtain ⟨v1, vs1, d1, ds1, p1, q1, rfl, rfl, rfl, h1, r1⟩ := trodAll_cons r0
  obtain ⟨v2, vs2, d2, ds2, p2, q2, rfl, rfl, rfl, h2, r2⟩ := trodAll_cons r1
  obtain ⟨rfl, rfl, rfl⟩ := trodAll_nil r2
  obtain rfl : args = #[v0, v1, v2] := by cases args; simp_all
  obtain ⟨rfl, rfl⟩ := trodVars_none hV
  obtain ⟨a0, rfl, _, _, w0⟩ := Go.ChangeMaps.open_string (by kernel_rfl) (hval 0 9 v0 rfl rfl) h0
  obtain ⟨a1, rfl, _, _, w1⟩ := open_int (k := .i64) (by kernel_rfl) (hval 1 3 v1 rfl rfl) h1
  obtain ⟨a2, rfl, _, _, w2⟩ := open_int (k := .i64) (by kernel_rfl) (hval 2 3 v2 rfl rfl) h2
  refine (okLTakes.call W (gtOk W) (args := [.v (.c (.str a0)), .v (.c (.int .i64 a1)), .v (.c (.int .i64 a2))]) (vals := [_, _, _]) (b := true) ⟨⟨rfl, by simp only [maxLen] at w0; omega⟩, ⟨rfl, inK_of_wf w1⟩, ⟨rfl, inK_of_wf w2⟩, trivial⟩ rfl (by trivial) rfl rfl).mono fun e W' ⟨he, bel⟩ => ?_
  subst he
  exact ⟨_, rfl, _, _, _, [], _, [], hW', trodAll_mk1 (shut_bool (by kernel_rfl) _), hAfter W' bel, rfl, bel.frame _, fun h => by cases h⟩
theorem over : Rows.rowheadTakesRow.holds Try.pinned (OpenSpec.ofChange Rows.rowheadTakesSpec) :=
  OpenClaim.holds_of_wide 12 Try.f12 rfl rfl rfl rfl rfl rfl rfl ⟨rfl, rfl, rfl, rfl, rfl⟩ rfl rfl rfl rfl rfl (by kernel_rfl) Try.func12 (by kernel_rfl)
    (of_decide_eq_true (by kernel_rfl)) (by unfold Func.isWrapper; first | (rw [if_pos (by decide +kernel)]; kernel_rfl) | (rw [if_neg (by decide +kernel)]; exact ⟨rfl, rfl⟩))
    (fun os started H enc _ => lifted os started H enc)
theorem proved : Rows.RowheadTakesSaid := over
#print axioms proved
end Go.Proofs.Ytgbeiogbppaogaa.rowheadTakes
namespace Go.Proofs.Ytgbeiogbppaogaa
/-- The row, under a short name, for the claim. -/
theorem rowheadTakes_holds : Rows.RowheadTakesSaid := rowheadTakes.proved
end Go.Proofs.Ytgbeiogbppaogaa
