/- The law RowheadPuts, as its row says it. -/
import Derived.Test.YtgbeiogbppaogaaRows
import Derived.Test.YtgbeiogbppaogaaLK
import Derived.Test.YtgbeiogbppaogaaD6
import Derived.WalkKit
import Derived.ProofKit
import Derived.OpenShut
import Derived.ShutString
import Derived.ChangeOld
import Derived.Below
import Derived.SizedLaws
import Derived.ChangeMaps5
namespace Go.Proofs.Ytgbeiogbppaogaa.rowheadPuts
open Go.ChangeShapes Go.WideShapes Go.ChangeAt Go.RowKit
open Go.X
set_option linter.unusedVariables false
open Go.Proofs.Ytgbeiogbppaogaa.LawK
theorem gtOk (w : World) : GtOk gt0 w := fun g b h => by cases h
set_option maxRecDepth 100000 in
theorem lifted (os : Os) (started : os.Started) (H : Type) (enc : TypeId × Value → H) :
    ReturnsInHanded {} Try.checked os 13 .any (Rows.rowheadPutsSpec.pre6 enc Try.prog Try.f13 Rows.rowheadPutsRow.domain false) (Rows.rowheadPutsSpec.post enc Try.prog Try.f13 false true false false) := by
  refine returnsInHanded_of_change_sized (C := Try.checked) own started (by kernel_rfl) Try.func13
    (ChangeSpec.witness6 (enc := enc) (C := Try.checked) false ⟨#[], #[.string ⟨#[]⟩, .int .i64 0, .agg (Array.replicate 2 (.int .i64 0))], []⟩ 8 (by kernel_rfl) (by kernel_rfl) (by kernel_rfl) (by kernel_rfl)) ?_
  intro W base args ds gs before hval0 hW hcnd hsz0 _
  have hval : ∀ (j : Nat) t v, Try.f13.params[j]? = some t → args[j]? = some v → Value.okWide Try.prog W .any base t v := hval0
  have hW' := hW
  obtain ⟨p, q, hA0, hV, rfl, hfz, hnd⟩ := hW
  have hA : DataW.TrodAll enc Try.prog W 0 (fun _ => true) true Try.f13.params.toList args.toList ds p := hA0
  have hAfter := fun W' (bel : Below W.heap.size W W') => trodAll_after kids full bel (by decide) hA0
  rw [Try.params13] at hA hval
  obtain ⟨v0, vs0, d0, ds0, p0, q0, hargs, rfl, rfl, h0, r0⟩ := trodAll_cons hA
  obtain ⟨v1, vs1, d1, ds1, p1, q1, rfl, rfl, rfl, h1, r1⟩ := trodAll_cons r0
  obtain ⟨v2, vs2, d2, ds2, p2, q2, rfl, rfl, rfl, h2, r2⟩ := trodAll_cons r1
  obtain ⟨rfl, rfl, rfl⟩ := trodAll_nil r2
  obtain rfl : args = #[v0, v1, v2] := by cases args; simp_all
  obtain ⟨rfl, rfl⟩ := trodVars_none hV
  obtain ⟨a0, rfl, _, _, w0⟩ := Go.ChangeMaps.open_string (by kernel_rfl) (hval 0 9 v0 rfl rfl) h0
  obtain ⟨a1, rfl, _, _, w1⟩ := open_int (k := .i64) (by kernel_rfl) (hval 1 3 v1 rfl rfl) h1
  obtain ⟨a2, rfl, l2, w2⟩ := open_ints_arr (n := 2) (e := 3) (k := .i64) (by kernel_rfl) (by kernel_rfl) (by kernel_rfl) (by kernel_rfl) (hval 2 55 v2 rfl rfl) h2
  obtain ⟨a2_0, a2_1, rfl⟩ := list2 l2
  refine (okLPuts.call W (gtOk W) (args := [.v (.c (.str a0)), .v (.c (.int .i64 a1)), .v (.agg [.cs [.int .i64 a2_0, .int .i64 a2_1]])]) (vals := [_, _, _]) (b := true) ⟨⟨rfl, by simp only [maxLen] at w0; omega⟩, ⟨rfl, inK_of_wf w1⟩, ⟨[Value.int .i64 a2_0, Value.int .i64 a2_1], rfl, RelL.single (s := .cs _) (vs := [Value.int .i64 a2_0, Value.int .i64 a2_1]) ⟨⟨rfl, w2 _ (by simp)⟩, ⟨rfl, w2 _ (by simp)⟩, trivial⟩⟩, trivial⟩ rfl (by trivial) rfl rfl).mono fun e W' ⟨he, bel⟩ => ?_
  subst he
  exact ⟨_, rfl, _, _, _, [], _, [], hW', trodAll_mk1 (shut_bool (by kernel_rfl) _), hAfter W' bel, rfl, bel.frame _, fun h => by cases h⟩
theorem over : Rows.rowheadPutsRow.holds Try.pinned (OpenSpec.ofChange Rows.rowheadPutsSpec) :=
  OpenClaim.holds_of_wide 13 Try.f13 rfl rfl rfl rfl rfl rfl rfl ⟨rfl, rfl, rfl, rfl, rfl⟩ rfl rfl rfl rfl rfl (by kernel_rfl) Try.func13 (by kernel_rfl)
    (of_decide_eq_true (by kernel_rfl)) (by unfold Func.isWrapper; first | (rw [if_pos (by decide +kernel)]; kernel_rfl) | (rw [if_neg (by decide +kernel)]; exact ⟨rfl, rfl⟩))
    (fun os started H enc _ => lifted os started H enc)
theorem proved : Rows.RowheadPutsSaid := over
#print axioms proved
end Go.Proofs.Ytgbeiogbppaogaa.rowheadPuts
namespace Go.Proofs.Ytgbeiogbppaogaa
/-- The row, under a short name, for the claim. -/
theorem rowheadPuts_holds : Rows.RowheadPutsSaid := rowheadPuts.proved
end Go.Proofs.Ytgbeiogbppaogaa
