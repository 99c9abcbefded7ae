/- The law BucketChecks, as its row says it. -/
import Derived.Test.YtmlnpfkbnldacaaRows
import Derived.Test.YtmlnpfkbnldacaaLK
import Derived.Test.YtmlnpfkbnldacaaX27
import Derived.Test.YtmlnpfkbnldacaaA15
import Derived.WalkKit
import Derived.ProofKit
import Derived.OpenShut
import Derived.ShutString
import Derived.ChangeOld
import Derived.Below
import Derived.SizedLaws
namespace Go.Proofs.Ytmlnpfkbnldacaa.bucketChecks
open Go.ChangeShapes Go.WideShapes Go.ChangeAt Go.RowKit
open Go.X
set_option linter.unusedVariables false
open Go.Proofs.Ytmlnpfkbnldacaa.LawK
theorem gtOk (w : World) : GtOk gt0 w := fun g b h => by cases h
set_option maxRecDepth 100000 in
theorem lifted (os : Os) (started : os.Started) (H : Type) (enc : TypeId × Value → H) :
    ReturnsInHanded {} Try.checked os 13 .any (Rows.bucketChecksSpec.pre6 enc Try.prog Try.f13 Rows.bucketChecksRow.domain false) (Rows.bucketChecksSpec.post enc Try.prog Try.f13 false true false false) := by
  refine returnsInHanded_of_change_sized (C := Try.checked) own started (by kernel_rfl) Try.func13
    (ChangeSpec.witness6 (enc := enc) (C := Try.checked) false ⟨#[], #[.agg #[.int .i64 0, .int .i64 0, .int .i64 0, .int .i64 0, .int .i64 0, .bool false, .bool false, .bool false], .int .i64 0], []⟩ 8 (by kernel_rfl) (by kernel_rfl) (by kernel_rfl) (by kernel_rfl)) ?_
  intro W base args ds gs before hval0 hW hcnd hsz0 _
  have hval : ∀ (j : Nat) t v, Try.f13.params[j]? = some t → args[j]? = some v → Value.okWide Try.prog W .any base t v := hval0
  have hW' := hW
  obtain ⟨p, q, hA0, hV, rfl, hfz, hnd⟩ := hW
  have hA : DataW.TrodAll enc Try.prog W 0 (fun _ => true) true Try.f13.params.toList args.toList ds p := hA0
  have hAfter := fun W' (bel : Below W.heap.size W W') => trodAll_after kids full bel (by decide) hA0
  rw [Try.params13] at hA hval
  obtain ⟨v0, vs0, d0, ds0, p0, q0, hargs, rfl, rfl, h0, r0⟩ := trodAll_cons hA
  obtain ⟨v1, vs1, d1, ds1, p1, q1, rfl, rfl, rfl, h1, r1⟩ := trodAll_cons r0
  obtain ⟨rfl, rfl, rfl⟩ := trodAll_nil r1
  obtain rfl : args = #[v0, v1] := by cases args; simp_all
  obtain ⟨rfl, rfl⟩ := trodVars_none hV
  obtain ⟨c0, rfl, e0⟩ := open_sgs tt_ok (l := [.int .i64, .int .i64, .int .i64, .int .i64, .int .i64, .bool, .bool, .bool]) (by rfl) (te := _) rfl rfl (hval 0 23 v0 rfl rfl) h0
  obtain ⟨a0_0, c0_0, rfl, w0_0, e0_0⟩ := e0.int
  obtain ⟨a0_1, c0_1, rfl, w0_1, e0_1⟩ := e0_0.int
  obtain ⟨a0_2, c0_2, rfl, w0_2, e0_2⟩ := e0_1.int
  obtain ⟨a0_3, c0_3, rfl, w0_3, e0_3⟩ := e0_2.int
  obtain ⟨a0_4, c0_4, rfl, w0_4, e0_4⟩ := e0_3.int
  obtain ⟨a0_5, c0_5, rfl, e0_5⟩ := e0_4.bool
  obtain ⟨a0_6, c0_6, rfl, e0_6⟩ := e0_5.bool
  obtain ⟨a0_7, c0_7, rfl, e0_7⟩ := e0_6.bool
  obtain rfl := e0_7.nil
  obtain ⟨a1, rfl, _, _, w1⟩ := open_int (k := .i64) (by kernel_rfl) (hval 1 3 v1 rfl rfl) h1
  refine (ok13.call W (gtOk W) (args := [.v (.agg [.cs [.int .i64 a0_0, .int .i64 a0_1, .int .i64 a0_2, .int .i64 a0_3, .int .i64 a0_4, .bool a0_5, .bool a0_6, .bool a0_7]]), .v (.c (.int .i64 a1))]) (vals := [_, _]) (b := true) ⟨⟨[Value.int .i64 a0_0, Value.int .i64 a0_1, Value.int .i64 a0_2, Value.int .i64 a0_3, Value.int .i64 a0_4, Value.bool a0_5, Value.bool a0_6, Value.bool a0_7], rfl, RelL.single (s := .cs _) (vs := [Value.int .i64 a0_0, Value.int .i64 a0_1, Value.int .i64 a0_2, Value.int .i64 a0_3, Value.int .i64 a0_4, Value.bool a0_5, Value.bool a0_6, Value.bool a0_7]) ⟨⟨rfl, w0_0⟩, ⟨rfl, w0_1⟩, ⟨rfl, w0_2⟩, ⟨rfl, w0_3⟩, ⟨rfl, w0_4⟩, rfl, rfl, rfl, trivial⟩⟩, ⟨rfl, inK_of_wf w1⟩, trivial⟩ rfl (by trivial) rfl rfl).mono fun e W' ⟨he, bel⟩ => ?_
  subst he
  exact ⟨_, rfl, _, _, _, [], _, [], hW', trodAll_mk1 (shut_bool (by kernel_rfl) _), hAfter W' bel, rfl, bel.frame _, fun h => by cases h⟩
theorem over : Rows.bucketChecksRow.holds Try.pinned (OpenSpec.ofChange Rows.bucketChecksSpec) :=
  OpenClaim.holds_of_wide 13 Try.f13 rfl rfl rfl rfl rfl rfl rfl ⟨rfl, rfl, rfl, rfl, rfl⟩ rfl rfl rfl rfl rfl (by kernel_rfl) Try.func13 (by kernel_rfl)
    (of_decide_eq_true (by kernel_rfl)) (by unfold Func.isWrapper; first | (rw [if_pos (by decide +kernel)]; kernel_rfl) | (rw [if_neg (by decide +kernel)]; exact ⟨rfl, rfl⟩))
    (fun os started H enc _ => lifted os started H enc)
theorem proved : Rows.BucketChecksSaid := over
#print axioms proved
end Go.Proofs.Ytmlnpfkbnldacaa.bucketChecks
namespace Go.Proofs.Ytmlnpfkbnldacaa
/-- The row, under a short name, for the claim. -/
theorem bucketChecks_holds : Rows.BucketChecksSaid := bucketChecks.proved
end Go.Proofs.Ytmlnpfkbnldacaa
