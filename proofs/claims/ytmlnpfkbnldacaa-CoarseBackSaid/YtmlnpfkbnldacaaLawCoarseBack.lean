/- The law CoarseBack, as its row says it. -/
import Derived.Test.YtmlnpfkbnldacaaRows
import Derived.Test.YtmlnpfkbnldacaaLK
import Derived.Test.YtmlnpfkbnldacaaA6
import Derived.WalkKit
import Derived.ProofKit
import Derived.OpenShut
import Derived.ShutString
import Derived.ChangeOld
import Derived.Below
import Derived.SizedLaws
namespace Go.Proofs.Ytmlnpfkbnldacaa.coarseBack
open Go.ChangeShapes Go.WideShapes Go.ChangeAt Go.RowKit
open Go.X
set_option linter.unusedVariables false
open Go.Proofs.Ytmlnpfkbnldacaa.LawK
theorem gtOk (w : World) : GtOk gt0 w := fun g b h => by cases h
set_option maxRecDepth 100000 in
theorem lifted (os : Os) (started : os.Started) (H : Type) (enc : TypeId × Value → H) :
    ReturnsInHanded {} Try.checked os 11 .any (Rows.coarseBackSpec.pre6 enc Try.prog Try.f11 Rows.coarseBackRow.domain false) (Rows.coarseBackSpec.post enc Try.prog Try.f11 false true false false) := by
  refine returnsInHanded_of_change_sized (C := Try.checked) own started (by kernel_rfl) Try.func11
    (ChangeSpec.witness6 (enc := enc) (C := Try.checked) false ⟨#[], #[.int .i64 0, .agg (Array.replicate 2 (.int .u8 0)), .int .i64 0], []⟩ 8 (by kernel_rfl) (by kernel_rfl) (by kernel_rfl) (by kernel_rfl)) ?_
  intro W base args ds gs before hval0 hW hcnd hsz0 _
  have hval : ∀ (j : Nat) t v, Try.f11.params[j]? = some t → args[j]? = some v → Value.okWide Try.prog W .any base t v := hval0
  have hW' := hW
  obtain ⟨p, q, hA0, hV, rfl, hfz, hnd⟩ := hW
  have hA : DataW.TrodAll enc Try.prog W 0 (fun _ => true) true Try.f11.params.toList args.toList ds p := hA0
  have hAfter := fun W' (bel : Below W.heap.size W W') => trodAll_after kids full bel (by decide) hA0
  rw [Try.params11] at hA hval
  obtain ⟨v0, vs0, d0, ds0, p0, q0, hargs, rfl, rfl, h0, r0⟩ := trodAll_cons hA
  obtain ⟨v1, vs1, d1, ds1, p1, q1, rfl, rfl, rfl, h1, r1⟩ := trodAll_cons r0
  obtain ⟨v2, vs2, d2, ds2, p2, q2, rfl, rfl, rfl, h2, r2⟩ := trodAll_cons r1
  obtain ⟨rfl, rfl, rfl⟩ := trodAll_nil r2
  obtain rfl : args = #[v0, v1, v2] := by cases args; simp_all
  obtain ⟨rfl, rfl⟩ := trodVars_none hV
  obtain ⟨a0, rfl, _, _, w0⟩ := open_int (k := .i64) (by kernel_rfl) (hval 0 3 v0 rfl rfl) h0
  obtain ⟨a1, rfl, l1, w1⟩ := open_ints_arr (n := 2) (e := 5) (k := .u8) (by kernel_rfl) (by kernel_rfl) (by kernel_rfl) (by kernel_rfl) (hval 1 47 v1 rfl rfl) h1
  obtain ⟨a1_0, a1_1, rfl⟩ := list2 l1
  obtain ⟨a2, rfl, _, _, w2⟩ := open_int (k := .i64) (by kernel_rfl) (hval 2 3 v2 rfl rfl) h2
  refine (ok11.call W (gtOk W) (args := [.v (.c (.int .i64 a0)), .v (.agg [.cs [.int .u8 a1_0, .int .u8 a1_1]]), .v (.c (.int .i64 a2))]) (vals := [_, _, _]) (b := true) ⟨⟨rfl, inK_of_wf w0⟩, ⟨[Value.int .u8 a1_0, Value.int .u8 a1_1], rfl, RelL.single (s := .cs _) (vs := [Value.int .u8 a1_0, Value.int .u8 a1_1]) ⟨⟨rfl, w1 _ (by simp)⟩, ⟨rfl, w1 _ (by simp)⟩, trivial⟩⟩, ⟨rfl, inK_of_wf w2⟩, trivial⟩ rfl (by exact ⟨w1 _ (by simp), w1 _ (by simp)⟩) rfl rfl).mono fun e W' ⟨he, bel⟩ => ?_
  subst he
  exact ⟨_, rfl, _, _, _, [], _, [], hW', trodAll_mk1 (shut_bool (by kernel_rfl) _), hAfter W' bel, rfl, bel.frame _, fun h => by cases h⟩
theorem over : Rows.coarseBackRow.holds Try.pinned (OpenSpec.ofChange Rows.coarseBackSpec) :=
  OpenClaim.holds_of_wide 11 Try.f11 rfl rfl rfl rfl rfl rfl rfl ⟨rfl, rfl, rfl, rfl, rfl⟩ rfl rfl rfl rfl rfl (by kernel_rfl) Try.func11 (by kernel_rfl)
    (of_decide_eq_true (by kernel_rfl)) (by unfold Func.isWrapper; first | (rw [if_pos (by decide +kernel)]; kernel_rfl) | (rw [if_neg (by decide +kernel)]; exact ⟨rfl, rfl⟩))
    (fun os started H enc _ => lifted os started H enc)
theorem proved : Rows.CoarseBackSaid := over
#print axioms proved
end Go.Proofs.Ytmlnpfkbnldacaa.coarseBack
namespace Go.Proofs.Ytmlnpfkbnldacaa
/-- The row, under a short name, for the claim. -/
theorem coarseBack_holds : Rows.CoarseBackSaid := coarseBack.proved
end Go.Proofs.Ytmlnpfkbnldacaa
