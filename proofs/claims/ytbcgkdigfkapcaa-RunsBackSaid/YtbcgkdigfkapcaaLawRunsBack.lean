/- The law RunsBack, as its row says it. -/
import Derived.Test.YtbcgkdigfkapcaaRows
import Derived.Test.YtbcgkdigfkapcaaLK
import Derived.Test.YtbcgkdigfkapcaaB7
import Derived.WalkKit
import Derived.ProofKit
import Derived.OpenShut
import Derived.ShutString
import Derived.ChangeOld
import Derived.Below
import Derived.SizedLaws
import Derived.ChangeMaps5
namespace Go.Proofs.Ytbcgkdigfkapcaa.runsBack
open Go.ChangeShapes Go.WideShapes Go.ChangeAt Go.RowKit
open Go.X
set_option linter.unusedVariables false
open Go.Proofs.Ytbcgkdigfkapcaa.LawK
theorem gtOk (w : World) : GtOk gt0 w := fun g b h => by cases h
set_option maxRecDepth 100000 in
theorem lifted (os : Os) (started : os.Started) (H : Type) (enc : TypeId × Value → H) :
    ReturnsInHanded {} Try.checked os 5 .any (Rows.runsBackSpec.pre6 enc Try.prog Try.f5 Rows.runsBackRow.domain false) (Rows.runsBackSpec.post enc Try.prog Try.f5 false true false false) := by
  refine returnsInHanded_of_change_sized (C := Try.checked) own started (by kernel_rfl) Try.func5
    (ChangeSpec.witness6 (enc := enc) (C := Try.checked) false ⟨#[], #[.agg (Array.replicate 64 (.int .i64 0)), .slice none 0 0, .int .i64 0], []⟩ 8 (by kernel_rfl) (by kernel_rfl) (by kernel_rfl) (by kernel_rfl)) ?_
  intro W base args ds gs before hval0 hW hcnd hsz0 _
  have hval : ∀ (j : Nat) t v, Try.f5.params[j]? = some t → args[j]? = some v → Value.okWide Try.prog W .any base t v := hval0
  have hW' := hW
  obtain ⟨p, q, hA0, hV, rfl, hfz, hnd⟩ := hW
  have hA : DataW.TrodAll enc Try.prog W 0 (fun _ => true) true Try.f5.params.toList args.toList ds p := hA0
  have hAfter := fun W' (bel : Below W.heap.size W W') => trodAll_after kids full bel (by decide) hA0
  rw [Try.params5] at hA hval
  obtain ⟨v0, vs0, d0, ds0, p0, q0, hargs, rfl, rfl, h0, r0⟩ := trodAll_cons hA
  obtain ⟨v1, vs1, d1, ds1, p1, q1, rfl, rfl, rfl, h1, r1⟩ := trodAll_cons r0
  obtain ⟨v2, vs2, d2, ds2, p2, q2, rfl, rfl, rfl, h2, r2⟩ := trodAll_cons r1
  obtain ⟨rfl, rfl, rfl⟩ := trodAll_nil r2
  obtain rfl : args = #[v0, v1, v2] := by cases args; simp_all
  obtain ⟨rfl, rfl⟩ := trodVars_none hV
  obtain ⟨a0, rfl, l0, w0⟩ := open_ints_arr (n := 64) (e := 3) (k := .i64) (by kernel_rfl) (by kernel_rfl) (by kernel_rfl) (by kernel_rfl) (hval 0 22 v0 rfl rfl) h0
  obtain ⟨L, nL, fL, hvL, hEL, hnL, hfL⟩ := open_rows tt_ok (e := 63) (l := [.bool, .int .i64, .int .i64]) (sz := 3) (by kernel_rfl) (by rfl) rfl rfl (by kernel_rfl) (hval 1 23 v1 rfl rfl) h1
  obtain ⟨a2, rfl, _, _, w2⟩ := open_int (k := .i64) (by kernel_rfl) (hval 2 3 v2 rfl rfl) h2
  refine (okLBack.callG W (gtOk W) ⟨1, fun _ => L⟩ [(0, .mem false 63 none (.rows nL 3 fL))] (fun i e he => by
      rw [look_cons] at he
      by_cases h : i = 0
      · rw [if_pos h] at he
        injection he with he
        subst he h
        exact ⟨by show 0 < 1; omega, hEL _, rfl⟩
      · rw [if_neg h] at he; cases he) (args := [.v (.agg [.ints 64 .i64 a0]), .v (.c (.sl 0 0 nL 3)), .v (.c (.int .i64 a2))]) (vals := [_, _, _]) (b := true) ⟨⟨_, rfl, RelL.single ⟨l0, rfl, w0⟩⟩, hvL, ⟨rfl, inK_of_wf w2⟩, trivial⟩ rfl (⟨⟨⟨rfl, by omega⟩, fun i hi => by
      obtain ⟨cs, hcs, hfi⟩ := hfL i hi
      obtain ⟨b0, c0, rfl, k0⟩ := hcs.bool
      obtain ⟨b1, c1, rfl, w1, k1⟩ := k0.int
      obtain ⟨b2, c2, rfl, w2, k2⟩ := k1.int
      obtain rfl := k2.nil
      unfold isEv; rw [hfi]; rfl
      ⟩, by exact l0⟩) rfl rfl).mono fun e W' ⟨he, bel⟩ => ?_
  subst he
  exact ⟨_, rfl, _, _, _, [], _, [], hW', trodAll_mk1 (shut_bool (by kernel_rfl) _), hAfter W' bel, rfl, bel.frame _, fun h => by cases h⟩
theorem over : Rows.runsBackRow.holds Try.pinned (OpenSpec.ofChange Rows.runsBackSpec) :=
  OpenClaim.holds_of_wide 5 Try.f5 rfl rfl rfl rfl rfl rfl rfl ⟨rfl, rfl, rfl, rfl, rfl⟩ rfl rfl rfl rfl rfl (by kernel_rfl) Try.func5 (by kernel_rfl)
    (of_decide_eq_true (by kernel_rfl)) (by unfold Func.isWrapper; first | (rw [if_pos (by decide +kernel)]; kernel_rfl) | (rw [if_neg (by decide +kernel)]; exact ⟨rfl, rfl⟩))
    (fun os started H enc _ => lifted os started H enc)
theorem proved : Rows.RunsBackSaid := over
#print axioms proved
end Go.Proofs.Ytbcgkdigfkapcaa.runsBack
namespace Go.Proofs.Ytbcgkdigfkapcaa
/-- The row, under a short name, for the claim. -/
theorem runsBack_holds : Rows.RunsBackSaid := runsBack.proved
end Go.Proofs.Ytbcgkdigfkapcaa
