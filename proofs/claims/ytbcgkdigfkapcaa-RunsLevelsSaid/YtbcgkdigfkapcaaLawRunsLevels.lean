/- The law RunsLevels, as its row says it. -/
import Derived.Test.YtbcgkdigfkapcaaRows
import Derived.Test.YtbcgkdigfkapcaaLK
import Derived.Test.YtbcgkdigfkapcaaB7
import Derived.WalkKit
import Derived.ProofKit
import Derived.OpenShut
import Derived.ShutString
import Derived.ChangeOld
import Derived.Below
import Derived.SizedLaws
import Derived.ChangeMaps5
namespace Go.Proofs.Ytbcgkdigfkapcaa.runsLevels
open Go.ChangeShapes Go.WideShapes Go.ChangeAt Go.RowKit
open Go.X
set_option linter.unusedVariables false
open Go.Proofs.Ytbcgkdigfkapcaa.LawK
theorem gtOk (w : World) : GtOk gt0 w := fun g b h => by cases h
set_option maxRecDepth 100000 in
theorem lifted (os : Os) (started : os.Started) (H : Type) (enc : TypeId × Value → H) :
    ReturnsInHanded {} Try.checked os 4 .any (Rows.runsLevelsSpec.pre6 enc Try.prog Try.f4 Rows.runsLevelsRow.domain false) (Rows.runsLevelsSpec.post enc Try.prog Try.f4 false true false false) := by
  refine returnsInHanded_of_change_sized (C := Try.checked) own started (by kernel_rfl) Try.func4
    (ChangeSpec.witness6 (enc := enc) (C := Try.checked) false ⟨#[], #[.slice none 0 0, .int .i64 0], []⟩ 8 (by kernel_rfl) (by kernel_rfl) (by kernel_rfl) (by kernel_rfl)) ?_
  intro W base args ds gs before hval0 hW hcnd hsz0 _
  have hval : ∀ (j : Nat) t v, Try.f4.params[j]? = some t → args[j]? = some v → Value.okWide Try.prog W .any base t v := hval0
  have hW' := hW
  obtain ⟨p, q, hA0, hV, rfl, hfz, hnd⟩ := hW
  have hA : DataW.TrodAll enc Try.prog W 0 (fun _ => true) true Try.f4.params.toList args.toList ds p := hA0
  have hAfter := fun W' (bel : Below W.heap.size W W') => trodAll_after kids full bel (by decide) hA0
  rw [Try.params4] at hA hval
  obtain ⟨v0, vs0, d0, ds0, p0, q0, hargs, rfl, rfl, h0, r0⟩ := trodAll_cons hA
  obtain ⟨v1, vs1, d1, ds1, p1, q1, rfl, rfl, rfl, h1, r1⟩ := trodAll_cons r0
  obtain ⟨rfl, rfl, rfl⟩ := trodAll_nil r1
  obtain rfl : args = #[v0, v1] := by cases args; simp_all
  obtain ⟨rfl, rfl⟩ := trodVars_none hV
  obtain ⟨L, nL, fL, hvL, hEL, hnL, hfL⟩ := open_rows tt_ok (e := 63) (l := [.bool, .int .i64, .int .i64]) (sz := 3) (by kernel_rfl) (by rfl) rfl rfl (by kernel_rfl) (hval 0 23 v0 rfl rfl) h0
  obtain ⟨a1, rfl, _, _, w1⟩ := open_int (k := .i64) (by kernel_rfl) (hval 1 3 v1 rfl rfl) h1
  refine (okLLevels.callG W (gtOk W) ⟨1, fun _ => L⟩ [(0, .mem false 63 none (.rows nL 3 fL))] (fun i e he => by
      rw [look_cons] at he
      by_cases h : i = 0
      · rw [if_pos h] at he
        injection he with he
        subst he h
        exact ⟨by show 0 < 1; omega, hEL _, rfl⟩
      · rw [if_neg h] at he; cases he) (args := [.v (.c (.sl 0 0 nL 3)), .v (.c (.int .i64 a1))]) (vals := [_, _]) (b := true) ⟨hvL, ⟨rfl, inK_of_wf w1⟩, trivial⟩ rfl (⟨⟨rfl, by omega⟩, fun i hi => by
      obtain ⟨cs, hcs, hfi⟩ := hfL i hi
      obtain ⟨b0, c0, rfl, k0⟩ := hcs.bool
      obtain ⟨b1, c1, rfl, w1, k1⟩ := k0.int
      obtain ⟨b2, c2, rfl, w2, k2⟩ := k1.int
      obtain rfl := k2.nil
      unfold isEv; rw [hfi]; rfl
      ⟩) rfl rfl).mono fun e W' ⟨he, bel⟩ => ?_
  subst he
  exact ⟨_, rfl, _, _, _, [], _, [], hW', trodAll_mk1 (shut_bool (by kernel_rfl) _), hAfter W' bel, rfl, bel.frame _, fun h => by cases h⟩
theorem over : Rows.runsLevelsRow.holds Try.pinned (OpenSpec.ofChange Rows.runsLevelsSpec) :=
  OpenClaim.holds_of_wide 4 Try.f4 rfl rfl rfl rfl rfl rfl rfl ⟨rfl, rfl, rfl, rfl, rfl⟩ rfl rfl rfl rfl rfl (by kernel_rfl) Try.func4 (by kernel_rfl)
    (of_decide_eq_true (by kernel_rfl)) (by unfold Func.isWrapper; first | (rw [if_pos (by decide +kernel)]; kernel_rfl) | (rw [if_neg (by decide +kernel)]; exact ⟨rfl, rfl⟩))
    (fun os started H enc _ => lifted os started H enc)
theorem proved : Rows.RunsLevelsSaid := over
#print axioms proved
end Go.Proofs.Ytbcgkdigfkapcaa.runsLevels
namespace Go.Proofs.Ytbcgkdigfkapcaa
/-- The row, under a short name, for the claim. -/
theorem runsLevels_holds : Rows.RunsLevelsSaid := runsLevels.proved
end Go.Proofs.Ytbcgkdigfkapcaa
