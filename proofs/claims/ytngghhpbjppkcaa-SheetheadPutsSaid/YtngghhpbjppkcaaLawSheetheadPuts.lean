/- The law SheetheadPuts, as its row says it. -/
import Derived.Test.YtngghhpbjppkcaaRows
import Derived.Test.YtngghhpbjppkcaaF2
import Derived.Test.YtngghhpbjppkcaaFT
import Derived.WalkKit
import Derived.ProofKit
import Derived.OpenShut
import Derived.ShutString
import Derived.ChangeOld
import Derived.Below
import Derived.SizedLaws
import Derived.ChangeMaps5
import Derived.LaidMore
import Derived.Stop.Joined
import Derived.SevenTiedAt
set_option linter.unusedVariables false
namespace Go.Proofs.Ytngghhpbjppkcaa.sheetheadPuts
open Go.ChangeShapes Go.WideShapes Go.ChangeAt Go.RowKit
open Go.X
theorem own : ownKnob Try.prog.godebug = none := by kernel_rfl
theorem kids : Kids Try.prog (· < Try.prog.types.size) := kids_rows (by kernel_rfl) (by kernel_rfl)
theorem full : ∀ t e, t < Try.prog.types.size → Try.prog.underlying t = some (.slice e) → 0 < Try.prog.cellsOf e := slices_full_of _ (by kernel_rfl)
theorem gtOk (w : World) : GtOk gt0 w := fun g b h => by cases h
set_option maxRecDepth 100000 in
theorem lifted (os : Os) (started : os.Started) (H : Type) (enc : TypeId × Value → H) :
    ReturnsInHanded {} Try.checked os 4 .any (Rows.sheetheadPutsSpec.pre6 enc Try.prog Try.f4 Rows.sheetheadPutsRow.domain false) (Rows.sheetheadPutsSpec.post enc Try.prog Try.f4 false true false false) := by
  refine returnsInHanded_of_change_sized (C := Try.checked) own started (by kernel_rfl) Try.func4
    (ChangeSpec.witness6 (enc := enc) (C := Try.checked) false ⟨#[], #[.agg (Array.replicate 3 (.int .i64 0) ++ Array.replicate 1 (.bool false) ++ Array.replicate 1 (.int .i64 0) ++ Array.replicate 2 (.slice none 0 0) ++ Array.replicate 1 (.int .i64 0)), .string ⟨#[]⟩], []⟩ 8 (by kernel_rfl) (by kernel_rfl) (by kernel_rfl) (by kernel_rfl)) ?_
  intro W base args ds gs before hval0 hW hcnd hsz0 _
  have hval : ∀ (j : Nat) t v, Try.f4.params[j]? = some t → args[j]? = some v → Value.okWide Try.prog W .any base t v := hval0
  have hW' := hW
  obtain ⟨p, q, hA0, hV, rfl, hfz, hnd⟩ := hW
  have hA : DataW.TrodAll enc Try.prog W 0 (fun _ => true) true Try.f4.params.toList args.toList ds p := hA0
  have hAfter := fun W' (bel : Below W.heap.size W W') => trodAll_after kids full bel (by decide) hA0
  rw [Try.params4] at hA hval
  obtain ⟨v0, vs0, d0, ds0, p0, q0, hargs, rfl, rfl, h0, r0⟩ := trodAll_cons hA
  obtain ⟨v1, vs1, d1, ds1, p1, q1, rfl, rfl, rfl, h1, r1⟩ := trodAll_cons r0
  obtain ⟨rfl, rfl, rfl⟩ := trodAll_nil r1
  obtain rfl : args = #[v0, v1] := by cases args; simp_all
  obtain ⟨rfl, rfl⟩ := trodVars_none hV
  obtain ⟨y0, z0, e0⟩ := open_z tt_ok (s := (.pair (.int .i64) (.pair (.int .i64) (.pair (.int .i64) (.pair .bool (.pair (.int .i64) (.pair (.sl (.int .i64)) (.pair (.sl (.pair .bool (.pair (.int .i64) (.pair (.int .i64) (.sl (.pair (.int .i64) (.pair .bool (.pair (.int .i64) (.pair (.int .i64) (.pair (.arr 2 .i64) (.pair (.arr 6 .i64) (.arrS 6 (.pair .bool (.pair (.int .i64) (.int .i64))))))))))))))) (.int .i64))))))))) (by rfl) (te := _) rfl rfl (hval 0 30 v0 rfl rfl) h0
  obtain ⟨y1, z1, e1⟩ := open_z tt_ok (s := .str) (by rfl) (te := _) rfl rfl (hval 1 9 v1 rfl rfl) h1
  have pt := law_sheetheadPuts 1099511627776 (Nat.le_refl _) y0 z0.wf y1 z1.wf
  refine ((ok_law24_SheetheadPuts 1099511627776).callZ W (gtOk W) (z := zw W) (fun b o hb => hb) (args := [.v (Sh.v1 (.pair (.int .i64) (.pair (.int .i64) (.pair (.int .i64) (.pair .bool (.pair (.int .i64) (.pair (.sl (.int .i64)) (.pair (.sl (.pair .bool (.pair (.int .i64) (.pair (.int .i64) (.sl (.pair (.int .i64) (.pair .bool (.pair (.int .i64) (.pair (.int .i64) (.pair (.arr 2 .i64) (.pair (.arr 6 .i64) (.arrS 6 (.pair .bool (.pair (.int .i64) (.int .i64))))))))))))))) (.int .i64)))))))) y0), .v (Sh.v1 .str y1)]) (vals := [_, _]) (b := true) ⟨e0, e1, trivial⟩ rfl (congrArg Option.isSome pt) (congrArg (fun o => SV.v (.c (.bool (o.getD default)))) pt) rfl).mono fun e W' ⟨he, bel⟩ => ?_
  subst he
  exact ⟨_, rfl, _, _, _, [], _, [], hW', trodAll_mk1 (shut_bool (by kernel_rfl) _), hAfter W' bel, rfl, bel.frame _, fun h => by cases h⟩
theorem over : Rows.sheetheadPutsRow.holds Try.pinned (OpenSpec.ofChange Rows.sheetheadPutsSpec) :=
  OpenClaim.holds_of_wide 4 Try.f4 rfl rfl rfl rfl rfl rfl rfl ⟨rfl, rfl, rfl, rfl, rfl⟩ rfl rfl rfl rfl rfl (by kernel_rfl) Try.func4 (by kernel_rfl)
    (of_decide_eq_true (by kernel_rfl)) (by unfold Func.isWrapper; first | (rw [if_pos (by decide +kernel)]; kernel_rfl) | (rw [if_neg (by decide +kernel)]; exact ⟨rfl, rfl⟩))
    (fun os started H enc _ => lifted os started H enc)
theorem proved : Rows.SheetheadPutsSaid := over
#print axioms proved
end Go.Proofs.Ytngghhpbjppkcaa.sheetheadPuts
namespace Go.Proofs.Ytngghhpbjppkcaa
/-- The row, under a short name, for the claim. -/
theorem sheetheadPuts_holds : Rows.SheetheadPutsSaid := sheetheadPuts.proved
end Go.Proofs.Ytngghhpbjppkcaa
