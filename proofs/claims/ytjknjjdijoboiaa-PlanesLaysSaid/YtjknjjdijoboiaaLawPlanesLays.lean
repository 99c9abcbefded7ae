/- The law PlanesLays, as its row says it. -/
import Derived.Test.YtjknjjdijoboiaaRows
import Derived.Test.YtjknjjdijoboiaaL2
import Derived.Test.YtjknjjdijoboiaaLS
import Derived.WalkKit
import Derived.ProofKit
import Derived.OpenShut
import Derived.ShutString
import Derived.ChangeOld
import Derived.Below
import Derived.SizedLaws
import Derived.ChangeMaps5
import Derived.LaidMore
import Derived.Stop.Joined
import Derived.SevenTiedAt
set_option linter.unusedVariables false
namespace Go.Proofs.Ytjknjjdijoboiaa.planesLays
open Go.ChangeShapes Go.WideShapes Go.ChangeAt Go.RowKit
open Go.X
theorem own : ownKnob Try.prog.godebug = none := by kernel_rfl
theorem kids : Kids Try.prog (· < Try.prog.types.size) := kids_rows (by kernel_rfl) (by kernel_rfl)
theorem full : ∀ t e, t < Try.prog.types.size → Try.prog.underlying t = some (.slice e) → 0 < Try.prog.cellsOf e := slices_full_of _ (by kernel_rfl)
theorem gtOk (w : World) : GtOk gt0 w := fun g b h => by cases h
set_option maxRecDepth 100000 in
theorem lifted (os : Os) (started : os.Started) (H : Type) (enc : TypeId × Value → H) :
    ReturnsInHanded {} Try.checked os 6 .any (Rows.planesLaysSpec.pre6 enc Try.prog Try.f6 Rows.planesLaysRow.domain false) (Rows.planesLaysSpec.post enc Try.prog Try.f6 false true false false) := by
  refine returnsInHanded_of_change_sized (C := Try.checked) own started (by kernel_rfl) Try.func6
    (ChangeSpec.witness6 (enc := enc) (C := Try.checked) false ⟨#[], #[.int .i64 0, .slice none 0 0], []⟩ 8 (by kernel_rfl) (by kernel_rfl) (by kernel_rfl) (by kernel_rfl)) ?_
  intro W base args ds gs before hval0 hW hcnd hsz0 _
  have hval : ∀ (j : Nat) t v, Try.f6.params[j]? = some t → args[j]? = some v → Value.okWide Try.prog W .any base t v := hval0
  have hW' := hW
  obtain ⟨p, q, hA0, hV, rfl, hfz, hnd⟩ := hW
  have hA : DataW.TrodAll enc Try.prog W 0 (fun _ => true) true Try.f6.params.toList args.toList ds p := hA0
  have hAfter := fun W' (bel : Below W.heap.size W W') => trodAll_after kids full bel (by decide) hA0
  rw [Try.params6] at hA hval
  obtain ⟨v0, vs0, d0, ds0, p0, q0, hargs, rfl, rfl, h0, r0⟩ := trodAll_cons hA
  obtain ⟨v1, vs1, d1, ds1, p1, q1, rfl, rfl, rfl, h1, r1⟩ := trodAll_cons r0
  obtain ⟨rfl, rfl, rfl⟩ := trodAll_nil r1
  obtain rfl : args = #[v0, v1] := by cases args; simp_all
  obtain ⟨rfl, rfl⟩ := trodVars_none hV
  obtain ⟨y0, z0, e0⟩ := open_z tt_ok (s := (.int .i64)) (by rfl) (te := _) rfl rfl (hval 0 3 v0 rfl rfl) h0
  obtain ⟨y1, z1, e1⟩ := open_z tt_ok (s := (.sl (.pair (.int .i64) (.sl (.int .i64))))) (by rfl) (te := _) rfl rfl (hval 1 47 v1 rfl rfl) h1
  rcases law_planesLays 18446744073709551616 (by decide) y0 z0.wf y1 z1.wf with pt | pt
  · skip
    refine ((ok_law17_PlanesLays_ptr 18446744073709551616).callZ W (gtOk W) (z := zw W) (fun b o hb => hb) (args := [.v (Sh.v1 (.int .i64) y0), .v (Sh.v1 (.sl (.pair (.int .i64) (.sl (.int .i64)))) y1)]) (vals := [_, _]) (b := true) ⟨e0, e1, trivial⟩ rfl (congrArg Option.isSome pt) (congrArg (fun o => SV.v (.c (.bool (o.getD default)))) pt) rfl).mono fun e W' ⟨he, bel⟩ => ?_
    subst he
    exact ⟨_, rfl, _, _, _, [], _, [], hW', trodAll_mk1 (shut_bool (by kernel_rfl) _), hAfter W' bel, rfl, bel.frame _, fun h => by cases h⟩
  · skip
    refine ((ok_law17_PlanesLays_nil 18446744073709551616).callZ W (gtOk W) (z := zw W) (fun b o hb => hb) (args := [.v (Sh.v1 (.int .i64) y0), .v (Sh.v1 (.sl (.pair (.int .i64) (.sl (.int .i64)))) y1)]) (vals := [_, _]) (b := true) ⟨e0, e1, trivial⟩ rfl (congrArg Option.isSome pt) (congrArg (fun o => SV.v (.c (.bool (o.getD default)))) pt) rfl).mono fun e W' ⟨he, bel⟩ => ?_
    subst he
    exact ⟨_, rfl, _, _, _, [], _, [], hW', trodAll_mk1 (shut_bool (by kernel_rfl) _), hAfter W' bel, rfl, bel.frame _, fun h => by cases h⟩
theorem over : Rows.planesLaysRow.holds Try.pinned (OpenSpec.ofChange Rows.planesLaysSpec) :=
  OpenClaim.holds_of_wide 6 Try.f6 rfl rfl rfl rfl rfl rfl rfl ⟨rfl, rfl, rfl, rfl, rfl⟩ rfl rfl rfl rfl rfl (by kernel_rfl) Try.func6 (by kernel_rfl)
    (of_decide_eq_true (by kernel_rfl)) (by unfold Func.isWrapper; first | (rw [if_pos (by decide +kernel)]; kernel_rfl) | (rw [if_neg (by decide +kernel)]; exact ⟨rfl, rfl⟩))
    (fun os started H enc _ => lifted os started H enc)
theorem proved : Rows.PlanesLaysSaid := over
#print axioms proved
end Go.Proofs.Ytjknjjdijoboiaa.planesLays
namespace Go.Proofs.Ytjknjjdijoboiaa
/-- The row, under a short name, for the claim. -/
theorem planesLays_holds : Rows.PlanesLaysSaid := planesLays.proved
end Go.Proofs.Ytjknjjdijoboiaa
