/- The law ChainGoes, as its card says it. -/
import Derived.Test.YtlcjjaglbcfbbaaDoorRows
import Derived.Test.YtlcjjaglbcfbbaaDoorTie
import Derived.Test.YtlcjjaglbcfbbaaDoorCards
import Derived.Test.YtlcjjaglbcfbbaaDoorE3
import Derived.Test.YtlcjjaglbcfbbaaDoorEF
import Derived.WalkKit
import Derived.ProofKit
import Derived.OpenShut
import Derived.ShutString
import Derived.ChangeOld
import Derived.Below
import Derived.SizedLaws
import Derived.ChangeMaps5
import Derived.LaidMore
import Derived.Stop.Joined
import Derived.SevenTiedAt
set_option linter.unusedVariables false
namespace Go.Proofs.YtlcjjaglbcfbbaaDoor.chainGoes
open Go.ChangeShapes Go.WideShapes Go.ChangeAt Go.RowKit
open Go.X
theorem own : ownKnob Tryd.prog.godebug = none := by kernel_rfl
theorem kids : Kids Tryd.prog (· < Tryd.prog.types.size) := kids_rows (by kernel_rfl) (by kernel_rfl)
theorem full : ∀ t e, t < Tryd.prog.types.size → Tryd.prog.underlying t = some (.slice e) → 0 < Tryd.prog.cellsOf e := slices_full_of _ (by kernel_rfl)
theorem laidC : Rows.laid_overspill_tcoef_codes (H := Unit) = .agg (([2, 15, 21, 23, 31, 37, 36, 33, 32, 7, 6, 32, 6, 20, 30, 15, 33, 80, 14, 29, 14, 81, 13, 35, 13, 12, 34, 82, 11, 12, 83, 19, 11, 84, 18, 10, 17, 9, 16, 8, 22, 85, 21, 20, 28, 27, 33, 32, 31, 30, 29, 28, 27, 26, 34, 35, 86, 87, 7, 25, 5, 15, 4, 14, 13, 12, 19, 18, 17, 16, 26, 25, 24, 23, 22, 21, 20, 19, 24, 23, 22, 21, 20, 19, 18, 17, 7, 6, 5, 4, 36, 37, 38, 39, 88, 89, 90, 91, 92, 93, 94, 95] : List Int).map fun y => .lit (.int .i64 y)) := by kernel_rfl
theorem laidL : Rows.laid_overspill_tcoef_lengths (H := Unit) = .agg (([2, 4, 6, 7, 8, 9, 9, 10, 10, 11, 11, 11, 3, 6, 8, 10, 11, 12, 4, 8, 10, 12, 5, 9, 10, 5, 9, 12, 5, 10, 12, 6, 10, 12, 6, 10, 6, 10, 6, 10, 7, 12, 7, 7, 8, 8, 9, 9, 9, 9, 9, 9, 9, 9, 11, 11, 12, 12, 4, 9, 11, 6, 11, 6, 6, 6, 7, 7, 7, 7, 8, 8, 8, 8, 8, 8, 8, 8, 9, 9, 9, 9, 9, 9, 9, 9, 10, 10, 10, 10, 11, 11, 11, 11, 12, 12, 12, 12, 12, 12, 12, 12] : List Int).map fun y => .lit (.int .i64 y)) := by kernel_rfl
theorem tabs : TabsAre Tryd.prog Rows.chainGoesRow.laid gt0 := by
  show TabsAre Tryd.prog [("overspill/tcoef.codes", Rows.laid_overspill_tcoef_codes), ("overspill/tcoef.lengths", Rows.laid_overspill_tcoef_lengths)] gt0
  rw [laidC]
  rw [laidL]
  exact TabsAre.cons (tabIs_flat (n := 102) (t := 119) (e := 3) (by kernel_rfl) (by kernel_rfl) (by kernel_rfl) (by kernel_rfl) (by kernel_rfl) (by kernel_rfl)) (TabsAre.cons (tabIs_flat (n := 102) (t := 119) (e := 3) (by kernel_rfl) (by kernel_rfl) (by kernel_rfl) (by kernel_rfl) (by kernel_rfl) (by kernel_rfl)) (TabsAre.nil))
theorem door_met (os : Os) (args : Array Value) : laidMetH Tryd.prog Rows.chainGoesRow.laid ((World.doorLaid Tryd.prog 400 os).forCall (fun _ _ => 0) ⟨#[], args, []⟩).memory :=
  laidMetH_of_parts3 (fuel := 8) (laidMet_of_run' 8 (by kernel_rfl) (by kernel_rfl)) (by kernel_rfl) (by kernel_rfl)
set_option maxRecDepth 100000 in
theorem lifted (os : Os) (started : os.Started) (H : Type) (enc : TypeId × Value → H) :
    ReturnsInHanded {} Tryd.checked os 8 .any (fun w args => (Rows.chainGoesSpec.pre enc Tryd.prog Tryd.f8 [] false w args ∧ laidMetH Tryd.prog Rows.chainGoesRow.laid w) ∧ sizedMet enc Tryd.prog Tryd.f8 (OpenSpec.ofChange Rows.chainGoesSpec) false w args)
      (Rows.chainGoesSpec.post enc Tryd.prog Tryd.f8 false true false false) := by
  refine returnsInHanded_of_change_and (C := Tryd.checked) (X := fun w _ => laidMetH Tryd.prog Rows.chainGoesRow.laid w) (fun _ _ _ hh h => h.of_heap hh) own started (by kernel_rfl) Tryd.func8
    (ChangeSpec.witness_shaped (enc := enc) (C := Tryd.checked) (os := os) (X := fun w _ => laidMetH Tryd.prog Rows.chainGoesRow.laid w) false (World.doorLaid Tryd.prog 400 os) #[.agg (Array.replicate 3 (.int .i64 0) ++ Array.replicate 1 (.bool false) ++ Array.replicate 1 (.int .i64 0) ++ Array.replicate 2 (.slice none 0 0) ++ Array.replicate 1 (.int .i64 0)), .slice none 0 0] 8 rfl (World.shaped_of_RefB (by kernel_rfl) (by kernel_rfl)) (by kernel_rfl) (by kernel_rfl) (by kernel_rfl) (door_met os _)) ?_
  intro W base args ds gs before hval0 hW _ _ hL _
  have hval : ∀ (j : Nat) t v, Tryd.f8.params[j]? = some t → args[j]? = some v → Value.okWide Tryd.prog W .any base t v := hval0
  have hW' := hW
  obtain ⟨p, q, hA0, hV, rfl, hfz, hnd⟩ := hW
  have hA : DataW.TrodAll enc Tryd.prog W 0 (fun _ => true) true Tryd.f8.params.toList args.toList ds p := hA0
  have hAfter := fun W' (bel : Below W.heap.size W W') => trodAll_after kids full bel (by decide) hA0
  rw [Tryd.params8] at hA hval
  obtain ⟨v0, vs0, d0, ds0, p0, q0, hargs, rfl, rfl, h0, r0⟩ := trodAll_cons hA
  obtain ⟨v1, vs1, d1, ds1, p1, q1, rfl, rfl, rfl, h1, r1⟩ := trodAll_cons r0
  obtain ⟨rfl, rfl, rfl⟩ := trodAll_nil r1
  obtain rfl : args = #[v0, v1] := by cases args; simp_all
  obtain ⟨rfl, rfl⟩ := trodVars_none hV
  obtain ⟨y0, z0, e0⟩ := open_z tt_ok (s := (.pair (.int .i64) (.pair (.int .i64) (.pair (.int .i64) (.pair .bool (.pair (.int .i64) (.pair (.sl (.int .i64)) (.pair (.sl (.pair .bool (.pair (.int .i64) (.pair (.int .i64) (.sl (.pair (.int .i64) (.pair .bool (.pair (.int .i64) (.pair (.int .i64) (.pair (.arr 2 .i64) (.pair (.arr 6 .i64) (.arrS 6 (.pair .bool (.pair (.int .i64) (.int .i64))))))))))))))) (.int .i64))))))))) (by rfl) (te := _) rfl rfl (hval 0 25 v0 rfl rfl) h0
  obtain ⟨y1, z1, e1⟩ := open_z tt_ok (s := (.sl (.int .i64))) (by rfl) (te := _) rfl rfl (hval 1 22 v1 rfl rfl) h1
  have pt := law_chainGoes 1099511627776 (Nat.le_refl _) y0 z0.wf y1 z1.wf
  refine ((ok_law37_ChainGoes 1099511627776).callZ W (gtOk_met (by kernel_rfl) tabs hL) (z := zw W) (fun b o hb => hb) (args := [.v (Sh.v1 (.pair (.int .i64) (.pair (.int .i64) (.pair (.int .i64) (.pair .bool (.pair (.int .i64) (.pair (.sl (.int .i64)) (.pair (.sl (.pair .bool (.pair (.int .i64) (.pair (.int .i64) (.sl (.pair (.int .i64) (.pair .bool (.pair (.int .i64) (.pair (.int .i64) (.pair (.arr 2 .i64) (.pair (.arr 6 .i64) (.arrS 6 (.pair .bool (.pair (.int .i64) (.int .i64))))))))))))))) (.int .i64)))))))) y0), .v (Sh.v1 (.sl (.int .i64)) y1)]) (vals := [_, _]) (b := true) ⟨e0, e1, trivial⟩ rfl (congrArg Option.isSome pt) (congrArg (fun o => SV.v (.c (.bool (o.getD default)))) pt) rfl).mono fun e W' ⟨he, bel⟩ => ?_
  subst he
  exact ⟨_, rfl, _, _, _, [], _, [], hW', trodAll_mk1 (shut_bool (by kernel_rfl) _), hAfter W' bel, rfl, bel.frame _, fun h => by cases h⟩
theorem over : Rows.chainGoesRow.holds Tryd.pinned (OpenSpec.ofChange Rows.chainGoesSpec) :=
  OpenClaim.holds_of_wide 8 Tryd.f8 rfl rfl rfl rfl rfl rfl rfl ⟨rfl, rfl, rfl, rfl, rfl⟩ rfl rfl rfl rfl rfl (by kernel_rfl) Tryd.func8 (by kernel_rfl)
    (of_decide_eq_true (by kernel_rfl)) (by unfold Func.isWrapper; first | (rw [if_pos (by decide +kernel)]; kernel_rfl) | (rw [if_neg (by decide +kernel)]; exact ⟨rfl, rfl⟩))
    (fun os started H enc _ => lifted os started H enc)
theorem card_holds : Rows.ChainGoesCardSaid :=
  Claim7.holds_tied_plain_at .later [] [.data, .data] true (true, "1d1a4da515cab90300a0ecdb0d06de635f6efba2d528d4365763e977bf5763da") false
    over (fun _ h => by cases h) (by kernel_rfl) (fun _ h => by cases h) chainGoes_row_tie rfl ⟨rfl, rfl⟩ (by kernel_rfl) rfl
    (fun f fn hf hfn => by
      obtain rfl : f = 8 := Option.some.inj ((show Tryd.prog.funcNamed "overspill/overspilllaw37.ChainGoes" = some 8 by kernel_rfl).symm.trans hf) |>.symm
      obtain rfl : fn = Tryd.f8 := (Option.some.inj (Tryd.func8.symm.trans hfn)).symm
      exact ⟨by kernel_rfl, fun j t ht => by
        rw [Tryd.params8] at ht
        have hm : t ∈ [25, 22] := by simpa using Array.mem_of_getElem? ht
        have hall : ([25, 22].all fun u => !Tryd.prog.wantsStandIn u) = true := by kernel_rfl
        exact (show Tryd.prog.wantsStandIn t = false by simpa using List.all_eq_true.1 hall t hm)⟩)
    (by kernel_rfl)
#print axioms card_holds
end Go.Proofs.YtlcjjaglbcfbbaaDoor.chainGoes
namespace Go.Proofs.YtlcjjaglbcfbbaaDoor
/-- The card, under a short name, for the claim. -/
theorem chainGoes_holds : Rows.ChainGoesCardSaid := chainGoes.card_holds
end Go.Proofs.YtlcjjaglbcfbbaaDoor
