/- The law CellxMakes, as its card says it. -/
import Derived.Test.YtnpokkaalcfbfaaGreatDoorRows
import Derived.Test.YtnpokkaalcfbfaaGreatDoorTie
import Derived.Test.YtnpokkaalcfbfaaGreatDoorCards
import Derived.Test.YtnpokkaalcfbfaaGreatDoorZ4
import Derived.Test.YtnpokkaalcfbfaaGreatDoorZM
import Derived.WalkKit
import Derived.ProofKit
import Derived.OpenShut
import Derived.ShutString
import Derived.ChangeOld
import Derived.Below
import Derived.SizedLaws
import Derived.ChangeMaps5
import Derived.LaidMore
import Derived.Stop.Joined
import Derived.SevenTiedAt
set_option linter.unusedVariables false
namespace Go.Proofs.YtnpokkaalcfbfaaGreatDoor.cellxMakes
open Go.ChangeShapes Go.WideShapes Go.ChangeAt Go.RowKit
open Go.X
theorem own:ownKnob Tryz.prog.godebug=none:=by kernel_rfl
theorem kids:Kids Tryz.prog (· < Tryz.prog.types.size):=kids_rows (by kernel_rfl) (by kernel_rfl)
theorem full:∀t e,t<Tryz.prog.types.size->Tryz.prog.underlying t=some (.slice e)->0<Tryz.prog.cellsOf e:=slices_full_of _ (by kernel_rfl)
theorem laidP:Rows.laid_overspill_scan_places (H:=Unit)=.agg (([0,1,8,16,9,2,3,10,17,24,32,25,18,11,4,5,12,19,26,33,40,48,41,34,27,20,13,6,7,14,21,28,35,42,49,56,57,50,43,36,29,22,15,23,30,37,44,51,58,59,52,45,38,31,39,46,53,60,61,54,47,55,62,63]:List Int).map fun y=>.lit (.int .i64 y)):=by kernel_rfl
theorem laidC:Rows.laid_overspill_tcoef_codes (H:=Unit)=.agg (([2,15,21,23,31,37,36,33,32,7,6,32,6,20,30,15,33,80,14,29,14,81,13,35,13,12,34,82,11,12,83,19,11,84,18,10,17,9,16,8,22,85,21,20,28,27,33,32,31,30,29,28,27,26,34,35,86,87,7,25,5,15,4,14,13,12,19,18,17,16,26,25,24,23,22,21,20,19,24,23,22,21,20,19,18,17,7,6,5,4,36,37,38,39,88,89,90,91,92,93,94,95]:List Int).map fun y=>.lit (.int .i64 y)):=by kernel_rfl
theorem laidL:Rows.laid_overspill_tcoef_lengths (H:=Unit)=.agg (([2,4,6,7,8,9,9,10,10,11,11,11,3,6,8,10,11,12,4,8,10,12,5,9,10,5,9,12,5,10,12,6,10,12,6,10,6,10,6,10,7,12,7,7,8,8,9,9,9,9,9,9,9,9,11,11,12,12,4,9,11,6,11,6,6,6,7,7,7,7,8,8,8,8,8,8,8,8,9,9,9,9,9,9,9,9,10,10,10,10,11,11,11,11,12,12,12,12,12,12,12,12]:List Int).map fun y=>.lit (.int .i64 y)):=by kernel_rfl
theorem laidE:Rows.laid_overspill_dct_weights (H:=Unit)=.agg (([[64,64,64,64,64,64,64,64],[89,75,50,18, -18, -50, -75, -89],[83,36, -36, -83, -83, -36,36,83],[75, -18, -89, -50,50,89,18, -75],[64, -64, -64,64,64, -64, -64,64],[50, -89,18,75, -75, -18,89, -50],[36, -83,83, -36, -36,83, -83,36],[18, -50,75, -89,89, -75,50, -18]]:List (List Int)).map fun r=>.agg (r.map fun y=>.lit (.int .i64 y))):=by kernel_rfl
theorem tabs:TabsAre Tryz.prog Rows.cellxMakesRow.laid gt0:=by
  show TabsAre Tryz.prog [("overspill/scan.places",Rows.laid_overspill_scan_places),("overspill/tcoef.codes",Rows.laid_overspill_tcoef_codes),("overspill/tcoef.lengths",Rows.laid_overspill_tcoef_lengths),("overspill/dct.weights",Rows.laid_overspill_dct_weights)] gt0
  rw[laidP]
  rw[laidC]
  rw[laidL]
  rw[laidE]
  exact TabsAre.cons (tabIs_flat (n:=64) (t:=62) (e:=3) (by kernel_rfl) (by kernel_rfl) (by kernel_rfl) (by kernel_rfl) (by kernel_rfl) (by kernel_rfl)) (TabsAre.cons (tabIs_flat (n:=102) (t:=164) (e:=3) (by kernel_rfl) (by kernel_rfl) (by kernel_rfl) (by kernel_rfl) (by kernel_rfl) (by kernel_rfl)) (TabsAre.cons (tabIs_flat (n:=102) (t:=164) (e:=3) (by kernel_rfl) (by kernel_rfl) (by kernel_rfl) (by kernel_rfl) (by kernel_rfl) (by kernel_rfl)) (TabsAre.cons (tabIs_rows (n:=8) (m:=8) (i:=3) (e:=155) (t:=156) (by kernel_rfl) (by kernel_rfl) (by kernel_rfl) (by kernel_rfl) (by kernel_rfl) (by kernel_rfl) (by kernel_rfl) (by kernel_rfl) rfl rfl) (TabsAre.nil))))
theorem door_met(os:Os)(args:Array Value):laidMetH Tryz.prog Rows.cellxMakesRow.laid ((World.doorLaid Tryz.prog 400 os).forCall (fun _ _=>0) ⟨#[],args,[]⟩).memory:=
  laidMetH_of_parts3 (fuel:=8) (laidMet_of_run' 8 (by kernel_rfl) (by kernel_rfl)) (by kernel_rfl) (by kernel_rfl)
set_option maxRecDepth 100000 in
theorem lifted(os:Os)(started:os.Started)(H:Type)(enc:TypeId×Value->H):
    ReturnsInHanded {} Tryz.checked os 3 .any (fun w args=>(Rows.cellxMakesSpec.pre enc Tryz.prog Tryz.f3 [] false w args/\laidMetH Tryz.prog Rows.cellxMakesRow.laid w)/\sizedMet enc Tryz.prog Tryz.f3 (OpenSpec.ofChange Rows.cellxMakesSpec) false w args)
      (Rows.cellxMakesSpec.post enc Tryz.prog Tryz.f3 false true false false):=by
  refine returnsInHanded_of_change_and (C:=Tryz.checked) (X:=fun w _=>laidMetH Tryz.prog Rows.cellxMakesRow.laid w) (fun _ _ _ hh h=>h.of_heap hh) own started (by kernel_rfl) Tryz.func3
    (ChangeSpec.witness_shaped (enc:=enc) (C:=Tryz.checked) (os:=os) (X:=fun w _=>laidMetH Tryz.prog Rows.cellxMakesRow.laid w) false (World.doorLaid Tryz.prog 400 os) #[.agg (Array.replicate 1 (.int .i64 0)++Array.replicate 3 (.slice none 0 0)),.agg (Array.replicate 1 (.int .i64 0)++Array.replicate 3 (.slice none 0 0)),.agg (Array.replicate 1 (.int .i64 0)++Array.replicate 1 (.bool false)++Array.replicate 10 (.int .i64 0)++Array.replicate 6 (.slice none 0 0)++Array.replicate 4 (.int .i64 0))] 8 rfl (World.shaped_of_RefB (by kernel_rfl) (by kernel_rfl)) (by kernel_rfl) (by kernel_rfl) (by kernel_rfl) (door_met os _)) ?_
  intro W base args ds gs before hval0 hW _ _ hL _
  have hval:∀(j:Nat) t v,Tryz.f3.params[j]? = some t->args[j]? = some v->Value.okWide Tryz.prog W .any base t v:=hval0
  have hW':=hW
  obtain⟨p,q,hA0,hV,rfl,hfz,hnd⟩:=hW
  have hA:DataW.TrodAll enc Tryz.prog W 0 (fun _=>true) true Tryz.f3.params.toList args.toList ds p:=hA0
  have hAfter:=fun W' (bel:Below W.heap.size W W')=>trodAll_after kids full bel (by decide) hA0
  rw[Tryz.params3]at hA hval
  obtain⟨v0,vs0,d0,ds0,p0,q0,hargs,rfl,rfl,h0,r0⟩:=trodAll_cons hA
  obtain⟨v1,vs1,d1,ds1,p1,q1,rfl,rfl,rfl,h1,r1⟩:=trodAll_cons r0
  obtain⟨v2,vs2,d2,ds2,p2,q2,rfl,rfl,rfl,h2,r2⟩:=trodAll_cons r1
  obtain⟨rfl,rfl,rfl⟩:=trodAll_nil r2
  obtain rfl:args = #[v0,v1,v2]:=by cases args;simp_all
  obtain⟨rfl,rfl⟩:=trodVars_none hV
  obtain⟨y0,z0,e0⟩:=open_z tt_ok (s:=(.pair (.int .i64) (.arrS 3 (.int .u8)))) (by rfl) (te:=_) rfl rfl (hval 0 25 v0 rfl rfl) h0
  obtain⟨y1,z1,e1⟩:=open_z tt_ok (s:=(.pair (.int .i64) (.arrS 3 (.int .i64)))) (by rfl) (te:=_) rfl rfl (hval 1 29 v1 rfl rfl) h1
  obtain⟨y2,z2,e2⟩:=open_z tt_ok (s:=(.pair (.pair (.int .i64) (.pair .bool (.pair (.int .i64) (.pair (.int .i64) (.pair (.arr 2 .i64) (.pair (.arr 6 .i64) (.arrS 6 (.pair .bool (.pair (.int .i64) (.int .i64)))))))))) (.pair (.int .i64) (.pair (.int .i64) (.pair (.int .i64) (.int .i64)))))) (by rfl) (te:=_) rfl rfl (hval 2 37 v2 rfl rfl) h2
  have pt:=law_cellxMakes 1099511627776 (Nat.le_refl _) y0 z0.wf y1 z1.wf y2 z2.wf
  refine((ok_law38_CellxMakes 1099511627776).callZ W (gtOk_met (by kernel_rfl) tabs hL) (z:=zw W) (fun b o hb=>hb) (args:=[.v (Sh.v1 (.pair (.int .i64) (.arrS 3 (.int .u8))) y0),.v (Sh.v1 (.pair (.int .i64) (.arrS 3 (.int .i64))) y1),.v (Sh.v1 (.pair (.pair (.int .i64) (.pair .bool (.pair (.int .i64) (.pair (.int .i64) (.pair (.arr 2 .i64) (.pair (.arr 6 .i64) (.arrS 6 (.pair .bool (.pair (.int .i64) (.int .i64)))))))))) (.pair (.int .i64) (.pair (.int .i64) (.pair (.int .i64) (.int .i64))))) y2)]) (vals:=[_,_,_]) (b:=true) ⟨e0,e1,e2,trivial⟩ rfl (congrArg Option.isSome pt) (congrArg (fun o=>SV.v (.c (.bool (o.getD default)))) pt) rfl).mono fun e W' ⟨he,bel⟩ => ?_
  subst he
  exact⟨_,rfl,_,_,_,[],_,[],hW',trodAll_mk1 (shut_bool (by kernel_rfl) _),hAfter W' bel,rfl,bel.frame _,fun h=>by cases h⟩
theorem over:Rows.cellxMakesRow.holds Tryz.pinned (OpenSpec.ofChange Rows.cellxMakesSpec):=
  OpenClaim.holds_of_wide 3 Tryz.f3 rfl rfl rfl rfl rfl rfl rfl ⟨rfl,rfl,rfl,rfl,rfl⟩ rfl rfl rfl rfl rfl (by kernel_rfl) Tryz.func3 (by kernel_rfl)
    (of_decide_eq_true (by kernel_rfl)) (by unfold Func.isWrapper;first|(rw[if_pos (by decide +kernel)];kernel_rfl)|(rw[if_neg (by decide +kernel)];exact⟨rfl,rfl⟩))
    (fun os started H enc _=>lifted os started H enc)
theorem card_holds:Rows.CellxMakesCardSaid:=
  Claim7.holds_tied_plain_at .later [] [.data,.data,.data,.data] true (true, "d33f57330c83cfa101366d5b56636db899b090b4183d715bdda683d2b59aa52e") false
    over (fun _ h=>by cases h) (by kernel_rfl) (fun _ h=>by cases h) cellxMakes_row_tie rfl ⟨rfl,rfl⟩ (by kernel_rfl) rfl
    (fun f fn hf hfn=>by
      obtain rfl:f=3:=Option.some.inj ((show Tryz.prog.funcNamed "overspill/overspilllaw38.CellxMakes" = some 3 by kernel_rfl).symm.trans hf) |>.symm
      obtain rfl:fn=Tryz.f3:=(Option.some.inj (Tryz.func3.symm.trans hfn)).symm
      exact⟨by kernel_rfl,fun j t ht=>by
        rw[Tryz.params3]at ht
        have hm:t∈[25,29,37]:=by simpa using Array.mem_of_getElem? ht
        have hall:([25,29,37].all fun u=>!Tryz.prog.wantsStandIn u)=true:=by kernel_rfl
        exact(show Tryz.prog.wantsStandIn t=false by simpa using List.all_eq_true.1 hall t hm)⟩)
    (by kernel_rfl)
#print axioms card_holds
end Go.Proofs.YtnpokkaalcfbfaaGreatDoor.cellxMakes
namespace Go.Proofs.YtnpokkaalcfbfaaGreatDoor
/-- The card, under a short name, for the claim. -/
theorem cellxMakes_holds:Rows.CellxMakesCardSaid:=cellxMakes.card_holds
end Go.Proofs.YtnpokkaalcfbfaaGreatDoor
