/- Models of functions, and that the program does what they tell. -/
import Derived.Test.YtlcjjaglbcfbbaaDoorQ2
set_option linter.unusedVariables false
set_option linter.unusedSimpArgs false
namespace Go.Proofs.YtlcjjaglbcfbbaaDoor
open Go.X

def ref18_May_b1 (N : Nat) (a3 : (List Int)) (s1 : Int) : Option (Int ⊕ (Unit ⊕ Unit)) :=
 bif (decide (s1 < 2)) then
  let x1 := (bif (decide ((a3.getD (s1).toNat 0) < (-32))) then true else (decide ((31 : Int) < (a3.getD (s1).toNat 0))))
  if (0 : Int) ≤ s1 ∧ s1 < 2 ∧ (s1).toNat < 2 ∧ ((!(decide ((a3.getD (s1).toNat 0) < (-32)))) = true → (0 : Int) ≤ s1) ∧ ((!(decide ((a3.getD (s1).toNat 0) < (-32)))) = true → s1 < 2) ∧ ((!(decide ((a3.getD (s1).toNat 0) < (-32)))) = true → (s1).toNat < 2) then
   bif x1 then
    some (.inr (Sum.inl ()))
   else
    if inK .i64 (s1 + 1) then
     some (.inl (s1 + 1))
    else none
  else none
 else
  some (.inr (Sum.inr ()))
def ref18_May (N : Nat) (a1 : Int) (a2 : Int) (a3 : (List Int)) : Option Bool :=
 let c1 := (ref16_Many N a1)
 if ((!(decide (a2 < 0))) = true → c1.isSome = true) then
  bif (bif (decide (a2 < 0)) then true else (decide ((c1.getD default) ≤ a2))) then
   some false
  else
   let c2 := (ref16_Across N a1)
   if c2.isSome = true ∧ (0 : Int) ≤ a2 ∧ (0 : Int) < (c2.getD default) then
    let c3 := (ref16_Across N a1)
    if c3.isSome = true ∧ (0 : Int) ≤ a2 ∧ (0 : Int) < (c3.getD default) then
     (iter (ref18_May_b1 N a3) N 0).bind fun w1 =>
      (Sum.elim (fun v1 =>
       some false
      )
       (fun v2 =>
        let c4 := (ref16_Size N a1)
        let c5 := (ref18_inside N (((32 : Int) * (a2 % (c2.getD default))) + (a3.getD 0 0)) ((c4.getD default).getD 0 0))
        let c6 := (ref16_Size N a1)
        let c7 := (ref18_inside N (((32 : Int) * (a2 / (c3.getD default))) + (a3.getD 1 0)) ((c6.getD default).getD 1 0))
        if inK .i64 ((32 : Int) * (a2 % (c2.getD default))) ∧ inK .i64 (((32 : Int) * (a2 % (c2.getD default))) + (a3.getD 0 0)) ∧ c4.isSome = true ∧ c5.isSome = true ∧ ((c5.getD default) = true → inK .i64 ((32 : Int) * (a2 / (c3.getD default)))) ∧ ((c5.getD default) = true → inK .i64 (((32 : Int) * (a2 / (c3.getD default))) + (a3.getD 1 0))) ∧ ((c5.getD default) = true → c6.isSome = true) ∧ ((c5.getD default) = true → c7.isSome = true) then
         some (bif (c5.getD default) then (c7.getD default) else false)
        else none
       )
      ) w1
    else none
   else none
 else none
def sp_ref18_May (N : Nat) : X.Spec := fun args lk => match args with
 | [.v (.c (.int .i64 a1)), .v (.c (.int .i64 a2)), .v (.agg [.ints 2 .i64 a3])] => some ⟨(ref18_May N a1 a2 a3).isSome = true, .v (.c (.bool ((ref18_May N a1 a2 a3).getD default))), [], []⟩
 | _ => none
set_option maxRecDepth 100000 in
set_option maxHeartbeats 1000000 in
theorem ok_ref18_May (N : Nat) : FnOK Tryd.prog gt0 44 (sp_ref18_May N) := by
 refine fnOK_handed Tryd.func44 rfl (by kernel_rfl) tt_ok (ktCons (ok_ref18_inside N) (ktCons (ok_ref16_Size N) (ktCons (ok_ref16_Across N) (ktCons (ok_ref16_Many N) (ktNil))))) ?_
 intro args lk r h hp
 unfold sp_ref18_May at h
 split at h
 ·
  rename_i a1 a2 a3
  change (List Int) at a3
  cases h
  obtain ⟨x, hx⟩ := Option.isSome_iff_exists.1 hp
  simp only [hx, Option.getD_some]
  refine hand0 rfl rfl (fun w0 M ε0 hX => ?_)
  refine rCount (fun hε => ?_)
  have hT : ref18_May N a1 a2 a3 = some x := hx; clear hx hp; unfold ref18_May at hT
  refine zA hX ?_
  refine rSeq ?_
  let c1 := (ref16_Many N a1)
  replace hT := sIf hT; obtain ⟨o1, hT⟩ := hT
  refine rSeq (rRegC md0 hX rfl rfl rfl zO ?_)
  refine rThen ?_
  refine zCond rfl rfl (fun hc => ?_) (fun hc => ?_)
  ·
   replace hT := sT hc hT
   refine zA hX ?_
   refine rRet (rThenRet ?_)
   have hy := Option.some.inj hT; subst hy
   exact zEnd0 hX rfl
  ·
   replace hT := sF hc hT
   refine rSkip (rThen ?_)
   let c2 := (ref16_Across N a1)
   replace hT := sIf hT; obtain ⟨⟨o1, o2, o3⟩, hT⟩ := hT
   refine zA hX ?_
   let c3 := (ref16_Across N a1)
   replace hT := sIf hT; obtain ⟨⟨o1, o2, o3⟩, hT⟩ := hT
   refine zA hX ?_
   refine rSeq (zA hX ?_)
   refine rBlock ?_
   replace hT := sBind hT; obtain ⟨w1, hl, hT⟩ := hT
   refine rJoinA (fun v1 => (Sum.inl v1) = w1) (fun v1 => ⟨[(6, .v (.c (.bool false)))], [], 1⟩) .ret (fun v1 hv => ?_) (fun hxs10 => ?_)
   ·
    subst hv; clear hl; replace hT := (sElimL hT)
    refine rInRet (rThenRet ?_)
    have hy := Option.some.inj hT; subst hy
    exact zEnd0 hX rfl
   refine rJoinA (fun v2 => (Sum.inr v2) = w1) (fun v2 => ⟨[(0, .v (.c (.int .i64 a1))), (5, .v (.c (.ptr 0 0 0 0 0 0))), (6, .v (.c (.bool false))), (7, .v (.c (.int .i64 (a2 % (c2.getD default))))), (8, .v (.c (.int .i64 (a2 / (c3.getD default)))))], [(0, .mem true 37 none (.flat [.ints 2 .i64 a3]))], 1⟩) (.exit 0) (fun v2 hv => ?_) (fun hxs11 => ?_)
   ·
    subst hv; clear hl; replace hT := (sElimR hT)
    refine rInHit (rThen ?_)
    let c4 := (ref16_Size N a1)
    let c5 := (ref18_inside N (((32 : Int) * (a2 % (c2.getD default))) + (a3.getD 0 0)) ((c4.getD default).getD 0 0))
    let c6 := (ref16_Size N a1)
    let c7 := (ref18_inside N (((32 : Int) * (a2 / (c3.getD default))) + (a3.getD 1 0)) ((c6.getD default).getD 1 0))
    replace hT := sIf hT; obtain ⟨⟨o1, o2, o3, o4, o5, o6, o7, o8⟩, hT⟩ := hT
    refine rSeq (rDrawM md0 0 [] hX mixed rfl rfl rfl rfl rfl zO ?_)
    refine rThen (rRet ?_)
    have hy := Option.some.inj hT; subst hy
    exact zEnd0 hX rfl
   refine rLoopM (ref18_May_b1 N a3) (fun s1 => ⟨[(0, .v (.c (.int .i64 a1))), (5, .v (.c (.ptr 0 0 0 0 0 0))), (6, .v (.c (.bool false))), (7, .v (.c (.int .i64 (a2 % (c2.getD default))))), (8, .v (.c (.int .i64 (a2 / (c3.getD default))))), (9, .v (.c (.int .i64 s1)))], [(0, .mem true 37 none (.flat [.ints 2 .i64 a3]))], 1⟩) hl (To.mk' [] 0 hε rfl zL zL) (fun s1 zs1 NNs1 hz hnexts1 houts1 => ?_)
   clear hl hT
   have hT := hz; clear hz
   refine rSeq (zA hX ?_)
   refine zCond rfl rfl (fun hc => ?_) (fun hc => ?_)
   ·
    replace hT := sT hc hT
    refine rSkip (rThen (rSeq (rBlock ?_)))
    let x1 := (bif (decide ((a3.getD (s1).toNat 0) < (-32))) then true else (decide ((31 : Int) < (a3.getD (s1).toNat 0))))
    replace hT := sIf hT; obtain ⟨⟨o1, o2, o3, o4, o5, o6⟩, hT⟩ := hT
    refine rSeq (rRegC md0 hX rfl rfl rfl zO ?_)
    refine rThen ?_
    refine zCond rfl rfl (fun hc => ?_) (fun hc => ?_)
    ·
     replace hT := sT hc hT
     refine zA hX ?_
     refine rRet (rInRet (rThenRet (rThenRet ?_)))
     exact zTo [] 0 hε (hxs10 _ (houts1 _ (Option.some.inj hT).symm))
    ·
     replace hT := sF hc hT
     refine rSkip (rInNormal (rThen ?_))
     replace hT := sIf hT; obtain ⟨o1, hT⟩ := hT
     refine zReg md0 hX rfl rfl rfl ?_
     exact hnexts1 _ (Option.some.inj hT).symm _ (To.mk' [] 0 hε rfl zL zL)
   ·
    replace hT := sF hc hT
    refine rExit (rThenExit (rThenExit ?_))
    exact zTo [] 0 hε (hxs11 _ (houts1 _ (Option.some.inj hT).symm))
 ·
  cases h
def ref25_Check_b1 (N : Nat) (a3 : Int) (c3 : (Option Zt5)) (s2 : Int) : Option (Int ⊕ (Unit ⊕ Unit)) :=
 bif (decide (s2 < ((c3.getD default).length : Int))) then
  let c4 := (ref21_Intra N ((c3.getD default).getD (s2).toNat Zd1).2.2.1)
  let c5 := (ref18_May N a3 s2 ((c3.getD default).getD (s2).toNat Zd1).2.2.2.2.1)
  if (0 : Int) ≤ s2 ∧ s2 < ((c3.getD default).length : Int) ∧ c4.isSome = true ∧ ((!(c4.getD default)) = true → (0 : Int) ≤ s2) ∧ ((!(c4.getD default)) = true → s2 < ((c3.getD default).length : Int)) ∧ ((!(c4.getD default)) = true → c5.isSome = true) then
   bif (bif (!(c4.getD default)) then (!(c5.getD default)) else false) then
    some (.inr (Sum.inl ()))
   else
    if inK .i64 (s2 + 1) then
     some (.inl (s2 + 1))
    else none
  else none
 else
  some (.inr (Sum.inr ()))
def ref25_Check_b2 (N : Nat) (a1 : Int) (a2 : Int) (a3 : Int) (a4 : Bool) (a5 : Int) (a6 : (List Int)) (a7 : Zt1) (a8 : Int) (s1 : Int) : Option (Int ⊕ (Unit ⊕ Unit)) :=
 bif (decide (s1 < (a7.length : Int))) then
  let c6 := (ref25_row N a1 a2 a3 a4 a5 a6 a7 a8 s1)
  if c6.isSome = true then
   bif (!(c6.getD default)) then
    some (.inr (Sum.inl ()))
   else
    if inK .i64 (s1 + 1) then
     some (.inl (s1 + 1))
    else none
  else none
 else
  some (.inr (Sum.inr ()))
def ref25_Check (N : Nat) (a1 : Int) (a2 : Int) (a3 : Int) (a4 : Bool) (a5 : Int) (a6 : (List Int)) (a7 : Zt1) (a8 : Int) : Option Int :=
 let c1 := (ref24_Right N a1 a2 a3 a4 a5 a6 a7 a8)
 let c2 := (ref16_Size N a3)
 let x3 := (bif (bif (bif (!(c1.getD default)) then true else (decide (a8 < 0))) then true else (decide ((262144 : Int) < a8))) then true else (decide ((a7.length : Int) ≠ ((c2.getD default).getD 2 0))))
 if c1.isSome = true ∧ ((!(bif (bif (!(c1.getD default)) then true else (decide (a8 < 0))) then true else (decide ((262144 : Int) < a8)))) = true → c2.isSome = true) then
  bif x3 then
   some 12
  else
   (iter (ref25_Check_b2 N a1 a2 a3 a4 a5 a6 a7 a8) N 0).bind fun w1 =>
    (Sum.elim (fun v1 =>
     some 12
    )
     (fun v2 =>
      let c3 := (ref25_Cells N a1 a2 a3 a4 a5 a6 a7 a8)
      if c3.isSome = true then
       (iter (ref25_Check_b1 N a3 c3) N 0).bind fun w2 =>
        (Sum.elim (fun v3 =>
         some 8
        )
         (fun v4 =>
          some 0
         )
        ) w2
      else none
     )
    ) w1
 else none
def sp_ref25_Check (N : Nat) : X.Spec := fun args lk => match args with
 | [.v (.agg [.cs [.int .i64 a1, .int .i64 a2, .int .i64 a3, .bool a4, .int .i64 a5, .fz (.int .i64) a6, .fz (.pair .bool (.pair (.int .i64) (.pair (.int .i64) (.sl (.pair (.int .i64) (.pair .bool (.pair (.int .i64) (.pair (.int .i64) (.pair (.arr 2 .i64) (.pair (.arr 6 .i64) (.arrS 6 (.pair .bool (.pair (.int .i64) (.int .i64)))))))))))))) a7, .int .i64 a8]])] => some ⟨(ref25_Check N a1 a2 a3 a4 a5 a6 a7 a8).isSome = true, .v (.c (.int .i64 ((ref25_Check N a1 a2 a3 a4 a5 a6 a7 a8).getD default))), [], []⟩
 | _ => none
set_option maxRecDepth 100000 in
set_option maxHeartbeats 1000000 in
theorem ok_ref25_Check (N : Nat) : FnOK Tryd.prog gt0 12 (sp_ref25_Check N) := by
 refine fnOK_handed Tryd.func12 rfl (by kernel_rfl) tt_ok (ktCons (ok_ref25_row N) (ktCons (ok_ref18_May N) (ktCons (ok_ref21_Intra N) (ktCons (ok_ref25_Cells N) (ktCons (ok_ref16_Size N) (ktCons (ok_ref24_Right N) (ktNil))))))) ?_
 intro args lk r h hp
 unfold sp_ref25_Check at h
 split at h
 ·
  rename_i a1 a2 a3 a4 a5 a6 a7 a8
  change (List Int) at a6
  change Zt1 at a7
  cases h
  obtain ⟨x, hx⟩ := Option.isSome_iff_exists.1 hp
  simp only [hx, Option.getD_some]
  refine hand0 rfl rfl (fun w0 M ε0 hX => ?_)
  refine rCount (fun hε => ?_)
  have hT : ref25_Check N a1 a2 a3 a4 a5 a6 a7 a8 = some x := hx; clear hx hp; unfold ref25_Check at hT
  refine zA hX ?_
  refine rSeq ?_
  let c1 := (ref24_Right N a1 a2 a3 a4 a5 a6 a7 a8)
  let c2 := (ref16_Size N a3)
  let x3 := (bif (bif (bif (!(c1.getD default)) then true else (decide (a8 < 0))) then true else (decide ((262144 : Int) < a8))) then true else (decide ((a7.length : Int) ≠ ((c2.getD default).getD 2 0))))
  replace hT := sIf hT; obtain ⟨⟨o1, o2⟩, hT⟩ := hT
  refine rSeq (rDrawM md0 0 [] hX mixed rfl rfl rfl rfl rfl zO ?_)
  refine rThen ?_
  refine zCond rfl rfl (fun hc => ?_) (fun hc => ?_)
  ·
   replace hT := sT hc hT
   refine zA hX ?_
   refine rRet (rThenRet ?_)
   have hy := Option.some.inj hT; subst hy
   exact zEnd0 hX rfl
  ·
   replace hT := sF hc hT
   refine rSkip (rThen (rSeq (zA hX ?_)))
   refine rBlock ?_
   replace hT := sBind hT; obtain ⟨w1, hl, hT⟩ := hT
   refine rJoinA (fun v1 => (Sum.inl v1) = w1) (fun v1 => ⟨[(2, .v (.c (.int .i64 12)))], [], 1⟩) .ret (fun v1 hv => ?_) (fun hxs10 => ?_)
   ·
    subst hv; clear hl; replace hT := (sElimL hT)
    refine rInRet (rThenRet ?_)
    have hy := Option.some.inj hT; subst hy
    exact zEnd0 hX rfl
   refine rJoinA (fun v2 => (Sum.inr v2) = w1) (fun v2 => ⟨[(1, .v (.c (.ptr 0 0 0 0 0 0))), (2, .v (.c (.int .i64 0)))], [(0, .mem true 25 none (.flat [.cs [.int .i64 a1, .int .i64 a2, .int .i64 a3, .bool a4, .int .i64 a5, .fz (.int .i64) a6, .fz Zs1 a7, .int .i64 a8]]))], 1⟩) (.exit 0) (fun v2 hv => ?_) (fun hxs11 => ?_)
   ·
    subst hv; clear hl; replace hT := (sElimR hT)
    refine rInHit (rThen ?_)
    let c3 := (ref25_Cells N a1 a2 a3 a4 a5 a6 a7 a8)
    replace hT := sIf hT; obtain ⟨o1, hT⟩ := hT
    refine zA hX ?_
    refine rSeq (zA hX ?_)
    refine rBlock ?_
    replace hT := sBind hT; obtain ⟨w2, hl, hT⟩ := hT
    refine rJoinA (fun v3 => (Sum.inl v3) = w2) (fun v3 => ⟨[(2, .v (.c (.int .i64 8)))], [], 1⟩) .ret (fun v3 hv => ?_) (fun hxs20 => ?_)
    ·
     subst hv; clear hl; replace hT := (sElimL hT)
     refine rInRet (rThenRet ?_)
     have hy := Option.some.inj hT; subst hy
     exact zEnd0 hX rfl
    refine rJoinA (fun v4 => (Sum.inr v4) = w2) (fun v4 => ⟨[(2, .v (.c (.int .i64 0)))], [], 1⟩) (.exit 2) (fun v4 hv => ?_) (fun hxs21 => ?_)
    ·
     subst hv; clear hl; replace hT := (sElimR hT)
     refine rInHit (rThen (zA hX ?_))
     refine rRet ?_
     have hy := Option.some.inj hT; subst hy
     exact zEnd0 hX rfl
    refine rLoopM (ref25_Check_b1 N a3 c3) (fun s2 => ⟨[(1, .v (.c (.ptr 0 0 0 0 0 0))), (2, .v (.c (.int .i64 0))), (4, .v (.c (.fz Zs2 (c3.getD default)))), (5, .v (.c (.int .i64 s2)))], [(0, .mem true 25 none (.flat [.cs [.int .i64 a1, .int .i64 a2, .int .i64 a3, .bool a4, .int .i64 a5, .fz (.int .i64) a6, .fz Zs1 a7, .int .i64 a8]]))], 1⟩) hl (To.mk' [] 0 hε rfl zL zL) (fun s2 zs2 NNs2 hz hnexts2 houts2 => ?_)
    clear hl hT
    have hT := hz; clear hz
    refine rSeq (zA hX ?_)
    refine zCond rfl rfl (fun hc => ?_) (fun hc => ?_)
    ·
     replace hT := sT hc hT
     refine rSkip (rThen (rSeq (rBlock ?_)))
     let c4 := (ref21_Intra N ((c3.getD default).getD (s2).toNat Zd1).2.2.1)
     let c5 := (ref18_May N a3 s2 ((c3.getD default).getD (s2).toNat Zd1).2.2.2.2.1)
     replace hT := sIf hT; obtain ⟨⟨o1, o2, o3, o4, o5, o6⟩, hT⟩ := hT
     refine rSeq (rDrawM md0 0 [] hX mixed rfl rfl rfl rfl rfl zO ?_)
     refine rThen ?_
     refine zCond rfl rfl (fun hc => ?_) (fun hc => ?_)
     ·
      replace hT := sT hc hT
      refine zA hX ?_
      refine rRet (rInRet (rThenRet (rThenRet ?_)))
      exact zTo [] 0 hε (hxs20 _ (houts2 _ (Option.some.inj hT).symm))
     ·
      replace hT := sF hc hT
      refine rSkip (rInNormal (rThen ?_))
      replace hT := sIf hT; obtain ⟨o1, hT⟩ := hT
      refine zReg md0 hX rfl rfl rfl ?_
      exact hnexts2 _ (Option.some.inj hT).symm _ (To.mk' [] 0 hε rfl zL zL)
    ·
     replace hT := sF hc hT
     refine rExit (rThenExit (rThenExit ?_))
     exact zTo [] 0 hε (hxs21 _ (houts2 _ (Option.some.inj hT).symm))
   refine rLoopM (ref25_Check_b2 N a1 a2 a3 a4 a5 a6 a7 a8) (fun s1 => ⟨[(1, .v (.c (.ptr 0 0 0 0 0 0))), (2, .v (.c (.int .i64 0))), (3, .v (.c (.int .i64 s1)))], [(0, .mem true 25 none (.flat [.cs [.int .i64 a1, .int .i64 a2, .int .i64 a3, .bool a4, .int .i64 a5, .fz (.int .i64) a6, .fz Zs1 a7, .int .i64 a8]]))], 1⟩) hl (To.mk' [] 0 hε rfl zL zL) (fun s1 zs1 NNs1 hz hnexts1 houts1 => ?_)
   clear hl hT
   have hT := hz; clear hz
   refine rSeq (zA hX ?_)
   refine zCond rfl rfl (fun hc => ?_) (fun hc => ?_)
   ·
    replace hT := sT hc hT
    refine rSkip (rThen (rSeq (rBlock ?_)))
    let c6 := (ref25_row N a1 a2 a3 a4 a5 a6 a7 a8 s1)
    replace hT := sIf hT; obtain ⟨o1, hT⟩ := hT
    refine zA hX ?_
    refine zCond rfl rfl (fun hc => ?_) (fun hc => ?_)
    ·
     replace hT := sT hc hT
     refine zA hX ?_
     refine rRet (rInRet (rThenRet (rThenRet ?_)))
     exact zTo [] 0 hε (hxs10 _ (houts1 _ (Option.some.inj hT).symm))
    ·
     replace hT := sF hc hT
     refine rSkip (rInNormal (rThen ?_))
     replace hT := sIf hT; obtain ⟨o1, hT⟩ := hT
     refine zReg md0 hX rfl rfl rfl ?_
     exact hnexts1 _ (Option.some.inj hT).symm _ (To.mk' [] 0 hε rfl zL zL)
   ·
    replace hT := sF hc hT
    refine rExit (rThenExit (rThenExit ?_))
    exact zTo [] 0 hε (hxs11 _ (houts1 _ (Option.some.inj hT).symm))
 ·
  cases h
def ref01_Clip (N : Nat) (a1 : Int) (a2 : Int) (a3 : Int) : Option Int :=
 bif (bif (decide (a3 < a2)) then true else (decide (a1 < a2))) then
  some a2
 else
  bif (decide (a3 < a1)) then
   some a3
  else
   some a1
def sp_ref01_Clip (N : Nat) : X.Spec := fun args lk => match args with
 | [.v (.c (.int .i64 a1)), .v (.c (.int .i64 a2)), .v (.c (.int .i64 a3))] => some ⟨(ref01_Clip N a1 a2 a3).isSome = true, .v (.c (.int .i64 ((ref01_Clip N a1 a2 a3).getD default))), [], []⟩
 | _ => none
set_option maxRecDepth 100000 in
set_option maxHeartbeats 1000000 in
theorem ok_ref01_Clip (N : Nat) : FnOK Tryd.prog gt0 61 (sp_ref01_Clip N) := by
 refine fnOK_handed Tryd.func61 rfl (by kernel_rfl) tt_ok (ktNil) ?_
 intro args lk r h hp
 unfold sp_ref01_Clip at h
 split at h
 ·
  rename_i a1 a2 a3
  cases h
  obtain ⟨x, hx⟩ := Option.isSome_iff_exists.1 hp
  simp only [hx, Option.getD_some]
  refine hand0 rfl rfl (fun w0 M ε0 hX => ?_)
  refine rCount (fun hε => ?_)
  have hT : ref01_Clip N a1 a2 a3 = some x := hx; clear hx hp; unfold ref01_Clip at hT
  refine zA hX ?_
  refine rSeq (zA hX ?_)
  refine zCond rfl rfl (fun hc => ?_) (fun hc => ?_)
  ·
   replace hT := sT hc hT
   refine zA hX ?_
   refine rRet (rThenRet ?_)
   have hy := Option.some.inj hT; subst hy
   exact zEnd0 hX rfl
  ·
   replace hT := sF hc hT
   refine rSkip (rThen (rSeq (zA hX ?_)))
   refine zCond rfl rfl (fun hc => ?_) (fun hc => ?_)
   ·
    replace hT := sT hc hT
    refine zA hX ?_
    refine rRet (rThenRet ?_)
    have hy := Option.some.inj hT; subst hy
    exact zEnd0 hX rfl
   ·
    replace hT := sF hc hT
    refine rSkip (rThen (zA hX ?_))
    refine rRet ?_
    have hy := Option.some.inj hT; subst hy
    exact zEnd0 hX rfl
 ·
  cases h
def ref20_Next_b1 (N : Nat) (a2 : Int) (s2 : (Int × Int)) : Option ((Int × Int) ⊕ Int) :=
 let c2 := (ref01_Clip N a2 (-2) 0)
 if c2.isSome = true then
  bif (bif (decide ((c2.getD default) < s2.2)) then (decide ((1 : Int) < s2.1)) else false) then
   if inK .i64 (s2.1 - 1) then
    if inK .i64 (s2.2 - 1) then
     some (.inl ((s2.1 - 1), (s2.2 - 1)))
    else none
   else none
  else
   some (.inr s2.1)
 else none
def ref20_Next_b2 (N : Nat) (a2 : Int) (s1 : (Int × Int)) : Option ((Int × Int) ⊕ Int) :=
 let c3 := (ref01_Clip N a2 0 2)
 if c3.isSome = true then
  bif (bif (decide (s1.2 < (c3.getD default))) then (decide (s1.1 < 31)) else false) then
   if inK .i64 (s1.1 + 1) then
    if inK .i64 (s1.2 + 1) then
     some (.inl ((s1.1 + 1), (s1.2 + 1)))
    else none
   else none
  else
   some (.inr s1.1)
 else none
def ref20_Next (N : Nat) (a1 : Int) (a2 : Int) : Option Int :=
 let c1 := (ref01_Clip N a1 1 31)
 if c1.isSome = true then
  (iter (ref20_Next_b2 N a2) N ((c1.getD default), 0)).bind fun v1 =>
   (iter (ref20_Next_b1 N a2) N (v1, 0)).bind fun v2 =>
    some v2
 else none
def sp_ref20_Next (N : Nat) : X.Spec := fun args lk => match args with
 | [.v (.c (.int .i64 a1)), .v (.c (.int .i64 a2))] => some ⟨(ref20_Next N a1 a2).isSome = true, .v (.c (.int .i64 ((ref20_Next N a1 a2).getD default))), [], []⟩
 | _ => none
set_option maxRecDepth 100000 in
set_option maxHeartbeats 1000000 in
theorem ok_ref20_Next (N : Nat) : FnOK Tryd.prog gt0 57 (sp_ref20_Next N) := by
 refine fnOK_handed Tryd.func57 rfl (by kernel_rfl) tt_ok (ktCons (ok_ref01_Clip N) (ktNil)) ?_
 intro args lk r h hp
 unfold sp_ref20_Next at h
 split at h
 ·
  rename_i a1 a2
  cases h
  obtain ⟨x, hx⟩ := Option.isSome_iff_exists.1 hp
  simp only [hx, Option.getD_some]
  refine hand0 rfl rfl (fun w0 M ε0 hX => ?_)
  refine rCount (fun hε => ?_)
  have hT : ref20_Next N a1 a2 = some x := hx; clear hx hp; unfold ref20_Next at hT
  refine zA hX ?_
  let c1 := (ref01_Clip N a1 1 31)
  replace hT := sIf hT; obtain ⟨o1, hT⟩ := hT
  refine zA hX ?_
  refine rSeq (zA hX ?_)
  refine rBlock ?_
  replace hT := sBind hT; obtain ⟨w1, hl, hT⟩ := hT
  refine rJoinA (fun v1 => v1 = w1) (fun v1 => ⟨[(1, .v (.c (.int .i64 a2))), (4, .v (.c (.int .i64 0))), (5, .v (.c (.int .i64 v1)))], [], 0⟩) (.exit 0) (fun v1 hv => ?_) (fun hxs10 => ?_)
  ·
   subst hv; clear hl
   refine rInHit (rThen (rSeq (zA hX ?_)))
   refine rBlock ?_
   replace hT := sBind hT; obtain ⟨w2, hl, hT⟩ := hT
   refine rJoinA (fun v2 => v2 = w2) (fun v2 => ⟨[(4, .v (.c (.int .i64 0))), (5, .v (.c (.int .i64 v2)))], [], 0⟩) (.exit 2) (fun v2 hv => ?_) (fun hxs20 => ?_)
   ·
    subst hv; clear hl
    refine rInHit (rThen (zA hX ?_))
    refine rRet ?_
    have hy := Option.some.inj hT; subst hy
    exact zEnd0 hX rfl
   refine rLoopM (ref20_Next_b1 N a2) (fun s2 => ⟨[(1, .v (.c (.int .i64 a2))), (4, .v (.c (.int .i64 0))), (5, .v (.c (.int .i64 s2.1))), (7, .v (.c (.int .i64 s2.2)))], [], 0⟩) hl (To.mk' [] 0 hε rfl zL zL) (fun s2 zs2 NNs2 hz hnexts2 houts2 => ?_)
   clear hl hT
   have hT := hz; clear hz
   refine rSeq ?_
   let c2 := (ref01_Clip N a2 (-2) 0)
   replace hT := sIf hT; obtain ⟨o1, hT⟩ := hT
   refine zA hX ?_
   refine zCond rfl rfl (fun hc => ?_) (fun hc => ?_)
   ·
    replace hT := sT hc hT
    refine rSkip (rThen (rSeq (rBlock ?_)))
    replace hT := sIf hT; obtain ⟨o1, hT⟩ := hT
    refine zReg md0 hX rfl rfl rfl ?_
    refine rInNormal (rThen ?_)
    replace hT := sIf hT; obtain ⟨o1, hT⟩ := hT
    refine zReg md0 hX rfl rfl rfl ?_
    exact hnexts2 _ (Option.some.inj hT).symm _ (To.mk' [] 0 hε rfl zL zL)
   ·
    replace hT := sF hc hT
    refine rExit (rThenExit (rThenExit ?_))
    exact zTo [] 0 hε (hxs20 _ (houts2 _ (Option.some.inj hT).symm))
  refine rLoopM (ref20_Next_b2 N a2) (fun s1 => ⟨[(1, .v (.c (.int .i64 a2))), (4, .v (.c (.int .i64 0))), (5, .v (.c (.int .i64 s1.1))), (6, .v (.c (.int .i64 s1.2)))], [], 0⟩) hl (To.mk' [] 0 hε rfl zL zL) (fun s1 zs1 NNs1 hz hnexts1 houts1 => ?_)
  clear hl hT
  have hT := hz; clear hz
  refine rSeq ?_
  let c3 := (ref01_Clip N a2 0 2)
  replace hT := sIf hT; obtain ⟨o1, hT⟩ := hT
  refine zA hX ?_
  refine zCond rfl rfl (fun hc => ?_) (fun hc => ?_)
  ·
   replace hT := sT hc hT
   refine rSkip (rThen (rSeq (rBlock ?_)))
   replace hT := sIf hT; obtain ⟨o1, hT⟩ := hT
   refine zReg md0 hX rfl rfl rfl ?_
   refine rInNormal (rThen ?_)
   replace hT := sIf hT; obtain ⟨o1, hT⟩ := hT
   refine zReg md0 hX rfl rfl rfl ?_
   exact hnexts1 _ (Option.some.inj hT).symm _ (To.mk' [] 0 hε rfl zL zL)
  ·
   replace hT := sF hc hT
   refine rExit (rThenExit (rThenExit ?_))
   exact zTo [] 0 hε (hxs10 _ (houts1 _ (Option.some.inj hT).symm))
 ·
  cases h
def ref30_First_b2 (N : Nat) (a7 : Zt1) (s2 : Zt12) (s3 : (Int × Int)) : Option ((Int × Int) ⊕ (Int × Int × Int × Bool)) :=
 let x2 := (decide (s3.2 < ((a7.getD (s2.2.2.1).toNat Zd7).2.2.2.length : Int)))
 if (0 : Int) ≤ s2.2.2.1 ∧ s2.2.2.1 < (a7.length : Int) then
  bif x2 then
   let c1 := (ref20_Next N s3.1 ((a7.getD (s2.2.2.1).toNat Zd7).2.2.2.getD (s3.2).toNat Zd1).2.2.2.1)
   if (0 : Int) ≤ s2.2.2.1 ∧ s2.2.2.1 < (a7.length : Int) ∧ (0 : Int) ≤ s3.2 ∧ s3.2 < ((a7.getD (s2.2.2.1).toNat Zd7).2.2.2.length : Int) ∧ c1.isSome = true then
    if inK .i64 (s3.2 + 1) then
     some (.inl ((c1.getD default), (s3.2 + 1)))
    else none
   else none
  else
   some (.inr (s3.1, s3.2, s3.2, x2))
 else none
def ref30_First_b1 (N : Nat) (a7 : Zt1) (s2 : Zt12) : Option (Zt12 ⊕ Zt9) :=
 bif (decide (s2.2.2.1 < (a7.length : Int))) then
  if (0 : Int) ≤ s2.2.2.1 ∧ s2.2.2.1 < (a7.length : Int) then
   if ((a7.getD (s2.2.2.1).toNat Zd7).1 = true → (0 : Int) ≤ s2.2.2.1) ∧ ((a7.getD (s2.2.2.1).toNat Zd7).1 = true → s2.2.2.1 < (a7.length : Int)) then
    let x1 := (bif (a7.getD (s2.2.2.1).toNat Zd7).1 then (a7.getD (s2.2.2.1).toNat Zd7).2.2.1 else s2.2.1)
    if 1 ≤ 1 ∧ s2.2.2.2.1 = s2.1 ∧ (s2.1 + 1) * 8 ≤ 140737488355328 ∧ s2.1 + 1 ≤ 9223372036854775807 then
     (iter (ref30_First_b2 N a7 s2) N (x1, 0)).bind fun v2 =>
      if inK .i64 (s2.2.2.1 + 1) then
       some (.inl ((s2.1 + 1), v2.1, (s2.2.2.1 + 1), (s2.2.2.2.1 + 1), (s2.2.2.2.2 ++ (((List.replicate 1 0).set 0 x1).take 1))))
      else none
    else none
   else none
  else none
 else
  some (.inr (s2.1, s2.2.2.2.1, s2.2.2.2.2))
def ref30_First (N : Nat) (a1 : Int) (a2 : Int) (a3 : Int) (a4 : Bool) (a5 : Int) (a6 : (List Int)) (a7 : Zt1) (a8 : Int) : Option (List Int) :=
 (iter (ref30_First_b1 N a7) N (0, a5, 0, 0, [])).bind fun v1 =>
  if v1.1 = v1.2.2.length then
   some v1.2.2
  else none
def sp_ref30_First (N : Nat) : X.Spec := fun args lk => match args with
 | [.v (.agg [.cs [.int .i64 a1, .int .i64 a2, .int .i64 a3, .bool a4, .int .i64 a5, .fz (.int .i64) a6, .fz (.pair .bool (.pair (.int .i64) (.pair (.int .i64) (.sl (.pair (.int .i64) (.pair .bool (.pair (.int .i64) (.pair (.int .i64) (.pair (.arr 2 .i64) (.pair (.arr 6 .i64) (.arrS 6 (.pair .bool (.pair (.int .i64) (.int .i64)))))))))))))) a7, .int .i64 a8]])] => some ⟨(ref30_First N a1 a2 a3 a4 a5 a6 a7 a8).isSome = true, .v (.c (.fz (.int .i64) ((ref30_First N a1 a2 a3 a4 a5 a6 a7 a8).getD default))), [], []⟩
 | _ => none
set_option maxRecDepth 100000 in
set_option maxHeartbeats 1000000 in
theorem ok_ref30_First (N : Nat) : FnOK Tryd.prog gt0 26 (sp_ref30_First N) := by
 refine fnOK_handed Tryd.func26 rfl (by kernel_rfl) tt_ok (ktCons (ok_ref20_Next N) (ktNil)) ?_
 intro args lk r h hp
 unfold sp_ref30_First at h
 split at h
 ·
  rename_i a1 a2 a3 a4 a5 a6 a7 a8
  change (List Int) at a6
  change Zt1 at a7
  cases h
  obtain ⟨x, hx⟩ := Option.isSome_iff_exists.1 hp
  simp only [hx, Option.getD_some]
  refine hand0 rfl rfl (fun w0 M ε0 hX => ?_)
  refine rCount (fun hε => ?_)
  have hT : ref30_First N a1 a2 a3 a4 a5 a6 a7 a8 = some x := hx; clear hx hp; unfold ref30_First at hT
  refine zA hX ?_
  refine zA hX ?_
  refine zA hX ?_
  refine rSeq (zA hX ?_)
  refine rBlock (rNil 3 1 (.flat [.ints 0 .i64 []]) [(1, .v (.c (.ptr 0 0 0 0 0 0))), (2, .v (.c (.val (.slice none 0 0)))), (3, .v (.c (.sl 1 0 0 1))), (4, .v (.c (.int .i64 a5))), (5, .v (.c (.int .i64 0)))] [(0, .mem true 25 none (.flat [.cs [.int .i64 a1, .int .i64 a2, .int .i64 a3, .bool a4, .int .i64 a5, .fz (.int .i64) a6, .fz Zs1 a7, .int .i64 a8]]))] (nil_ints _) zF zF ?_)
  replace hT := sBind hT; obtain ⟨w1, hl, hT⟩ := hT
  refine rJoinA (fun v1 => v1 = w1) (fun v1 => ⟨[(2, .v (.c (.val (.slice none 0 0)))), (3, .v (.c (.sl 1 0 v1.1 1)))], [(1, .mem true 3 (some 1) (.flat [.ints v1.2.1 .i64 v1.2.2]))], 2⟩) (.exit 0) (fun v1 hv => ?_) (fun hxs20 => ?_)
  ·
   subst hv; clear hl
   refine rInHit (rThen (zA hX ?_))
   refine rRet ?_
   replace hT := sIf hT; obtain ⟨p1, hT⟩ := hT
   refine rFreezeQ 1 (.int .i64) v1.2.2 [(2, .v (.c (.fz (.int .i64) v1.2.2)))] [] rfl rfl zF zF ?_
   have hy := Option.some.inj hT; subst hy
   exact zEnd0 hX rfl
  refine rLoopM (ref30_First_b1 N a7) (fun s2 => ⟨[(1, .v (.c (.ptr 0 0 0 0 0 0))), (2, .v (.c (.val (.slice none 0 0)))), (3, .v (.c (.sl 1 0 s2.1 1))), (4, .v (.c (.int .i64 s2.2.1))), (5, .v (.c (.int .i64 s2.2.2.1)))], [(0, .mem true 25 none (.flat [.cs [.int .i64 a1, .int .i64 a2, .int .i64 a3, .bool a4, .int .i64 a5, .fz (.int .i64) a6, .fz Zs1 a7, .int .i64 a8]])), (1, .mem true 3 (some 1) (.flat [.ints s2.2.2.2.1 .i64 s2.2.2.2.2]))], 2⟩) hl (To.mk' [] 0 hε rfl zL zL) (fun s2 zs2 NNs2 hz hnexts2 houts2 => ?_)
  clear hl hT
  have hT := hz; clear hz
  refine rSeq (zA hX ?_)
  refine zCond rfl rfl (fun hc => ?_) (fun hc => ?_)
  ·
   replace hT := sT hc hT
   refine rSkip (rThen (rSeq (rBlock (rSeq ?_))))
   replace hT := sIf hT; obtain ⟨⟨o1, o2⟩, hT⟩ := hT
   refine zA hX ?_
   replace hT := sIf hT; obtain ⟨⟨q1, q2⟩, hT⟩ := hT
   refine rJoin ⟨[(1, .v (.c (.ptr 0 0 0 0 0 0))), (2, .v (.c (.val (.slice none 0 0)))), (3, .v (.c (.sl 1 0 s2.1 1))), (4, .v (.c (.int .i64 (bif (a7.getD (s2.2.2.1).toNat Zd7).1 then (a7.getD (s2.2.2.1).toNat Zd7).2.2.1 else s2.2.1)))), (5, .v (.c (.int .i64 s2.2.2.1))), (9, .v (.c (.int .i64 s2.2.2.1))), (10, .v (.c (.ptr 0 0 0 6 0 0))), (11, .v (.c (.fz Zs1 a7))), (12, .v (.c (.int .i64 (a7.length : Int)))), (13, .v (.c (.bool (decide (s2.2.2.1 < (a7.length : Int)))))), (16, .v (.c (.ptr 0 0 0 6 0 0))), (17, .v (.c (.fz Zs1 a7))), (18, .v (.c (.int .i64 s2.2.2.1))), (19, .v (.c (.fp Zs1 (a7.getD (s2.2.2.1).toNat Zd7) 0 0 0))), (20, .v (.c (.fp Zs1 (a7.getD (s2.2.2.1).toNat Zd7) 0 0 0))), (21, .v (.c (.bool (a7.getD (s2.2.2.1).toNat Zd7).1)))], [(0, .mem true 25 none (.flat [.cs [.int .i64 a1, .int .i64 a2, .int .i64 a3, .bool a4, .int .i64 a5, .fz (.int .i64) a6, .fz Zs1 a7, .int .i64 a8]])), (1, .mem true 3 (some 1) (.flat [.ints s2.2.2.2.1 .i64 s2.2.2.2.2]))], 2⟩ ?_ (fun hj => ?_)
   ·
    let x1 := (bif (a7.getD (s2.2.2.1).toNat Zd7).1 then (a7.getD (s2.2.2.1).toNat Zd7).2.2.1 else s2.2.1)
    refine rThen ?_
    replace hT := sIf hT; obtain ⟨⟨o1, o2, o3, o4⟩, hT⟩ := hT
    refine zA hX ?_
    refine zA hX ?_
    refine rBlock ?_
    replace hT := sBind hT; obtain ⟨w2, hl, hT⟩ := hT
    refine rJoinA (fun v2 => v2 = w2) (fun v2 => ⟨[(1, .v (.c (.ptr 0 0 0 0 0 0))), (2, .v (.c (.val (.slice none 0 0)))), (3, .v (.c (.sl 3 0 (s2.1 + 1) 1))), (4, .v (.c (.int .i64 v2.1))), (5, .v (.c (.int .i64 s2.2.2.1))), (6, .v (.c (.int .i64 v2.2.1))), (9, .v (.c (.int .i64 s2.2.2.1))), (10, .v (.c (.ptr 0 0 0 6 0 0))), (11, .v (.c (.fz Zs1 a7))), (12, .v (.c (.int .i64 (a7.length : Int)))), (13, .v (.c (.bool (decide (s2.2.2.1 < (a7.length : Int)))))), (16, .v (.c (.ptr 0 0 0 6 0 0))), (17, .v (.c (.fz Zs1 a7))), (18, .v (.c (.int .i64 s2.2.2.1))), (19, .v (.c (.fp Zs1 (a7.getD (s2.2.2.1).toNat Zd7) 0 0 0))), (20, .v (.c (.fp Zs1 (a7.getD (s2.2.2.1).toNat Zd7) 0 0 0))), (21, .v (.c (.bool (a7.getD (s2.2.2.1).toNat Zd7).1))), (28, .v (.c (.sl 1 0 s2.1 1))), (29, .v (.c (.int .i64 x1))), (30, .v (.c (.sl 2 0 1 1))), (31, .v (.c (.sl 3 0 (s2.1 + 1) 1))), (32, .v (.c (.int .i64 v2.2.2.1))), (33, .v (.c (.ptr 0 0 0 6 0 0))), (34, .v (.c (.fz Zs1 a7))), (35, .v (.c (.int .i64 s2.2.2.1))), (36, .v (.c (.fp Zs1 (a7.getD (s2.2.2.1).toNat Zd7) 0 0 0))), (37, .v (.c (.fp Zs1 (a7.getD (s2.2.2.1).toNat Zd7) 3 0 0))), (38, .v (.c (.fz Zs2 (a7.getD (s2.2.2.1).toNat Zd7).2.2.2))), (39, .v (.c (.int .i64 ((a7.getD (s2.2.2.1).toNat Zd7).2.2.2.length : Int)))), (40, .v (.c (.bool v2.2.2.2)))], [(0, .mem true 25 none (.flat [.cs [.int .i64 a1, .int .i64 a2, .int .i64 a3, .bool a4, .int .i64 a5, .fz (.int .i64) a6, .fz Zs1 a7, .int .i64 a8]])), (2, .mem true 3 (some 1) (.flat [.ints 1 .i64 ((List.replicate 1 0).set 0 x1)])), (3, .mem true 3 (some 1) (.flat [.ints (s2.2.2.2.1 + 1) .i64 (s2.2.2.2.2 ++ (((List.replicate 1 0).set 0 x1).take 1))]))], 4⟩) (.exit 2) (fun v2 hv => ?_) (fun hxs30 => ?_)
    ·
     subst hv; clear hl
     refine rInHit (rInNormal (rThen ?_))
     replace hT := sIf hT; obtain ⟨o1, hT⟩ := hT
     refine zReg md0 hX rfl rfl rfl ?_
     exact hnexts2 _ (Option.some.inj hT).symm _ (To.mk' [0, 3] 0 hε rfl zL zL)
    refine rLoopM (ref30_First_b2 N a7 s2) (fun s3 => ⟨[(1, .v (.c (.ptr 0 0 0 0 0 0))), (2, .v (.c (.val (.slice none 0 0)))), (3, .v (.c (.sl 3 0 (s2.1 + 1) 1))), (4, .v (.c (.int .i64 s3.1))), (5, .v (.c (.int .i64 s2.2.2.1))), (6, .v (.c (.int .i64 s3.2))), (9, .v (.c (.int .i64 s2.2.2.1))), (10, .v (.c (.ptr 0 0 0 6 0 0))), (11, .v (.c (.fz Zs1 a7))), (12, .v (.c (.int .i64 (a7.length : Int)))), (13, .v (.c (.bool (decide (s2.2.2.1 < (a7.length : Int)))))), (16, .v (.c (.ptr 0 0 0 6 0 0))), (17, .v (.c (.fz Zs1 a7))), (18, .v (.c (.int .i64 s2.2.2.1))), (19, .v (.c (.fp Zs1 (a7.getD (s2.2.2.1).toNat Zd7) 0 0 0))), (20, .v (.c (.fp Zs1 (a7.getD (s2.2.2.1).toNat Zd7) 0 0 0))), (21, .v (.c (.bool (a7.getD (s2.2.2.1).toNat Zd7).1))), (28, .v (.c (.sl 1 0 s2.1 1))), (29, .v (.c (.int .i64 x1))), (30, .v (.c (.sl 2 0 1 1))), (31, .v (.c (.sl 3 0 (s2.1 + 1) 1)))], [(0, .mem true 25 none (.flat [.cs [.int .i64 a1, .int .i64 a2, .int .i64 a3, .bool a4, .int .i64 a5, .fz (.int .i64) a6, .fz Zs1 a7, .int .i64 a8]])), (2, .mem true 3 (some 1) (.flat [.ints 1 .i64 ((List.replicate 1 0).set 0 x1)])), (3, .mem true 3 (some 1) (.flat [.ints (s2.2.2.2.1 + 1) .i64 (s2.2.2.2.2 ++ (((List.replicate 1 0).set 0 x1).take 1))]))], 4⟩) hl (To.mk' [] 0 hε rfl zL zL) (fun s3 zs3 NNs3 hz hnexts3 houts3 => ?_)
    clear hl hT
    have hT := hz; clear hz
    refine rSeq ?_
    let x2 := (decide (s3.2 < ((a7.getD (s2.2.2.1).toNat Zd7).2.2.2.length : Int)))
    replace hT := sIf hT; obtain ⟨⟨o1, o2⟩, hT⟩ := hT
    refine zA hX ?_
    refine zCond rfl rfl (fun hc => ?_) (fun hc => ?_)
    ·
     replace hT := sT hc hT
     refine rSkip (rThen (rSeq (rBlock ?_)))
     let c1 := (ref20_Next N s3.1 ((a7.getD (s2.2.2.1).toNat Zd7).2.2.2.getD (s3.2).toNat Zd1).2.2.2.1)
     replace hT := sIf hT; obtain ⟨⟨o1, o2, o3, o4, o5⟩, hT⟩ := hT
     refine zReg md0 hX rfl rfl rfl ?_
     refine rInNormal (rThen ?_)
     replace hT := sIf hT; obtain ⟨o1, hT⟩ := hT
     refine zReg md0 hX rfl rfl rfl ?_
     exact hnexts3 _ (Option.some.inj hT).symm _ (To.mk' [] 0 hε rfl zL zL)
    ·
     replace hT := sF hc hT
     refine rExit (rThenExit (rThenExit ?_))
     exact zTo [] 0 hε (hxs30 _ (houts3 _ (Option.some.inj hT).symm))
   ·
    clear hT
    refine zCond rfl rfl (fun hc => ?_) (fun hc => ?_)
    ·
     have q1 := q1 hc
     have q2 := q2 hc
     refine zReg md0 hX rfl rfl rfl ?_
     exact rTo (To.mk' [] 0 hε rfl zJ zJ) hj
    ·
     refine rSkip ?_
     exact rTo (To.mk' [] 0 hε rfl zJ zJ) hj
  ·
   replace hT := sF hc hT
   refine rExit (rThenExit (rThenExit ?_))
   exact zTo [] 0 hε (hxs20 _ (houts2 _ (Option.some.inj hT).symm))
 ·
  cases h
def ref30_Of_b2 (N : Nat) (a7 : Zt1) (s2 : Zt13) (s3 : Zt12) : Option (Zt12 ⊕ (Nat × Int × Int × Int × Bool × Nat × (List Int))) :=
 let x1 := (decide (s3.2.2.1 < ((a7.getD (s2.2.1).toNat Zd7).2.2.2.length : Int)))
 if (0 : Int) ≤ s2.2.1 ∧ s2.2.1 < (a7.length : Int) then
  bif x1 then
   let c2 := (ref20_Next N s3.2.1 ((a7.getD (s2.2.1).toNat Zd7).2.2.2.getD (s3.2.2.1).toNat Zd1).2.2.2.1)
   if (0 : Int) ≤ s2.2.1 ∧ s2.2.1 < (a7.length : Int) ∧ (0 : Int) ≤ s3.2.2.1 ∧ s3.2.2.1 < ((a7.getD (s2.2.1).toNat Zd7).2.2.2.length : Int) ∧ c2.isSome = true then
    if 1 ≤ 1 ∧ s3.2.2.2.1 = s3.1 ∧ (s3.1 + 1) * 8 ≤ 140737488355328 ∧ s3.1 + 1 ≤ 9223372036854775807 then
     if inK .i64 (s3.2.2.1 + 1) then
      some (.inl ((s3.1 + 1), (c2.getD default), (s3.2.2.1 + 1), (s3.2.2.2.1 + 1), (s3.2.2.2.2 ++ (((List.replicate 1 0).set 0 (c2.getD default)).take 1))))
     else none
    else none
   else none
  else
   some (.inr (s3.1, s3.2.1, s3.2.2.1, s3.2.2.1, x1, s3.2.2.2.1, s3.2.2.2.2))
 else none
def ref30_Of_b1 (N : Nat) (a7 : Zt1) (c1 : (Option (List Int))) (s2 : Zt13) : Option (Zt13 ⊕ Zt9) :=
 bif (decide (s2.2.1 < (a7.length : Int))) then
  if (0 : Int) ≤ s2.2.1 ∧ s2.2.1 < ((c1.getD default).length : Int) then
   (iter (ref30_Of_b2 N a7 s2) N (s2.1, ((c1.getD default).getD (s2.2.1).toNat 0), 0, s2.2.2.1, s2.2.2.2)).bind fun v2 =>
    if inK .i64 (s2.2.1 + 1) then
     some (.inl (v2.1, (s2.2.1 + 1), v2.2.2.2.2.2.1, v2.2.2.2.2.2.2))
    else none
  else none
 else
  some (.inr (s2.1, s2.2.2.1, s2.2.2.2))
def ref30_Of (N : Nat) (a1 : Int) (a2 : Int) (a3 : Int) (a4 : Bool) (a5 : Int) (a6 : (List Int)) (a7 : Zt1) (a8 : Int) : Option (List Int) :=
 let c1 := (ref30_First N a1 a2 a3 a4 a5 a6 a7 a8)
 if c1.isSome = true then
  (iter (ref30_Of_b1 N a7 c1) N (0, 0, 0, [])).bind fun v1 =>
   if v1.1 = v1.2.2.length then
    some v1.2.2
   else none
 else none
def sp_ref30_Of (N : Nat) : X.Spec := fun args lk => match args with
 | [.v (.agg [.cs [.int .i64 a1, .int .i64 a2, .int .i64 a3, .bool a4, .int .i64 a5, .fz (.int .i64) a6, .fz (.pair .bool (.pair (.int .i64) (.pair (.int .i64) (.sl (.pair (.int .i64) (.pair .bool (.pair (.int .i64) (.pair (.int .i64) (.pair (.arr 2 .i64) (.pair (.arr 6 .i64) (.arrS 6 (.pair .bool (.pair (.int .i64) (.int .i64)))))))))))))) a7, .int .i64 a8]])] => some ⟨(ref30_Of N a1 a2 a3 a4 a5 a6 a7 a8).isSome = true, .v (.c (.fz (.int .i64) ((ref30_Of N a1 a2 a3 a4 a5 a6 a7 a8).getD default))), [], []⟩
 | _ => none
set_option maxRecDepth 100000 in
set_option maxHeartbeats 1000000 in
theorem ok_ref30_Of (N : Nat) : FnOK Tryd.prog gt0 25 (sp_ref30_Of N) := by
 refine fnOK_handed Tryd.func25 rfl (by kernel_rfl) tt_ok (ktCons (ok_ref20_Next N) (ktCons (ok_ref30_First N) (ktNil))) ?_
 intro args lk r h hp
 unfold sp_ref30_Of at h
 split at h
 ·
  rename_i a1 a2 a3 a4 a5 a6 a7 a8
  change (List Int) at a6
  change Zt1 at a7
  cases h
  obtain ⟨x, hx⟩ := Option.isSome_iff_exists.1 hp
  simp only [hx, Option.getD_some]
  refine hand0 rfl rfl (fun w0 M ε0 hX => ?_)
  refine rCount (fun hε => ?_)
  have hT : ref30_Of N a1 a2 a3 a4 a5 a6 a7 a8 = some x := hx; clear hx hp; unfold ref30_Of at hT
  refine zA hX ?_
  refine zA hX ?_
  let c1 := (ref30_First N a1 a2 a3 a4 a5 a6 a7 a8)
  replace hT := sIf hT; obtain ⟨o1, hT⟩ := hT
  refine zA hX ?_
  refine rSeq (zA hX ?_)
  refine rBlock (rNil 3 1 (.flat [.ints 0 .i64 []]) [(1, .v (.c (.ptr 0 0 0 0 0 0))), (2, .v (.c (.val (.slice none 0 0)))), (3, .v (.c (.sl 1 0 0 1))), (4, .v (.c (.fz (.int .i64) (c1.getD default)))), (5, .v (.c (.int .i64 0)))] [(0, .mem true 25 none (.flat [.cs [.int .i64 a1, .int .i64 a2, .int .i64 a3, .bool a4, .int .i64 a5, .fz (.int .i64) a6, .fz Zs1 a7, .int .i64 a8]]))] (nil_ints _) zF zF ?_)
  replace hT := sBind hT; obtain ⟨w1, hl, hT⟩ := hT
  refine rJoinA (fun v1 => v1 = w1) (fun v1 => ⟨[(2, .v (.c (.val (.slice none 0 0)))), (3, .v (.c (.sl 1 0 v1.1 1)))], [(1, .mem true 3 (some 1) (.flat [.ints v1.2.1 .i64 v1.2.2]))], 2⟩) (.exit 0) (fun v1 hv => ?_) (fun hxs20 => ?_)
  ·
   subst hv; clear hl
   refine rInHit (rThen (zA hX ?_))
   refine rRet ?_
   replace hT := sIf hT; obtain ⟨p1, hT⟩ := hT
   refine rFreezeQ 1 (.int .i64) v1.2.2 [(2, .v (.c (.fz (.int .i64) v1.2.2)))] [] rfl rfl zF zF ?_
   have hy := Option.some.inj hT; subst hy
   exact zEnd0 hX rfl
  refine rLoopM (ref30_Of_b1 N a7 c1) (fun s2 => ⟨[(1, .v (.c (.ptr 0 0 0 0 0 0))), (2, .v (.c (.val (.slice none 0 0)))), (3, .v (.c (.sl 1 0 s2.1 1))), (4, .v (.c (.fz (.int .i64) (c1.getD default)))), (5, .v (.c (.int .i64 s2.2.1)))], [(0, .mem true 25 none (.flat [.cs [.int .i64 a1, .int .i64 a2, .int .i64 a3, .bool a4, .int .i64 a5, .fz (.int .i64) a6, .fz Zs1 a7, .int .i64 a8]])), (1, .mem true 3 (some 1) (.flat [.ints s2.2.2.1 .i64 s2.2.2.2]))], 2⟩) hl (To.mk' [] 0 hε rfl zL zL) (fun s2 zs2 NNs2 hz hnexts2 houts2 => ?_)
  clear hl hT
  have hT := hz; clear hz
  refine rSeq (zA hX ?_)
  refine zCond rfl rfl (fun hc => ?_) (fun hc => ?_)
  ·
   replace hT := sT hc hT
   refine rSkip (rThen (rSeq (rBlock ?_)))
   replace hT := sIf hT; obtain ⟨⟨o1, o2⟩, hT⟩ := hT
   refine zA hX ?_
   refine zA hX ?_
   refine rBlock ?_
   replace hT := sBind hT; obtain ⟨w2, hl, hT⟩ := hT
   refine rJoinA (fun v2 => v2 = w2) (fun v2 => ⟨[(1, .v (.c (.ptr 0 0 0 0 0 0))), (2, .v (.c (.val (.slice none 0 0)))), (3, .v (.c (.sl 1 0 v2.1 1))), (4, .v (.c (.fz (.int .i64) (c1.getD default)))), (5, .v (.c (.int .i64 s2.2.1))), (6, .v (.c (.int .i64 v2.2.1))), (7, .v (.c (.int .i64 v2.2.2.1))), (10, .v (.c (.int .i64 s2.2.1))), (11, .v (.c (.ptr 0 0 0 6 0 0))), (12, .v (.c (.fz Zs1 a7))), (13, .v (.c (.int .i64 (a7.length : Int)))), (14, .v (.c (.bool (decide (s2.2.1 < (a7.length : Int)))))), (17, .v (.c (.fz (.int .i64) (c1.getD default)))), (18, .v (.c (.int .i64 s2.2.1))), (19, .v (.c (.fp (.int .i64) ((c1.getD default).getD (s2.2.1).toNat 0) 0 0 0))), (20, .v (.c (.int .i64 ((c1.getD default).getD (s2.2.1).toNat 0)))), (21, .v (.c (.int .i64 v2.2.2.2.1))), (22, .v (.c (.ptr 0 0 0 6 0 0))), (23, .v (.c (.fz Zs1 a7))), (24, .v (.c (.int .i64 s2.2.1))), (25, .v (.c (.fp Zs1 (a7.getD (s2.2.1).toNat Zd7) 0 0 0))), (26, .v (.c (.fp Zs1 (a7.getD (s2.2.1).toNat Zd7) 3 0 0))), (27, .v (.c (.fz Zs2 (a7.getD (s2.2.1).toNat Zd7).2.2.2))), (28, .v (.c (.int .i64 ((a7.getD (s2.2.1).toNat Zd7).2.2.2.length : Int)))), (29, .v (.c (.bool v2.2.2.2.2.1)))], [(0, .mem true 25 none (.flat [.cs [.int .i64 a1, .int .i64 a2, .int .i64 a3, .bool a4, .int .i64 a5, .fz (.int .i64) a6, .fz Zs1 a7, .int .i64 a8]])), (1, .mem true 3 (some 1) (.flat [.ints v2.2.2.2.2.2.1 .i64 v2.2.2.2.2.2.2]))], 2⟩) (.exit 2) (fun v2 hv => ?_) (fun hxs30 => ?_)
   ·
    subst hv; clear hl
    refine rInHit (rInNormal (rThen ?_))
    replace hT := sIf hT; obtain ⟨o1, hT⟩ := hT
    refine zReg md0 hX rfl rfl rfl ?_
    exact hnexts2 _ (Option.some.inj hT).symm _ (To.mk' [] 0 hε rfl zL zL)
   refine rLoopM (ref30_Of_b2 N a7 s2) (fun s3 => ⟨[(1, .v (.c (.ptr 0 0 0 0 0 0))), (2, .v (.c (.val (.slice none 0 0)))), (3, .v (.c (.sl 1 0 s3.1 1))), (4, .v (.c (.fz (.int .i64) (c1.getD default)))), (5, .v (.c (.int .i64 s2.2.1))), (6, .v (.c (.int .i64 s3.2.1))), (7, .v (.c (.int .i64 s3.2.2.1))), (10, .v (.c (.int .i64 s2.2.1))), (11, .v (.c (.ptr 0 0 0 6 0 0))), (12, .v (.c (.fz Zs1 a7))), (13, .v (.c (.int .i64 (a7.length : Int)))), (14, .v (.c (.bool (decide (s2.2.1 < (a7.length : Int)))))), (17, .v (.c (.fz (.int .i64) (c1.getD default)))), (18, .v (.c (.int .i64 s2.2.1))), (19, .v (.c (.fp (.int .i64) ((c1.getD default).getD (s2.2.1).toNat 0) 0 0 0))), (20, .v (.c (.int .i64 ((c1.getD default).getD (s2.2.1).toNat 0))))], [(0, .mem true 25 none (.flat [.cs [.int .i64 a1, .int .i64 a2, .int .i64 a3, .bool a4, .int .i64 a5, .fz (.int .i64) a6, .fz Zs1 a7, .int .i64 a8]])), (1, .mem true 3 (some 1) (.flat [.ints s3.2.2.2.1 .i64 s3.2.2.2.2]))], 2⟩) hl (To.mk' [] 0 hε rfl zL zL) (fun s3 zs3 NNs3 hz hnexts3 houts3 => ?_)
   clear hl hT
   have hT := hz; clear hz
   refine rSeq ?_
   let x1 := (decide (s3.2.2.1 < ((a7.getD (s2.2.1).toNat Zd7).2.2.2.length : Int)))
   replace hT := sIf hT; obtain ⟨⟨o1, o2⟩, hT⟩ := hT
   refine zA hX ?_
   refine zCond rfl rfl (fun hc => ?_) (fun hc => ?_)
   ·
    replace hT := sT hc hT
    refine rSkip (rThen (rSeq (rBlock ?_)))
    let c2 := (ref20_Next N s3.2.1 ((a7.getD (s2.2.1).toNat Zd7).2.2.2.getD (s3.2.2.1).toNat Zd1).2.2.2.1)
    replace hT := sIf hT; obtain ⟨⟨o1, o2, o3, o4, o5⟩, hT⟩ := hT
    refine zA hX ?_
    replace hT := sIf hT; obtain ⟨⟨o1, o2, o3, o4⟩, hT⟩ := hT
    refine zReg md0 hX rfl rfl rfl ?_
    refine rInNormal (rThen ?_)
    replace hT := sIf hT; obtain ⟨o1, hT⟩ := hT
    refine zReg md0 hX rfl rfl rfl ?_
    exact hnexts3 _ (Option.some.inj hT).symm _ (To.mk' [0, 3] 0 hε rfl zL zL)
   ·
    replace hT := sF hc hT
    refine rExit (rThenExit (rThenExit ?_))
    exact zTo [] 0 hε (hxs30 _ (houts3 _ (Option.some.inj hT).symm))
  ·
   replace hT := sF hc hT
   refine rExit (rThenExit (rThenExit ?_))
   exact zTo [] 0 hε (hxs20 _ (houts2 _ (Option.some.inj hT).symm))
 ·
  cases h
def ref30_Same_v2_b1 (N : Nat) (a1 : (List Int)) (a2 : (List Int)) (s1 : Int) : Option (Int ⊕ (Unit ⊕ Unit)) :=
 bif (decide (s1 < (a1.length : Int))) then
  if (0 : Int) ≤ s1 ∧ s1 < (a1.length : Int) ∧ s1 < (a2.length : Int) then
   bif (decide ((a1.getD (s1).toNat 0) ≠ (a2.getD (s1).toNat 0))) then
    some (.inr (Sum.inl ()))
   else
    if inK .i64 (s1 + 1) then
     some (.inl (s1 + 1))
    else none
  else none
 else
  some (.inr (Sum.inr ()))
def ref30_Same_v2 (N : Nat) (a1 : (List Int)) (a2 : (List Int)) : Option Bool :=
 bif (decide ((a1.length : Int) ≠ (a2.length : Int))) then
  some false
 else
  (iter (ref30_Same_v2_b1 N a1 a2) N 0).bind fun w1 =>
   (Sum.elim (fun v1 =>
    some false
   )
    (fun v2 =>
     some true
    )
   ) w1
def sp_ref30_Same_v2 (N : Nat) : X.Spec := fun args lk => match args with
 | [.v (.c (.fz (.int .i64) a1)), .v (.c (.fz (.int .i64) a2))] => some ⟨(ref30_Same_v2 N a1 a2).isSome = true, .v (.c (.bool ((ref30_Same_v2 N a1 a2).getD default))), [], []⟩
 | _ => none
set_option maxRecDepth 100000 in
set_option maxHeartbeats 1000000 in
theorem ok_ref30_Same_v2 (N : Nat) : FnOK Tryd.prog gt0 24 (sp_ref30_Same_v2 N) := by
 refine fnOK_handed Tryd.func24 rfl (by kernel_rfl) tt_ok (ktNil) ?_
 intro args lk r h hp
 unfold sp_ref30_Same_v2 at h
 split at h
 ·
  rename_i a1 a2
  change (List Int) at a1
  change (List Int) at a2
  cases h
  obtain ⟨x, hx⟩ := Option.isSome_iff_exists.1 hp
  simp only [hx, Option.getD_some]
  refine hand0 rfl rfl (fun w0 M ε0 hX => ?_)
  refine rCount (fun hε => ?_)
  have hT : ref30_Same_v2 N a1 a2 = some x := hx; clear hx hp; unfold ref30_Same_v2 at hT
  refine zA hX ?_
  refine rSeq (zA hX ?_)
  refine zCond rfl rfl (fun hc => ?_) (fun hc => ?_)
  ·
   replace hT := sT hc hT
   refine zA hX ?_
   refine rRet (rThenRet ?_)
   have hy := Option.some.inj hT; subst hy
   exact zEnd0 hX rfl
  ·
   replace hT := sF hc hT
   refine rSkip (rThen (rSeq (zA hX ?_)))
   refine rBlock ?_
   replace hT := sBind hT; obtain ⟨w1, hl, hT⟩ := hT
   refine rJoinA (fun v1 => (Sum.inl v1) = w1) (fun v1 => ⟨[(4, .v (.c (.bool false)))], [], 0⟩) .ret (fun v1 hv => ?_) (fun hxs10 => ?_)
   ·
    subst hv; clear hl; replace hT := (sElimL hT)
    refine rInRet (rThenRet ?_)
    have hy := Option.some.inj hT; subst hy
    exact zEnd0 hX rfl
   refine rJoinA (fun v2 => (Sum.inr v2) = w1) (fun v2 => ⟨[(4, .v (.c (.bool false)))], [], 0⟩) (.exit 0) (fun v2 hv => ?_) (fun hxs11 => ?_)
   ·
    subst hv; clear hl; replace hT := (sElimR hT)
    refine rInHit (rThen (zA hX ?_))
    refine rRet ?_
    have hy := Option.some.inj hT; subst hy
    exact zEnd0 hX rfl
   refine rLoopM (ref30_Same_v2_b1 N a1 a2) (fun s1 => ⟨[(0, .v (.c (.fz (.int .i64) a1))), (1, .v (.c (.fz (.int .i64) a2))), (4, .v (.c (.bool false))), (5, .v (.c (.int .i64 s1)))], [], 0⟩) hl (To.mk' [] 0 hε rfl zL zL) (fun s1 zs1 NNs1 hz hnexts1 houts1 => ?_)
   clear hl hT
   have hT := hz; clear hz
   refine rSeq (zA hX ?_)
   refine zCond rfl rfl (fun hc => ?_) (fun hc => ?_)
   ·
    replace hT := sT hc hT
    refine rSkip (rThen (rSeq (rBlock ?_)))
    replace hT := sIf hT; obtain ⟨⟨o1, o2, o3⟩, hT⟩ := hT
    refine rSeq (zDraw md0 0 [] hX mixed rfl rfl rfl rfl rfl ?_)
    refine rThen ?_
    refine zCond rfl rfl (fun hc => ?_) (fun hc => ?_)
    ·
     replace hT := sT hc hT
     refine zA hX ?_
     refine rRet (rInRet (rThenRet (rThenRet ?_)))
     exact zTo [] 0 hε (hxs10 _ (houts1 _ (Option.some.inj hT).symm))
    ·
     replace hT := sF hc hT
     refine rSkip (rInNormal (rThen ?_))
     replace hT := sIf hT; obtain ⟨o1, hT⟩ := hT
     refine zReg md0 hX rfl rfl rfl ?_
     exact hnexts1 _ (Option.some.inj hT).symm _ (To.mk' [] 0 hε rfl zL zL)
   ·
    replace hT := sF hc hT
    refine rExit (rThenExit (rThenExit ?_))
    exact zTo [] 0 hε (hxs11 _ (houts1 _ (Option.some.inj hT).symm))
 ·
  cases h
def law30_QuantsOf (N : Nat) (a1 : Int) (a2 : Int) (a3 : Int) (a4 : Bool) (a5 : Int) (a6 : (List Int)) (a7 : Zt1) (a8 : Int) : Option Bool :=
 let c1 := (law25_Light N a1 a2 a3 a4 a5 a6 a7 a8)
 if c1.isSome = true then
  bif (!(c1.getD default)) then
   let c2 := (law30_lives N)
   if c2.isSome = true then
    some (c2.getD default)
   else none
  else
   let c3 := (quants_Of_v1 N a1 a2 a3 a4 a5 a6 a7 a8)
   if c3.isSome = true then
    let c4 := (quants_First_v1 N a1 a2 a3 a4 a5 a6 a7 a8)
    if c4.isSome = true then
     let c5 := (ref25_Check N a1 a2 a3 a4 a5 a6 a7 a8)
     if c5.isSome = true then
      bif (decide ((c5.getD default) ≠ 0)) then
       let c6 := (law30_lives N)
       let x1 := (bif (bif (bif (decide ((((c3.getD default).1.length : Int) + ((c4.getD default).1.length : Int)) = 0)) then (decide ((c3.getD default).2 = (c5.getD default))) else false) then (decide ((c4.getD default).2 = (c3.getD default).2)) else false) then (c6.getD default) else false)
       if inK .i64 (((c3.getD default).1.length : Int) + ((c4.getD default).1.length : Int)) ∧ ((bif (bif (decide ((((c3.getD default).1.length : Int) + ((c4.getD default).1.length : Int)) = 0)) then (decide ((c3.getD default).2 = (c5.getD default))) else false) then (decide ((c4.getD default).2 = (c3.getD default).2)) else false) = true → c6.isSome = true) then
        some x1
       else none
      else
       let c7 := (ref30_Of N a1 a2 a3 a4 a5 a6 a7 a8)
       let c8 := (ref30_Same_v2 N (c3.getD default).1 (c7.getD default))
       let c9 := (ref30_First N a1 a2 a3 a4 a5 a6 a7 a8)
       let c10 := (ref30_Same_v2 N (c4.getD default).1 (c9.getD default))
       let c11 := (law30_lives N)
       let x4 := (bif (bif (bif (bif (c8.getD default) then (decide ((c3.getD default).2 = 0)) else false) then (c10.getD default) else false) then (decide ((c4.getD default).2 = 0)) else false) then (c11.getD default) else false)
       if c7.isSome = true ∧ c8.isSome = true ∧ ((bif (c8.getD default) then (decide ((c3.getD default).2 = 0)) else false) = true → c9.isSome = true) ∧ ((bif (c8.getD default) then (decide ((c3.getD default).2 = 0)) else false) = true → c10.isSome = true) ∧ ((bif (bif (bif (c8.getD default) then (decide ((c3.getD default).2 = 0)) else false) then (c10.getD default) else false) then (decide ((c4.getD default).2 = 0)) else false) = true → c11.isSome = true) then
        some x4
       else none
     else none
    else none
   else none
 else none
def sp_law30_QuantsOf (N : Nat) : X.Spec := fun args lk => match args with
 | [.v (.agg [.cs [.int .i64 a1, .int .i64 a2, .int .i64 a3, .bool a4, .int .i64 a5, .fz (.int .i64) a6, .fz (.pair .bool (.pair (.int .i64) (.pair (.int .i64) (.sl (.pair (.int .i64) (.pair .bool (.pair (.int .i64) (.pair (.int .i64) (.pair (.arr 2 .i64) (.pair (.arr 6 .i64) (.arrS 6 (.pair .bool (.pair (.int .i64) (.int .i64)))))))))))))) a7, .int .i64 a8]])] => some ⟨(law30_QuantsOf N a1 a2 a3 a4 a5 a6 a7 a8).isSome = true, .v (.c (.bool ((law30_QuantsOf N a1 a2 a3 a4 a5 a6 a7 a8).getD default))), [], []⟩
 | _ => none
set_option maxRecDepth 100000 in
set_option maxHeartbeats 1000000 in
theorem ok_law30_QuantsOf (N : Nat) : FnOK Tryd.prog gt0 5 (sp_law30_QuantsOf N) := by
 refine fnOK_handed Tryd.func5 rfl (by kernel_rfl) tt_ok (ktCons (ok_ref30_First N) (ktCons (ok_ref30_Same_v2 N) (ktCons (ok_ref30_Of N) (ktCons (ok_ref25_Check N) (ktCons (ok_quants_First_v1 N) (ktCons (ok_quants_Of_v1 N) (ktCons (ok_law30_lives N) (ktCons (ok_law25_Light N) (ktNil))))))))) ?_
 intro args lk r h hp
 unfold sp_law30_QuantsOf at h
 split at h
 ·
  rename_i a1 a2 a3 a4 a5 a6 a7 a8
  change (List Int) at a6
  change Zt1 at a7
  cases h
  obtain ⟨x, hx⟩ := Option.isSome_iff_exists.1 hp
  simp only [hx, Option.getD_some]
  refine hand0 rfl rfl (fun w0 M ε0 hX => ?_)
  refine rCount (fun hε => ?_)
  have hT : law30_QuantsOf N a1 a2 a3 a4 a5 a6 a7 a8 = some x := hx; clear hx hp; unfold law30_QuantsOf at hT
  refine zA hX ?_
  refine rSeq ?_
  let c1 := (law25_Light N a1 a2 a3 a4 a5 a6 a7 a8)
  replace hT := sIf hT; obtain ⟨o1, hT⟩ := hT
  refine zA hX ?_
  refine zCond rfl rfl (fun hc => ?_) (fun hc => ?_)
  ·
   replace hT := sT hc hT
   let c2 := (law30_lives N)
   replace hT := sIf hT; obtain ⟨o1, hT⟩ := hT
   refine zA hX ?_
   refine rRet (rThenRet ?_)
   have hy := Option.some.inj hT; subst hy
   exact zEnd0 hX rfl
  ·
   replace hT := sF hc hT
   refine rSkip (rThen ?_)
   let c3 := (quants_Of_v1 N a1 a2 a3 a4 a5 a6 a7 a8)
   replace hT := sIf hT; obtain ⟨o1, hT⟩ := hT
   refine zA hX ?_
   let c4 := (quants_First_v1 N a1 a2 a3 a4 a5 a6 a7 a8)
   replace hT := sIf hT; obtain ⟨o1, hT⟩ := hT
   refine zA hX ?_
   let c5 := (ref25_Check N a1 a2 a3 a4 a5 a6 a7 a8)
   replace hT := sIf hT; obtain ⟨o1, hT⟩ := hT
   refine zA hX ?_
   refine rSeq (zA hX ?_)
   refine zCond rfl rfl (fun hc => ?_) (fun hc => ?_)
   ·
    replace hT := sT hc hT
    let c6 := (law30_lives N)
    let x1 := (bif (bif (bif (decide ((((c3.getD default).1.length : Int) + ((c4.getD default).1.length : Int)) = 0)) then (decide ((c3.getD default).2 = (c5.getD default))) else false) then (decide ((c4.getD default).2 = (c3.getD default).2)) else false) then (c6.getD default) else false)
    replace hT := sIf hT; obtain ⟨⟨o1, o2⟩, hT⟩ := hT
    refine rSeq (rRegC md0 hX rfl rfl rfl zO ?_)
    refine rThen (rRet (rThenRet ?_))
    have hy := Option.some.inj hT; subst hy
    exact zEnd0 hX rfl
   ·
    replace hT := sF hc hT
    refine rSkip (rThen ?_)
    let c7 := (ref30_Of N a1 a2 a3 a4 a5 a6 a7 a8)
    let c8 := (ref30_Same_v2 N (c3.getD default).1 (c7.getD default))
    let c9 := (ref30_First N a1 a2 a3 a4 a5 a6 a7 a8)
    let c10 := (ref30_Same_v2 N (c4.getD default).1 (c9.getD default))
    let c11 := (law30_lives N)
    let x4 := (bif (bif (bif (bif (c8.getD default) then (decide ((c3.getD default).2 = 0)) else false) then (c10.getD default) else false) then (decide ((c4.getD default).2 = 0)) else false) then (c11.getD default) else false)
    replace hT := sIf hT; obtain ⟨⟨o1, o2, o3, o4, o5⟩, hT⟩ := hT
    refine rSeq (rRegC md0 hX rfl rfl rfl zO ?_)
    refine rThen (rRet ?_)
    have hy := Option.some.inj hT; subst hy
    exact zEnd0 hX rfl
 ·
  cases h

end Go.Proofs.YtlcjjaglbcfbbaaDoor
