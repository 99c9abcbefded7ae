/- Models of functions, and that the program does what they tell. -/
import Derived.Test.YtlcjjaglbcfbbaaDoorE0
set_option linter.unusedVariables false
set_option linter.unusedSimpArgs false
namespace Go.Proofs.YtlcjjaglbcfbbaaDoor
open Go.X

def law25_Light_b3 (N : Nat) (a7 : Zt1) (s1 : (Int × Int)) (s2 : (Int × Int)) (s3 : Int) : Option (Int ⊕ (Unit ⊕ (Int × Int × Bool))) :=
 bif (decide (s3 < 6)) then
  let x7 := (decide ((100 : Int) < ((((a7.getD (s1.2).toNat Zd7).2.2.2.getD (s2.2).toNat Zd1).2.2.2.2.2.2.getD (s3).toNat []).length : Int)))
  if (0 : Int) ≤ s1.2 ∧ s1.2 < (a7.length : Int) ∧ (0 : Int) ≤ s2.2 ∧ s2.2 < ((a7.getD (s1.2).toNat Zd7).2.2.2.length : Int) ∧ (0 : Int) ≤ s3 ∧ s3 < 6 ∧ (s3).toNat < 6 then
   bif x7 then
    some (.inr (Sum.inl ()))
   else
    if inK .i64 (s3 + 1) then
     some (.inl (s3 + 1))
    else none
  else none
 else
  some (.inr (Sum.inr (s3, s3, (decide (s3 < 6)))))
def law25_Light_b2 (N : Nat) (a7 : Zt1) (s1 : (Int × Int)) (s2 : (Int × Int)) : Option ((Int × Int) ⊕ (Unit ⊕ (Int × Int × Int × Bool))) :=
 let x3 := (decide (s2.2 < ((a7.getD (s1.2).toNat Zd7).2.2.2.length : Int)))
 if (0 : Int) ≤ s1.2 ∧ s1.2 < (a7.length : Int) then
  bif x3 then
   (iter (law25_Light_b3 N a7 s1 s2) N 0).bind fun w3 =>
    (Sum.elim (fun v5 =>
     some (.inr (Sum.inl ()))
    )
     (fun v6 =>
      if inK .i64 (s2.1 + 1) then
       if inK .i64 (s2.2 + 1) then
        some (.inl ((s2.1 + 1), (s2.2 + 1)))
       else none
      else none
     )
    ) w3
  else
   some (.inr (Sum.inr (s2.1, s2.2, s2.2, x3)))
 else none
def law25_Light_b1 (N : Nat) (a7 : Zt1) (s1 : (Int × Int)) : Option ((Int × Int) ⊕ (Unit ⊕ Int)) :=
 bif (decide (s1.2 < (a7.length : Int))) then
  let x2 := (decide ((200 : Int) < ((a7.getD (s1.2).toNat Zd7).2.2.2.length : Int)))
  if (0 : Int) ≤ s1.2 ∧ s1.2 < (a7.length : Int) then
   bif x2 then
    some (.inr (Sum.inl ()))
   else
    (iter (law25_Light_b2 N a7 s1) N (s1.1, 0)).bind fun w2 =>
     (Sum.elim (fun v3 =>
      some (.inr (Sum.inl ()))
     )
      (fun v4 =>
       if inK .i64 (s1.2 + 1) then
        some (.inl (v4.1, (s1.2 + 1)))
       else none
      )
     ) w2
  else none
 else
  some (.inr (Sum.inr s1.1))
def law25_Light (N : Nat) (a1 : Int) (a2 : Int) (a3 : Int) (a4 : Bool) (a5 : Int) (a6 : (List Int)) (a7 : Zt1) (a8 : Int) : Option Bool :=
 let x1 := (bif (decide ((30 : Int) < (a7.length : Int))) then true else (decide ((100 : Int) < (a6.length : Int))))
 bif x1 then
  some false
 else
  (iter (law25_Light_b1 N a7) N (0, 0)).bind fun w1 =>
   (Sum.elim (fun v1 =>
    some false
   )
    (fun v2 =>
     some (decide (v2 ≤ 200))
    )
   ) w1
def sp_law25_Light (N : Nat) : X.Spec := fun args lk => match args with
 | [.v (.agg [.cs [.int .i64 a1, .int .i64 a2, .int .i64 a3, .bool a4, .int .i64 a5, .fz (.int .i64) a6, .fz (.pair .bool (.pair (.int .i64) (.pair (.int .i64) (.sl (.pair (.int .i64) (.pair .bool (.pair (.int .i64) (.pair (.int .i64) (.pair (.arr 2 .i64) (.pair (.arr 6 .i64) (.arrS 6 (.pair .bool (.pair (.int .i64) (.int .i64)))))))))))))) a7, .int .i64 a8]])] => some ⟨(law25_Light N a1 a2 a3 a4 a5 a6 a7 a8).isSome = true, .v (.c (.bool ((law25_Light N a1 a2 a3 a4 a5 a6 a7 a8).getD default))), [], []⟩
 | _ => none
set_option maxRecDepth 100000 in
set_option maxHeartbeats 1000000 in
theorem ok_law25_Light (N : Nat) : FnOK Tryd.prog gt0 9 (sp_law25_Light N) := by
 refine fnOK_handed Tryd.func9 rfl (by kernel_rfl) tt_ok (ktNil) ?_
 intro args lk r h hp
 unfold sp_law25_Light at h
 split at h
 ·
  rename_i a1 a2 a3 a4 a5 a6 a7 a8
  change (List Int) at a6
  change Zt1 at a7
  cases h
  obtain ⟨x, hx⟩ := Option.isSome_iff_exists.1 hp
  simp only [hx, Option.getD_some]
  refine hand0 rfl rfl (fun w0 M ε0 hX => ?_)
  refine rCount (fun hε => ?_)
  have hT : law25_Light N a1 a2 a3 a4 a5 a6 a7 a8 = some x := hx; clear hx hp; unfold law25_Light at hT
  refine zA hX ?_
  refine rSeq ?_
  let x1 := (bif (decide ((30 : Int) < (a7.length : Int))) then true else (decide ((100 : Int) < (a6.length : Int))))
  refine zA hX ?_
  refine zCond rfl rfl (fun hc => ?_) (fun hc => ?_)
  ·
   replace hT := sT hc hT
   refine zA hX ?_
   refine rRet (rThenRet ?_)
   have hy := Option.some.inj hT; subst hy
   exact zEnd0 hX rfl
  ·
   replace hT := sF hc hT
   refine rSkip (rThen (zA hX ?_))
   refine rSeq (zA hX ?_)
   refine rBlock ?_
   replace hT := sBind hT; obtain ⟨w1, hl, hT⟩ := hT
   refine rJoinA (fun v1 => (Sum.inl v1) = w1) (fun v1 => ⟨[(2, .v (.c (.bool false)))], [], 1⟩) .ret (fun v1 hv => ?_) (fun hxs10 => ?_)
   ·
    subst hv; clear hl; replace hT := (sElimL hT)
    refine rInRet (rThenRet ?_)
    have hy := Option.some.inj hT; subst hy
    exact zEnd0 hX rfl
   refine rJoinA (fun v2 => (Sum.inr v2) = w1) (fun v2 => ⟨[(2, .v (.c (.bool false))), (3, .v (.c (.int .i64 v2)))], [], 1⟩) (.exit 0) (fun v2 hv => ?_) (fun hxs11 => ?_)
   ·
    subst hv; clear hl; replace hT := (sElimR hT)
    refine rInHit (rThen (zA hX ?_))
    refine rRet ?_
    have hy := Option.some.inj hT; subst hy
    exact zEnd0 hX rfl
   refine rLoopM (law25_Light_b1 N a7) (fun s1 => ⟨[(1, .v (.c (.ptr 0 0 0 0 0 0))), (2, .v (.c (.bool false))), (3, .v (.c (.int .i64 s1.1))), (4, .v (.c (.int .i64 s1.2)))], [(0, .mem true 25 none (.flat [.cs [.int .i64 a1, .int .i64 a2, .int .i64 a3, .bool a4, .int .i64 a5, .fz (.int .i64) a6, .fz Zs1 a7, .int .i64 a8]]))], 1⟩) hl (To.mk' [] 0 hε rfl zL zL) (fun s1 zs1 NNs1 hz hnexts1 houts1 => ?_)
   clear hl hT
   have hT := hz; clear hz
   refine rSeq (zA hX ?_)
   refine zCond rfl rfl (fun hc => ?_) (fun hc => ?_)
   ·
    replace hT := sT hc hT
    refine rSkip (rThen (rSeq (rBlock (rSeq ?_))))
    let x2 := (decide ((200 : Int) < ((a7.getD (s1.2).toNat Zd7).2.2.2.length : Int)))
    replace hT := sIf hT; obtain ⟨⟨o1, o2⟩, hT⟩ := hT
    refine zA hX ?_
    refine zCond rfl rfl (fun hc => ?_) (fun hc => ?_)
    ·
     replace hT := sT hc hT
     refine zA hX ?_
     refine rRet (rThenRet (rInRet (rThenRet (rThenRet ?_))))
     exact zTo [] 0 hε (hxs10 _ (houts1 _ (Option.some.inj hT).symm))
    ·
     replace hT := sF hc hT
     refine rSkip (rThen (zA hX ?_))
     refine rBlock ?_
     replace hT := sBind hT; obtain ⟨w2, hl, hT⟩ := hT
     refine rJoinA (fun v3 => (Sum.inl v3) = w2) (fun v3 => ⟨[(2, .v (.c (.bool false)))], [], 1⟩) .ret (fun v3 hv => ?_) (fun hxs20 => ?_)
     ·
      subst hv; clear hl; replace hT := (sElimL hT)
      refine rInRet (rInRet (rThenRet (rThenRet ?_)))
      exact zTo [] 0 hε (hxs10 _ (houts1 _ (Option.some.inj hT).symm))
     refine rJoinA (fun v4 => (Sum.inr v4) = w2) (fun v4 => ⟨[(1, .v (.c (.ptr 0 0 0 0 0 0))), (2, .v (.c (.bool false))), (3, .v (.c (.int .i64 v4.1))), (4, .v (.c (.int .i64 s1.2))), (5, .v (.c (.int .i64 v4.2.1))), (17, .v (.c (.int .i64 s1.2))), (18, .v (.c (.ptr 0 0 0 6 0 0))), (19, .v (.c (.fz Zs1 a7))), (20, .v (.c (.int .i64 (a7.length : Int)))), (21, .v (.c (.bool (decide (s1.2 < (a7.length : Int)))))), (24, .v (.c (.ptr 0 0 0 6 0 0))), (25, .v (.c (.fz Zs1 a7))), (26, .v (.c (.int .i64 s1.2))), (27, .v (.c (.fp Zs1 (a7.getD (s1.2).toNat Zd7) 0 0 0))), (28, .v (.c (.fp Zs1 (a7.getD (s1.2).toNat Zd7) 3 0 0))), (29, .v (.c (.fz Zs2 (a7.getD (s1.2).toNat Zd7).2.2.2))), (30, .v (.c (.int .i64 ((a7.getD (s1.2).toNat Zd7).2.2.2.length : Int)))), (31, .v (.c (.bool x2))), (32, .v (.c (.int .i64 v4.2.2.1))), (33, .v (.c (.ptr 0 0 0 6 0 0))), (34, .v (.c (.fz Zs1 a7))), (35, .v (.c (.int .i64 s1.2))), (36, .v (.c (.fp Zs1 (a7.getD (s1.2).toNat Zd7) 0 0 0))), (37, .v (.c (.fp Zs1 (a7.getD (s1.2).toNat Zd7) 3 0 0))), (38, .v (.c (.fz Zs2 (a7.getD (s1.2).toNat Zd7).2.2.2))), (39, .v (.c (.int .i64 ((a7.getD (s1.2).toNat Zd7).2.2.2.length : Int)))), (40, .v (.c (.bool v4.2.2.2)))], [(0, .mem true 25 none (.flat [.cs [.int .i64 a1, .int .i64 a2, .int .i64 a3, .bool a4, .int .i64 a5, .fz (.int .i64) a6, .fz Zs1 a7, .int .i64 a8]]))], 1⟩) (.exit 2) (fun v4 hv => ?_) (fun hxs21 => ?_)
     ·
      subst hv; clear hl; replace hT := (sElimR hT)
      refine rInHit (rInNormal (rThen ?_))
      replace hT := sIf hT; obtain ⟨o1, hT⟩ := hT
      refine zReg md0 hX rfl rfl rfl ?_
      exact hnexts1 _ (Option.some.inj hT).symm _ (To.mk' [] 0 hε rfl zL zL)
     refine rLoopM (law25_Light_b2 N a7 s1) (fun s2 => ⟨[(1, .v (.c (.ptr 0 0 0 0 0 0))), (2, .v (.c (.bool false))), (3, .v (.c (.int .i64 s2.1))), (4, .v (.c (.int .i64 s1.2))), (5, .v (.c (.int .i64 s2.2))), (17, .v (.c (.int .i64 s1.2))), (18, .v (.c (.ptr 0 0 0 6 0 0))), (19, .v (.c (.fz Zs1 a7))), (20, .v (.c (.int .i64 (a7.length : Int)))), (21, .v (.c (.bool (decide (s1.2 < (a7.length : Int)))))), (24, .v (.c (.ptr 0 0 0 6 0 0))), (25, .v (.c (.fz Zs1 a7))), (26, .v (.c (.int .i64 s1.2))), (27, .v (.c (.fp Zs1 (a7.getD (s1.2).toNat Zd7) 0 0 0))), (28, .v (.c (.fp Zs1 (a7.getD (s1.2).toNat Zd7) 3 0 0))), (29, .v (.c (.fz Zs2 (a7.getD (s1.2).toNat Zd7).2.2.2))), (30, .v (.c (.int .i64 ((a7.getD (s1.2).toNat Zd7).2.2.2.length : Int)))), (31, .v (.c (.bool x2)))], [(0, .mem true 25 none (.flat [.cs [.int .i64 a1, .int .i64 a2, .int .i64 a3, .bool a4, .int .i64 a5, .fz (.int .i64) a6, .fz Zs1 a7, .int .i64 a8]]))], 1⟩) hl (To.mk' [] 0 hε rfl zL zL) (fun s2 zs2 NNs2 hz hnexts2 houts2 => ?_)
     clear hl hT
     have hT := hz; clear hz
     refine rSeq ?_
     let x3 := (decide (s2.2 < ((a7.getD (s1.2).toNat Zd7).2.2.2.length : Int)))
     replace hT := sIf hT; obtain ⟨⟨o1, o2⟩, hT⟩ := hT
     refine zA hX ?_
     refine zCond rfl rfl (fun hc => ?_) (fun hc => ?_)
     ·
      replace hT := sT hc hT
      refine rSkip (rThen (rSeq (rBlock (rSeq (zA hX ?_)))))
      refine rBlock ?_
      replace hT := sBind hT; obtain ⟨w3, hl, hT⟩ := hT
      refine rJoinA (fun v5 => (Sum.inl v5) = w3) (fun v5 => ⟨[(2, .v (.c (.bool false)))], [], 1⟩) .ret (fun v5 hv => ?_) (fun hxs30 => ?_)
      ·
       subst hv; clear hl; replace hT := (sElimL hT)
       refine rInRet (rThenRet (rInRet (rThenRet (rThenRet ?_))))
       exact zTo [] 0 hε (hxs20 _ (houts2 _ (Option.some.inj hT).symm))
      refine rJoinA (fun v6 => (Sum.inr v6) = w3) (fun v6 => ⟨[(1, .v (.c (.ptr 0 0 0 0 0 0))), (2, .v (.c (.bool false))), (3, .v (.c (.int .i64 s2.1))), (4, .v (.c (.int .i64 s1.2))), (5, .v (.c (.int .i64 s2.2))), (6, .v (.c (.int .i64 v6.1))), (17, .v (.c (.int .i64 s1.2))), (18, .v (.c (.ptr 0 0 0 6 0 0))), (19, .v (.c (.fz Zs1 a7))), (20, .v (.c (.int .i64 (a7.length : Int)))), (21, .v (.c (.bool (decide (s1.2 < (a7.length : Int)))))), (24, .v (.c (.ptr 0 0 0 6 0 0))), (25, .v (.c (.fz Zs1 a7))), (26, .v (.c (.int .i64 s1.2))), (27, .v (.c (.fp Zs1 (a7.getD (s1.2).toNat Zd7) 0 0 0))), (28, .v (.c (.fp Zs1 (a7.getD (s1.2).toNat Zd7) 3 0 0))), (29, .v (.c (.fz Zs2 (a7.getD (s1.2).toNat Zd7).2.2.2))), (30, .v (.c (.int .i64 ((a7.getD (s1.2).toNat Zd7).2.2.2.length : Int)))), (31, .v (.c (.bool x2))), (32, .v (.c (.int .i64 s2.2))), (33, .v (.c (.ptr 0 0 0 6 0 0))), (34, .v (.c (.fz Zs1 a7))), (35, .v (.c (.int .i64 s1.2))), (36, .v (.c (.fp Zs1 (a7.getD (s1.2).toNat Zd7) 0 0 0))), (37, .v (.c (.fp Zs1 (a7.getD (s1.2).toNat Zd7) 3 0 0))), (38, .v (.c (.fz Zs2 (a7.getD (s1.2).toNat Zd7).2.2.2))), (39, .v (.c (.int .i64 ((a7.getD (s1.2).toNat Zd7).2.2.2.length : Int)))), (40, .v (.c (.bool x3))), (43, .v (.c (.int .i64 v6.2.1))), (44, .v (.c (.bool v6.2.2)))], [(0, .mem true 25 none (.flat [.cs [.int .i64 a1, .int .i64 a2, .int .i64 a3, .bool a4, .int .i64 a5, .fz (.int .i64) a6, .fz Zs1 a7, .int .i64 a8]]))], 1⟩) (.exit 4) (fun v6 hv => ?_) (fun hxs31 => ?_)
      ·
       subst hv; clear hl; replace hT := (sElimR hT)
       refine rInHit (rThen ?_)
       replace hT := sIf hT; obtain ⟨o1, hT⟩ := hT
       refine zReg md0 hX rfl rfl rfl ?_
       refine rInNormal (rThen ?_)
       replace hT := sIf hT; obtain ⟨o1, hT⟩ := hT
       refine zReg md0 hX rfl rfl rfl ?_
       exact hnexts2 _ (Option.some.inj hT).symm _ (To.mk' [] 0 hε rfl zL zL)
      refine rLoopM (law25_Light_b3 N a7 s1 s2) (fun s3 => ⟨[(1, .v (.c (.ptr 0 0 0 0 0 0))), (2, .v (.c (.bool false))), (3, .v (.c (.int .i64 s2.1))), (4, .v (.c (.int .i64 s1.2))), (5, .v (.c (.int .i64 s2.2))), (6, .v (.c (.int .i64 s3))), (17, .v (.c (.int .i64 s1.2))), (18, .v (.c (.ptr 0 0 0 6 0 0))), (19, .v (.c (.fz Zs1 a7))), (20, .v (.c (.int .i64 (a7.length : Int)))), (21, .v (.c (.bool (decide (s1.2 < (a7.length : Int)))))), (24, .v (.c (.ptr 0 0 0 6 0 0))), (25, .v (.c (.fz Zs1 a7))), (26, .v (.c (.int .i64 s1.2))), (27, .v (.c (.fp Zs1 (a7.getD (s1.2).toNat Zd7) 0 0 0))), (28, .v (.c (.fp Zs1 (a7.getD (s1.2).toNat Zd7) 3 0 0))), (29, .v (.c (.fz Zs2 (a7.getD (s1.2).toNat Zd7).2.2.2))), (30, .v (.c (.int .i64 ((a7.getD (s1.2).toNat Zd7).2.2.2.length : Int)))), (31, .v (.c (.bool x2))), (32, .v (.c (.int .i64 s2.2))), (33, .v (.c (.ptr 0 0 0 6 0 0))), (34, .v (.c (.fz Zs1 a7))), (35, .v (.c (.int .i64 s1.2))), (36, .v (.c (.fp Zs1 (a7.getD (s1.2).toNat Zd7) 0 0 0))), (37, .v (.c (.fp Zs1 (a7.getD (s1.2).toNat Zd7) 3 0 0))), (38, .v (.c (.fz Zs2 (a7.getD (s1.2).toNat Zd7).2.2.2))), (39, .v (.c (.int .i64 ((a7.getD (s1.2).toNat Zd7).2.2.2.length : Int)))), (40, .v (.c (.bool x3)))], [(0, .mem true 25 none (.flat [.cs [.int .i64 a1, .int .i64 a2, .int .i64 a3, .bool a4, .int .i64 a5, .fz (.int .i64) a6, .fz Zs1 a7, .int .i64 a8]]))], 1⟩) hl (To.mk' [] 0 hε rfl zL zL) (fun s3 zs3 NNs3 hz hnexts3 houts3 => ?_)
      clear hl hT
      have hT := hz; clear hz
      refine rSeq (zA hX ?_)
      refine zCond rfl rfl (fun hc => ?_) (fun hc => ?_)
      ·
       replace hT := sT hc hT
       refine rSkip (rThen (rSeq (rBlock ?_)))
       let x7 := (decide ((100 : Int) < ((((a7.getD (s1.2).toNat Zd7).2.2.2.getD (s2.2).toNat Zd1).2.2.2.2.2.2.getD (s3).toNat []).length : Int)))
       replace hT := sIf hT; obtain ⟨⟨o1, o2, o3, o4, o5, o6, o7⟩, hT⟩ := hT
       refine zA hX ?_
       refine zCond rfl rfl (fun hc => ?_) (fun hc => ?_)
       ·
        replace hT := sT hc hT
        refine zA hX ?_
        refine rRet (rInRet (rThenRet (rThenRet ?_)))
        exact zTo [] 0 hε (hxs30 _ (houts3 _ (Option.some.inj hT).symm))
       ·
        replace hT := sF hc hT
        refine rSkip (rInNormal (rThen ?_))
        replace hT := sIf hT; obtain ⟨o1, hT⟩ := hT
        refine zReg md0 hX rfl rfl rfl ?_
        exact hnexts3 _ (Option.some.inj hT).symm _ (To.mk' [] 0 hε rfl zL zL)
      ·
       replace hT := sF hc hT
       refine rExit (rThenExit (rThenExit ?_))
       exact zTo [] 0 hε (hxs31 _ (houts3 _ (Option.some.inj hT).symm))
     ·
      replace hT := sF hc hT
      refine rExit (rThenExit (rThenExit ?_))
      exact zTo [] 0 hε (hxs21 _ (houts2 _ (Option.some.inj hT).symm))
   ·
    replace hT := sF hc hT
    refine rExit (rThenExit (rThenExit ?_))
    exact zTo [] 0 hε (hxs11 _ (houts1 _ (Option.some.inj hT).symm))
 ·
  cases h
def formats_Size (N : Nat) (a1 : Int) : Option (Int × Int × Bool) :=
 bif (decide (a1 = 1)) then
  some (128, 96, true)
 else
  bif (decide (a1 = 2)) then
   some (176, 144, true)
  else
   bif (decide (a1 = 3)) then
    some (352, 288, true)
   else
    bif (decide (a1 = 4)) then
     some (704, 576, true)
    else
     bif (decide (a1 = 5)) then
      some (1408, 1152, true)
     else
      bif (decide (a1 = 6)) then
       some (32, 32, true)
      else
       some (0, 0, false)
def sp_formats_Size (N : Nat) : X.Spec := fun args lk => match args with
 | [.v (.c (.int .i64 a1))] => some ⟨(formats_Size N a1).isSome = true, .tup [.c (.int .i64 ((formats_Size N a1).getD default).1), .c (.int .i64 ((formats_Size N a1).getD default).2.1), .c (.bool ((formats_Size N a1).getD default).2.2)], [], []⟩
 | _ => none
set_option maxRecDepth 100000 in
set_option maxHeartbeats 1000000 in
theorem ok_formats_Size (N : Nat) : FnOK Tryd.prog gt0 69 (sp_formats_Size N) := by
 refine fnOK_handed Tryd.func69 rfl (by kernel_rfl) tt_ok (ktNil) ?_
 intro args lk r h hp
 unfold sp_formats_Size at h
 split at h
 ·
  rename_i a1
  cases h
  obtain ⟨x, hx⟩ := Option.isSome_iff_exists.1 hp
  simp only [hx, Option.getD_some]
  refine hand0 rfl rfl (fun w0 M ε0 hX => ?_)
  refine rCount (fun hε => ?_)
  have hT : formats_Size N a1 = some x := hx; clear hx hp; unfold formats_Size at hT
  refine zA hX ?_
  refine rSeq (zA hX ?_)
  refine rBlock (zA hX ?_)
  refine zCond rfl rfl (fun hc => ?_) (fun hc => ?_)
  ·
   replace hT := sT hc hT
   refine zA hX ?_
   refine rRet (rInRet (rThenRet ?_))
   have hy := Option.some.inj hT; subst hy
   exact zEnd0 hX rfl
  ·
   replace hT := sF hc hT
   refine zA hX ?_
   refine zCond rfl rfl (fun hc => ?_) (fun hc => ?_)
   ·
    replace hT := sT hc hT
    refine zA hX ?_
    refine rRet (rInRet (rThenRet ?_))
    have hy := Option.some.inj hT; subst hy
    exact zEnd0 hX rfl
   ·
    replace hT := sF hc hT
    refine zA hX ?_
    refine zCond rfl rfl (fun hc => ?_) (fun hc => ?_)
    ·
     replace hT := sT hc hT
     refine zA hX ?_
     refine rRet (rInRet (rThenRet ?_))
     have hy := Option.some.inj hT; subst hy
     exact zEnd0 hX rfl
    ·
     replace hT := sF hc hT
     refine zA hX ?_
     refine zCond rfl rfl (fun hc => ?_) (fun hc => ?_)
     ·
      replace hT := sT hc hT
      refine zA hX ?_
      refine rRet (rInRet (rThenRet ?_))
      have hy := Option.some.inj hT; subst hy
      exact zEnd0 hX rfl
     ·
      replace hT := sF hc hT
      refine zA hX ?_
      refine zCond rfl rfl (fun hc => ?_) (fun hc => ?_)
      ·
       replace hT := sT hc hT
       refine zA hX ?_
       refine rRet (rInRet (rThenRet ?_))
       have hy := Option.some.inj hT; subst hy
       exact zEnd0 hX rfl
      ·
       replace hT := sF hc hT
       refine zA hX ?_
       refine zCond rfl rfl (fun hc => ?_) (fun hc => ?_)
       ·
        replace hT := sT hc hT
        refine zA hX ?_
        refine rRet (rInRet (rThenRet ?_))
        have hy := Option.some.inj hT; subst hy
        exact zEnd0 hX rfl
       ·
        replace hT := sF hc hT
        refine rSkip (rInNormal (rThen (zA hX ?_)))
        refine rRet ?_
        have hy := Option.some.inj hT; subst hy
        exact zEnd0 hX rfl
 ·
  cases h
def formats_Cells (N : Nat) (a1 : Int) : Option (Int × Int) :=
 let c1 := (formats_Size N a1)
 if c1.isSome = true then
  if (0 : Int) ≤ (c1.getD default).1 ∧ (0 : Int) ≤ (c1.getD default).2.1 then
   some (((c1.getD default).1 / 16), ((c1.getD default).2.1 / 16))
  else none
 else none
def sp_formats_Cells (N : Nat) : X.Spec := fun args lk => match args with
 | [.v (.c (.int .i64 a1))] => some ⟨(formats_Cells N a1).isSome = true, .tup [.c (.int .i64 ((formats_Cells N a1).getD default).1), .c (.int .i64 ((formats_Cells N a1).getD default).2)], [], []⟩
 | _ => none
set_option maxRecDepth 100000 in
set_option maxHeartbeats 1000000 in
theorem ok_formats_Cells (N : Nat) : FnOK Tryd.prog gt0 64 (sp_formats_Cells N) := by
 refine fnOK_handed Tryd.func64 rfl (by kernel_rfl) tt_ok (ktCons (ok_formats_Size N) (ktNil)) ?_
 intro args lk r h hp
 unfold sp_formats_Cells at h
 split at h
 ·
  rename_i a1
  cases h
  obtain ⟨x, hx⟩ := Option.isSome_iff_exists.1 hp
  simp only [hx, Option.getD_some]
  refine hand0 rfl rfl (fun w0 M ε0 hX => ?_)
  refine rCount (fun hε => ?_)
  have hT : formats_Cells N a1 = some x := hx; clear hx hp; unfold formats_Cells at hT
  refine zA hX ?_
  let c1 := (formats_Size N a1)
  replace hT := sIf hT; obtain ⟨o1, hT⟩ := hT
  refine zA hX ?_
  replace hT := sIf hT; obtain ⟨⟨o1, o2⟩, hT⟩ := hT
  refine zA hX ?_
  refine rRet ?_
  have hy := Option.some.inj hT; subst hy
  exact zEnd0 hX rfl
 ·
  cases h
def formats_Rows (N : Nat) (a1 : Int) : Option (Int × Int) :=
 let c1 := (formats_Cells N a1)
 if c1.isSome = true then
  bif (decide ((c1.getD default).2 = 0)) then
   some (0, 0)
  else
   let x1 := ((c1.getD default).2 / (bif (decide (a1 = 4)) then 2 else (bif (decide (a1 = 5)) then (4 : Int) else 1)))
   if (0 : Int) ≤ (c1.getD default).2 ∧ (0 : Int) < (bif (decide (a1 = 4)) then 2 else (bif (decide (a1 = 5)) then (4 : Int) else 1)) then
    some (x1, (bif (decide (a1 = 4)) then 2 else (bif (decide (a1 = 5)) then (4 : Int) else 1)))
   else none
 else none
def sp_formats_Rows (N : Nat) : X.Spec := fun args lk => match args with
 | [.v (.c (.int .i64 a1))] => some ⟨(formats_Rows N a1).isSome = true, .tup [.c (.int .i64 ((formats_Rows N a1).getD default).1), .c (.int .i64 ((formats_Rows N a1).getD default).2)], [], []⟩
 | _ => none
set_option maxRecDepth 100000 in
set_option maxHeartbeats 1000000 in
theorem ok_formats_Rows (N : Nat) : FnOK Tryd.prog gt0 34 (sp_formats_Rows N) := by
 refine fnOK_handed Tryd.func34 rfl (by kernel_rfl) tt_ok (ktCons (ok_formats_Cells N) (ktNil)) ?_
 intro args lk r h hp
 unfold sp_formats_Rows at h
 split at h
 ·
  rename_i a1
  cases h
  obtain ⟨x, hx⟩ := Option.isSome_iff_exists.1 hp
  simp only [hx, Option.getD_some]
  refine hand0 rfl rfl (fun w0 M ε0 hX => ?_)
  refine rCount (fun hε => ?_)
  have hT : formats_Rows N a1 = some x := hx; clear hx hp; unfold formats_Rows at hT
  refine zA hX ?_
  let c1 := (formats_Cells N a1)
  replace hT := sIf hT; obtain ⟨o1, hT⟩ := hT
  refine zA hX ?_
  refine zA hX ?_
  refine rSeq (zA hX ?_)
  refine rBlock (zA hX ?_)
  refine rJoin ⟨[(2, .v (.c (.int .i64 0))), (3, .v (.c (.int .i64 0))), (5, .v (.c (.int .i64 (c1.getD default).2))), (6, .v (.c (.int .i64 (bif (decide (a1 = 4)) then 2 else (bif (decide (a1 = 5)) then (4 : Int) else 1)))))], [], 0⟩ ?_ (fun hj => ?_)
  ·
   refine rInNormal (rThen (rSeq (zA hX ?_)))
   refine zCond rfl rfl (fun hc => ?_) (fun hc => ?_)
   ·
    replace hT := sT hc hT
    refine zA hX ?_
    refine rRet (rThenRet ?_)
    have hy := Option.some.inj hT; subst hy
    exact zEnd0 hX rfl
   ·
    replace hT := sF hc hT
    refine rSkip (rThen ?_)
    let x1 := ((c1.getD default).2 / (bif (decide (a1 = 4)) then 2 else (bif (decide (a1 = 5)) then (4 : Int) else 1)))
    replace hT := sIf hT; obtain ⟨⟨o1, o2⟩, hT⟩ := hT
    refine zA hX ?_
    refine rRet ?_
    have hy := Option.some.inj hT; subst hy
    exact zEnd0 hX rfl
  ·
   clear hT
   refine zCond rfl rfl (fun hc => ?_) (fun hc => ?_)
   ·
    refine zReg md0 hX rfl rfl rfl ?_
    exact rTo (To.mk' [] 0 hε rfl zJ zJ) hj
   ·
    refine zA hX ?_
    refine zCond rfl rfl (fun hc => ?_) (fun hc => ?_)
    ·
     refine zReg md0 hX rfl rfl rfl ?_
     exact rTo (To.mk' [] 0 hε rfl zJ zJ) hj
    ·
     refine rSkip ?_
     exact rTo (To.mk' [] 0 hε rfl zJ zJ) hj
 ·
  cases h
def outbits_New (N : Nat) : Option (List Bool) :=
 some []
def sp_outbits_New (N : Nat) : X.Spec := fun args lk => match args with
 | [] => some ⟨(outbits_New N).isSome = true, .v (.c (.ptr 0 0 0 0 0 0)), [.obj 5 ((outbits_New N).getD default)], []⟩
 | _ => none
set_option maxRecDepth 100000 in
set_option maxHeartbeats 1000000 in
theorem ok_outbits_New (N : Nat) : FnOK Tryd.prog gt0 36 (sp_outbits_New N) := by
 refine fnOK_handed Tryd.func36 rfl (by kernel_rfl) tt_ok (ktNil) ?_
 intro args lk r h hp
 unfold sp_outbits_New at h
 split at h
 ·
  cases h
  obtain ⟨x, hx⟩ := Option.isSome_iff_exists.1 hp
  simp only [hx, Option.getD_some]
  refine hand0 rfl rfl (fun w0 M ε0 hX => ?_)
  refine rCount (fun hε => ?_)
  have hT : outbits_New N = some x := hx; clear hx hp; unfold outbits_New at hT
  refine zA hX ?_
  refine zA hX ?_
  refine rRet (rShut0Q 0 5 rfl rfl ?_)
  have hy := Option.some.inj hT; subst hy
  exact rEndA [0] [.obj 5 []] [] (.v (.c (.ptr 0 0 0 0 0 0))) hX rfl zZ zL rfl rfl rfl zT rfl rfl zT rfl rfl
 ·
  cases h
def sheethead_may_b1 (N : Nat) (s1 : Unit) : Option (Unit ⊕ Unit) :=
 some (.inr ())
def sheethead_may (N : Nat) (a1 : Int) (a2 : Int) (a3 : Int) (a4 : Bool) (a5 : Int) (a6 : Zt1) (a7 : Int) : Option Bool :=
 let c1 := (formats_Size N a3)
 if c1.isSome = true then
  let x1 := (bif (bif (bif (bif (bif (bif (bif (c1.getD default).2.2 then (decide ((0 : Int) ≤ a1)) else false) then (decide (a1 ≤ 255)) else false) then (decide ((0 : Int) ≤ a2)) else false) then (decide (a2 ≤ 7)) else false) then (decide ((1 : Int) ≤ a5)) else false) then (decide (a5 ≤ 31)) else false) then true else false)
  (iter (sheethead_may_b1 N) N ()).bind fun v1 =>
   some x1
 else none
def sp_sheethead_may (N : Nat) : X.Spec := fun args lk => match args with
 | [.v (.agg [.cs [.int .i64 a1, .int .i64 a2, .int .i64 a3, .bool a4, .int .i64 a5, .val (.slice none 0 0), .fz (.pair .bool (.pair (.int .i64) (.pair (.int .i64) (.sl (.pair (.int .i64) (.pair .bool (.pair (.int .i64) (.pair (.int .i64) (.pair (.arr 2 .i64) (.pair (.arr 6 .i64) (.arrS 6 (.pair .bool (.pair (.int .i64) (.int .i64)))))))))))))) a6, .int .i64 a7]])] => some ⟨(sheethead_may N a1 a2 a3 a4 a5 a6 a7).isSome = true, .v (.c (.bool ((sheethead_may N a1 a2 a3 a4 a5 a6 a7).getD default))), [], []⟩
 | _ => none
set_option maxRecDepth 100000 in
set_option maxHeartbeats 1000000 in
theorem ok_sheethead_may (N : Nat) : FnOK Tryd.prog gt0 65 (sp_sheethead_may N) := by
 refine fnOK_handed Tryd.func65 rfl (by kernel_rfl) tt_ok (ktCons (ok_formats_Size N) (ktNil)) ?_
 intro args lk r h hp
 unfold sp_sheethead_may at h
 split at h
 ·
  rename_i a1 a2 a3 a4 a5 a6 a7
  change Zt1 at a6
  cases h
  obtain ⟨x, hx⟩ := Option.isSome_iff_exists.1 hp
  simp only [hx, Option.getD_some]
  refine hand0 rfl rfl (fun w0 M ε0 hX => ?_)
  refine rCount (fun hε => ?_)
  have hT : sheethead_may N a1 a2 a3 a4 a5 a6 a7 = some x := hx; clear hx hp; unfold sheethead_may at hT
  refine zA hX ?_
  let c1 := (formats_Size N a3)
  replace hT := sIf hT; obtain ⟨o1, hT⟩ := hT
  refine zA hX ?_
  let x1 := (bif (bif (bif (bif (bif (bif (bif (c1.getD default).2.2 then (decide ((0 : Int) ≤ a1)) else false) then (decide (a1 ≤ 255)) else false) then (decide ((0 : Int) ≤ a2)) else false) then (decide (a2 ≤ 7)) else false) then (decide ((1 : Int) ≤ a5)) else false) then (decide (a5 ≤ 31)) else false) then true else false)
  refine zA hX ?_
  refine rSeq (zA hX ?_)
  refine rBlock ?_
  replace hT := sBind hT; obtain ⟨w1, hl, hT⟩ := hT
  refine rJoinA (fun v1 => v1 = w1) (fun v1 => ⟨[(2, .v (.c (.bool false))), (5, .v (.c (.bool x1)))], [], 1⟩) (.exit 0) (fun v1 hv => ?_) (fun hxs10 => ?_)
  ·
   subst hv; clear hl
   refine rInHit (rThen (zA hX ?_))
   refine rRet ?_
   have hy := Option.some.inj hT; subst hy
   exact zEnd0 hX rfl
  refine rLoopM (sheethead_may_b1 N) (fun s1 => ⟨[(2, .v (.c (.bool false))), (5, .v (.c (.bool x1))), (53, .v (.c (.val (.slice none 0 0)))), (54, .v (.c (.int .i64 0))), (55, .v (.c (.int .i64 0)))], [], 1⟩) hl (To.mk' [] 0 hε rfl zL zL) (fun s1 zs1 NNs1 hz hnexts1 houts1 => ?_)
  clear hl hT
  have hT := hz; clear hz
  refine zA hX ?_
  refine rSeq (rCondF rfl rfl zP rfl ?_)
  refine rExit (rThenExit (rThenExit ?_))
  exact zTo [] 0 hε (hxs10 _ (houts1 _ (Option.some.inj hT).symm))
 ·
  cases h
def overspill_outbits_Writer_Fill (N : Nat) (a1 : (List Bool)) : Option (Int × (List Bool)) :=
 if (a1.length : Int) ≤ 9223372036854775800 then
  if (0 : Int) ≤ (a1.length : Int) ∧ inK .i64 ((8 : Int) - ((a1.length : Int) % 8)) ∧ (0 : Int) ≤ ((8 : Int) - ((a1.length : Int) % 8)) then
   if inK .i64 ((a1.length : Int) + (((8 : Int) - ((a1.length : Int) % 8)) % 8)) then
    if packB (unpB (packB a1) ((a1.length : Int) + (((8 : Int) - ((a1.length : Int) % 8)) % 8))) = (packB a1) ∧ ((unpB (packB a1) ((a1.length : Int) + (((8 : Int) - ((a1.length : Int) % 8)) % 8))).length : Int) = ((a1.length : Int) + (((8 : Int) - ((a1.length : Int) % 8)) % 8)) then
     some ((((8 : Int) - ((a1.length : Int) % 8)) % 8), (unpB (packB a1) ((a1.length : Int) + (((8 : Int) - ((a1.length : Int) % 8)) % 8))))
    else none
   else none
  else none
 else none
def sp_overspill_outbits_Writer_Fill (N : Nat) : X.Spec := fun args lk => match args with
 | [.v (.c (.ptr i0 0 0 0 0 0))] => (match lk i0 with
  | some (.obj 5 a1) => some ⟨(overspill_outbits_Writer_Fill N a1).isSome = true, .v (.c (.int .i64 ((overspill_outbits_Writer_Fill N a1).getD default).1)), [], [(i0, .obj 5 ((overspill_outbits_Writer_Fill N a1).getD default).2)]⟩
  | _ => none)
 | _ => none
set_option maxRecDepth 100000 in
set_option maxHeartbeats 1000000 in
theorem ok_overspill_outbits_Writer_Fill (N : Nat) : FnOK Tryd.prog gt0 76 (sp_overspill_outbits_Writer_Fill N) := by
 refine fnOK_handed Tryd.func76 rfl (by kernel_rfl) tt_ok (ktNil) ?_
 intro args lk r h hp
 unfold sp_overspill_outbits_Writer_Fill at h
 split at h
 ·
  rename_i i0
  split at h
  ·
   rename_i a1 hl0
   cases h
   obtain ⟨x, hx⟩ := Option.isSome_iff_exists.1 hp
   simp only [hx, Option.getD_some]
   refine handL [i0] 1 [(0, .obj 5 a1)] [.v (.c (.ptr 0 0 0 0 0 0))] rfl rfl rfl ⟨isSome_of hl0, trivial⟩ ⟨⟨rfl, zT, _, hl0, .inl rfl⟩, trivial⟩ rfl (fun w0 M ε0 hX => ?_)
   refine rCount (fun hε => ?_)
   have hT : overspill_outbits_Writer_Fill N a1 = some x := hx; clear hx hp; unfold overspill_outbits_Writer_Fill at hT
   replace hT := sIf hT; obtain ⟨p0, hT⟩ := hT
   refine rOpen1 p0 zF (fun ty0 => ?_)
   refine zA hX ?_
   refine rSeq (zA hX ?_)
   refine rCondF rfl rfl zP rfl ?_
   refine rSkip (rThen ?_)
   replace hT := sIf hT; obtain ⟨⟨o1, o2, o3⟩, hT⟩ := hT
   refine zA hX ?_
   replace hT := sIf hT; obtain ⟨o1, hT⟩ := hT
   refine zA hX ?_
   refine zA hX ?_
   refine rRet ?_
   replace hT := sIf hT; obtain ⟨⟨p1, p2⟩, hT⟩ := hT
   have hy := Option.some.inj hT; subst hy
   exact rEndObj (unpB (packB a1) ((a1.length : Int) + (((8 : Int) - ((a1.length : Int) % 8)) % 8))) hX rfl zZ rfl rfl rfl rfl rfl rfl rfl (by first | rfl | assumption) (by first | rfl | assumption) rfl rfl
  ·
   cases h
 ·
  cases h
def outbits_fits (N : Nat) (a1 : Int) (a2 : Int) : Option Bool :=
 let x1 := (bif (bif (bif (decide ((0 : Int) ≤ a2)) then (decide (a2 ≤ 32)) else false) then (decide ((0 : Int) ≤ a1)) else false) then (decide (a1 < ((1 : Int) * 2 ^ (Int.toNat a2)))) else false)
 if ((bif (bif (decide ((0 : Int) ≤ a2)) then (decide (a2 ≤ 32)) else false) then (decide ((0 : Int) ≤ a1)) else false) = true → inK .u64 a2) ∧ ((bif (bif (decide ((0 : Int) ≤ a2)) then (decide (a2 ≤ 32)) else false) then (decide ((0 : Int) ≤ a1)) else false) = true → (0 : Int) ≤ a2) ∧ ((bif (bif (decide ((0 : Int) ≤ a2)) then (decide (a2 ≤ 32)) else false) then (decide ((0 : Int) ≤ a1)) else false) = true → (a2).toNat ≤ 64) ∧ ((bif (bif (decide ((0 : Int) ≤ a2)) then (decide (a2 ≤ 32)) else false) then (decide ((0 : Int) ≤ a1)) else false) = true → inK .i64 ((1 : Int) * 2 ^ (Int.toNat a2))) then
  some x1
 else none
def sp_outbits_fits (N : Nat) : X.Spec := fun args lk => match args with
 | [.v (.c (.int .i64 a1)), .v (.c (.int .i64 a2))] => some ⟨(outbits_fits N a1 a2).isSome = true, .v (.c (.bool ((outbits_fits N a1 a2).getD default))), [], []⟩
 | _ => none
set_option maxRecDepth 100000 in
set_option maxHeartbeats 1000000 in
theorem ok_outbits_fits (N : Nat) : FnOK Tryd.prog gt0 77 (sp_outbits_fits N) := by
 refine fnOK_handed Tryd.func77 rfl (by kernel_rfl) tt_ok (ktNil) ?_
 intro args lk r h hp
 unfold sp_outbits_fits at h
 split at h
 ·
  rename_i a1 a2
  cases h
  obtain ⟨x, hx⟩ := Option.isSome_iff_exists.1 hp
  simp only [hx, Option.getD_some]
  refine hand0 rfl rfl (fun w0 M ε0 hX => ?_)
  refine rCount (fun hε => ?_)
  have hT : outbits_fits N a1 a2 = some x := hx; clear hx hp; unfold outbits_fits at hT
  refine zA hX ?_
  let x1 := (bif (bif (bif (decide ((0 : Int) ≤ a2)) then (decide (a2 ≤ 32)) else false) then (decide ((0 : Int) ≤ a1)) else false) then (decide (a1 < ((1 : Int) * 2 ^ (Int.toNat a2)))) else false)
  replace hT := sIf hT; obtain ⟨⟨o1, o2, o3, o4⟩, hT⟩ := hT
  refine rSeq (rRegC md0 hX rfl rfl rfl zO ?_)
  refine rThen (rRet ?_)
  have hy := Option.some.inj hT; subst hy
  exact zEnd0 hX rfl
 ·
  cases h
def overspill_outbits_Writer_bit (N : Nat) (a1 : Bool) (a2 : (List Bool)) : Option (List Bool) :=
 if (a2.length : Int) ≤ 9223372036854775800 then
  if (0 : Int) ≤ (a2.length : Int) then
   joinK (fun (v1 : Zt9) =>
    if (a1 = true → (0 : Int) ≤ (a2.length : Int)) ∧ (a1 = true → (0 : Int) ≤ ((a2.length : Int) / 8)) ∧ (a1 = true → ((a2.length : Int) / 8) < (v1.1 : Int)) ∧ (a1 = true → ((a2.length : Int) / 8).toNat < v1.2.1) ∧ (a1 = true → inK .i64 ((7 : Int) - ((a2.length : Int) % 8))) ∧ (a1 = true → inK .u64 ((7 : Int) - ((a2.length : Int) % 8))) ∧ (a1 = true → (0 : Int) ≤ ((7 : Int) - ((a2.length : Int) % 8))) ∧ (a1 = true → (((7 : Int) - ((a2.length : Int) % 8))).toNat ≤ 8) ∧ (a1 = true → inK .u8 ((1 : Int) * 2 ^ (Int.toNat ((7 : Int) - ((a2.length : Int) % 8))))) ∧ (a1 = true → (0 : Int) ≤ (v1.2.2.getD ((a2.length : Int) / 8).toNat 0)) ∧ (a1 = true → (0 : Int) ≤ ((1 : Int) * 2 ^ (Int.toNat ((7 : Int) - ((a2.length : Int) % 8))))) then
     let x1 := (bif a1 then (v1.2.2.set ((a2.length : Int) / 8).toNat (orI (v1.2.2.getD ((a2.length : Int) / 8).toNat 0) ((1 : Int) * 2 ^ (Int.toNat ((7 : Int) - ((a2.length : Int) % 8)))))) else v1.2.2)
     if inK .i64 ((a2.length : Int) + 1) then
      if v1.2.1 = v1.1 ∧ packB (unpB x1 ((a2.length : Int) + 1)) = x1 ∧ ((unpB x1 ((a2.length : Int) + 1)).length : Int) = ((a2.length : Int) + 1) then
       some (unpB x1 ((a2.length : Int) + 1))
      else none
     else none
    else none
   ) fun k1 =>
    bif (decide (((a2.length : Int) % 8) = 0)) then
     if 1 ≤ 1 ∧ (((a2.length + 7) / 8) + 1) * 1 ≤ 140737488355328 ∧ ((a2.length + 7) / 8) + 1 ≤ 9223372036854775807 then
      k1 ((((a2.length + 7) / 8) + 1), (((a2.length + 7) / 8) + 1), ((packB a2) ++ (((List.replicate 1 0).set 0 0).take 1)))
     else none
    else
     k1 (((a2.length + 7) / 8), ((a2.length + 7) / 8), (packB a2))
  else none
 else none
def sp_overspill_outbits_Writer_bit (N : Nat) : X.Spec := fun args lk => match args with
 | [.v (.c (.ptr i0 0 0 0 0 0)), .v (.c (.bool a1))] => (match lk i0 with
  | some (.obj 5 a2) => some ⟨(overspill_outbits_Writer_bit N a1 a2).isSome = true, .tup [], [], [(i0, .obj 5 ((overspill_outbits_Writer_bit N a1 a2).getD default))]⟩
  | _ => none)
 | _ => none
set_option maxRecDepth 100000 in
set_option maxHeartbeats 1000000 in
theorem ok_overspill_outbits_Writer_bit (N : Nat) : FnOK Tryd.prog gt0 78 (sp_overspill_outbits_Writer_bit N) := by
 refine fnOK_handed Tryd.func78 rfl (by kernel_rfl) tt_ok (ktNil) ?_
 intro args lk r h hp
 unfold sp_overspill_outbits_Writer_bit at h
 split at h
 ·
  rename_i i0 a1
  split at h
  ·
   rename_i a2 hl0
   cases h
   obtain ⟨x, hx⟩ := Option.isSome_iff_exists.1 hp
   simp only [hx, Option.getD_some]
   refine handL [i0] 1 [(0, .obj 5 a2)] [.v (.c (.ptr 0 0 0 0 0 0)), .v (.c (.bool a1))] rfl rfl rfl ⟨isSome_of hl0, trivial⟩ ⟨⟨rfl, zT, _, hl0, .inl rfl⟩, trivial⟩ rfl (fun w0 M ε0 hX => ?_)
   refine rCount (fun hε => ?_)
   have hT : overspill_outbits_Writer_bit N a1 a2 = some x := hx; clear hx hp; unfold overspill_outbits_Writer_bit at hT
   replace hT := sIf hT; obtain ⟨p0, hT⟩ := hT
   refine rOpen1 p0 zF (fun ty0 => ?_)
   refine rSeq ?_
   replace hT := sIf hT; obtain ⟨o1, hT⟩ := hT
   refine zA hX ?_
   refine rJoinK hT (fun v1 => ⟨[(0, .v (.c (.ptr 0 0 0 0 0 0))), (1, .v (.c (.bool a1)))], [(0, .mem true ty0 none (.flat [.cs [.sl 3 0 v1.1 1, .int .i64 (a2.length : Int)]])), (3, .mem true 5 (some 1) (.flat [.ints v1.2.1 .u8 v1.2.2]))], 4⟩) (fun v1 hT => ?_) (fun k1 hjk1 hT => ?_)
   ·
    refine rThen (rSeq (zA hX ?_))
    replace hT := sIf hT; obtain ⟨⟨q1, q2, q3, q4, q5, q6, q7, q8, q9, q10, q11⟩, hT⟩ := hT
    refine rJoin ⟨[(0, .v (.c (.ptr 0 0 0 0 0 0)))], [(0, .mem true ty0 none (.flat [.cs [.sl 3 0 v1.1 1, .int .i64 (a2.length : Int)]])), (3, .mem true 5 (some 1) (.flat [.ints v1.2.1 .u8 (bif a1 then (v1.2.2.set ((a2.length : Int) / 8).toNat (orI (v1.2.2.getD ((a2.length : Int) / 8).toNat 0) ((1 : Int) * 2 ^ (Int.toNat ((7 : Int) - ((a2.length : Int) % 8)))))) else v1.2.2)]))], 4⟩ ?_ (fun hj => ?_)
    ·
     let x1 := (bif a1 then (v1.2.2.set ((a2.length : Int) / 8).toNat (orI (v1.2.2.getD ((a2.length : Int) / 8).toNat 0) ((1 : Int) * 2 ^ (Int.toNat ((7 : Int) - ((a2.length : Int) % 8)))))) else v1.2.2)
     refine rThen ?_
     replace hT := sIf hT; obtain ⟨o1, hT⟩ := hT
     refine zReg md0 hX rfl rfl rfl ?_
     refine rNormal ?_
     replace hT := sIf hT; obtain ⟨⟨p1, p2, p3⟩, hT⟩ := hT
     have hy := Option.some.inj hT; subst hy
     exact rEndObj (unpB x1 ((a2.length : Int) + 1)) hX rfl zZ rfl rfl rfl rfl rfl (by assumption) rfl (by first | rfl | assumption) (by first | rfl | assumption) rfl rfl
    ·
     clear hT
     refine zCond rfl rfl (fun hc => ?_) (fun hc => ?_)
     ·
      have q1 := q1 hc
      have q2 := q2 hc
      have q3 := q3 hc
      have q4 := q4 hc
      have q5 := q5 hc
      have q6 := q6 hc
      have q7 := q7 hc
      have q8 := q8 hc
      have q9 := q9 hc
      have q10 := q10 hc
      have q11 := q11 hc
      refine zDraw md0 1 [21] hX mixed rfl rfl rfl rfl rfl ?_
      exact rTo (To.mk' [] 1 hε rfl zJ zJ) hj
     ·
      refine rSkip ?_
      exact rTo (To.mk' [] 1 hε rfl zJ zJ) hj
   ·
    refine zCond rfl rfl (fun hc => ?_) (fun hc => ?_)
    ·
     replace hT := sT hc hT
     replace hT := sIf hT; obtain ⟨⟨o1, o2, o3⟩, hT⟩ := hT
     refine zReg md0 hX rfl rfl rfl ?_
     exact zTo [] 1 hε (hjk1 _ hT)
    ·
     replace hT := sF hc hT
     refine rSkip ?_
     exact zTo [0, 1, 0, 1] 1 hε (hjk1 _ hT)
  ·
   cases h
 ·
  cases h
def overspill_outbits_Writer_Put_b1 (N : Nat) (a1 : Int) (s1 : (Int × (List Bool))) : Option ((Int × (List Bool)) ⊕ (List Bool)) :=
 bif (decide ((0 : Int) ≤ s1.1)) then
  let c2 := (overspill_outbits_Writer_bit N (decide (((Int.toNat (a1 / 2 ^ (Int.toNat s1.1)) &&& Int.toNat 1 : Nat) : Int) = 1)) s1.2)
  if inK .u64 s1.1 ∧ (0 : Int) ≤ s1.1 ∧ (s1.1).toNat ≤ 64 ∧ (0 : Int) ≤ (a1 / 2 ^ (Int.toNat s1.1)) ∧ c2.isSome = true then
   if inK .i64 (s1.1 - 1) then
    some (.inl ((s1.1 - 1), (c2.getD default)))
   else none
  else none
 else
  some (.inr s1.2)
def overspill_outbits_Writer_Put (N : Nat) (a1 : Int) (a2 : Int) (a3 : (List Bool)) : Option (Int × (List Bool)) :=
 let c1 := (outbits_fits N a1 a2)
 if ((!false) = true → c1.isSome = true) then
  bif (!(c1.getD default)) then
   some (1, a3)
  else
   if inK .i64 (a2 - 1) then
    (iter (overspill_outbits_Writer_Put_b1 N a1) N ((a2 - 1), a3)).bind fun v1 =>
     some (0, v1)
   else none
 else none
def sp_overspill_outbits_Writer_Put (N : Nat) : X.Spec := fun args lk => match args with
 | [.v (.c (.ptr i0 0 0 0 0 0)), .v (.c (.int .i64 a1)), .v (.c (.int .i64 a2))] => (match lk i0 with
  | some (.obj 5 a3) => some ⟨(overspill_outbits_Writer_Put N a1 a2 a3).isSome = true, .v (.c (.int .i64 ((overspill_outbits_Writer_Put N a1 a2 a3).getD default).1)), [], [(i0, .obj 5 ((overspill_outbits_Writer_Put N a1 a2 a3).getD default).2)]⟩
  | _ => none)
 | _ => none
set_option maxRecDepth 100000 in
set_option maxHeartbeats 1000000 in
theorem ok_overspill_outbits_Writer_Put (N : Nat) : FnOK Tryd.prog gt0 67 (sp_overspill_outbits_Writer_Put N) := by
 refine fnOK_handed Tryd.func67 rfl (by kernel_rfl) tt_ok (ktCons (ok_overspill_outbits_Writer_bit N) (ktCons (ok_outbits_fits N) (ktNil))) ?_
 intro args lk r h hp
 unfold sp_overspill_outbits_Writer_Put at h
 split at h
 ·
  rename_i i0 a1 a2
  split at h
  ·
   rename_i a3 hl0
   cases h
   obtain ⟨x, hx⟩ := Option.isSome_iff_exists.1 hp
   simp only [hx, Option.getD_some]
   refine handL [i0] 1 [(0, .obj 5 a3)] [.v (.c (.ptr 0 0 0 0 0 0)), .v (.c (.int .i64 a1)), .v (.c (.int .i64 a2))] rfl rfl rfl ⟨isSome_of hl0, trivial⟩ ⟨⟨rfl, zT, _, hl0, .inl rfl⟩, trivial⟩ rfl (fun w0 M ε0 hX => ?_)
   refine rCount (fun hε => ?_)
   have hT : overspill_outbits_Writer_Put N a1 a2 a3 = some x := hx; clear hx hp; unfold overspill_outbits_Writer_Put at hT
   refine zA hX ?_
   refine rSeq ?_
   let c1 := (outbits_fits N a1 a2)
   replace hT := sIf hT; obtain ⟨o1, hT⟩ := hT
   refine rSeq (rRegC md0 hX rfl rfl rfl zO ?_)
   refine rThen ?_
   refine zCond rfl rfl (fun hc => ?_) (fun hc => ?_)
   ·
    replace hT := sT hc hT
    refine zA hX ?_
    refine rRet (rThenRet ?_)
    have hy := Option.some.inj hT; subst hy
    exact rEndA [] [] [(0, .obj 5 a3)] (.v (.c (.int .i64 1))) hX rfl zZ zL rfl rfl rfl zT rfl rfl zT rfl rfl
   ·
    replace hT := sF hc hT
    refine rSkip (rThen (rSeq ?_))
    replace hT := sIf hT; obtain ⟨o1, hT⟩ := hT
    refine zA hX ?_
    refine rBlock ?_
    replace hT := sBind hT; obtain ⟨w1, hl, hT⟩ := hT
    refine rJoinA (fun v1 => v1 = w1) (fun v1 => ⟨[(6, .v (.c (.int .i64 0)))], [(0, .obj 5 v1)], 1⟩) (.exit 0) (fun v1 hv => ?_) (fun hxs10 => ?_)
    ·
     subst hv; clear hl
     refine rInHit (rThen (zA hX ?_))
     refine rRet ?_
     have hy := Option.some.inj hT; subst hy
     exact rEndA [] [] [(0, .obj 5 v1)] (.v (.c (.int .i64 0))) hX rfl zZ zL rfl rfl rfl zT rfl rfl zT rfl rfl
    refine rLoopM (overspill_outbits_Writer_Put_b1 N a1) (fun s1 => ⟨[(0, .v (.c (.ptr 0 0 0 0 0 0))), (1, .v (.c (.int .i64 a1))), (6, .v (.c (.int .i64 0))), (7, .v (.c (.int .i64 s1.1)))], [(0, .obj 5 s1.2)], 1⟩) hl (To.mk' [] 1 hε rfl zL zL) (fun s1 zs1 NNs1 hz hnexts1 houts1 => ?_)
    clear hl hT
    have hT := hz; clear hz
    refine rSeq (zA hX ?_)
    refine zCond rfl rfl (fun hc => ?_) (fun hc => ?_)
    ·
     replace hT := sT hc hT
     refine rSkip (rThen (rSeq (rBlock ?_)))
     let c2 := (overspill_outbits_Writer_bit N (decide (((Int.toNat (a1 / 2 ^ (Int.toNat s1.1)) &&& Int.toNat 1 : Nat) : Int) = 1)) s1.2)
     replace hT := sIf hT; obtain ⟨⟨o1, o2, o3, o4, o5⟩, hT⟩ := hT
     refine zReg md0 hX rfl rfl rfl ?_
     refine rInNormal (rThen ?_)
     replace hT := sIf hT; obtain ⟨o1, hT⟩ := hT
     refine zReg md0 hX rfl rfl rfl ?_
     exact hnexts1 _ (Option.some.inj hT).symm _ (To.mk' [] 1 hε rfl zL zL)
    ·
     replace hT := sF hc hT
     refine rExit (rThenExit (rThenExit ?_))
     exact zTo [] 1 hε (hxs10 _ (houts1 _ (Option.some.inj hT).symm))
  ·
   cases h
 ·
  cases h
def marks_Put (N : Nat) (a1 : Int) (a2 : (List Bool)) : Option (Int × (List Bool)) :=
 bif (bif (decide (a1 < 0)) then true else (decide ((31 : Int) < a1))) then
  some (1, a2)
 else
  let c1 := (overspill_outbits_Writer_Fill N a2)
  if c1.isSome = true then
   let c2 := (overspill_outbits_Writer_Put N (orI (32 : Int) a1) 22 (c1.getD default).2)
   if (0 : Int) ≤ a1 ∧ c2.isSome = true then
    some ((c2.getD default).1, (c2.getD default).2)
   else none
  else none
def sp_marks_Put (N : Nat) : X.Spec := fun args lk => match args with
 | [.v (.c (.ptr i0 0 0 0 0 0)), .v (.c (.int .i64 a1))] => (match lk i0 with
  | some (.obj 5 a2) => some ⟨(marks_Put N a1 a2).isSome = true, .v (.c (.int .i64 ((marks_Put N a1 a2).getD default).1)), [], [(i0, .obj 5 ((marks_Put N a1 a2).getD default).2)]⟩
  | _ => none)
 | _ => none
set_option maxRecDepth 100000 in
set_option maxHeartbeats 1000000 in
theorem ok_marks_Put (N : Nat) : FnOK Tryd.prog gt0 66 (sp_marks_Put N) := by
 refine fnOK_handed Tryd.func66 rfl (by kernel_rfl) tt_ok (ktCons (ok_overspill_outbits_Writer_Put N) (ktCons (ok_overspill_outbits_Writer_Fill N) (ktNil))) ?_
 intro args lk r h hp
 unfold sp_marks_Put at h
 split at h
 ·
  rename_i i0 a1
  split at h
  ·
   rename_i a2 hl0
   cases h
   obtain ⟨x, hx⟩ := Option.isSome_iff_exists.1 hp
   simp only [hx, Option.getD_some]
   refine handL [i0] 1 [(0, .obj 5 a2)] [.v (.c (.ptr 0 0 0 0 0 0)), .v (.c (.int .i64 a1))] rfl rfl rfl ⟨isSome_of hl0, trivial⟩ ⟨⟨rfl, zT, _, hl0, .inl rfl⟩, trivial⟩ rfl (fun w0 M ε0 hX => ?_)
   refine rCount (fun hε => ?_)
   have hT : marks_Put N a1 a2 = some x := hx; clear hx hp; unfold marks_Put at hT
   refine zA hX ?_
   refine rSeq (zA hX ?_)
   refine zCond rfl rfl (fun hc => ?_) (fun hc => ?_)
   ·
    replace hT := sT hc hT
    refine zA hX ?_
    refine rRet (rThenRet ?_)
    have hy := Option.some.inj hT; subst hy
    exact rEndA [] [] [(0, .obj 5 a2)] (.v (.c (.int .i64 1))) hX rfl zZ zL rfl rfl rfl zT rfl rfl zT rfl rfl
   ·
    replace hT := sF hc hT
    refine rSkip (rThen ?_)
    let c1 := (overspill_outbits_Writer_Fill N a2)
    replace hT := sIf hT; obtain ⟨o1, hT⟩ := hT
    refine zA hX ?_
    let c2 := (overspill_outbits_Writer_Put N (orI (32 : Int) a1) 22 (c1.getD default).2)
    replace hT := sIf hT; obtain ⟨⟨o1, o2⟩, hT⟩ := hT
    refine zA hX ?_
    refine rRet ?_
    have hy := Option.some.inj hT; subst hy
    exact rEndA [] [] [(0, .obj 5 (c2.getD default).2)] (.v (.c (.int .i64 (c2.getD default).1))) hX rfl zZ zL rfl rfl rfl zT rfl rfl zT rfl rfl
  ·
   cases h
 ·
  cases h
def sheethead_Put_b1 (N : Nat) (s1 : Unit) : Option (Unit ⊕ Unit) :=
 some (.inr ())
def sheethead_Put (N : Nat) (a1 : Int) (a2 : Int) (a3 : Int) (a4 : Bool) (a5 : Int) (a6 : Zt1) (a7 : Int) (a8 : (List Bool)) : Option (Int × (List Bool)) :=
 let c1 := (sheethead_may N a1 a2 a3 a4 a5 a6 a7)
 if c1.isSome = true then
  bif (!(c1.getD default)) then
   some (12, a8)
  else
   let c2 := (marks_Put N 0 a8)
   if c2.isSome = true then
    let c3 := (overspill_outbits_Writer_Put N a1 8 (c2.getD default).2)
    if c3.isSome = true then
     let c4 := (overspill_outbits_Writer_Put N 2 2 (c3.getD default).2)
     if c4.isSome = true then
      let c5 := (overspill_outbits_Writer_Put N a2 3 (c4.getD default).2)
      if c5.isSome = true then
       let c6 := (overspill_outbits_Writer_Put N a3 3 (c5.getD default).2)
       if c6.isSome = true then
        let c7 := (overspill_outbits_Writer_Put N (bif a4 then (1 : Int) else 0) 1 (c6.getD default).2)
        if c7.isSome = true then
         let c8 := (overspill_outbits_Writer_Put N 0 4 (c7.getD default).2)
         if c8.isSome = true then
          let c9 := (overspill_outbits_Writer_Put N a5 5 (c8.getD default).2)
          if c9.isSome = true then
           let c10 := (overspill_outbits_Writer_Put N 0 1 (c9.getD default).2)
           if c10.isSome = true then
            (iter (sheethead_Put_b1 N) N ()).bind fun v1 =>
             let c11 := (overspill_outbits_Writer_Put N 0 1 (c10.getD default).2)
             if c11.isSome = true then
              some ((c11.getD default).1, (c11.getD default).2)
             else none
           else none
          else none
         else none
        else none
       else none
      else none
     else none
    else none
   else none
 else none
def sp_sheethead_Put (N : Nat) : X.Spec := fun args lk => match args with
 | [.v (.c (.ptr i0 0 0 0 0 0)), .v (.agg [.cs [.int .i64 a1, .int .i64 a2, .int .i64 a3, .bool a4, .int .i64 a5, .val (.slice none 0 0), .fz (.pair .bool (.pair (.int .i64) (.pair (.int .i64) (.sl (.pair (.int .i64) (.pair .bool (.pair (.int .i64) (.pair (.int .i64) (.pair (.arr 2 .i64) (.pair (.arr 6 .i64) (.arrS 6 (.pair .bool (.pair (.int .i64) (.int .i64)))))))))))))) a6, .int .i64 a7]])] => (match lk i0 with
  | some (.obj 5 a8) => some ⟨(sheethead_Put N a1 a2 a3 a4 a5 a6 a7 a8).isSome = true, .v (.c (.int .i64 ((sheethead_Put N a1 a2 a3 a4 a5 a6 a7 a8).getD default).1)), [], [(i0, .obj 5 ((sheethead_Put N a1 a2 a3 a4 a5 a6 a7 a8).getD default).2)]⟩
  | _ => none)
 | _ => none
set_option maxRecDepth 100000 in
set_option maxHeartbeats 1000000 in
theorem ok_sheethead_Put (N : Nat) : FnOK Tryd.prog gt0 35 (sp_sheethead_Put N) := by
 refine fnOK_handed Tryd.func35 rfl (by kernel_rfl) tt_ok (ktCons (ok_overspill_outbits_Writer_Put N) (ktCons (ok_marks_Put N) (ktCons (ok_sheethead_may N) (ktNil)))) ?_
 intro args lk r h hp
 unfold sp_sheethead_Put at h
 split at h
 ·
  rename_i i0 a1 a2 a3 a4 a5 a6 a7
  split at h
  ·
   rename_i a8 hl0
   change Zt1 at a6
   cases h
   obtain ⟨x, hx⟩ := Option.isSome_iff_exists.1 hp
   simp only [hx, Option.getD_some]
   refine handL [i0] 1 [(0, .obj 5 a8)] [.v (.c (.ptr 0 0 0 0 0 0)), .v (.agg [.cs [.int .i64 a1, .int .i64 a2, .int .i64 a3, .bool a4, .int .i64 a5, .val (.slice none 0 0), .fz Zs1 a6, .int .i64 a7]])] rfl rfl rfl ⟨isSome_of hl0, trivial⟩ ⟨⟨rfl, zT, _, hl0, .inl rfl⟩, trivial⟩ rfl (fun w0 M ε0 hX => ?_)
   refine rCount (fun hε => ?_)
   have hT : sheethead_Put N a1 a2 a3 a4 a5 a6 a7 a8 = some x := hx; clear hx hp; unfold sheethead_Put at hT
   refine zA hX ?_
   refine rSeq (rBlock (zA hX ?_))
   refine rCondF rfl rfl zP rfl ?_
   let c1 := (sheethead_may N a1 a2 a3 a4 a5 a6 a7)
   replace hT := sIf hT; obtain ⟨o1, hT⟩ := hT
   refine zA hX ?_
   refine zCond rfl rfl (fun hc => ?_) (fun hc => ?_)
   ·
    replace hT := sT hc hT
    refine zA hX ?_
    refine rRet (rInRet (rThenRet ?_))
    have hy := Option.some.inj hT; subst hy
    exact rEndA [] [] [(0, .obj 5 a8)] (.v (.c (.int .i64 12))) hX rfl zZ zL rfl rfl rfl zT rfl rfl zT rfl rfl
   ·
    replace hT := sF hc hT
    refine rSkip (rInNormal (rThen (zA hX ?_)))
    refine rSeq (zA hX ?_)
    refine rJoin ⟨[(0, .v (.c (.ptr 0 0 0 0 0 0))), (3, .v (.c (.ptr 1 0 0 0 0 0))), (4, .v (.c (.int .i64 0))), (5, .v (.c (.int .i64 (bif a4 then (1 : Int) else 0))))], [(0, .obj 5 a8), (1, .mem true 25 none (.flat [.cs [.int .i64 a1, .int .i64 a2, .int .i64 a3, .bool a4, .int .i64 a5, .val (.slice none 0 0), .fz Zs1 a6, .int .i64 a7]]))], 2⟩ ?_ (fun hj => ?_)
    ·
     refine rThen ?_
     let c2 := (marks_Put N 0 a8)
     replace hT := sIf hT; obtain ⟨o1, hT⟩ := hT
     refine zA hX ?_
     let c3 := (overspill_outbits_Writer_Put N a1 8 (c2.getD default).2)
     replace hT := sIf hT; obtain ⟨o1, hT⟩ := hT
     refine zA hX ?_
     let c4 := (overspill_outbits_Writer_Put N 2 2 (c3.getD default).2)
     replace hT := sIf hT; obtain ⟨o1, hT⟩ := hT
     refine zA hX ?_
     let c5 := (overspill_outbits_Writer_Put N a2 3 (c4.getD default).2)
     replace hT := sIf hT; obtain ⟨o1, hT⟩ := hT
     refine zA hX ?_
     let c6 := (overspill_outbits_Writer_Put N a3 3 (c5.getD default).2)
     replace hT := sIf hT; obtain ⟨o1, hT⟩ := hT
     refine zA hX ?_
     let c7 := (overspill_outbits_Writer_Put N (bif a4 then (1 : Int) else 0) 1 (c6.getD default).2)
     replace hT := sIf hT; obtain ⟨o1, hT⟩ := hT
     refine zA hX ?_
     let c8 := (overspill_outbits_Writer_Put N 0 4 (c7.getD default).2)
     replace hT := sIf hT; obtain ⟨o1, hT⟩ := hT
     refine zA hX ?_
     let c9 := (overspill_outbits_Writer_Put N a5 5 (c8.getD default).2)
     replace hT := sIf hT; obtain ⟨o1, hT⟩ := hT
     refine zA hX ?_
     let c10 := (overspill_outbits_Writer_Put N 0 1 (c9.getD default).2)
     replace hT := sIf hT; obtain ⟨o1, hT⟩ := hT
     refine zA hX ?_
     refine rSeq (zA hX ?_)
     refine rBlock ?_
     replace hT := sBind hT; obtain ⟨w1, hl, hT⟩ := hT
     refine rJoinA (fun v1 => v1 = w1) (fun v1 => ⟨[(0, .v (.c (.ptr 0 0 0 0 0 0))), (4, .v (.c (.int .i64 0)))], [(0, .obj 5 (c10.getD default).2)], 2⟩) (.exit 1) (fun v1 hv => ?_) (fun hxs10 => ?_)
     ·
      subst hv; clear hl
      refine rInHit (rThen ?_)
      let c11 := (overspill_outbits_Writer_Put N 0 1 (c10.getD default).2)
      replace hT := sIf hT; obtain ⟨o1, hT⟩ := hT
      refine zA hX ?_
      refine rRet ?_
      have hy := Option.some.inj hT; subst hy
      exact rEndA [] [] [(0, .obj 5 (c11.getD default).2)] (.v (.c (.int .i64 (c11.getD default).1))) hX rfl zZ zL rfl rfl rfl zT rfl rfl zT rfl rfl
     refine rLoopM (sheethead_Put_b1 N) (fun s1 => ⟨[(0, .v (.c (.ptr 0 0 0 0 0 0))), (4, .v (.c (.int .i64 0))), (45, .v (.c (.val (.slice none 0 0)))), (46, .v (.c (.int .i64 0))), (47, .v (.c (.int .i64 0)))], [(0, .obj 5 (c10.getD default).2)], 2⟩) hl (To.mk' [] 1 hε rfl zL zL) (fun s1 zs1 NNs1 hz hnexts1 houts1 => ?_)
     clear hl hT
     have hT := hz; clear hz
     refine zA hX ?_
     refine rSeq (rCondF rfl rfl zP rfl ?_)
     refine rExit (rThenExit (rThenExit ?_))
     exact zTo [] 1 hε (hxs10 _ (houts1 _ (Option.some.inj hT).symm))
    ·
     clear hT
     refine zCond rfl rfl (fun hc => ?_) (fun hc => ?_)
     ·
      refine zReg md0 hX rfl rfl rfl ?_
      exact rTo (To.mk' [] 1 hε rfl zJ zJ) hj
     ·
      refine rSkip ?_
      exact rTo (To.mk' [] 1 hε rfl zJ zJ) hj
  ·
   cases h
 ·
  cases h
def cellout_bare_b1 (N : Nat) (a7 : Zt8) (s1 : (Bool × Int)) : Option ((Bool × Int) ⊕ Bool) :=
 bif (decide (s1.2 < 6)) then
  if (0 : Int) ≤ s1.2 ∧ s1.2 < 6 ∧ (s1.2).toNat < 6 then
   if inK .i64 (s1.2 + 1) then
    some (.inl ((bif s1.1 then (decide (((a7.getD (s1.2).toNat []).length : Int) = 0)) else false), (s1.2 + 1)))
   else none
  else none
 else
  some (.inr s1.1)
def cellout_bare (N : Nat) (a1 : Int) (a2 : Bool) (a3 : Int) (a4 : Int) (a5 : (List Int)) (a6 : (List Int)) (a7 : Zt8) : Option Bool :=
 let x2 := (bif (bif (bif (decide (a3 = 0)) then (decide (a4 = 0)) else false) then (decide (a5 = (List.replicate 2 0))) else false) then (decide (a6 = (List.replicate 6 0))) else false)
 (iter (cellout_bare_b1 N a7) N (x2, 0)).bind fun v1 =>
  some v1
def sp_cellout_bare (N : Nat) : X.Spec := fun args lk => match args with
 | [.v (.agg [.cs [.int .i64 a1, .bool a2, .int .i64 a3, .int .i64 a4], .ints 2 .i64 a5, .ints 6 .i64 a6, .fzs 6 (.pair .bool (.pair (.int .i64) (.int .i64))) a7])] => some ⟨(cellout_bare N a1 a2 a3 a4 a5 a6 a7).isSome = true, .v (.c (.bool ((cellout_bare N a1 a2 a3 a4 a5 a6 a7).getD default))), [], []⟩
 | _ => none
set_option maxRecDepth 100000 in
set_option maxHeartbeats 1000000 in
theorem ok_cellout_bare (N : Nat) : FnOK Tryd.prog gt0 79 (sp_cellout_bare N) := by
 refine fnOK_handed Tryd.func79 rfl (by kernel_rfl) tt_ok (ktNil) ?_
 intro args lk r h hp
 unfold sp_cellout_bare at h
 split at h
 ·
  rename_i a1 a2 a3 a4 a5 a6 a7
  change (List Int) at a5
  change (List Int) at a6
  change Zt8 at a7
  cases h
  obtain ⟨x, hx⟩ := Option.isSome_iff_exists.1 hp
  simp only [hx, Option.getD_some]
  refine hand0 rfl rfl (fun w0 M ε0 hX => ?_)
  refine rCount (fun hε => ?_)
  have hT : cellout_bare N a1 a2 a3 a4 a5 a6 a7 = some x := hx; clear hx hp; unfold cellout_bare at hT
  refine zA hX ?_
  let x2 := (bif (bif (bif (decide (a3 = 0)) then (decide (a4 = 0)) else false) then (decide (a5 = (List.replicate 2 0))) else false) then (decide (a6 = (List.replicate 6 0))) else false)
  refine zA hX ?_
  refine rSeq (zA hX ?_)
  refine rBlock ?_
  replace hT := sBind hT; obtain ⟨w1, hl, hT⟩ := hT
  refine rJoinA (fun v1 => v1 = w1) (fun v1 => ⟨[(2, .v (.c (.bool false))), (3, .v (.c (.bool v1)))], [], 1⟩) (.exit 0) (fun v1 hv => ?_) (fun hxs10 => ?_)
  ·
   subst hv; clear hl
   refine rInHit (rThen (zA hX ?_))
   refine rRet ?_
   have hy := Option.some.inj hT; subst hy
   exact zEnd0 hX rfl
  refine rLoopM (cellout_bare_b1 N a7) (fun s1 => ⟨[(2, .v (.c (.bool false))), (3, .v (.c (.bool s1.1))), (27, .v (.agg [.fzs 6 Zs3 a7])), (28, .v (.c (.int .i64 s1.2)))], [], 1⟩) hl (To.mk' [] 0 hε rfl zL zL) (fun s1 zs1 NNs1 hz hnexts1 houts1 => ?_)
  clear hl hT
  have hT := hz; clear hz
  refine zA hX ?_
  refine rSeq ?_
  refine zCond rfl rfl (fun hc => ?_) (fun hc => ?_)
  ·
   replace hT := sT hc hT
   refine rSkip (rThen (rSeq (rBlock ?_)))
   replace hT := sIf hT; obtain ⟨⟨o1, o2, o3⟩, hT⟩ := hT
   refine zA hX ?_
   refine zReg md0 hX rfl rfl rfl ?_
   refine rInNormal (rThen ?_)
   replace hT := sIf hT; obtain ⟨o1, hT⟩ := hT
   refine zReg md0 hX rfl rfl rfl ?_
   exact hnexts1 _ (Option.some.inj hT).symm _ (To.mk' [] 0 hε rfl zL zL)
  ·
   replace hT := sF hc hT
   refine rExit (rThenExit (rThenExit ?_))
   exact zTo [] 0 hε (hxs10 _ (houts1 _ (Option.some.inj hT).symm))
 ·
  cases h
def cellout_intra (N : Nat) (a1 : Int) : Option Bool :=
 some (bif (decide (a1 = 3)) then true else (decide (a1 = 4)))
def sp_cellout_intra (N : Nat) : X.Spec := fun args lk => match args with
 | [.v (.c (.int .i64 a1))] => some ⟨(cellout_intra N a1).isSome = true, .v (.c (.bool ((cellout_intra N a1).getD default))), [], []⟩
 | _ => none
set_option maxRecDepth 100000 in
set_option maxHeartbeats 1000000 in
theorem ok_cellout_intra (N : Nat) : FnOK Tryd.prog gt0 80 (sp_cellout_intra N) := by
 refine fnOK_handed Tryd.func80 rfl (by kernel_rfl) tt_ok (ktNil) ?_
 intro args lk r h hp
 unfold sp_cellout_intra at h
 split at h
 ·
  rename_i a1
  cases h
  obtain ⟨x, hx⟩ := Option.isSome_iff_exists.1 hp
  simp only [hx, Option.getD_some]
  refine hand0 rfl rfl (fun w0 M ε0 hX => ?_)
  refine rCount (fun hε => ?_)
  have hT : cellout_intra N a1 = some x := hx; clear hx hp; unfold cellout_intra at hT
  refine zA hX ?_
  refine zA hX ?_
  refine rRet ?_
  have hy := Option.some.inj hT; subst hy
  exact zEnd0 hX rfl
 ·
  cases h
def steps_Row (N : Nat) (a1 : Int) : Option (ByteArray × Bool) :=
 bif (decide (a1 = (-1))) then
  some (⟨#[48, 48]⟩, true)
 else
  bif (decide (a1 = (-2))) then
   some (⟨#[48, 49]⟩, true)
  else
   bif (decide (a1 = 1)) then
    some (⟨#[49, 48]⟩, true)
   else
    bif (decide (a1 = 2)) then
     some (⟨#[49, 49]⟩, true)
    else
     some (⟨#[]⟩, false)
def sp_steps_Row (N : Nat) : X.Spec := fun args lk => match args with
 | [.v (.c (.int .i64 a1))] => some ⟨(steps_Row N a1).isSome = true, .tup [.c (.str ((steps_Row N a1).getD default).1), .c (.bool ((steps_Row N a1).getD default).2)], [], []⟩
 | _ => none
set_option maxRecDepth 100000 in
set_option maxHeartbeats 1000000 in
theorem ok_steps_Row (N : Nat) : FnOK Tryd.prog gt0 81 (sp_steps_Row N) := by
 refine fnOK_handed Tryd.func81 rfl (by kernel_rfl) tt_ok (ktNil) ?_
 intro args lk r h hp
 unfold sp_steps_Row at h
 split at h
 ·
  rename_i a1
  cases h
  obtain ⟨x, hx⟩ := Option.isSome_iff_exists.1 hp
  simp only [hx, Option.getD_some]
  refine hand0 rfl rfl (fun w0 M ε0 hX => ?_)
  refine rCount (fun hε => ?_)
  have hT : steps_Row N a1 = some x := hx; clear hx hp; unfold steps_Row at hT
  refine zA hX ?_
  refine rSeq (zA hX ?_)
  refine rBlock (zA hX ?_)
  refine zCond rfl rfl (fun hc => ?_) (fun hc => ?_)
  ·
   replace hT := sT hc hT
   refine zA hX ?_
   refine rRet (rInRet (rThenRet ?_))
   have hy := Option.some.inj hT; subst hy
   exact zEnd0 hX rfl
  ·
   replace hT := sF hc hT
   refine zA hX ?_
   refine zCond rfl rfl (fun hc => ?_) (fun hc => ?_)
   ·
    replace hT := sT hc hT
    refine zA hX ?_
    refine rRet (rInRet (rThenRet ?_))
    have hy := Option.some.inj hT; subst hy
    exact zEnd0 hX rfl
   ·
    replace hT := sF hc hT
    refine zA hX ?_
    refine zCond rfl rfl (fun hc => ?_) (fun hc => ?_)
    ·
     replace hT := sT hc hT
     refine zA hX ?_
     refine rRet (rInRet (rThenRet ?_))
     have hy := Option.some.inj hT; subst hy
     exact zEnd0 hX rfl
    ·
     replace hT := sF hc hT
     refine zA hX ?_
     refine zCond rfl rfl (fun hc => ?_) (fun hc => ?_)
     ·
      replace hT := sT hc hT
      refine zA hX ?_
      refine rRet (rInRet (rThenRet ?_))
      have hy := Option.some.inj hT; subst hy
      exact zEnd0 hX rfl
     ·
      replace hT := sF hc hT
      refine rSkip (rInNormal (rThen (zA hX ?_)))
      refine rRet ?_
      have hy := Option.some.inj hT; subst hy
      exact zEnd0 hX rfl
 ·
  cases h
def cellout_stepped (N : Nat) (a1 : Int) : Option Bool :=
 some (bif (decide (a1 = 1)) then true else (decide (a1 = 4)))
def sp_cellout_stepped (N : Nat) : X.Spec := fun args lk => match args with
 | [.v (.c (.int .i64 a1))] => some ⟨(cellout_stepped N a1).isSome = true, .v (.c (.bool ((cellout_stepped N a1).getD default))), [], []⟩
 | _ => none
set_option maxRecDepth 100000 in
set_option maxHeartbeats 1000000 in
theorem ok_cellout_stepped (N : Nat) : FnOK Tryd.prog gt0 82 (sp_cellout_stepped N) := by
 refine fnOK_handed Tryd.func82 rfl (by kernel_rfl) tt_ok (ktNil) ?_
 intro args lk r h hp
 unfold sp_cellout_stepped at h
 split at h
 ·
  rename_i a1
  cases h
  obtain ⟨x, hx⟩ := Option.isSome_iff_exists.1 hp
  simp only [hx, Option.getD_some]
  refine hand0 rfl rfl (fun w0 M ε0 hX => ?_)
  refine rCount (fun hε => ?_)
  have hT : cellout_stepped N a1 = some x := hx; clear hx hp; unfold cellout_stepped at hT
  refine zA hX ?_
  refine zA hX ?_
  refine rRet ?_
  have hy := Option.some.inj hT; subst hy
  exact zEnd0 hX rfl
 ·
  cases h
def whole_Wrap (N : Nat) (a1 : Int) : Option Int :=
 bif (decide ((Int.tmod a1 64) < (-32))) then
  if inK .i64 ((Int.tmod a1 64) + 64) then
   some ((Int.tmod a1 64) + 64)
  else none
 else
  bif (decide ((32 : Int) ≤ (Int.tmod a1 64))) then
   if inK .i64 ((Int.tmod a1 64) - 64) then
    some ((Int.tmod a1 64) - 64)
   else none
  else
   some (Int.tmod a1 64)
def sp_whole_Wrap (N : Nat) : X.Spec := fun args lk => match args with
 | [.v (.c (.int .i64 a1))] => some ⟨(whole_Wrap N a1).isSome = true, .v (.c (.int .i64 ((whole_Wrap N a1).getD default))), [], []⟩
 | _ => none
set_option maxRecDepth 100000 in
set_option maxHeartbeats 1000000 in
theorem ok_whole_Wrap (N : Nat) : FnOK Tryd.prog gt0 88 (sp_whole_Wrap N) := by
 refine fnOK_handed Tryd.func88 rfl (by kernel_rfl) tt_ok (ktNil) ?_
 intro args lk r h hp
 unfold sp_whole_Wrap at h
 split at h
 ·
  rename_i a1
  cases h
  obtain ⟨x, hx⟩ := Option.isSome_iff_exists.1 hp
  simp only [hx, Option.getD_some]
  refine hand0 rfl rfl (fun w0 M ε0 hX => ?_)
  refine rCount (fun hε => ?_)
  have hT : whole_Wrap N a1 = some x := hx; clear hx hp; unfold whole_Wrap at hT
  refine rSeq (zReg mdT hX rfl rfl rfl ?_)
  refine rThen (rSeq (zReg mdT hX rfl rfl rfl ?_))
  refine rThen (rSeq (rBlock (rSeq (zReg mdT hX rfl rfl rfl ?_))))
  refine rThen ?_
  refine zCond rfl rfl (fun hc => ?_) (fun hc => ?_)
  ·
   replace hT := sT hc hT
   replace hT := sIf hT; obtain ⟨o1, hT⟩ := hT
   refine rSeq (zReg mdT hX rfl rfl rfl ?_)
   refine rThen (rRet (rInRet (rThenRet ?_)))
   have hy := Option.some.inj hT; subst hy
   exact zEnd0 hX rfl
  ·
   replace hT := sF hc hT
   refine rSeq (zReg mdT hX rfl rfl rfl ?_)
   refine rThen ?_
   refine zCond rfl rfl (fun hc => ?_) (fun hc => ?_)
   ·
    replace hT := sT hc hT
    replace hT := sIf hT; obtain ⟨o1, hT⟩ := hT
    refine rSeq (zReg mdT hX rfl rfl rfl ?_)
    refine rThen (rRet (rInRet (rThenRet ?_)))
    have hy := Option.some.inj hT; subst hy
    exact zEnd0 hX rfl
   ·
    replace hT := sF hc hT
    refine rSkip (rInNormal (rThen (rSeq (zReg mdT hX rfl rfl rfl ?_))))
    refine rThen (rRet ?_)
    have hy := Option.some.inj hT; subst hy
    exact zEnd0 hX rfl
 ·
  cases h
def cellout_vector (N : Nat) (a1 : Int) (a2 : Bool) (a3 : Int) (a4 : Int) (a5 : (List Int)) (a6 : (List Int)) (a7 : Zt8) : Option Bool :=
 let c1 := (cellout_intra N a3)
 if c1.isSome = true then
  bif (c1.getD default) then
   some (decide (a5 = (List.replicate 2 0)))
  else
   let c2 := (whole_Wrap N (a5.getD 0 0))
   let c3 := (whole_Wrap N (a5.getD 1 0))
   let x1 := (bif (decide ((c2.getD default) = (a5.getD 0 0))) then (decide ((c3.getD default) = (a5.getD 1 0))) else false)
   if c2.isSome = true ∧ ((decide ((c2.getD default) = (a5.getD 0 0))) = true → c3.isSome = true) then
    some x1
   else none
 else none
def sp_cellout_vector (N : Nat) : X.Spec := fun args lk => match args with
 | [.v (.agg [.cs [.int .i64 a1, .bool a2, .int .i64 a3, .int .i64 a4], .ints 2 .i64 a5, .ints 6 .i64 a6, .fzs 6 (.pair .bool (.pair (.int .i64) (.int .i64))) a7])] => some ⟨(cellout_vector N a1 a2 a3 a4 a5 a6 a7).isSome = true, .v (.c (.bool ((cellout_vector N a1 a2 a3 a4 a5 a6 a7).getD default))), [], []⟩
 | _ => none
set_option maxRecDepth 100000 in
set_option maxHeartbeats 1000000 in
theorem ok_cellout_vector (N : Nat) : FnOK Tryd.prog gt0 83 (sp_cellout_vector N) := by
 refine fnOK_handed Tryd.func83 rfl (by kernel_rfl) tt_ok (ktCons (ok_whole_Wrap N) (ktCons (ok_cellout_intra N) (ktNil))) ?_
 intro args lk r h hp
 unfold sp_cellout_vector at h
 split at h
 ·
  rename_i a1 a2 a3 a4 a5 a6 a7
  change (List Int) at a5
  change (List Int) at a6
  change Zt8 at a7
  cases h
  obtain ⟨x, hx⟩ := Option.isSome_iff_exists.1 hp
  simp only [hx, Option.getD_some]
  refine hand0 rfl rfl (fun w0 M ε0 hX => ?_)
  refine rCount (fun hε => ?_)
  have hT : cellout_vector N a1 a2 a3 a4 a5 a6 a7 = some x := hx; clear hx hp; unfold cellout_vector at hT
  refine zA hX ?_
  refine rSeq ?_
  let c1 := (cellout_intra N a3)
  replace hT := sIf hT; obtain ⟨o1, hT⟩ := hT
  refine zA hX ?_
  refine zCond rfl rfl (fun hc => ?_) (fun hc => ?_)
  ·
   replace hT := sT hc hT
   refine zA hX ?_
   refine rRet (rThenRet ?_)
   have hy := Option.some.inj hT; subst hy
   exact zEnd0 hX rfl
  ·
   replace hT := sF hc hT
   refine rSkip (rThen ?_)
   let c2 := (whole_Wrap N (a5.getD 0 0))
   let c3 := (whole_Wrap N (a5.getD 1 0))
   let x1 := (bif (decide ((c2.getD default) = (a5.getD 0 0))) then (decide ((c3.getD default) = (a5.getD 1 0))) else false)
   replace hT := sIf hT; obtain ⟨⟨o1, o2⟩, hT⟩ := hT
   refine rSeq (rDrawM md0 0 [] hX mixed rfl rfl rfl rfl rfl zO ?_)
   refine rThen (rRet ?_)
   have hy := Option.some.inj hT; subst hy
   exact zEnd0 hX rfl
 ·
  cases h
def blocks_from (N : Nat) (a1 : Bool) : Option Int :=
 bif a1 then
  some 1
 else
  some 0
def sp_blocks_from (N : Nat) : X.Spec := fun args lk => match args with
 | [.v (.c (.bool a1))] => some ⟨(blocks_from N a1).isSome = true, .v (.c (.int .i64 ((blocks_from N a1).getD default))), [], []⟩
 | _ => none
set_option maxRecDepth 100000 in
set_option maxHeartbeats 1000000 in
theorem ok_blocks_from (N : Nat) : FnOK Tryd.prog gt0 95 (sp_blocks_from N) := by
 refine fnOK_handed Tryd.func95 rfl (by kernel_rfl) tt_ok (ktNil) ?_
 intro args lk r h hp
 unfold sp_blocks_from at h
 split at h
 ·
  rename_i a1
  cases h
  obtain ⟨x, hx⟩ := Option.isSome_iff_exists.1 hp
  simp only [hx, Option.getD_some]
  refine hand0 rfl rfl (fun w0 M ε0 hX => ?_)
  refine rCount (fun hε => ?_)
  have hT : blocks_from N a1 = some x := hx; clear hx hp; unfold blocks_from at hT
  refine zA hX ?_
  refine rSeq (zA hX ?_)
  refine zCond rfl rfl (fun hc => ?_) (fun hc => ?_)
  ·
   replace hT := sT hc hT
   refine zA hX ?_
   refine rRet (rThenRet ?_)
   have hy := Option.some.inj hT; subst hy
   exact zEnd0 hX rfl
  ·
   replace hT := sF hc hT
   refine rSkip (rThen (zA hX ?_))
   refine rRet ?_
   have hy := Option.some.inj hT; subst hy
   exact zEnd0 hX rfl
 ·
  cases h
def tcoef_Right (N : Nat) (a1 : Bool) (a2 : Int) (a3 : Int) : Option Bool :=
 let x1 := (bif (bif (bif (bif (decide ((0 : Int) ≤ a2)) then (decide (a2 ≤ 63)) else false) then (decide (a3 ≠ 0)) else false) then (decide (((-127) : Int) ≤ a3)) else false) then (decide (a3 ≤ 127)) else false)
 some x1
def sp_tcoef_Right (N : Nat) : X.Spec := fun args lk => match args with
 | [.v (.agg [.cs [.bool a1, .int .i64 a2, .int .i64 a3]])] => some ⟨(tcoef_Right N a1 a2 a3).isSome = true, .v (.c (.bool ((tcoef_Right N a1 a2 a3).getD default))), [], []⟩
 | _ => none
set_option maxRecDepth 100000 in
set_option maxHeartbeats 1000000 in
theorem ok_tcoef_Right (N : Nat) : FnOK Tryd.prog gt0 96 (sp_tcoef_Right N) := by
 refine fnOK_handed Tryd.func96 rfl (by kernel_rfl) tt_ok (ktNil) ?_
 intro args lk r h hp
 unfold sp_tcoef_Right at h
 split at h
 ·
  rename_i a1 a2 a3
  cases h
  obtain ⟨x, hx⟩ := Option.isSome_iff_exists.1 hp
  simp only [hx, Option.getD_some]
  refine hand0 rfl rfl (fun w0 M ε0 hX => ?_)
  refine rCount (fun hε => ?_)
  have hT : tcoef_Right N a1 a2 a3 = some x := hx; clear hx hp; unfold tcoef_Right at hT
  refine zA hX ?_
  let x1 := (bif (bif (bif (bif (decide ((0 : Int) ≤ a2)) then (decide (a2 ≤ 63)) else false) then (decide (a3 ≠ 0)) else false) then (decide (((-127) : Int) ≤ a3)) else false) then (decide (a3 ≤ 127)) else false)
  refine zA hX ?_
  refine rRet ?_
  have hy := Option.some.inj hT; subst hy
  exact zEnd0 hX rfl
 ·
  cases h
def runs_Levels_b1 (N : Nat) (a1 : Zt10) (s1 : (Int × Int × (List Int))) : Option ((Int × Int × (List Int)) ⊕ (Unit ⊕ (List Int))) :=
 bif (decide (s1.2.1 < (a1.length : Int))) then
  if (0 : Int) ≤ s1.2.1 ∧ s1.2.1 < (a1.length : Int) then
   let c1 := (tcoef_Right N (a1.getD (s1.2.1).toNat Zd8).1 (a1.getD (s1.2.1).toNat Zd8).2.1 (a1.getD (s1.2.1).toNat Zd8).2.2)
   let x5 := (bif (bif (!(c1.getD default)) then true else (!((a1.getD (s1.2.1).toNat Zd8).1 == (decide (s1.2.1 = ((a1.length : Int) - 1)))))) then true else (decide ((64 : Int) ≤ (s1.1 + (a1.getD (s1.2.1).toNat Zd8).2.1))))
   if c1.isSome = true ∧ ((!(!(c1.getD default))) = true → inK .i64 ((a1.length : Int) - 1)) ∧ ((!(bif (!(c1.getD default)) then true else (!((a1.getD (s1.2.1).toNat Zd8).1 == (decide (s1.2.1 = ((a1.length : Int) - 1))))))) = true → inK .i64 (s1.1 + (a1.getD (s1.2.1).toNat Zd8).2.1)) then
    bif x5 then
     some (.inr (Sum.inl ()))
    else
     if inK .i64 (s1.1 + (a1.getD (s1.2.1).toNat Zd8).2.1) then
      let x6 := (s1.2.2.set (s1.1 + (a1.getD (s1.2.1).toNat Zd8).2.1).toNat (a1.getD (s1.2.1).toNat Zd8).2.2)
      if (0 : Int) ≤ (s1.1 + (a1.getD (s1.2.1).toNat Zd8).2.1) ∧ (s1.1 + (a1.getD (s1.2.1).toNat Zd8).2.1) < 64 ∧ (s1.1 + (a1.getD (s1.2.1).toNat Zd8).2.1).toNat < 64 then
       if inK .i64 ((s1.1 + (a1.getD (s1.2.1).toNat Zd8).2.1) + 1) then
        if inK .i64 (s1.2.1 + 1) then
         some (.inl (((s1.1 + (a1.getD (s1.2.1).toNat Zd8).2.1) + 1), (s1.2.1 + 1), x6))
        else none
       else none
      else none
     else none
   else none
  else none
 else
  some (.inr (Sum.inr s1.2.2))
def runs_Levels (N : Nat) (a1 : Zt10) (a2 : Int) : Option ((List Int) × Int) :=
 bif (bif (decide (a2 ≠ 0)) then (decide (a2 ≠ 1)) else false) then
  some ((List.replicate 64 0), 1)
 else
  (iter (runs_Levels_b1 N a1) N (a2, 0, (List.replicate 64 0))).bind fun w1 =>
   (Sum.elim (fun v1 =>
    some ((List.replicate 64 0), 7)
   )
    (fun v2 =>
     some (v2, 0)
    )
   ) w1
def sp_runs_Levels (N : Nat) : X.Spec := fun args lk => match args with
 | [.v (.c (.fz (.pair .bool (.pair (.int .i64) (.int .i64))) a1)), .v (.c (.int .i64 a2))] => some ⟨(runs_Levels N a1 a2).isSome = true, .tup [.agg [.ints 64 .i64 ((runs_Levels N a1 a2).getD default).1], .c (.int .i64 ((runs_Levels N a1 a2).getD default).2)], [], []⟩
 | _ => none
set_option maxRecDepth 100000 in
set_option maxHeartbeats 1000000 in
theorem ok_runs_Levels (N : Nat) : FnOK Tryd.prog gt0 94 (sp_runs_Levels N) := by
 refine fnOK_handed Tryd.func94 rfl (by kernel_rfl) tt_ok (ktCons (ok_tcoef_Right N) (ktNil)) ?_
 intro args lk r h hp
 unfold sp_runs_Levels at h
 split at h
 ·
  rename_i a1 a2
  change Zt10 at a1
  cases h
  obtain ⟨x, hx⟩ := Option.isSome_iff_exists.1 hp
  simp only [hx, Option.getD_some]
  refine hand0 rfl rfl (fun w0 M ε0 hX => ?_)
  refine rCount (fun hε => ?_)
  have hT : runs_Levels N a1 a2 = some x := hx; clear hx hp; unfold runs_Levels at hT
  refine zA hX ?_
  refine rSeq (zA hX ?_)
  refine zCond rfl rfl (fun hc => ?_) (fun hc => ?_)
  ·
   replace hT := sT hc hT
   refine zA hX ?_
   refine rRet (rThenRet ?_)
   have hy := Option.some.inj hT; subst hy
   exact zEnd0 hX rfl
  ·
   replace hT := sF hc hT
   refine rSkip (rThen (zA hX ?_))
   refine zA hX ?_
   refine rSeq (zA hX ?_)
   refine rBlock ?_
   replace hT := sBind hT; obtain ⟨w1, hl, hT⟩ := hT
   refine rJoinA (fun v1 => (Sum.inl v1) = w1) (fun v1 => ⟨[(4, .v (.c (.ptr 0 0 0 0 0 0))), (5, .v (.c (.int .i64 7)))], [(0, .mem true 109 none (.flat [.ints 64 .i64 (List.replicate 64 0)]))], 2⟩) .ret (fun v1 hv => ?_) (fun hxs10 => ?_)
   ·
    subst hv; clear hl; replace hT := (sElimL hT)
    refine rInRet (rThenRet ?_)
    have hy := Option.some.inj hT; subst hy
    exact zEnd0 hX rfl
   refine rJoinA (fun v2 => (Sum.inr v2) = w1) (fun v2 => ⟨[(4, .v (.c (.ptr 0 0 0 0 0 0))), (5, .v (.c (.int .i64 0))), (6, .v (.c (.ptr 1 0 0 0 0 0)))], [(0, .mem true 109 none (.flat [.ints 64 .i64 (List.replicate 64 0)])), (1, .mem true 109 none (.flat [.ints 64 .i64 v2]))], 2⟩) (.exit 0) (fun v2 hv => ?_) (fun hxs11 => ?_)
   ·
    subst hv; clear hl; replace hT := (sElimR hT)
    refine rInHit (rThen (zA hX ?_))
    refine rRet ?_
    have hy := Option.some.inj hT; subst hy
    exact zEnd0 hX rfl
   refine rLoopM (runs_Levels_b1 N a1) (fun s1 => ⟨[(0, .v (.c (.fz Zs3 a1))), (4, .v (.c (.ptr 0 0 0 0 0 0))), (5, .v (.c (.int .i64 0))), (6, .v (.c (.ptr 1 0 0 0 0 0))), (7, .v (.c (.int .i64 s1.1))), (18, .v (.c (.fz Zs3 a1))), (19, .v (.c (.int .i64 (a1.length : Int)))), (20, .v (.c (.int .i64 s1.2.1)))], [(0, .mem true 109 none (.flat [.ints 64 .i64 (List.replicate 64 0)])), (1, .mem true 109 none (.flat [.ints 64 .i64 s1.2.2]))], 2⟩) hl (To.mk' [] 0 hε rfl zL zL) (fun s1 zs1 NNs1 hz hnexts1 houts1 => ?_)
   clear hl hT
   have hT := hz; clear hz
   refine zA hX ?_
   refine rSeq ?_
   refine zCond rfl rfl (fun hc => ?_) (fun hc => ?_)
   ·
    replace hT := sT hc hT
    refine rSkip (rThen (rSeq (rBlock ?_)))
    replace hT := sIf hT; obtain ⟨⟨o1, o2⟩, hT⟩ := hT
    refine zA hX ?_
    refine rSeq ?_
    let c1 := (tcoef_Right N (a1.getD (s1.2.1).toNat Zd8).1 (a1.getD (s1.2.1).toNat Zd8).2.1 (a1.getD (s1.2.1).toNat Zd8).2.2)
    let x5 := (bif (bif (!(c1.getD default)) then true else (!((a1.getD (s1.2.1).toNat Zd8).1 == (decide (s1.2.1 = ((a1.length : Int) - 1)))))) then true else (decide ((64 : Int) ≤ (s1.1 + (a1.getD (s1.2.1).toNat Zd8).2.1))))
    replace hT := sIf hT; obtain ⟨⟨o1, o2, o3⟩, hT⟩ := hT
    refine rSeq (rRegC md0 hX rfl rfl rfl zO ?_)
    refine rThen ?_
    refine zCond rfl rfl (fun hc => ?_) (fun hc => ?_)
    ·
     replace hT := sT hc hT
     refine zA hX ?_
     refine rRet (rThenRet (rInRet (rThenRet (rThenRet ?_))))
     exact zTo [] 0 hε (hxs10 _ (houts1 _ (Option.some.inj hT).symm))
    ·
     replace hT := sF hc hT
     refine rSkip (rThen ?_)
     replace hT := sIf hT; obtain ⟨o1, hT⟩ := hT
     refine zA hX ?_
     let x6 := (s1.2.2.set (s1.1 + (a1.getD (s1.2.1).toNat Zd8).2.1).toNat (a1.getD (s1.2.1).toNat Zd8).2.2)
     replace hT := sIf hT; obtain ⟨⟨o1, o2, o3⟩, hT⟩ := hT
     refine zA hX ?_
     replace hT := sIf hT; obtain ⟨o1, hT⟩ := hT
     refine zReg md0 hX rfl rfl rfl ?_
     refine rInNormal (rThen ?_)
     replace hT := sIf hT; obtain ⟨o1, hT⟩ := hT
     refine zReg md0 hX rfl rfl rfl ?_
     exact hnexts1 _ (Option.some.inj hT).symm _ (To.mk' [] 0 hε rfl zL zL)
   ·
    replace hT := sF hc hT
    refine rExit (rThenExit (rThenExit ?_))
    exact zTo [] 0 hε (hxs11 _ (houts1 _ (Option.some.inj hT).symm))
 ·
  cases h
def blocks_may (N : Nat) (a1 : Bool) (a2 : Int) (a3 : Zt10) : Option Bool :=
 let x1 := (bif (bif (!(a1 == (decide (a2 ≠ 0)))) then true else (decide (a2 < 0))) then true else (decide ((255 : Int) ≤ a2)))
 bif x1 then
  some false
 else
  let c1 := (blocks_from N a1)
  let c2 := (runs_Levels N a3 (c1.getD default))
  if c1.isSome = true ∧ c2.isSome = true then
   some (decide ((c2.getD default).2 = 0))
  else none
def sp_blocks_may (N : Nat) : X.Spec := fun args lk => match args with
 | [.v (.c (.bool a1)), .v (.c (.int .i64 a2)), .v (.c (.fz (.pair .bool (.pair (.int .i64) (.int .i64))) a3))] => some ⟨(blocks_may N a1 a2 a3).isSome = true, .v (.c (.bool ((blocks_may N a1 a2 a3).getD default))), [], []⟩
 | _ => none
set_option maxRecDepth 100000 in
set_option maxHeartbeats 1000000 in
theorem ok_blocks_may (N : Nat) : FnOK Tryd.prog gt0 89 (sp_blocks_may N) := by
 refine fnOK_handed Tryd.func89 rfl (by kernel_rfl) tt_ok (ktCons (ok_runs_Levels N) (ktCons (ok_blocks_from N) (ktNil))) ?_
 intro args lk r h hp
 unfold sp_blocks_may at h
 split at h
 ·
  rename_i a1 a2 a3
  change Zt10 at a3
  cases h
  obtain ⟨x, hx⟩ := Option.isSome_iff_exists.1 hp
  simp only [hx, Option.getD_some]
  refine hand0 rfl rfl (fun w0 M ε0 hX => ?_)
  refine rCount (fun hε => ?_)
  have hT : blocks_may N a1 a2 a3 = some x := hx; clear hx hp; unfold blocks_may at hT
  refine zA hX ?_
  refine rSeq ?_
  let x1 := (bif (bif (!(a1 == (decide (a2 ≠ 0)))) then true else (decide (a2 < 0))) then true else (decide ((255 : Int) ≤ a2)))
  refine zA hX ?_
  refine zCond rfl rfl (fun hc => ?_) (fun hc => ?_)
  ·
   replace hT := sT hc hT
   refine zA hX ?_
   refine rRet (rThenRet ?_)
   have hy := Option.some.inj hT; subst hy
   exact zEnd0 hX rfl
  ·
   replace hT := sF hc hT
   refine rSkip (rThen ?_)
   let c1 := (blocks_from N a1)
   let c2 := (runs_Levels N a3 (c1.getD default))
   replace hT := sIf hT; obtain ⟨⟨o1, o2⟩, hT⟩ := hT
   refine zA hX ?_
   refine zA hX ?_
   refine rRet ?_
   have hy := Option.some.inj hT; subst hy
   exact zEnd0 hX rfl
 ·
  cases h
def tcoef_many (N : Nat) (a1 : Bool) (a2 : Int) : Option Int :=
 bif (bif a1 then (decide (a2 = 0)) else false) then
  some 3
 else
  bif (bif a1 then (decide (a2 = 1)) else false) then
   some 2
  else
   bif (bif a1 then (decide (a2 ≤ 40)) else false) then
    some 1
   else
    bif a1 then
     some 0
    else
     bif (decide (a2 = 0)) then
      some 12
     else
      bif (decide (a2 = 1)) then
       some 6
      else
       bif (decide (a2 = 2)) then
        some 4
       else
        bif (decide (a2 ≤ 6)) then
         some 3
        else
         bif (decide (a2 ≤ 10)) then
          some 2
         else
          bif (decide (a2 ≤ 26)) then
           some 1
          else
           some 0
def sp_tcoef_many (N : Nat) : X.Spec := fun args lk => match args with
 | [.v (.c (.bool a1)), .v (.c (.int .i64 a2))] => some ⟨(tcoef_many N a1 a2).isSome = true, .v (.c (.int .i64 ((tcoef_many N a1 a2).getD default))), [], []⟩
 | _ => none
set_option maxRecDepth 100000 in
set_option maxHeartbeats 1000000 in
theorem ok_tcoef_many (N : Nat) : FnOK Tryd.prog gt0 102 (sp_tcoef_many N) := by
 refine fnOK_handed Tryd.func102 rfl (by kernel_rfl) tt_ok (ktNil) ?_
 intro args lk r h hp
 unfold sp_tcoef_many at h
 split at h
 ·
  rename_i a1 a2
  cases h
  obtain ⟨x, hx⟩ := Option.isSome_iff_exists.1 hp
  simp only [hx, Option.getD_some]
  refine hand0 rfl rfl (fun w0 M ε0 hX => ?_)
  refine rCount (fun hε => ?_)
  have hT : tcoef_many N a1 a2 = some x := hx; clear hx hp; unfold tcoef_many at hT
  refine zA hX ?_
  refine rSeq (rBlock (zA hX ?_))
  refine zCond rfl rfl (fun hc => ?_) (fun hc => ?_)
  ·
   replace hT := sT hc hT
   refine zA hX ?_
   refine rRet (rInRet (rThenRet ?_))
   have hy := Option.some.inj hT; subst hy
   exact zEnd0 hX rfl
  ·
   replace hT := sF hc hT
   refine zA hX ?_
   refine zCond rfl rfl (fun hc => ?_) (fun hc => ?_)
   ·
    replace hT := sT hc hT
    refine zA hX ?_
    refine rRet (rInRet (rThenRet ?_))
    have hy := Option.some.inj hT; subst hy
    exact zEnd0 hX rfl
   ·
    replace hT := sF hc hT
    refine zA hX ?_
    refine zCond rfl rfl (fun hc => ?_) (fun hc => ?_)
    ·
     replace hT := sT hc hT
     refine zA hX ?_
     refine rRet (rInRet (rThenRet ?_))
     have hy := Option.some.inj hT; subst hy
     exact zEnd0 hX rfl
    ·
     replace hT := sF hc hT
     refine zA hX ?_
     refine zCond rfl rfl (fun hc => ?_) (fun hc => ?_)
     ·
      replace hT := sT hc hT
      refine zA hX ?_
      refine rRet (rInRet (rThenRet ?_))
      have hy := Option.some.inj hT; subst hy
      exact zEnd0 hX rfl
     ·
      replace hT := sF hc hT
      refine zA hX ?_
      refine zCond rfl rfl (fun hc => ?_) (fun hc => ?_)
      ·
       replace hT := sT hc hT
       refine zA hX ?_
       refine rRet (rInRet (rThenRet ?_))
       have hy := Option.some.inj hT; subst hy
       exact zEnd0 hX rfl
      ·
       replace hT := sF hc hT
       refine zA hX ?_
       refine zCond rfl rfl (fun hc => ?_) (fun hc => ?_)
       ·
        replace hT := sT hc hT
        refine zA hX ?_
        refine rRet (rInRet (rThenRet ?_))
        have hy := Option.some.inj hT; subst hy
        exact zEnd0 hX rfl
       ·
        replace hT := sF hc hT
        refine zA hX ?_
        refine zCond rfl rfl (fun hc => ?_) (fun hc => ?_)
        ·
         replace hT := sT hc hT
         refine zA hX ?_
         refine rRet (rInRet (rThenRet ?_))
         have hy := Option.some.inj hT; subst hy
         exact zEnd0 hX rfl
        ·
         replace hT := sF hc hT
         refine zA hX ?_
         refine zCond rfl rfl (fun hc => ?_) (fun hc => ?_)
         ·
          replace hT := sT hc hT
          refine zA hX ?_
          refine rRet (rInRet (rThenRet ?_))
          have hy := Option.some.inj hT; subst hy
          exact zEnd0 hX rfl
         ·
          replace hT := sF hc hT
          refine zA hX ?_
          refine zCond rfl rfl (fun hc => ?_) (fun hc => ?_)
          ·
           replace hT := sT hc hT
           refine zA hX ?_
           refine rRet (rInRet (rThenRet ?_))
           have hy := Option.some.inj hT; subst hy
           exact zEnd0 hX rfl
          ·
           replace hT := sF hc hT
           refine zA hX ?_
           refine zCond rfl rfl (fun hc => ?_) (fun hc => ?_)
           ·
            replace hT := sT hc hT
            refine zA hX ?_
            refine rRet (rInRet (rThenRet ?_))
            have hy := Option.some.inj hT; subst hy
            exact zEnd0 hX rfl
           ·
            replace hT := sF hc hT
            refine rSkip (rInNormal (rThen (zA hX ?_)))
            refine rRet ?_
            have hy := Option.some.inj hT; subst hy
            exact zEnd0 hX rfl
 ·
  cases h
def tcoef_place_b1 (N : Nat) (a1 : Bool) (a2 : Int) (s1 : (Int × Int)) : Option ((Int × Int) ⊕ Int) :=
 bif (decide (s1.2 < a2)) then
  let c2 := (tcoef_many N a1 s1.2)
  if c2.isSome = true ∧ inK .i64 (s1.1 + (c2.getD default)) then
   if inK .i64 (s1.2 + 1) then
    some (.inl ((s1.1 + (c2.getD default)), (s1.2 + 1)))
   else none
  else none
 else
  some (.inr s1.1)
def tcoef_place_b2 (N : Nat) (s2 : (Int × Int)) : Option ((Int × Int) ⊕ Int) :=
 bif (decide (s2.2 < 63)) then
  let c3 := (tcoef_many N false s2.2)
  if c3.isSome = true ∧ inK .i64 (s2.1 + (c3.getD default)) then
   if inK .i64 (s2.2 + 1) then
    some (.inl ((s2.1 + (c3.getD default)), (s2.2 + 1)))
   else none
  else none
 else
  some (.inr s2.1)
def tcoef_place (N : Nat) (a1 : Bool) (a2 : Int) (a3 : Int) : Option Int :=
 let c1 := (tcoef_many N a1 a2)
 if c1.isSome = true then
  bif (decide ((c1.getD default) < a3)) then
   some (-1)
  else
   joinK (fun (v1 : Int) =>
    (iter (tcoef_place_b1 N a1 a2) N (v1, 0)).bind fun v2 =>
     if inK .i64 (v2 + a3) ∧ inK .i64 ((v2 + a3) - 1) then
      some ((v2 + a3) - 1)
     else none
   ) fun k1 =>
    bif a1 then
     (iter (tcoef_place_b2 N) N (0, 0)).bind fun v3 =>
      k1 v3
    else
     k1 0
 else none
def sp_tcoef_place (N : Nat) : X.Spec := fun args lk => match args with
 | [.v (.c (.bool a1)), .v (.c (.int .i64 a2)), .v (.c (.int .i64 a3))] => some ⟨(tcoef_place N a1 a2 a3).isSome = true, .v (.c (.int .i64 ((tcoef_place N a1 a2 a3).getD default))), [], []⟩
 | _ => none
set_option maxRecDepth 100000 in
set_option maxHeartbeats 1000000 in
theorem ok_tcoef_place (N : Nat) : FnOK Tryd.prog gt0 97 (sp_tcoef_place N) := by
 refine fnOK_handed Tryd.func97 rfl (by kernel_rfl) tt_ok (ktCons (ok_tcoef_many N) (ktNil)) ?_
 intro args lk r h hp
 unfold sp_tcoef_place at h
 split at h
 ·
  rename_i a1 a2 a3
  cases h
  obtain ⟨x, hx⟩ := Option.isSome_iff_exists.1 hp
  simp only [hx, Option.getD_some]
  refine hand0 rfl rfl (fun w0 M ε0 hX => ?_)
  refine rCount (fun hε => ?_)
  have hT : tcoef_place N a1 a2 a3 = some x := hx; clear hx hp; unfold tcoef_place at hT
  refine zA hX ?_
  refine rSeq ?_
  let c1 := (tcoef_many N a1 a2)
  replace hT := sIf hT; obtain ⟨o1, hT⟩ := hT
  refine zA hX ?_
  refine zCond rfl rfl (fun hc => ?_) (fun hc => ?_)
  ·
   replace hT := sT hc hT
   refine zA hX ?_
   refine rRet (rThenRet ?_)
   have hy := Option.some.inj hT; subst hy
   exact zEnd0 hX rfl
  ·
   replace hT := sF hc hT
   refine rSkip (rThen (zA hX ?_))
   refine rSeq (zA hX ?_)
   refine rJoinK hT (fun v1 => ⟨[(0, .v (.c (.bool a1))), (1, .v (.c (.int .i64 a2))), (2, .v (.c (.int .i64 a3))), (6, .v (.c (.int .i64 0))), (7, .v (.c (.int .i64 v1)))], [], 0⟩) (fun v1 hT => ?_) (fun k1 hjk1 hT => ?_)
   ·
    refine rThen (rSeq (zA hX ?_))
    refine rBlock ?_
    replace hT := sBind hT; obtain ⟨w1, hl, hT⟩ := hT
    refine rJoinA (fun v2 => v2 = w1) (fun v2 => ⟨[(2, .v (.c (.int .i64 a3))), (6, .v (.c (.int .i64 0))), (7, .v (.c (.int .i64 v2)))], [], 0⟩) (.exit 2) (fun v2 hv => ?_) (fun hxs10 => ?_)
    ·
     subst hv; clear hl
     refine rInHit (rThen ?_)
     replace hT := sIf hT; obtain ⟨⟨o1, o2⟩, hT⟩ := hT
     refine zA hX ?_
     refine rRet ?_
     have hy := Option.some.inj hT; subst hy
     exact zEnd0 hX rfl
    refine rLoopM (tcoef_place_b1 N a1 a2) (fun s1 => ⟨[(0, .v (.c (.bool a1))), (2, .v (.c (.int .i64 a3))), (6, .v (.c (.int .i64 0))), (7, .v (.c (.int .i64 s1.1))), (24, .v (.c (.int .i64 a2))), (25, .v (.c (.int .i64 s1.2)))], [], 0⟩) hl (To.mk' [] 0 hε rfl zL zL) (fun s1 zs1 NNs1 hz hnexts1 houts1 => ?_)
    clear hl hT
    have hT := hz; clear hz
    refine zA hX ?_
    refine rSeq ?_
    refine zCond rfl rfl (fun hc => ?_) (fun hc => ?_)
    ·
     replace hT := sT hc hT
     refine rSkip (rThen (rSeq (rBlock (zA hX ?_))))
     let c2 := (tcoef_many N a1 s1.2)
     replace hT := sIf hT; obtain ⟨⟨o1, o2⟩, hT⟩ := hT
     refine zReg md0 hX rfl rfl rfl ?_
     refine rInNormal (rThen ?_)
     replace hT := sIf hT; obtain ⟨o1, hT⟩ := hT
     refine zReg md0 hX rfl rfl rfl ?_
     exact hnexts1 _ (Option.some.inj hT).symm _ (To.mk' [] 0 hε rfl zL zL)
    ·
     replace hT := sF hc hT
     refine rExit (rThenExit (rThenExit ?_))
     exact zTo [] 0 hε (hxs10 _ (houts1 _ (Option.some.inj hT).symm))
   ·
    refine zCond rfl rfl (fun hc => ?_) (fun hc => ?_)
    ·
     replace hT := sT hc hT
     refine zA hX ?_
     refine rBlock ?_
     replace hT := sBind hT; obtain ⟨w2, hl, hT⟩ := hT
     refine rJoinA (fun v3 => v3 = w2) (fun v3 => ⟨[(0, .v (.c (.bool a1))), (1, .v (.c (.int .i64 a2))), (2, .v (.c (.int .i64 a3))), (6, .v (.c (.int .i64 0))), (7, .v (.c (.int .i64 v3)))], [], 0⟩) (.exit 0) (fun v3 hv => ?_) (fun hxs20 => ?_)
     ·
      subst hv; clear hl
      refine rInHit ?_
      exact zTo [] 0 hε (hjk1 _ hT)
     refine rLoopM (tcoef_place_b2 N) (fun s2 => ⟨[(0, .v (.c (.bool a1))), (1, .v (.c (.int .i64 a2))), (2, .v (.c (.int .i64 a3))), (6, .v (.c (.int .i64 0))), (7, .v (.c (.int .i64 s2.1))), (16, .v (.c (.int .i64 s2.2)))], [], 0⟩) hl (To.mk' [] 0 hε rfl zL zL) (fun s2 zs2 NNs2 hz hnexts2 houts2 => ?_)
     clear hl hT
     have hT := hz; clear hz
     refine zA hX ?_
     refine rSeq ?_
     refine zCond rfl rfl (fun hc => ?_) (fun hc => ?_)
     ·
      replace hT := sT hc hT
      refine rSkip (rThen (rSeq (rBlock (zA hX ?_))))
      let c3 := (tcoef_many N false s2.2)
      replace hT := sIf hT; obtain ⟨⟨o1, o2⟩, hT⟩ := hT
      refine zReg md0 hX rfl rfl rfl ?_
      refine rInNormal (rThen ?_)
      replace hT := sIf hT; obtain ⟨o1, hT⟩ := hT
      refine zReg md0 hX rfl rfl rfl ?_
      exact hnexts2 _ (Option.some.inj hT).symm _ (To.mk' [] 0 hε rfl zL zL)
     ·
      replace hT := sF hc hT
      refine rExit (rThenExit (rThenExit ?_))
      exact zTo [] 0 hε (hxs20 _ (houts2 _ (Option.some.inj hT).symm))
    ·
     replace hT := sF hc hT
     refine rSkip ?_
     exact zTo [] 0 hε (hjk1 _ hT)
 ·
  cases h
def outbits_Row_b1 (N : Nat) (a1 : Int) (s1 : Zt17) : Option (Zt17 ⊕ Zt9) :=
 bif (decide ((0 : Int) ≤ s1.2.1)) then
  let x2 : (List Int) := (s1.2.2.2 ++ (((List.replicate 1 0).set 0 ((48 : Int) + ((Int.toNat (a1 / 2 ^ (Int.toNat s1.2.1)) &&& Int.toNat 1 : Nat) : Int))).take 1))
  if inK .u64 s1.2.1 ∧ (0 : Int) ≤ s1.2.1 ∧ (s1.2.1).toNat ≤ 64 ∧ (0 : Int) ≤ (a1 / 2 ^ (Int.toNat s1.2.1)) ∧ inK .u8 ((Int.toNat (a1 / 2 ^ (Int.toNat s1.2.1)) &&& Int.toNat 1 : Nat) : Int) ∧ inK .u8 ((48 : Int) + ((Int.toNat (a1 / 2 ^ (Int.toNat s1.2.1)) &&& Int.toNat 1 : Nat) : Int)) ∧ 1 ≤ 1 ∧ s1.2.2.1 = s1.1 ∧ (s1.1 + 1) * 1 ≤ 140737488355328 ∧ s1.1 + 1 ≤ 9223372036854775807 then
   if inK .i64 (s1.2.1 - 1) then
    some (.inl ((s1.1 + 1), (s1.2.1 - 1), (s1.2.2.1 + 1), x2))
   else none
  else none
 else
  some (.inr (s1.1, s1.2.2.1, s1.2.2.2))
def outbits_Row (N : Nat) (a1 : Int) (a2 : Int) : Option (ByteArray × Int) :=
 let c1 := (outbits_fits N a1 a2)
 if c1.isSome = true then
  bif (!(c1.getD default)) then
   some (⟨#[]⟩, 1)
  else
   if (0 : Int) ≤ a2 ∧ a2 * 1 ≤ 140737488355328 then
    if inK .i64 (a2 - 1) then
     (iter (outbits_Row_b1 N a1) N (0, (a2 - 1), 0, (List.replicate 0 0))).bind fun v1 =>
      if v1.1 ≤ v1.2.1 ∧ (v1.1 : Int) ≤ 9223372036854775807 then
       some ((bytesOf (v1.2.2.take v1.1)), 0)
      else none
    else none
   else none
 else none
def sp_outbits_Row (N : Nat) : X.Spec := fun args lk => match args with
 | [.v (.c (.int .i64 a1)), .v (.c (.int .i64 a2))] => some ⟨(outbits_Row N a1 a2).isSome = true, .tup [.c (.str ((outbits_Row N a1 a2).getD default).1), .c (.int .i64 ((outbits_Row N a1 a2).getD default).2)], [], []⟩
 | _ => none
set_option maxRecDepth 100000 in
set_option maxHeartbeats 1000000 in
theorem ok_outbits_Row (N : Nat) : FnOK Tryd.prog gt0 98 (sp_outbits_Row N) := by
 refine fnOK_handed Tryd.func98 rfl (by kernel_rfl) tt_ok (ktCons (ok_outbits_fits N) (ktNil)) ?_
 intro args lk r h hp
 unfold sp_outbits_Row at h
 split at h
 ·
  rename_i a1 a2
  cases h
  obtain ⟨x, hx⟩ := Option.isSome_iff_exists.1 hp
  simp only [hx, Option.getD_some]
  refine hand0 rfl rfl (fun w0 M ε0 hX => ?_)
  refine rCount (fun hε => ?_)
  have hT : outbits_Row N a1 a2 = some x := hx; clear hx hp; unfold outbits_Row at hT
  refine zA hX ?_
  refine rSeq ?_
  let c1 := (outbits_fits N a1 a2)
  replace hT := sIf hT; obtain ⟨o1, hT⟩ := hT
  refine zA hX ?_
  refine zCond rfl rfl (fun hc => ?_) (fun hc => ?_)
  ·
   replace hT := sT hc hT
   refine zA hX ?_
   refine rRet (rThenRet ?_)
   have hy := Option.some.inj hT; subst hy
   exact zEnd0 hX rfl
  ·
   replace hT := sF hc hT
   refine rSkip (rThen ?_)
   replace hT := sIf hT; obtain ⟨⟨o1, o2⟩, hT⟩ := hT
   refine zA hX ?_
   refine rSeq ?_
   replace hT := sIf hT; obtain ⟨o1, hT⟩ := hT
   refine zA hX ?_
   refine rBlock ?_
   replace hT := sBind hT; obtain ⟨w1, hl, hT⟩ := hT
   refine rJoinA (fun v1 => v1 = w1) (fun v1 => ⟨[(4, .v (.c (.str ⟨#[]⟩))), (5, .v (.c (.int .i64 0))), (6, .v (.c (.sl 0 0 v1.1 1)))], [(0, .mem true 5 (some 1) (.flat [.ints v1.2.1 .u8 v1.2.2]))], 1⟩) (.exit 0) (fun v1 hv => ?_) (fun hxs10 => ?_)
   ·
    subst hv; clear hl
    refine rInHit (rThen ?_)
    replace hT := sIf hT; obtain ⟨⟨o1, o2⟩, hT⟩ := hT
    refine zA hX ?_
    refine rRet ?_
    have hy := Option.some.inj hT; subst hy
    exact zEnd0 hX rfl
   refine rLoopM (outbits_Row_b1 N a1) (fun s1 => ⟨[(0, .v (.c (.int .i64 a1))), (4, .v (.c (.str ⟨#[]⟩))), (5, .v (.c (.int .i64 0))), (6, .v (.c (.sl 0 0 s1.1 1))), (7, .v (.c (.int .i64 s1.2.1)))], [(0, .mem true 5 (some 1) (.flat [.ints s1.2.2.1 .u8 s1.2.2.2]))], 1⟩) hl (To.mk' [] 0 hε rfl zL zL) (fun s1 zs1 NNs1 hz hnexts1 houts1 => ?_)
   clear hl hT
   have hT := hz; clear hz
   refine rSeq (zA hX ?_)
   refine zCond rfl rfl (fun hc => ?_) (fun hc => ?_)
   ·
    replace hT := sT hc hT
    refine rSkip (rThen (rSeq (rBlock ?_)))
    let x2 : (List Int) := (s1.2.2.2 ++ (((List.replicate 1 0).set 0 ((48 : Int) + ((Int.toNat (a1 / 2 ^ (Int.toNat s1.2.1)) &&& Int.toNat 1 : Nat) : Int))).take 1))
    replace hT := sIf hT; obtain ⟨⟨o1, o2, o3, o4, o5, o6, o7, o8, o9, o10⟩, hT⟩ := hT
    refine zReg md0 hX rfl rfl rfl ?_
    refine rInNormal (rThen ?_)
    replace hT := sIf hT; obtain ⟨o1, hT⟩ := hT
    refine zReg md0 hX rfl rfl rfl ?_
    exact hnexts1 _ (Option.some.inj hT).symm _ (To.mk' [2] 0 hε rfl zL zL)
   ·
    replace hT := sF hc hT
    refine rExit (rThenExit (rThenExit ?_))
    exact zTo [] 0 hε (hxs10 _ (houts1 _ (Option.some.inj hT).symm))
 ·
  cases h
def tcoef_digit (N : Nat) (a1 : Bool) : Option ByteArray :=
 bif a1 then
  some ⟨#[49]⟩
 else
  some ⟨#[48]⟩
def sp_tcoef_digit (N : Nat) : X.Spec := fun args lk => match args with
 | [.v (.c (.bool a1))] => some ⟨(tcoef_digit N a1).isSome = true, .v (.c (.str ((tcoef_digit N a1).getD default))), [], []⟩
 | _ => none
set_option maxRecDepth 100000 in
set_option maxHeartbeats 1000000 in
theorem ok_tcoef_digit (N : Nat) : FnOK Tryd.prog gt0 99 (sp_tcoef_digit N) := by
 refine fnOK_handed Tryd.func99 rfl (by kernel_rfl) tt_ok (ktNil) ?_
 intro args lk r h hp
 unfold sp_tcoef_digit at h
 split at h
 ·
  rename_i a1
  cases h
  obtain ⟨x, hx⟩ := Option.isSome_iff_exists.1 hp
  simp only [hx, Option.getD_some]
  refine hand0 rfl rfl (fun w0 M ε0 hX => ?_)
  refine rCount (fun hε => ?_)
  have hT : tcoef_digit N a1 = some x := hx; clear hx hp; unfold tcoef_digit at hT
  refine zA hX ?_
  refine rSeq (zA hX ?_)
  refine zCond rfl rfl (fun hc => ?_) (fun hc => ?_)
  ·
   replace hT := sT hc hT
   refine zA hX ?_
   refine rRet (rThenRet ?_)
   have hy := Option.some.inj hT; subst hy
   exact zEnd0 hX rfl
  ·
   replace hT := sF hc hT
   refine rSkip (rThen (zA hX ?_))
   refine rRet ?_
   have hy := Option.some.inj hT; subst hy
   exact zEnd0 hX rfl
 ·
  cases h
def tcoef_Row (N : Nat) (a1 : Bool) (a2 : Int) (a3 : Int) : Option (ByteArray × Bool) :=
 let c1 := (tcoef_Right N a1 a2 a3)
 if c1.isSome = true then
  bif (!(c1.getD default)) then
   some (⟨#[]⟩, false)
  else
   let c2 := (tcoef_place N a1 a2 (max a3 (-a3)))
   if inK .i64 (-a3) ∧ c2.isSome = true then
    bif (decide ((0 : Int) ≤ (c2.getD default))) then
     let c3 := (outbits_Row N (codesL.getD (c2.getD default).toNat 0) (lensL.getD (c2.getD default).toNat 0))
     if (0 : Int) ≤ (c2.getD default) ∧ (c2.getD default) < 102 ∧ (c2.getD default).toNat < 102 ∧ c3.isSome = true then
      let c4 := (tcoef_digit N (decide (a3 < 0)))
      if c4.isSome = true ∧ (ByteArray.size (c3.getD default).1 : Int) + ByteArray.size (c4.getD default) ≤ 9223372036854775807 then
       some (((c3.getD default).1 ++ (c4.getD default)), true)
      else none
     else none
    else
     let c5 := (outbits_Row N 3 7)
     if c5.isSome = true then
      let c6 := (outbits_Row N a2 6)
      if c6.isSome = true then
       let c7 := (outbits_Row N ((a3 + 256) % 256) 8)
       if inK .i64 (a3 + 256) ∧ (0 : Int) ≤ (a3 + 256) ∧ c7.isSome = true then
        let c8 := (tcoef_digit N a1)
        let x1 := ((((c5.getD default).1 ++ (c8.getD default)) ++ (c6.getD default).1) ++ (c7.getD default).1)
        if c8.isSome = true ∧ (ByteArray.size (c5.getD default).1 : Int) + ByteArray.size (c8.getD default) ≤ 9223372036854775807 ∧ (ByteArray.size ((c5.getD default).1 ++ (c8.getD default)) : Int) + ByteArray.size (c6.getD default).1 ≤ 9223372036854775807 ∧ (ByteArray.size (((c5.getD default).1 ++ (c8.getD default)) ++ (c6.getD default).1) : Int) + ByteArray.size (c7.getD default).1 ≤ 9223372036854775807 then
         some (x1, true)
        else none
       else none
      else none
     else none
   else none
 else none
def sp_tcoef_Row (N : Nat) : X.Spec := fun args lk => match args with
 | [.v (.agg [.cs [.bool a1, .int .i64 a2, .int .i64 a3]])] => some ⟨(tcoef_Row N a1 a2 a3).isSome = true, .tup [.c (.str ((tcoef_Row N a1 a2 a3).getD default).1), .c (.bool ((tcoef_Row N a1 a2 a3).getD default).2)], [], []⟩
 | _ => none
set_option maxRecDepth 100000 in
set_option maxHeartbeats 1000000 in
theorem ok_tcoef_Row (N : Nat) : FnOK Tryd.prog gt0 90 (sp_tcoef_Row N) := by
 refine fnOK_handed Tryd.func90 rfl (by kernel_rfl) tt_ok (ktCons (ok_tcoef_digit N) (ktCons (ok_outbits_Row N) (ktCons (ok_tcoef_place N) (ktCons (ok_tcoef_Right N) (ktNil))))) ?_
 intro args lk r h hp
 unfold sp_tcoef_Row at h
 split at h
 ·
  rename_i a1 a2 a3
  cases h
  obtain ⟨x, hx⟩ := Option.isSome_iff_exists.1 hp
  simp only [hx, Option.getD_some]
  refine hand0 rfl rfl (fun w0 M ε0 hX => ?_)
  refine rCount (fun hε => ?_)
  have hT : tcoef_Row N a1 a2 a3 = some x := hx; clear hx hp; unfold tcoef_Row at hT
  refine zA hX ?_
  refine rSeq ?_
  let c1 := (tcoef_Right N a1 a2 a3)
  replace hT := sIf hT; obtain ⟨o1, hT⟩ := hT
  refine zA hX ?_
  refine zCond rfl rfl (fun hc => ?_) (fun hc => ?_)
  ·
   replace hT := sT hc hT
   refine zA hX ?_
   refine rRet (rThenRet ?_)
   have hy := Option.some.inj hT; subst hy
   exact zEnd0 hX rfl
  ·
   replace hT := sF hc hT
   refine rSkip (rThen (rSeq ?_))
   let c2 := (tcoef_place N a1 a2 (max a3 (-a3)))
   replace hT := sIf hT; obtain ⟨⟨o1, o2⟩, hT⟩ := hT
   refine zA hX ?_
   refine zA hX ?_
   refine zCond rfl rfl (fun hc => ?_) (fun hc => ?_)
   ·
    replace hT := sT hc hT
    let c3 := (outbits_Row N (codesL.getD (c2.getD default).toNat 0) (lensL.getD (c2.getD default).toNat 0))
    replace hT := sIf hT; obtain ⟨⟨o1, o2, o3, o4⟩, hT⟩ := hT
    refine rSeq (zDraw md0 0 [] hX mixed rfl rfl rfl rfl rfl ?_)
    refine rThen ?_
    let c4 := (tcoef_digit N (decide (a3 < 0)))
    replace hT := sIf hT; obtain ⟨⟨o1, o2⟩, hT⟩ := hT
    refine zA hX ?_
    refine rRet (rThenRet ?_)
    have hy := Option.some.inj hT; subst hy
    exact zEnd0 hX rfl
   ·
    replace hT := sF hc hT
    refine rSkip (rThen ?_)
    let c5 := (outbits_Row N 3 7)
    replace hT := sIf hT; obtain ⟨o1, hT⟩ := hT
    refine zA hX ?_
    let c6 := (outbits_Row N a2 6)
    replace hT := sIf hT; obtain ⟨o1, hT⟩ := hT
    refine zA hX ?_
    let c7 := (outbits_Row N ((a3 + 256) % 256) 8)
    replace hT := sIf hT; obtain ⟨⟨o1, o2, o3⟩, hT⟩ := hT
    refine zA hX ?_
    let c8 := (tcoef_digit N a1)
    let x1 := ((((c5.getD default).1 ++ (c8.getD default)) ++ (c6.getD default).1) ++ (c7.getD default).1)
    replace hT := sIf hT; obtain ⟨⟨o1, o2, o3, o4⟩, hT⟩ := hT
    refine zA hX ?_
    refine rRet ?_
    have hy := Option.some.inj hT; subst hy
    exact zEnd0 hX rfl
 ·
  cases h
def outbits_plain_b1 (N : Nat) (a1 : ByteArray) (s1 : Nat) : Option (Nat ⊕ (Unit ⊕ Unit)) :=
 if (ByteArray.size a1 : Int) ≤ 9223372036854775807 then
  bif (decide (s1 < ByteArray.size a1)) then
   let x1 := (bif (decide (((Utf8.decode a1 s1).1 : Int) ≠ 48)) then (decide (((Utf8.decode a1 s1).1 : Int) ≠ 49)) else false)
   bif x1 then
    some (.inr (Sum.inl ()))
   else
    some (.inl (s1 + (Utf8.decode a1 s1).2))
  else
   some (.inr (Sum.inr ()))
 else none
def outbits_plain (N : Nat) (a1 : ByteArray) : Option Bool :=
 (iter (outbits_plain_b1 N a1) N 0).bind fun w1 =>
  (Sum.elim (fun v1 =>
   some false
  )
   (fun v2 =>
    some true
   )
  ) w1
def sp_outbits_plain (N : Nat) : X.Spec := fun args lk => match args with
 | [.v (.c (.str a1))] => some ⟨(outbits_plain N a1).isSome = true, .v (.c (.bool ((outbits_plain N a1).getD default))), [], []⟩
 | _ => none
set_option maxRecDepth 100000 in
set_option maxHeartbeats 1000000 in
theorem ok_outbits_plain (N : Nat) : FnOK Tryd.prog gt0 100 (sp_outbits_plain N) := by
 refine fnOK_handed Tryd.func100 rfl (by kernel_rfl) tt_ok (ktNil) ?_
 intro args lk r h hp
 unfold sp_outbits_plain at h
 split at h
 ·
  rename_i a1
  cases h
  obtain ⟨x, hx⟩ := Option.isSome_iff_exists.1 hp
  simp only [hx, Option.getD_some]
  refine hand0 rfl rfl (fun w0 M ε0 hX => ?_)
  refine rCount (fun hε => ?_)
  have hT : outbits_plain N a1 = some x := hx; clear hx hp; unfold outbits_plain at hT
  refine zA hX ?_
  refine rSeq (zA hX ?_)
  refine rBlock ?_
  replace hT := sBind hT; obtain ⟨w1, hl, hT⟩ := hT
  refine rJoinA (fun v1 => (Sum.inl v1) = w1) (fun v1 => ⟨[(2, .v (.c (.bool false)))], [], 1⟩) .ret (fun v1 hv => ?_) (fun hxs10 => ?_)
  ·
   subst hv; clear hl; replace hT := (sElimL hT)
   refine rInRet (rThenRet ?_)
   have hy := Option.some.inj hT; subst hy
   exact zEnd0 hX rfl
  refine rJoinA (fun v2 => (Sum.inr v2) = w1) (fun v2 => ⟨[(2, .v (.c (.bool false)))], [], 1⟩) (.exit 0) (fun v2 hv => ?_) (fun hxs11 => ?_)
  ·
   subst hv; clear hl; replace hT := (sElimR hT)
   refine rInHit (rThen (zA hX ?_))
   refine rRet ?_
   have hy := Option.some.inj hT; subst hy
   exact zEnd0 hX rfl
  refine rLoopM (outbits_plain_b1 N a1) (fun s1 => ⟨[(2, .v (.c (.bool false))), (6, .v (.c (.ptr 0 0 0 0 0 0)))], [(0, .iter a1 s1)], 1⟩) hl (To.mk' [] 0 hε rfl zL zL) (fun s1 zs1 NNs1 hz hnexts1 houts1 => ?_)
  clear hl hT
  have hT := hz; clear hz
  refine rSeq (rRegSL ?_)
  replace hT := sIf hT; obtain ⟨o1, hT⟩ := hT
  refine rSLNext rfl rfl rfl rfl rfl rfl zZ rfl o1 rfl rfl (fun hb => ?_) (fun hb => ?_)
  ·
   replace hT := sT (decide_eq_true hb) hT
   refine rSLDone md0 hX rfl rfl rfl zP ?_
   refine rThen (rSeq (rCondT rfl rfl zP rfl ?_))
   refine rSkip (rThen (rBlock (zA hX ?_)))
   let x1 := (bif (decide (((Utf8.decode a1 s1).1 : Int) ≠ 48)) then (decide (((Utf8.decode a1 s1).1 : Int) ≠ 49)) else false)
   refine zA hX ?_
   refine zCond rfl rfl (fun hc => ?_) (fun hc => ?_)
   ·
    replace hT := sT hc hT
    refine zA hX ?_
    refine rRet (rInRet (rThenRet ?_))
    exact zTo [] 0 hε (hxs10 _ (houts1 _ (Option.some.inj hT).symm))
   ·
    replace hT := sF hc hT
    refine rSkip (rInNormal ?_)
    exact hnexts1 _ (Option.some.inj hT).symm _ (To.mk' [] 0 hε rfl zL zL)
  ·
   replace hT := sF (decide_eq_false hb) hT
   refine rSLDone md0 hX rfl rfl rfl zP ?_
   refine rThen (rSeq (rCondF rfl rfl zP rfl ?_))
   refine rExit (rThenExit (rThenExit ?_))
   exact zTo [] 0 hε (hxs11 _ (houts1 _ (Option.some.inj hT).symm))
 ·
  cases h
def overspill_outbits_Writer_Add_b1 (N : Nat) (a1 : ByteArray) (s1 : ((List Bool) × Nat)) : Option (((List Bool) × Nat) ⊕ (List Bool)) :=
 if (ByteArray.size a1 : Int) ≤ 9223372036854775807 then
  bif (decide (s1.2 < ByteArray.size a1)) then
   let c2 := (overspill_outbits_Writer_bit N (decide (((Utf8.decode a1 s1.2).1 : Int) = 49)) s1.1)
   if c2.isSome = true then
    some (.inl ((c2.getD default), (s1.2 + (Utf8.decode a1 s1.2).2)))
   else none
  else
   some (.inr s1.1)
 else none
def overspill_outbits_Writer_Add (N : Nat) (a1 : ByteArray) (a2 : (List Bool)) : Option (Int × (List Bool)) :=
 let c1 := (outbits_plain N a1)
 if ((!false) = true → c1.isSome = true) then
  bif (!(c1.getD default)) then
   some (1, a2)
  else
   (iter (overspill_outbits_Writer_Add_b1 N a1) N (a2, 0)).bind fun v1 =>
    some (0, v1)
 else none
def sp_overspill_outbits_Writer_Add (N : Nat) : X.Spec := fun args lk => match args with
 | [.v (.c (.ptr i0 0 0 0 0 0)), .v (.c (.str a1))] => (match lk i0 with
  | some (.obj 5 a2) => some ⟨(overspill_outbits_Writer_Add N a1 a2).isSome = true, .v (.c (.int .i64 ((overspill_outbits_Writer_Add N a1 a2).getD default).1)), [], [(i0, .obj 5 ((overspill_outbits_Writer_Add N a1 a2).getD default).2)]⟩
  | _ => none)
 | _ => none
set_option maxRecDepth 100000 in
set_option maxHeartbeats 1000000 in
theorem ok_overspill_outbits_Writer_Add (N : Nat) : FnOK Tryd.prog gt0 91 (sp_overspill_outbits_Writer_Add N) := by
 refine fnOK_handed Tryd.func91 rfl (by kernel_rfl) tt_ok (ktCons (ok_overspill_outbits_Writer_bit N) (ktCons (ok_outbits_plain N) (ktNil))) ?_
 intro args lk r h hp
 unfold sp_overspill_outbits_Writer_Add at h
 split at h
 ·
  rename_i i0 a1
  split at h
  ·
   rename_i a2 hl0
   cases h
   obtain ⟨x, hx⟩ := Option.isSome_iff_exists.1 hp
   simp only [hx, Option.getD_some]
   refine handL [i0] 1 [(0, .obj 5 a2)] [.v (.c (.ptr 0 0 0 0 0 0)), .v (.c (.str a1))] rfl rfl rfl ⟨isSome_of hl0, trivial⟩ ⟨⟨rfl, zT, _, hl0, .inl rfl⟩, trivial⟩ rfl (fun w0 M ε0 hX => ?_)
   refine rCount (fun hε => ?_)
   have hT : overspill_outbits_Writer_Add N a1 a2 = some x := hx; clear hx hp; unfold overspill_outbits_Writer_Add at hT
   refine zA hX ?_
   refine rSeq ?_
   let c1 := (outbits_plain N a1)
   replace hT := sIf hT; obtain ⟨o1, hT⟩ := hT
   refine rSeq (rRegC md0 hX rfl rfl rfl zO ?_)
   refine rThen ?_
   refine zCond rfl rfl (fun hc => ?_) (fun hc => ?_)
   ·
    replace hT := sT hc hT
    refine zA hX ?_
    refine rRet (rThenRet ?_)
    have hy := Option.some.inj hT; subst hy
    exact rEndA [] [] [(0, .obj 5 a2)] (.v (.c (.int .i64 1))) hX rfl zZ zL rfl rfl rfl zT rfl rfl zT rfl rfl
   ·
    replace hT := sF hc hT
    refine rSkip (rThen (rSeq (zA hX ?_)))
    refine rBlock ?_
    replace hT := sBind hT; obtain ⟨w1, hl, hT⟩ := hT
    refine rJoinA (fun v1 => v1 = w1) (fun v1 => ⟨[(4, .v (.c (.int .i64 0)))], [(0, .obj 5 v1)], 2⟩) (.exit 0) (fun v1 hv => ?_) (fun hxs10 => ?_)
    ·
     subst hv; clear hl
     refine rInHit (rThen (zA hX ?_))
     refine rRet ?_
     have hy := Option.some.inj hT; subst hy
     exact rEndA [] [] [(0, .obj 5 v1)] (.v (.c (.int .i64 0))) hX rfl zZ zL rfl rfl rfl zT rfl rfl zT rfl rfl
    refine rLoopM (overspill_outbits_Writer_Add_b1 N a1) (fun s1 => ⟨[(0, .v (.c (.ptr 0 0 0 0 0 0))), (4, .v (.c (.int .i64 0))), (15, .v (.c (.ptr 1 0 0 0 0 0)))], [(0, .obj 5 s1.1), (1, .iter a1 s1.2)], 2⟩) hl (To.mk' [] 1 hε rfl zL zL) (fun s1 zs1 NNs1 hz hnexts1 houts1 => ?_)
    clear hl hT
    have hT := hz; clear hz
    refine rSeq (rRegSL ?_)
    replace hT := sIf hT; obtain ⟨o1, hT⟩ := hT
    refine rSLNext rfl rfl rfl rfl rfl rfl zZ rfl o1 rfl rfl (fun hb => ?_) (fun hb => ?_)
    ·
     replace hT := sT (decide_eq_true hb) hT
     refine rSLDone md0 hX rfl rfl rfl zP ?_
     refine rThen (rSeq (rCondT rfl rfl zP rfl ?_))
     refine rSkip (rThen (rBlock (zA hX ?_)))
     let c2 := (overspill_outbits_Writer_bit N (decide (((Utf8.decode a1 s1.2).1 : Int) = 49)) s1.1)
     replace hT := sIf hT; obtain ⟨o1, hT⟩ := hT
     refine zReg md0 hX rfl rfl rfl ?_
     refine rInNormal ?_
     exact hnexts1 _ (Option.some.inj hT).symm _ (To.mk' [] 1 hε rfl zL zL)
    ·
     replace hT := sF (decide_eq_false hb) hT
     refine rSLDone md0 hX rfl rfl rfl zP ?_
     refine rThen (rSeq (rCondF rfl rfl zP rfl ?_))
     refine rExit (rThenExit (rThenExit ?_))
     exact zTo [] 1 hε (hxs10 _ (houts1 _ (Option.some.inj hT).symm))
  ·
   cases h
 ·
  cases h
def blocks_Put_b1 (N : Nat) (a3 : Zt10) (s1 : (Int × (List Bool))) : Option ((Int × (List Bool)) ⊕ (List Bool)) :=
 bif (decide (s1.1 < (a3.length : Int))) then
  if (0 : Int) ≤ s1.1 ∧ s1.1 < (a3.length : Int) then
   let c3 := (tcoef_Row N (a3.getD (s1.1).toNat Zd8).1 (a3.getD (s1.1).toNat Zd8).2.1 (a3.getD (s1.1).toNat Zd8).2.2)
   if c3.isSome = true then
    let c4 := (overspill_outbits_Writer_Add N (c3.getD default).1 s1.2)
    if c4.isSome = true then
     if inK .i64 (s1.1 + 1) then
      some (.inl ((s1.1 + 1), (c4.getD default).2))
     else none
    else none
   else none
  else none
 else
  some (.inr s1.2)
def blocks_Put (N : Nat) (a1 : Bool) (a2 : Int) (a3 : Zt10) (a4 : (List Bool)) : Option (Int × (List Bool)) :=
 let c1 := (blocks_may N a1 a2 a3)
 if c1.isSome = true then
  bif (!(c1.getD default)) then
   some (7, a4)
  else
   let c2 := (overspill_outbits_Writer_Put N (bif (decide (a2 = 128)) then 255 else a2) 8 a4)
   if (a1 = true → c2.isSome = true) then
    (iter (blocks_Put_b1 N a3) N (0, (bif a1 then (c2.getD default).2 else a4))).bind fun v1 =>
     some (0, v1)
   else none
 else none
def sp_blocks_Put (N : Nat) : X.Spec := fun args lk => match args with
 | [.v (.c (.ptr i0 0 0 0 0 0)), .v (.c (.bool a1)), .v (.c (.int .i64 a2)), .v (.c (.fz (.pair .bool (.pair (.int .i64) (.int .i64))) a3))] => (match lk i0 with
  | some (.obj 5 a4) => some ⟨(blocks_Put N a1 a2 a3 a4).isSome = true, .v (.c (.int .i64 ((blocks_Put N a1 a2 a3 a4).getD default).1)), [], [(i0, .obj 5 ((blocks_Put N a1 a2 a3 a4).getD default).2)]⟩
  | _ => none)
 | _ => none
set_option maxRecDepth 100000 in
set_option maxHeartbeats 1000000 in
theorem ok_blocks_Put (N : Nat) : FnOK Tryd.prog gt0 84 (sp_blocks_Put N) := by
 refine fnOK_handed Tryd.func84 rfl (by kernel_rfl) tt_ok (ktCons (ok_overspill_outbits_Writer_Add N) (ktCons (ok_tcoef_Row N) (ktCons (ok_overspill_outbits_Writer_Put N) (ktCons (ok_blocks_may N) (ktNil))))) ?_
 intro args lk r h hp
 unfold sp_blocks_Put at h
 split at h
 ·
  rename_i i0 a1 a2 a3
  split at h
  ·
   rename_i a4 hl0
   change Zt10 at a3
   cases h
   obtain ⟨x, hx⟩ := Option.isSome_iff_exists.1 hp
   simp only [hx, Option.getD_some]
   refine handL [i0] 1 [(0, .obj 5 a4)] [.v (.c (.ptr 0 0 0 0 0 0)), .v (.c (.bool a1)), .v (.c (.int .i64 a2)), .v (.c (.fz Zs3 a3))] rfl rfl rfl ⟨isSome_of hl0, trivial⟩ ⟨⟨rfl, zT, _, hl0, .inl rfl⟩, trivial⟩ rfl (fun w0 M ε0 hX => ?_)
   refine rCount (fun hε => ?_)
   have hT : blocks_Put N a1 a2 a3 a4 = some x := hx; clear hx hp; unfold blocks_Put at hT
   refine zA hX ?_
   refine rSeq (rBlock (zA hX ?_))
   refine rCondF rfl rfl zP rfl ?_
   let c1 := (blocks_may N a1 a2 a3)
   replace hT := sIf hT; obtain ⟨o1, hT⟩ := hT
   refine zA hX ?_
   refine zCond rfl rfl (fun hc => ?_) (fun hc => ?_)
   ·
    replace hT := sT hc hT
    refine zA hX ?_
    refine rRet (rInRet (rThenRet ?_))
    have hy := Option.some.inj hT; subst hy
    exact rEndA [] [] [(0, .obj 5 a4)] (.v (.c (.int .i64 7))) hX rfl zZ zL rfl rfl rfl zT rfl rfl zT rfl rfl
   ·
    replace hT := sF hc hT
    refine rSkip (rInNormal (rThen (rSeq (zA hX ?_))))
    refine rJoin ⟨[(0, .v (.c (.ptr 0 0 0 0 0 0))), (1, .v (.c (.bool a1))), (2, .v (.c (.int .i64 (bif (decide (a2 = 128)) then 255 else a2)))), (3, .v (.c (.fz Zs3 a3))), (8, .v (.c (.int .i64 0)))], [(0, .obj 5 a4)], 1⟩ ?_ (fun hj => ?_)
    ·
     refine rThen (rSeq (zA hX ?_))
     let c2 := (overspill_outbits_Writer_Put N (bif (decide (a2 = 128)) then 255 else a2) 8 a4)
     replace hT := sIf hT; obtain ⟨q1, hT⟩ := hT
     refine rJoin ⟨[(0, .v (.c (.ptr 0 0 0 0 0 0))), (3, .v (.c (.fz Zs3 a3))), (8, .v (.c (.int .i64 0)))], [(0, .obj 5 (bif a1 then (c2.getD default).2 else a4))], 1⟩ ?_ (fun hj => ?_)
     ·
      refine rThen (rSeq (zA hX ?_))
      refine rBlock ?_
      replace hT := sBind hT; obtain ⟨w1, hl, hT⟩ := hT
      refine rJoinA (fun v1 => v1 = w1) (fun v1 => ⟨[(8, .v (.c (.int .i64 0)))], [(0, .obj 5 v1)], 1⟩) (.exit 1) (fun v1 hv => ?_) (fun hxs10 => ?_)
      ·
       subst hv; clear hl
       refine rInHit (rThen (zA hX ?_))
       refine rRet ?_
       have hy := Option.some.inj hT; subst hy
       exact rEndA [] [] [(0, .obj 5 v1)] (.v (.c (.int .i64 0))) hX rfl zZ zL rfl rfl rfl zT rfl rfl zT rfl rfl
      refine rLoopM (blocks_Put_b1 N a3) (fun s1 => ⟨[(0, .v (.c (.ptr 0 0 0 0 0 0))), (8, .v (.c (.int .i64 0))), (28, .v (.c (.fz Zs3 a3))), (29, .v (.c (.int .i64 (a3.length : Int)))), (30, .v (.c (.int .i64 s1.1)))], [(0, .obj 5 s1.2)], 1⟩) hl (To.mk' [] 1 hε rfl zL zL) (fun s1 zs1 NNs1 hz hnexts1 houts1 => ?_)
      clear hl hT
      have hT := hz; clear hz
      refine zA hX ?_
      refine rSeq ?_
      refine zCond rfl rfl (fun hc => ?_) (fun hc => ?_)
      ·
       replace hT := sT hc hT
       refine rSkip (rThen (rSeq (rBlock ?_)))
       replace hT := sIf hT; obtain ⟨⟨o1, o2⟩, hT⟩ := hT
       refine zA hX ?_
       let c3 := (tcoef_Row N (a3.getD (s1.1).toNat Zd8).1 (a3.getD (s1.1).toNat Zd8).2.1 (a3.getD (s1.1).toNat Zd8).2.2)
       replace hT := sIf hT; obtain ⟨o1, hT⟩ := hT
       refine zA hX ?_
       let c4 := (overspill_outbits_Writer_Add N (c3.getD default).1 s1.2)
       replace hT := sIf hT; obtain ⟨o1, hT⟩ := hT
       refine zReg md0 hX rfl rfl rfl ?_
       refine rInNormal (rThen ?_)
       replace hT := sIf hT; obtain ⟨o1, hT⟩ := hT
       refine zReg md0 hX rfl rfl rfl ?_
       exact hnexts1 _ (Option.some.inj hT).symm _ (To.mk' [] 1 hε rfl zL zL)
      ·
       replace hT := sF hc hT
       refine rExit (rThenExit (rThenExit ?_))
       exact zTo [] 1 hε (hxs10 _ (houts1 _ (Option.some.inj hT).symm))
     ·
      clear hT
      refine zCond rfl rfl (fun hc => ?_) (fun hc => ?_)
      ·
       have q1 := q1 hc
       refine zReg md0 hX rfl rfl rfl ?_
       exact rTo (To.mk' [] 1 hε rfl zJ zJ) hj
      ·
       refine rSkip ?_
       exact rTo (To.mk' [] 1 hε rfl zJ zJ) hj
    ·
     clear hT
     refine zCond rfl rfl (fun hc => ?_) (fun hc => ?_)
     ·
      refine zReg md0 hX rfl rfl rfl ?_
      exact rTo (To.mk' [] 1 hε rfl zJ zJ) hj
     ·
      refine rSkip ?_
      exact rTo (To.mk' [] 1 hε rfl zJ zJ) hj
  ·
   cases h
 ·
  cases h
def cellout_Right_b1 (N : Nat) (a4 : Int) (a7 : (List Int)) (a8 : Zt8) (s1 : Int) : Option (Int ⊕ (Unit ⊕ Unit)) :=
 bif (decide (s1 < 6)) then
  let c6 := (outbits_New N)
  let c7 := (cellout_intra N a4)
  let c8 := (blocks_Put N (c7.getD default) (a7.getD (s1).toNat 0) (a8.getD (s1).toNat []) (c6.getD default))
  if c6.isSome = true ∧ c7.isSome = true ∧ (0 : Int) ≤ s1 ∧ s1 < 6 ∧ (s1).toNat < 6 ∧ c8.isSome = true then
   bif (decide ((c8.getD default).1 ≠ 0)) then
    some (.inr (Sum.inl ()))
   else
    if inK .i64 (s1 + 1) then
     some (.inl (s1 + 1))
    else none
  else none
 else
  some (.inr (Sum.inr ()))
def cellout_Right (N : Nat) (a1 : Bool) (a2 : Int) (a3 : Bool) (a4 : Int) (a5 : Int) (a6 : (List Int)) (a7 : (List Int)) (a8 : Zt8) : Option Bool :=
 bif (bif (decide (a2 < 0)) then true else (decide ((64 : Int) < a2))) then
  some false
 else
  bif a3 then
   let c1 := (cellout_bare N a2 a3 a4 a5 a6 a7 a8)
   if (a1 = true → c1.isSome = true) then
    some (bif a1 then (c1.getD default) else false)
   else none
  else
   let c2 := (cellout_intra N a4)
   let x1 := (bif (!(c2.getD default)) then (bif (!a1) then true else (bif (decide (a4 ≠ 0)) then (decide (a4 ≠ 1)) else false)) else false)
   if c2.isSome = true ∧ (((!(c2.getD default)) && (!(!a1))) = true → ((decide (a4 ≠ 0)) = true → (((!(c2.getD default)) && (!(!a1))) && (decide (a4 ≠ 0))) = true)) ∧ ((!(c2.getD default)) = true → ((!a1) = false → ((!(c2.getD default)) && (!(!a1))) = true)) then
    bif x1 then
     some false
    else
     let c3 := (steps_Row N a5)
     if c3.isSome = true then
      let c4 := (cellout_stepped N a4)
      let c5 := (cellout_vector N a2 a3 a4 a5 a6 a7 a8)
      let x4 := (bif (bif (!((c3.getD default).2 == (c4.getD default))) then true else (bif (!(c3.getD default).2) then (decide (a5 ≠ 0)) else false)) then true else (!(c5.getD default)))
      if c4.isSome = true ∧ ((!(!((c3.getD default).2 == (c4.getD default)))) = true → ((!(c3.getD default).2) = true → ((!(!((c3.getD default).2 == (c4.getD default)))) && (!(c3.getD default).2)) = true)) ∧ ((!(bif (!((c3.getD default).2 == (c4.getD default))) then true else (bif (!(c3.getD default).2) then (decide (a5 ≠ 0)) else false))) = true → c5.isSome = true) then
       bif x4 then
        some false
       else
        (iter (cellout_Right_b1 N a4 a7 a8) N 0).bind fun w1 =>
         (Sum.elim (fun v1 =>
          some false
         )
          (fun v2 =>
           some true
          )
         ) w1
      else none
     else none
   else none
def sp_cellout_Right (N : Nat) : X.Spec := fun args lk => match args with
 | [.v (.c (.bool a1)), .v (.agg [.cs [.int .i64 a2, .bool a3, .int .i64 a4, .int .i64 a5], .ints 2 .i64 a6, .ints 6 .i64 a7, .fzs 6 (.pair .bool (.pair (.int .i64) (.int .i64))) a8])] => some ⟨(cellout_Right N a1 a2 a3 a4 a5 a6 a7 a8).isSome = true, .v (.c (.bool ((cellout_Right N a1 a2 a3 a4 a5 a6 a7 a8).getD default))), [], []⟩
 | _ => none
set_option maxRecDepth 100000 in
set_option maxHeartbeats 1000000 in
theorem ok_cellout_Right (N : Nat) : FnOK Tryd.prog gt0 68 (sp_cellout_Right N) := by
 refine fnOK_handed Tryd.func68 rfl (by kernel_rfl) tt_ok (ktCons (ok_blocks_Put N) (ktCons (ok_outbits_New N) (ktCons (ok_cellout_vector N) (ktCons (ok_cellout_stepped N) (ktCons (ok_steps_Row N) (ktCons (ok_cellout_intra N) (ktCons (ok_cellout_bare N) (ktNil)))))))) ?_
 intro args lk r h hp
 unfold sp_cellout_Right at h
 split at h
 ·
  rename_i a1 a2 a3 a4 a5 a6 a7 a8
  change (List Int) at a6
  change (List Int) at a7
  change Zt8 at a8
  cases h
  obtain ⟨x, hx⟩ := Option.isSome_iff_exists.1 hp
  simp only [hx, Option.getD_some]
  refine hand0 rfl rfl (fun w0 M ε0 hX => ?_)
  refine rCount (fun hε => ?_)
  have hT : cellout_Right N a1 a2 a3 a4 a5 a6 a7 a8 = some x := hx; clear hx hp; unfold cellout_Right at hT
  refine zA hX ?_
  refine rSeq (zA hX ?_)
  refine zCond rfl rfl (fun hc => ?_) (fun hc => ?_)
  ·
   replace hT := sT hc hT
   refine zA hX ?_
   refine rRet (rThenRet ?_)
   have hy := Option.some.inj hT; subst hy
   exact zEnd0 hX rfl
  ·
   replace hT := sF hc hT
   refine rSkip (rThen (rSeq (zA hX ?_)))
   refine zCond rfl rfl (fun hc => ?_) (fun hc => ?_)
   ·
    replace hT := sT hc hT
    let c1 := (cellout_bare N a2 a3 a4 a5 a6 a7 a8)
    replace hT := sIf hT; obtain ⟨o1, hT⟩ := hT
    refine rSeq (rRegC md0 hX rfl rfl rfl zO ?_)
    refine rThen (rRet (rThenRet ?_))
    have hy := Option.some.inj hT; subst hy
    exact zEnd0 hX rfl
   ·
    replace hT := sF hc hT
    refine rSkip (rThen (rSeq ?_))
    let c2 := (cellout_intra N a4)
    let x1 := (bif (!(c2.getD default)) then (bif (!a1) then true else (bif (decide (a4 ≠ 0)) then (decide (a4 ≠ 1)) else false)) else false)
    replace hT := sIf hT; obtain ⟨⟨o1, o2, o3⟩, hT⟩ := hT
    refine rSeq (rRegC md0 hX rfl rfl rfl zO ?_)
    refine rThen ?_
    refine zCond rfl rfl (fun hc => ?_) (fun hc => ?_)
    ·
     replace hT := sT hc hT
     refine zA hX ?_
     refine rRet (rThenRet ?_)
     have hy := Option.some.inj hT; subst hy
     exact zEnd0 hX rfl
    ·
     replace hT := sF hc hT
     refine rSkip (rThen (rSeq ?_))
     let c3 := (steps_Row N a5)
     replace hT := sIf hT; obtain ⟨o1, hT⟩ := hT
     refine zA hX ?_
     let c4 := (cellout_stepped N a4)
     let c5 := (cellout_vector N a2 a3 a4 a5 a6 a7 a8)
     let x4 := (bif (bif (!((c3.getD default).2 == (c4.getD default))) then true else (bif (!(c3.getD default).2) then (decide (a5 ≠ 0)) else false)) then true else (!(c5.getD default)))
     replace hT := sIf hT; obtain ⟨⟨o1, o2, o3⟩, hT⟩ := hT
     refine rSeq (rRegC md0 hX rfl rfl rfl zO ?_)
     refine rThen ?_
     refine zCond rfl rfl (fun hc => ?_) (fun hc => ?_)
     ·
      replace hT := sT hc hT
      refine zA hX ?_
      refine rRet (rThenRet ?_)
      have hy := Option.some.inj hT; subst hy
      exact zEnd0 hX rfl
     ·
      replace hT := sF hc hT
      refine rSkip (rThen (rSeq (zA hX ?_)))
      refine rBlock ?_
      replace hT := sBind hT; obtain ⟨w1, hl, hT⟩ := hT
      refine rJoinA (fun v1 => (Sum.inl v1) = w1) (fun v1 => ⟨[(4, .v (.c (.bool false)))], [], 1⟩) .ret (fun v1 hv => ?_) (fun hxs10 => ?_)
      ·
       subst hv; clear hl; replace hT := (sElimL hT)
       refine rInRet (rThenRet ?_)
       have hy := Option.some.inj hT; subst hy
       exact zEnd0 hX rfl
      refine rJoinA (fun v2 => (Sum.inr v2) = w1) (fun v2 => ⟨[(4, .v (.c (.bool false)))], [], 1⟩) (.exit 0) (fun v2 hv => ?_) (fun hxs11 => ?_)
      ·
       subst hv; clear hl; replace hT := (sElimR hT)
       refine rInHit (rThen (zA hX ?_))
       refine rRet ?_
       have hy := Option.some.inj hT; subst hy
       exact zEnd0 hX rfl
      refine rLoopM (cellout_Right_b1 N a4 a7 a8) (fun s1 => ⟨[(3, .v (.c (.ptr 0 0 0 0 0 0))), (4, .v (.c (.bool false))), (66, .v (.c (.int .i64 s1)))], [(0, .mem true 42 none (.flat [.cs [.int .i64 a2, .bool a3, .int .i64 a4, .int .i64 a5], .ints 2 .i64 a6, .ints 6 .i64 a7, .fzs 6 Zs3 a8]))], 1⟩) hl (To.mk' [] 0 hε rfl zL zL) (fun s1 zs1 NNs1 hz hnexts1 houts1 => ?_)
      clear hl hT
      have hT := hz; clear hz
      refine zA hX ?_
      refine rSeq ?_
      refine zCond rfl rfl (fun hc => ?_) (fun hc => ?_)
      ·
       replace hT := sT hc hT
       refine rSkip (rThen (rSeq (rBlock (zA hX ?_))))
       let c6 := (outbits_New N)
       let c7 := (cellout_intra N a4)
       let c8 := (blocks_Put N (c7.getD default) (a7.getD (s1).toNat 0) (a8.getD (s1).toNat []) (c6.getD default))
       replace hT := sIf hT; obtain ⟨⟨o1, o2, o3, o4, o5, o6⟩, hT⟩ := hT
       refine rSeq (rDrawA md0 0 0 12 [] hX mixed rfl rfl rfl rfl rfl rfl rfl rfl rfl rfl rfl rfl rfl rfl rfl zL rfl rfl zP ?_)
       refine rThen ?_
       refine zCond rfl rfl (fun hc => ?_) (fun hc => ?_)
       ·
        replace hT := sT hc hT
        refine zA hX ?_
        refine rRet (rInRet (rThenRet (rThenRet ?_)))
        exact zTo [] 0 hε (hxs10 _ (houts1 _ (Option.some.inj hT).symm))
       ·
        replace hT := sF hc hT
        refine rSkip (rInNormal (rThen ?_))
        replace hT := sIf hT; obtain ⟨o1, hT⟩ := hT
        refine zReg md0 hX rfl rfl rfl ?_
        exact hnexts1 _ (Option.some.inj hT).symm _ (To.mk' [] 0 hε rfl zL zL)
      ·
       replace hT := sF hc hT
       refine rExit (rThenExit (rThenExit ?_))
       exact zTo [] 0 hε (hxs11 _ (houts1 _ (Option.some.inj hT).symm))
 ·
  cases h
def overspill_sound_sheet_row_b1 (N : Nat) (a4 : Bool) (a6 : Zt1) (a8 : Int) (s1 : Int) : Option (Int ⊕ (Unit ⊕ Unit)) :=
 let x13 := (decide (s1 < ((a6.getD (a8).toNat Zd7).2.2.2.length : Int)))
 bif x13 then
  let x15 := ((a6.getD (a8).toNat Zd7).2.2.2.getD (s1).toNat Zd1).1
  let x16 := ((a6.getD (a8).toNat Zd7).2.2.2.getD (s1).toNat Zd1).2.1
  let x17 := ((a6.getD (a8).toNat Zd7).2.2.2.getD (s1).toNat Zd1).2.2.1
  let x18 := ((a6.getD (a8).toNat Zd7).2.2.2.getD (s1).toNat Zd1).2.2.2.1
  let x19 : (List Int) := ((a6.getD (a8).toNat Zd7).2.2.2.getD (s1).toNat Zd1).2.2.2.2.1
  let x20 : (List Int) := ((a6.getD (a8).toNat Zd7).2.2.2.getD (s1).toNat Zd1).2.2.2.2.2.1
  let x21 := ((a6.getD (a8).toNat Zd7).2.2.2.getD (s1).toNat Zd1).2.2.2.2.2.2
  if (0 : Int) ≤ s1 ∧ s1 < ((a6.getD (a8).toNat Zd7).2.2.2.length : Int) then
   let c3 := (cellout_Right N a4 x15 x16 x17 x18 x19 x20 x21)
   if c3.isSome = true then
    bif (!(c3.getD default)) then
     some (.inr (Sum.inl ()))
    else
     if inK .i64 (s1 + 1) then
      some (.inl (s1 + 1))
     else none
   else none
  else none
 else
  some (.inr (Sum.inr ()))
def overspill_sound_sheet_row (N : Nat) (a1 : Int) (a2 : Int) (a3 : Int) (a4 : Bool) (a5 : Int) (a6 : Zt1) (a7 : Int) (a8 : Int) : Option Bool :=
 let c1 := (formats_Cells N a3)
 if c1.isSome = true then
  let c2 := (formats_Rows N a3)
  if c2.isSome = true then
   if (0 : Int) ≤ a8 ∧ a8 < (a6.length : Int) then
    let x1 := (decide (((a6.getD (a8).toNat Zd7).2.2.2.length : Int) ≠ ((c1.getD default).1 * (c2.getD default).2)))
    if inK .i64 ((c1.getD default).1 * (c2.getD default).2) then
     bif x1 then
      some false
     else
      let x4 := (bif (!(a6.getD (a8).toNat Zd7).1) then (bif (decide ((a6.getD (a8).toNat Zd7).2.1 ≠ 0)) then true else (decide ((a6.getD (a8).toNat Zd7).2.2.1 ≠ 0))) else false)
      if ((!(a6.getD (a8).toNat Zd7).1) = true → ((decide ((a6.getD (a8).toNat Zd7).2.1 ≠ 0)) = false → ((!(a6.getD (a8).toNat Zd7).1) && (!(decide ((a6.getD (a8).toNat Zd7).2.1 ≠ 0)))) = true)) then
       bif x4 then
        some false
       else
        let x12 := (bif (a6.getD (a8).toNat Zd7).1 then (bif (bif (bif (bif (decide (a8 = 0)) then true else (decide ((a6.getD (a8).toNat Zd7).2.1 < 0))) then true else (decide ((3 : Int) < (a6.getD (a8).toNat Zd7).2.1))) then true else (decide ((a6.getD (a8).toNat Zd7).2.2.1 < 1))) then true else (decide ((31 : Int) < (a6.getD (a8).toNat Zd7).2.2.1))) else false)
        if ((a6.getD (a8).toNat Zd7).1 = true → ((decide (a8 = 0)) = false → ((a6.getD (a8).toNat Zd7).1 && (!(decide (a8 = 0)))) = true)) ∧ ((a6.getD (a8).toNat Zd7).1 = true → ((bif (decide (a8 = 0)) then true else (decide ((a6.getD (a8).toNat Zd7).2.1 < 0))) = false → ((a6.getD (a8).toNat Zd7).1 && (!(bif (decide (a8 = 0)) then true else (decide ((a6.getD (a8).toNat Zd7).2.1 < 0))))) = true)) ∧ ((a6.getD (a8).toNat Zd7).1 = true → ((bif (bif (decide (a8 = 0)) then true else (decide ((a6.getD (a8).toNat Zd7).2.1 < 0))) then true else (decide ((3 : Int) < (a6.getD (a8).toNat Zd7).2.1))) = false → ((a6.getD (a8).toNat Zd7).1 && (!(bif (bif (decide (a8 = 0)) then true else (decide ((a6.getD (a8).toNat Zd7).2.1 < 0))) then true else (decide ((3 : Int) < (a6.getD (a8).toNat Zd7).2.1))))) = true)) ∧ ((a6.getD (a8).toNat Zd7).1 = true → ((bif (bif (bif (decide (a8 = 0)) then true else (decide ((a6.getD (a8).toNat Zd7).2.1 < 0))) then true else (decide ((3 : Int) < (a6.getD (a8).toNat Zd7).2.1))) then true else (decide ((a6.getD (a8).toNat Zd7).2.2.1 < 1))) = false → ((a6.getD (a8).toNat Zd7).1 && (!(bif (bif (bif (decide (a8 = 0)) then true else (decide ((a6.getD (a8).toNat Zd7).2.1 < 0))) then true else (decide ((3 : Int) < (a6.getD (a8).toNat Zd7).2.1))) then true else (decide ((a6.getD (a8).toNat Zd7).2.2.1 < 1))))) = true)) then
         bif x12 then
          some false
         else
          (iter (overspill_sound_sheet_row_b1 N a4 a6 a8) N 0).bind fun w1 =>
           (Sum.elim (fun v1 =>
            some false
           )
            (fun v2 =>
             some true
            )
           ) w1
        else none
      else none
    else none
   else none
  else none
 else none
def sp_overspill_sound_sheet_row (N : Nat) : X.Spec := fun args lk => match args with
 | [.v (.agg [.cs [.int .i64 a1, .int .i64 a2, .int .i64 a3, .bool a4, .int .i64 a5, .val (.slice none 0 0), .fz (.pair .bool (.pair (.int .i64) (.pair (.int .i64) (.sl (.pair (.int .i64) (.pair .bool (.pair (.int .i64) (.pair (.int .i64) (.pair (.arr 2 .i64) (.pair (.arr 6 .i64) (.arrS 6 (.pair .bool (.pair (.int .i64) (.int .i64)))))))))))))) a6, .int .i64 a7]]), .v (.c (.int .i64 a8))] => some ⟨(overspill_sound_sheet_row N a1 a2 a3 a4 a5 a6 a7 a8).isSome = true, .v (.c (.bool ((overspill_sound_sheet_row N a1 a2 a3 a4 a5 a6 a7 a8).getD default))), [], []⟩
 | _ => none
set_option maxRecDepth 100000 in
set_option maxHeartbeats 1000000 in
theorem ok_overspill_sound_sheet_row (N : Nat) : FnOK Tryd.prog gt0 38 (sp_overspill_sound_sheet_row N) := by
 refine fnOK_handed Tryd.func38 rfl (by kernel_rfl) tt_ok (ktCons (ok_cellout_Right N) (ktCons (ok_formats_Rows N) (ktCons (ok_formats_Cells N) (ktNil)))) ?_
 intro args lk r h hp
 unfold sp_overspill_sound_sheet_row at h
 split at h
 ·
  rename_i a1 a2 a3 a4 a5 a6 a7 a8
  change Zt1 at a6
  cases h
  obtain ⟨x, hx⟩ := Option.isSome_iff_exists.1 hp
  simp only [hx, Option.getD_some]
  refine hand0 rfl rfl (fun w0 M ε0 hX => ?_)
  refine rCount (fun hε => ?_)
  have hT : overspill_sound_sheet_row N a1 a2 a3 a4 a5 a6 a7 a8 = some x := hx; clear hx hp; unfold overspill_sound_sheet_row at hT
  refine zA hX ?_
  let c1 := (formats_Cells N a3)
  replace hT := sIf hT; obtain ⟨o1, hT⟩ := hT
  refine zA hX ?_
  let c2 := (formats_Rows N a3)
  replace hT := sIf hT; obtain ⟨o1, hT⟩ := hT
  refine zA hX ?_
  replace hT := sIf hT; obtain ⟨⟨o1, o2⟩, hT⟩ := hT
  refine zA hX ?_
  refine rSeq (rBlock ?_)
  let x1 := (decide (((a6.getD (a8).toNat Zd7).2.2.2.length : Int) ≠ ((c1.getD default).1 * (c2.getD default).2)))
  replace hT := sIf hT; obtain ⟨o1, hT⟩ := hT
  refine zA hX ?_
  refine zCond rfl rfl (fun hc => ?_) (fun hc => ?_)
  ·
   replace hT := sT hc hT
   refine zA hX ?_
   refine rRet (rInRet (rThenRet ?_))
   have hy := Option.some.inj hT; subst hy
   exact zEnd0 hX rfl
  ·
   replace hT := sF hc hT
   let x4 := (bif (!(a6.getD (a8).toNat Zd7).1) then (bif (decide ((a6.getD (a8).toNat Zd7).2.1 ≠ 0)) then true else (decide ((a6.getD (a8).toNat Zd7).2.2.1 ≠ 0))) else false)
   replace hT := sIf hT; obtain ⟨o1, hT⟩ := hT
   refine rSeq (rRegC md0 hX rfl rfl rfl zO ?_)
   refine rThen ?_
   refine zCond rfl rfl (fun hc => ?_) (fun hc => ?_)
   ·
    replace hT := sT hc hT
    refine zA hX ?_
    refine rRet (rInRet (rThenRet ?_))
    have hy := Option.some.inj hT; subst hy
    exact zEnd0 hX rfl
   ·
    replace hT := sF hc hT
    let x12 := (bif (a6.getD (a8).toNat Zd7).1 then (bif (bif (bif (bif (decide (a8 = 0)) then true else (decide ((a6.getD (a8).toNat Zd7).2.1 < 0))) then true else (decide ((3 : Int) < (a6.getD (a8).toNat Zd7).2.1))) then true else (decide ((a6.getD (a8).toNat Zd7).2.2.1 < 1))) then true else (decide ((31 : Int) < (a6.getD (a8).toNat Zd7).2.2.1))) else false)
    replace hT := sIf hT; obtain ⟨⟨o1, o2, o3, o4⟩, hT⟩ := hT
    refine rSeq (rRegC md0 hX rfl rfl rfl zO ?_)
    refine rThen ?_
    refine zCond rfl rfl (fun hc => ?_) (fun hc => ?_)
    ·
     replace hT := sT hc hT
     refine zA hX ?_
     refine rRet (rInRet (rThenRet ?_))
     have hy := Option.some.inj hT; subst hy
     exact zEnd0 hX rfl
    ·
     replace hT := sF hc hT
     refine rSkip (rInNormal (rThen (rSeq (zA hX ?_))))
     refine rBlock ?_
     replace hT := sBind hT; obtain ⟨w1, hl, hT⟩ := hT
     refine rJoinA (fun v1 => (Sum.inl v1) = w1) (fun v1 => ⟨[(4, .v (.c (.bool false)))], [], 2⟩) .ret (fun v1 hv => ?_) (fun hxs10 => ?_)
     ·
      subst hv; clear hl; replace hT := (sElimL hT)
      refine rInRet (rThenRet ?_)
      have hy := Option.some.inj hT; subst hy
      exact zEnd0 hX rfl
     refine rJoinA (fun v2 => (Sum.inr v2) = w1) (fun v2 => ⟨[(4, .v (.c (.bool false)))], [], 2⟩) (.exit 1) (fun v2 hv => ?_) (fun hxs11 => ?_)
     ·
      subst hv; clear hl; replace hT := (sElimR hT)
      refine rInHit (rThen (zA hX ?_))
      refine rRet ?_
      have hy := Option.some.inj hT; subst hy
      exact zEnd0 hX rfl
     refine rLoopM (overspill_sound_sheet_row_b1 N a4 a6 a8) (fun s1 => ⟨[(2, .v (.c (.ptr 0 0 0 0 0 0))), (4, .v (.c (.bool false))), (79, .v (.c (.fz Zs2 (a6.getD (a8).toNat Zd7).2.2.2))), (80, .v (.c (.int .i64 ((a6.getD (a8).toNat Zd7).2.2.2.length : Int)))), (81, .v (.c (.int .i64 s1)))], [(0, .mem true 67 none (.flat [.cs [.int .i64 a1, .int .i64 a2, .int .i64 a3, .bool a4, .int .i64 a5, .val (.slice none 0 0), .fz Zs1 a6, .int .i64 a7]]))], 2⟩) hl (To.mk' [] 0 hε rfl zL zL) (fun s1 zs1 NNs1 hz hnexts1 houts1 => ?_)
     clear hl hT
     have hT := hz; clear hz
     let x13 := (decide (s1 < ((a6.getD (a8).toNat Zd7).2.2.2.length : Int)))
     refine zA hX ?_
     refine rSeq ?_
     refine zCond rfl rfl (fun hc => ?_) (fun hc => ?_)
     ·
      replace hT := sT hc hT
      refine rSkip (rThen (rSeq (rBlock ?_)))
      let x15 := ((a6.getD (a8).toNat Zd7).2.2.2.getD (s1).toNat Zd1).1
      let x16 := ((a6.getD (a8).toNat Zd7).2.2.2.getD (s1).toNat Zd1).2.1
      let x17 := ((a6.getD (a8).toNat Zd7).2.2.2.getD (s1).toNat Zd1).2.2.1
      let x18 := ((a6.getD (a8).toNat Zd7).2.2.2.getD (s1).toNat Zd1).2.2.2.1
      let x19 : (List Int) := ((a6.getD (a8).toNat Zd7).2.2.2.getD (s1).toNat Zd1).2.2.2.2.1
      let x20 : (List Int) := ((a6.getD (a8).toNat Zd7).2.2.2.getD (s1).toNat Zd1).2.2.2.2.2.1
      let x21 := ((a6.getD (a8).toNat Zd7).2.2.2.getD (s1).toNat Zd1).2.2.2.2.2.2
      replace hT := sIf hT; obtain ⟨⟨o1, o2⟩, hT⟩ := hT
      refine zA hX ?_
      let c3 := (cellout_Right N a4 x15 x16 x17 x18 x19 x20 x21)
      replace hT := sIf hT; obtain ⟨o1, hT⟩ := hT
      refine zA hX ?_
      refine zCond rfl rfl (fun hc => ?_) (fun hc => ?_)
      ·
       replace hT := sT hc hT
       refine zA hX ?_
       refine rRet (rInRet (rThenRet (rThenRet ?_)))
       exact zTo [] 0 hε (hxs10 _ (houts1 _ (Option.some.inj hT).symm))
      ·
       replace hT := sF hc hT
       refine rSkip (rInNormal (rThen ?_))
       replace hT := sIf hT; obtain ⟨o1, hT⟩ := hT
       refine zReg md0 hX rfl rfl rfl ?_
       exact hnexts1 _ (Option.some.inj hT).symm _ (To.mk' [] 0 hε rfl zL zL)
     ·
      replace hT := sF hc hT
      refine rExit (rThenExit (rThenExit ?_))
      exact zTo [] 0 hε (hxs11 _ (houts1 _ (Option.some.inj hT).symm))
 ·
  cases h
def sound_every_row_b1 (N : Nat) (a1 : Int) (a2 : Int) (a3 : Int) (a4 : Int) (a5 : Bool) (a6 : Int) (a7 : Zt1) (a8 : Int) (s1 : Int) : Option (Int ⊕ (Unit ⊕ Unit)) :=
 bif (decide (s1 < a1)) then
  let c1 := (overspill_sound_sheet_row N a2 a3 a4 a5 a6 a7 a8 s1)
  if c1.isSome = true then
   bif (!(c1.getD default)) then
    some (.inr (Sum.inl ()))
   else
    if inK .i64 (s1 + 1) then
     some (.inl (s1 + 1))
    else none
  else none
 else
  some (.inr (Sum.inr ()))
def sound_every_row (N : Nat) (a1 : Int) (a2 : Int) (a3 : Int) (a4 : Int) (a5 : Bool) (a6 : Int) (a7 : Zt1) (a8 : Int) : Option Bool :=
 (iter (sound_every_row_b1 N a1 a2 a3 a4 a5 a6 a7 a8) N 0).bind fun w1 =>
  (Sum.elim (fun v1 =>
   some false
  )
   (fun v2 =>
    some true
   )
  ) w1
def sp_sound_every_row (N : Nat) : X.Spec := fun args lk => match args with
 | [.v (.c (.int .i64 a1)), .fnv 38 [.agg [.cs [.int .i64 a2, .int .i64 a3, .int .i64 a4, .bool a5, .int .i64 a6, .val (.slice none 0 0), .fz (.pair .bool (.pair (.int .i64) (.pair (.int .i64) (.sl (.pair (.int .i64) (.pair .bool (.pair (.int .i64) (.pair (.int .i64) (.pair (.arr 2 .i64) (.pair (.arr 6 .i64) (.arrS 6 (.pair .bool (.pair (.int .i64) (.int .i64)))))))))))))) a7, .int .i64 a8]]] []] => some ⟨(sound_every_row N a1 a2 a3 a4 a5 a6 a7 a8).isSome = true, .v (.c (.bool ((sound_every_row N a1 a2 a3 a4 a5 a6 a7 a8).getD default))), [], []⟩
 | _ => none
set_option maxRecDepth 100000 in
set_option maxHeartbeats 1000000 in
theorem ok_sound_every_row (N : Nat) : FnOK Tryd.prog gt0 37 (sp_sound_every_row N) := by
 refine fnOK_handed Tryd.func37 rfl (by kernel_rfl) tt_ok (ktCons (ok_overspill_sound_sheet_row N) (ktNil)) ?_
 intro args lk r h hp
 unfold sp_sound_every_row at h
 split at h
 ·
  rename_i a1 a2 a3 a4 a5 a6 a7 a8
  change Zt1 at a7
  cases h
  obtain ⟨x, hx⟩ := Option.isSome_iff_exists.1 hp
  simp only [hx, Option.getD_some]
  refine hand0 rfl rfl (fun w0 M ε0 hX => ?_)
  refine rCount (fun hε => ?_)
  have hT : sound_every_row N a1 a2 a3 a4 a5 a6 a7 a8 = some x := hx; clear hx hp; unfold sound_every_row at hT
  refine zA hX ?_
  refine rSeq (zA hX ?_)
  refine rBlock ?_
  replace hT := sBind hT; obtain ⟨w1, hl, hT⟩ := hT
  refine rJoinA (fun v1 => (Sum.inl v1) = w1) (fun v1 => ⟨[(4, .v (.c (.bool false)))], [], 0⟩) .ret (fun v1 hv => ?_) (fun hxs10 => ?_)
  ·
   subst hv; clear hl; replace hT := (sElimL hT)
   refine rInRet (rThenRet ?_)
   have hy := Option.some.inj hT; subst hy
   exact zEnd0 hX rfl
  refine rJoinA (fun v2 => (Sum.inr v2) = w1) (fun v2 => ⟨[(4, .v (.c (.bool false)))], [], 0⟩) (.exit 0) (fun v2 hv => ?_) (fun hxs11 => ?_)
  ·
   subst hv; clear hl; replace hT := (sElimR hT)
   refine rInHit (rThen (zA hX ?_))
   refine rRet ?_
   have hy := Option.some.inj hT; subst hy
   exact zEnd0 hX rfl
  refine rLoopM (sound_every_row_b1 N a1 a2 a3 a4 a5 a6 a7 a8) (fun s1 => ⟨[(1, .fnv 38 [.agg [.cs [.int .i64 a2, .int .i64 a3, .int .i64 a4, .bool a5, .int .i64 a6, .val (.slice none 0 0), .fz Zs1 a7, .int .i64 a8]]] []), (4, .v (.c (.bool false))), (6, .v (.c (.int .i64 a1))), (7, .v (.c (.int .i64 s1)))], [], 0⟩) hl (To.mk' [] 0 hε rfl zL zL) (fun s1 zs1 NNs1 hz hnexts1 houts1 => ?_)
  clear hl hT
  have hT := hz; clear hz
  refine zA hX ?_
  refine rSeq ?_
  refine zCond rfl rfl (fun hc => ?_) (fun hc => ?_)
  ·
   replace hT := sT hc hT
   refine rSkip (rThen (rSeq (rBlock (zA hX ?_))))
   let c1 := (overspill_sound_sheet_row N a2 a3 a4 a5 a6 a7 a8 s1)
   replace hT := sIf hT; obtain ⟨o1, hT⟩ := hT
   refine zA hX ?_
   refine zCond rfl rfl (fun hc => ?_) (fun hc => ?_)
   ·
    replace hT := sT hc hT
    refine zA hX ?_
    refine rRet (rInRet (rThenRet (rThenRet ?_)))
    exact zTo [] 0 hε (hxs10 _ (houts1 _ (Option.some.inj hT).symm))
   ·
    replace hT := sF hc hT
    refine rSkip (rInNormal (rThen ?_))
    replace hT := sIf hT; obtain ⟨o1, hT⟩ := hT
    refine zReg md0 hX rfl rfl rfl ?_
    exact hnexts1 _ (Option.some.inj hT).symm _ (To.mk' [] 0 hε rfl zL zL)
  ·
   replace hT := sF hc hT
   refine rExit (rThenExit (rThenExit ?_))
   exact zTo [] 0 hε (hxs11 _ (houts1 _ (Option.some.inj hT).symm))
 ·
  cases h
def slices_Clone_overspill_api_Event_overspill_api_Event (N : Nat) (a1 : Zt10) : Option Zt10 :=
 if ([] : List (Bool × (Int × Int))).length = 0 ∧ (0 + a1.length) * 24 ≤ 140737488355328 ∧ 0 + a1.length ≤ 9223372036854775807 then
  if (0 + a1.length) = (([] : List (Bool × (Int × Int))) ++ a1).length then
   some (([] : List (Bool × (Int × Int))) ++ a1)
  else none
 else none
def sp_slices_Clone_overspill_api_Event_overspill_api_Event (N : Nat) : X.Spec := fun args lk => match args with
 | [.v (.c (.fz (.pair .bool (.pair (.int .i64) (.int .i64))) a1))] => some ⟨(slices_Clone_overspill_api_Event_overspill_api_Event N a1).isSome = true, .v (.c (.fz Zs3 ((slices_Clone_overspill_api_Event_overspill_api_Event N a1).getD default))), [], []⟩
 | _ => none
set_option maxRecDepth 100000 in
set_option maxHeartbeats 1000000 in
theorem ok_slices_Clone_overspill_api_Event_overspill_api_Event (N : Nat) : FnOK Tryd.prog gt0 74 (sp_slices_Clone_overspill_api_Event_overspill_api_Event N) := by
 refine fnOK_handed Tryd.func74 rfl (by kernel_rfl) tt_ok (ktNil) ?_
 intro args lk r h hp
 unfold sp_slices_Clone_overspill_api_Event_overspill_api_Event at h
 split at h
 ·
  rename_i a1
  change Zt10 at a1
  cases h
  obtain ⟨x, hx⟩ := Option.isSome_iff_exists.1 hp
  simp only [hx, Option.getD_some]
  refine hand0 rfl rfl (fun w0 M ε0 hX => ?_)
  refine rCount (fun hε => ?_)
  have hT : slices_Clone_overspill_api_Event_overspill_api_Event N a1 = some x := hx; clear hx hp; unfold slices_Clone_overspill_api_Event_overspill_api_Event at hT
  refine zA hX ?_
  refine rSeq (rSeq (rRegSL ?_))
  refine rSLStop md0 hX rfl rfl rfl zP ?_
  refine rSLNil hX rfl rfl rfl rfl rfl rfl (by first | trivial | assumption) rfl rfl rfl (fun hn => ?_) ?_
  ·
   replace hT : (
    some []
    : Option Zt10) = some x := by
    (try subst hn); (repeat (replace hT := (sIf hT).2)); exact hT
   refine rSLDone md0 hX rfl rfl rfl zP ?_
   refine rThen (rCondT rfl rfl zP rfl ?_)
   refine zA hX ?_
   refine rRet (rThenRet ?_)
   have hy := Option.some.inj hT; subst hy
   exact zEnd0 hX rfl
  ·
   refine rSLDone md0 hX rfl rfl rfl zP ?_
   refine rThen (rCondF rfl rfl zP rfl ?_)
   refine rSkip (rThen (rSeq (rRegSL ?_)))
   refine rSLCut md0 2 hX rfl rfl rfl zP ?_
   refine rLstL 0 Zs3 [] rfl rfl rfl ?_
   replace hT := sIf hT; obtain ⟨⟨o1, o2, o3⟩, hT⟩ := hT
   refine rSLDone md0 hX rfl rfl rfl zP ?_
   refine rThen (rRet ?_)
   replace hT := sIf hT; obtain ⟨p1, hT⟩ := hT
   refine rFreezeQ 1 Zs3 (([] : List (Bool × (Int × Int))) ++ a1) [(2, .v (.c (.fz Zs3 (([] : List (Bool × (Int × Int))) ++ a1))))] [] rfl rfl zF zF ?_
   have hy := Option.some.inj hT; subst hy
   exact zEnd0 hX rfl
 ·
  cases h
def sound_own_b1 (N : Nat) (a7 : Zt8) (s1 : (Int × (List (List (Bool × (Int × Int)))))) : Option ((Int × (List (List (Bool × (Int × Int))))) ⊕ Zt8) :=
 bif (decide (s1.1 < 6)) then
  if (0 : Int) ≤ s1.1 ∧ s1.1 < 6 ∧ (s1.1).toNat < 6 then
   let c1 := (slices_Clone_overspill_api_Event_overspill_api_Event N (a7.getD (s1.1).toNat []))
   if c1.isSome = true ∧ (0 : Int) ≤ s1.1 ∧ s1.1 < 6 ∧ (s1.1).toNat < 6 then
    if inK .i64 (s1.1 + 1) then
     some (.inl ((s1.1 + 1), (s1.2.set (s1.1).toNat (c1.getD default))))
    else none
   else none
  else none
 else
  some (.inr s1.2)
def sound_own (N : Nat) (a1 : Int) (a2 : Bool) (a3 : Int) (a4 : Int) (a5 : (List Int)) (a6 : (List Int)) (a7 : Zt8) : Option (Int × Bool × Int × Int × (List Int) × (List Int) × (List (List (Bool × (Int × Int))))) :=
 (iter (sound_own_b1 N a7) N (0, a7)).bind fun v1 =>
  some (a1, a2, a3, a4, a5, a6, v1)
def sp_sound_own (N : Nat) : X.Spec := fun args lk => match args with
 | [.v (.agg [.cs [.int .i64 a1, .bool a2, .int .i64 a3, .int .i64 a4], .ints 2 .i64 a5, .ints 6 .i64 a6, .fzs 6 (.pair .bool (.pair (.int .i64) (.int .i64))) a7])] => some ⟨(sound_own N a1 a2 a3 a4 a5 a6 a7).isSome = true, .v (.agg [.cs [.int .i64 ((sound_own N a1 a2 a3 a4 a5 a6 a7).getD default).1, .bool ((sound_own N a1 a2 a3 a4 a5 a6 a7).getD default).2.1, .int .i64 ((sound_own N a1 a2 a3 a4 a5 a6 a7).getD default).2.2.1, .int .i64 ((sound_own N a1 a2 a3 a4 a5 a6 a7).getD default).2.2.2.1], .ints 2 .i64 ((sound_own N a1 a2 a3 a4 a5 a6 a7).getD default).2.2.2.2.1, .ints 6 .i64 ((sound_own N a1 a2 a3 a4 a5 a6 a7).getD default).2.2.2.2.2.1, .fzs 6 Zs3 ((sound_own N a1 a2 a3 a4 a5 a6 a7).getD default).2.2.2.2.2.2]), [], []⟩
 | _ => none
set_option maxRecDepth 100000 in
set_option maxHeartbeats 1000000 in
theorem ok_sound_own (N : Nat) : FnOK Tryd.prog gt0 45 (sp_sound_own N) := by
 refine fnOK_handed Tryd.func45 rfl (by kernel_rfl) tt_ok (ktCons (ok_slices_Clone_overspill_api_Event_overspill_api_Event N) (ktNil)) ?_
 intro args lk r h hp
 unfold sp_sound_own at h
 split at h
 ·
  rename_i a1 a2 a3 a4 a5 a6 a7
  change (List Int) at a5
  change (List Int) at a6
  change Zt8 at a7
  cases h
  obtain ⟨x, hx⟩ := Option.isSome_iff_exists.1 hp
  simp only [hx, Option.getD_some]
  refine hand0 rfl rfl (fun w0 M ε0 hX => ?_)
  refine rCount (fun hε => ?_)
  have hT : sound_own N a1 a2 a3 a4 a5 a6 a7 = some x := hx; clear hx hp; unfold sound_own at hT
  refine zA hX ?_
  refine rSeq (zA hX ?_)
  refine rBlock ?_
  replace hT := sBind hT; obtain ⟨w1, hl, hT⟩ := hT
  refine rJoinA (fun v1 => v1 = w1) (fun v1 => ⟨[(1, .v (.c (.ptr 0 0 0 0 0 0))), (2, .v (.c (.ptr 1 0 0 0 0 0)))], [(0, .mem true 42 none (.flat [.cs [.int .i64 a1, .bool a2, .int .i64 a3, .int .i64 a4], .ints 2 .i64 a5, .ints 6 .i64 a6, .fzs 6 Zs3 v1])), (1, .mem true 42 none (.flat [.cs [.int .i64 0, .bool false, .int .i64 0, .int .i64 0], .ints 2 .i64 (List.replicate 2 0), .ints 6 .i64 (List.replicate 6 0), .fzs 6 Zs3 (List.replicate 6 [])]))], 2⟩) (.exit 0) (fun v1 hv => ?_) (fun hxs10 => ?_)
  ·
   subst hv; clear hl
   refine rInHit (rThen (zA hX ?_))
   refine rRet ?_
   have hy := Option.some.inj hT; subst hy
   exact zEnd0 hX rfl
  refine rLoopM (sound_own_b1 N a7) (fun s1 => ⟨[(1, .v (.c (.ptr 0 0 0 0 0 0))), (2, .v (.c (.ptr 1 0 0 0 0 0))), (6, .v (.agg [.fzs 6 Zs3 a7])), (7, .v (.c (.int .i64 s1.1)))], [(0, .mem true 42 none (.flat [.cs [.int .i64 a1, .bool a2, .int .i64 a3, .int .i64 a4], .ints 2 .i64 a5, .ints 6 .i64 a6, .fzs 6 Zs3 s1.2])), (1, .mem true 42 none (.flat [.cs [.int .i64 0, .bool false, .int .i64 0, .int .i64 0], .ints 2 .i64 (List.replicate 2 0), .ints 6 .i64 (List.replicate 6 0), .fzs 6 Zs3 (List.replicate 6 [])]))], 2⟩) hl (To.mk' [] 0 hε rfl zL zL) (fun s1 zs1 NNs1 hz hnexts1 houts1 => ?_)
  clear hl hT
  have hT := hz; clear hz
  refine zA hX ?_
  refine rSeq ?_
  refine zCond rfl rfl (fun hc => ?_) (fun hc => ?_)
  ·
   replace hT := sT hc hT
   refine rSkip (rThen (rSeq (rBlock ?_)))
   replace hT := sIf hT; obtain ⟨⟨o1, o2, o3⟩, hT⟩ := hT
   refine zA hX ?_
   let c1 := (slices_Clone_overspill_api_Event_overspill_api_Event N (a7.getD (s1.1).toNat []))
   replace hT := sIf hT; obtain ⟨⟨o1, o2, o3, o4⟩, hT⟩ := hT
   refine zReg md0 hX rfl rfl rfl ?_
   refine rInNormal (rThen ?_)
   replace hT := sIf hT; obtain ⟨o1, hT⟩ := hT
   refine zReg md0 hX rfl rfl rfl ?_
   exact hnexts1 _ (Option.some.inj hT).symm _ (To.mk' [] 0 hε rfl zL zL)
  ·
   replace hT := sF hc hT
   refine rExit (rThenExit (rThenExit ?_))
   exact zTo [] 0 hε (hxs10 _ (houts1 _ (Option.some.inj hT).symm))
 ·
  cases h
def sound_Cells_b2 (N : Nat) (a6 : Zt1) (s2 : Zt3) (s3 : Zt3) : Option (Zt3 ⊕ Zt12) :=
 let x1 := (decide (s3.2.1 < ((a6.getD (s2.2.1).toNat Zd7).2.2.2.length : Int)))
 bif x1 then
  let x3 := ((a6.getD (s2.2.1).toNat Zd7).2.2.2.getD (s3.2.1).toNat Zd1).1
  let x4 := ((a6.getD (s2.2.1).toNat Zd7).2.2.2.getD (s3.2.1).toNat Zd1).2.1
  let x5 := ((a6.getD (s2.2.1).toNat Zd7).2.2.2.getD (s3.2.1).toNat Zd1).2.2.1
  let x6 := ((a6.getD (s2.2.1).toNat Zd7).2.2.2.getD (s3.2.1).toNat Zd1).2.2.2.1
  let x7 : (List Int) := ((a6.getD (s2.2.1).toNat Zd7).2.2.2.getD (s3.2.1).toNat Zd1).2.2.2.2.1
  let x8 : (List Int) := ((a6.getD (s2.2.1).toNat Zd7).2.2.2.getD (s3.2.1).toNat Zd1).2.2.2.2.2.1
  let x9 := ((a6.getD (s2.2.1).toNat Zd7).2.2.2.getD (s3.2.1).toNat Zd1).2.2.2.2.2.2
  if (0 : Int) ≤ s3.2.1 ∧ s3.2.1 < ((a6.getD (s2.2.1).toNat Zd7).2.2.2.length : Int) then
   let c1 := (sound_own N x3 x4 x5 x6 x7 x8 x9)
   if c1.isSome = true ∧ s3.2.2.length = s3.1 ∧ (s3.1 + 1) * 240 ≤ 140737488355328 ∧ s3.1 + 1 ≤ 9223372036854775807 then
    if inK .i64 (s3.2.1 + 1) then
     some (.inl ((s3.1 + 1), (s3.2.1 + 1), (s3.2.2 ++ [(c1.getD default)])))
    else none
   else none
  else none
 else
  some (.inr (s3.1, s3.2.1, x1, s3.2.2))
def sound_Cells_b1 (N : Nat) (a6 : Zt1) (s2 : Zt3) : Option (Zt3 ⊕ Zt14) :=
 bif (decide (s2.2.1 < (a6.length : Int))) then
  if (0 : Int) ≤ s2.2.1 ∧ s2.2.1 < (a6.length : Int) then
   (iter (sound_Cells_b2 N a6 s2) N (s2.1, 0, s2.2.2)).bind fun v2 =>
    if inK .i64 (s2.2.1 + 1) then
     some (.inl (v2.1, (s2.2.1 + 1), v2.2.2.2))
    else none
  else none
 else
  some (.inr (s2.1, s2.2.2))
def sound_Cells (N : Nat) (a1 : Int) (a2 : Int) (a3 : Int) (a4 : Bool) (a5 : Int) (a6 : Zt1) (a7 : Int) : Option Zt7 :=
 (iter (sound_Cells_b1 N a6) N (0, 0, [])).bind fun v1 =>
  if v1.1 = v1.2.length then
   some v1.2
  else none
def sp_sound_Cells (N : Nat) : X.Spec := fun args lk => match args with
 | [.v (.agg [.cs [.int .i64 a1, .int .i64 a2, .int .i64 a3, .bool a4, .int .i64 a5, .val (.slice none 0 0), .fz (.pair .bool (.pair (.int .i64) (.pair (.int .i64) (.sl (.pair (.int .i64) (.pair .bool (.pair (.int .i64) (.pair (.int .i64) (.pair (.arr 2 .i64) (.pair (.arr 6 .i64) (.arrS 6 (.pair .bool (.pair (.int .i64) (.int .i64)))))))))))))) a6, .int .i64 a7]])] => some ⟨(sound_Cells N a1 a2 a3 a4 a5 a6 a7).isSome = true, .v (.c (.fz Zs2 ((sound_Cells N a1 a2 a3 a4 a5 a6 a7).getD default))), [], []⟩
 | _ => none
set_option maxRecDepth 100000 in
set_option maxHeartbeats 1000000 in
theorem ok_sound_Cells (N : Nat) : FnOK Tryd.prog gt0 13 (sp_sound_Cells N) := by
 refine fnOK_handed Tryd.func13 rfl (by kernel_rfl) tt_ok (ktCons (ok_sound_own N) (ktNil)) ?_
 intro args lk r h hp
 unfold sp_sound_Cells at h
 split at h
 ·
  rename_i a1 a2 a3 a4 a5 a6 a7
  change Zt1 at a6
  cases h
  obtain ⟨x, hx⟩ := Option.isSome_iff_exists.1 hp
  simp only [hx, Option.getD_some]
  refine hand0 rfl rfl (fun w0 M ε0 hX => ?_)
  refine rCount (fun hε => ?_)
  have hT : sound_Cells N a1 a2 a3 a4 a5 a6 a7 = some x := hx; clear hx hp; unfold sound_Cells at hT
  refine zA hX ?_
  refine zA hX ?_
  refine rSeq (zA hX ?_)
  refine rBlock (rNil 42 18 (.lst Zs2 []) [(2, .v (.c (.val (.slice none 0 0)))), (3, .v (.c (.sl 1 0 0 18))), (9, .v (.c (.fz Zs1 a6))), (10, .v (.c (.int .i64 (a6.length : Int)))), (11, .v (.c (.int .i64 0)))] [] (nil_lst _) zF zF ?_)
  replace hT := sBind hT; obtain ⟨w1, hl, hT⟩ := hT
  refine rJoinA (fun v1 => v1 = w1) (fun v1 => ⟨[(2, .v (.c (.val (.slice none 0 0)))), (3, .v (.c (.sl 1 0 v1.1 18)))], [(1, .mem true 42 (some 18) (.lst Zs2 v1.2))], 2⟩) (.exit 0) (fun v1 hv => ?_) (fun hxs20 => ?_)
  ·
   subst hv; clear hl
   refine rInHit (rThen (zA hX ?_))
   refine rRet ?_
   replace hT := sIf hT; obtain ⟨p1, hT⟩ := hT
   refine rFreezeQ 1 Zs2 v1.2 [(2, .v (.c (.fz Zs2 v1.2)))] [] rfl rfl zF zF ?_
   have hy := Option.some.inj hT; subst hy
   exact zEnd0 hX rfl
  refine rLoopM (sound_Cells_b1 N a6) (fun s2 => ⟨[(2, .v (.c (.val (.slice none 0 0)))), (3, .v (.c (.sl 1 0 s2.1 18))), (9, .v (.c (.fz Zs1 a6))), (10, .v (.c (.int .i64 (a6.length : Int)))), (11, .v (.c (.int .i64 s2.2.1)))], [(1, .mem true 42 (some 18) (.lst Zs2 s2.2.2))], 2⟩) hl (To.mk' [] 0 hε rfl zL zL) (fun s2 zs2 NNs2 hz hnexts2 houts2 => ?_)
  clear hl hT
  have hT := hz; clear hz
  refine zA hX ?_
  refine rSeq ?_
  refine zCond rfl rfl (fun hc => ?_) (fun hc => ?_)
  ·
   replace hT := sT hc hT
   refine rSkip (rThen (rSeq (rBlock ?_)))
   replace hT := sIf hT; obtain ⟨⟨o1, o2⟩, hT⟩ := hT
   refine zA hX ?_
   refine zA hX ?_
   refine rBlock ?_
   replace hT := sBind hT; obtain ⟨w2, hl, hT⟩ := hT
   refine rJoinA (fun v2 => v2 = w2) (fun v2 => ⟨[(2, .v (.c (.val (.slice none 0 0)))), (3, .v (.c (.sl 1 0 v2.1 18))), (5, .v (.c (.ptr 2 0 0 0 0 0))), (9, .v (.c (.fz Zs1 a6))), (10, .v (.c (.int .i64 (a6.length : Int)))), (11, .v (.c (.int .i64 s2.2.1))), (12, .v (.c (.bool (decide (s2.2.1 < (a6.length : Int)))))), (13, .v (.c (.fp Zs1 (a6.getD (s2.2.1).toNat Zd7) 0 0 0))), (14, .v (.agg [.cs [.bool (a6.getD (s2.2.1).toNat Zd7).1, .int .i64 (a6.getD (s2.2.1).toNat Zd7).2.1, .int .i64 (a6.getD (s2.2.1).toNat Zd7).2.2.1, .fz Zs2 (a6.getD (s2.2.1).toNat Zd7).2.2.2]])), (15, .v (.c (.ptr 2 0 0 3 0 0))), (16, .v (.c (.fz Zs2 (a6.getD (s2.2.1).toNat Zd7).2.2.2))), (17, .v (.c (.int .i64 ((a6.getD (s2.2.1).toNat Zd7).2.2.2.length : Int)))), (18, .v (.c (.int .i64 v2.2.1))), (19, .v (.c (.bool v2.2.2.1)))], [(1, .mem true 42 (some 18) (.lst Zs2 v2.2.2.2)), (2, .mem true 49 none (.flat [.cs [.bool (a6.getD (s2.2.1).toNat Zd7).1, .int .i64 (a6.getD (s2.2.1).toNat Zd7).2.1, .int .i64 (a6.getD (s2.2.1).toNat Zd7).2.2.1, .fz Zs2 (a6.getD (s2.2.1).toNat Zd7).2.2.2]]))], 3⟩) (.exit 2) (fun v2 hv => ?_) (fun hxs30 => ?_)
   ·
    subst hv; clear hl
    refine rInHit (rInNormal (rThen ?_))
    replace hT := sIf hT; obtain ⟨o1, hT⟩ := hT
    refine zReg md0 hX rfl rfl rfl ?_
    exact hnexts2 _ (Option.some.inj hT).symm _ (To.mk' [] 0 hε rfl zL zL)
   refine rLoopM (sound_Cells_b2 N a6 s2) (fun s3 => ⟨[(2, .v (.c (.val (.slice none 0 0)))), (3, .v (.c (.sl 1 0 s3.1 18))), (5, .v (.c (.ptr 2 0 0 0 0 0))), (9, .v (.c (.fz Zs1 a6))), (10, .v (.c (.int .i64 (a6.length : Int)))), (11, .v (.c (.int .i64 s2.2.1))), (12, .v (.c (.bool (decide (s2.2.1 < (a6.length : Int)))))), (13, .v (.c (.fp Zs1 (a6.getD (s2.2.1).toNat Zd7) 0 0 0))), (14, .v (.agg [.cs [.bool (a6.getD (s2.2.1).toNat Zd7).1, .int .i64 (a6.getD (s2.2.1).toNat Zd7).2.1, .int .i64 (a6.getD (s2.2.1).toNat Zd7).2.2.1, .fz Zs2 (a6.getD (s2.2.1).toNat Zd7).2.2.2]])), (15, .v (.c (.ptr 2 0 0 3 0 0))), (16, .v (.c (.fz Zs2 (a6.getD (s2.2.1).toNat Zd7).2.2.2))), (17, .v (.c (.int .i64 ((a6.getD (s2.2.1).toNat Zd7).2.2.2.length : Int)))), (18, .v (.c (.int .i64 s3.2.1)))], [(1, .mem true 42 (some 18) (.lst Zs2 s3.2.2)), (2, .mem true 49 none (.flat [.cs [.bool (a6.getD (s2.2.1).toNat Zd7).1, .int .i64 (a6.getD (s2.2.1).toNat Zd7).2.1, .int .i64 (a6.getD (s2.2.1).toNat Zd7).2.2.1, .fz Zs2 (a6.getD (s2.2.1).toNat Zd7).2.2.2]]))], 3⟩) hl (To.mk' [] 0 hε rfl zL zL) (fun s3 zs3 NNs3 hz hnexts3 houts3 => ?_)
   clear hl hT
   have hT := hz; clear hz
   let x1 := (decide (s3.2.1 < ((a6.getD (s2.2.1).toNat Zd7).2.2.2.length : Int)))
   refine zA hX ?_
   refine rSeq ?_
   refine zCond rfl rfl (fun hc => ?_) (fun hc => ?_)
   ·
    replace hT := sT hc hT
    refine rSkip (rThen (rSeq (rBlock ?_)))
    let x3 := ((a6.getD (s2.2.1).toNat Zd7).2.2.2.getD (s3.2.1).toNat Zd1).1
    let x4 := ((a6.getD (s2.2.1).toNat Zd7).2.2.2.getD (s3.2.1).toNat Zd1).2.1
    let x5 := ((a6.getD (s2.2.1).toNat Zd7).2.2.2.getD (s3.2.1).toNat Zd1).2.2.1
    let x6 := ((a6.getD (s2.2.1).toNat Zd7).2.2.2.getD (s3.2.1).toNat Zd1).2.2.2.1
    let x7 : (List Int) := ((a6.getD (s2.2.1).toNat Zd7).2.2.2.getD (s3.2.1).toNat Zd1).2.2.2.2.1
    let x8 : (List Int) := ((a6.getD (s2.2.1).toNat Zd7).2.2.2.getD (s3.2.1).toNat Zd1).2.2.2.2.2.1
    let x9 := ((a6.getD (s2.2.1).toNat Zd7).2.2.2.getD (s3.2.1).toNat Zd1).2.2.2.2.2.2
    replace hT := sIf hT; obtain ⟨⟨o1, o2⟩, hT⟩ := hT
    refine zA hX ?_
    let c1 := (sound_own N x3 x4 x5 x6 x7 x8 x9)
    replace hT := sIf hT; obtain ⟨⟨o1, o2, o3, o4⟩, hT⟩ := hT
    refine zReg md0 hX rfl rfl rfl ?_
    refine rLstQ 4 Zs2 [(c1.getD default)] rfl rfl rfl ?_
    refine rInNormal (rThen ?_)
    replace hT := sIf hT; obtain ⟨o1, hT⟩ := hT
    refine zReg md0 hX rfl rfl rfl ?_
    exact hnexts3 _ (Option.some.inj hT).symm _ (To.mk' [0, 5, 2] 0 hε rfl zL zL)
   ·
    replace hT := sF hc hT
    refine rExit (rThenExit (rThenExit ?_))
    exact zTo [] 0 hε (hxs30 _ (houts3 _ (Option.some.inj hT).symm))
  ·
   replace hT := sF hc hT
   refine rExit (rThenExit (rThenExit ?_))
   exact zTo [] 0 hε (hxs20 _ (houts2 _ (Option.some.inj hT).symm))
 ·
  cases h
def motion_within (N : Nat) (a1 : Int) (a2 : Int) (a3 : Int) : Option Bool :=
 if ((decide ((0 : Int) ≤ a1)) = true → inK .i64 (a1 + 1)) ∧ ((decide ((0 : Int) ≤ a1)) = true → (0 : Int) ≤ (a1 + 1)) ∧ ((decide ((0 : Int) ≤ a1)) = true → inK .i64 (((a1 + 1) / 2) + a2)) then
  some (bif (decide ((0 : Int) ≤ a1)) then (decide ((((a1 + 1) / 2) + a2) ≤ a3)) else false)
 else none
def sp_motion_within (N : Nat) : X.Spec := fun args lk => match args with
 | [.v (.c (.int .i64 a1)), .v (.c (.int .i64 a2)), .v (.c (.int .i64 a3))] => some ⟨(motion_within N a1 a2 a3).isSome = true, .v (.c (.bool ((motion_within N a1 a2 a3).getD default))), [], []⟩
 | _ => none
set_option maxRecDepth 100000 in
set_option maxHeartbeats 1000000 in
theorem ok_motion_within (N : Nat) : FnOK Tryd.prog gt0 70 (sp_motion_within N) := by
 refine fnOK_handed Tryd.func70 rfl (by kernel_rfl) tt_ok (ktNil) ?_
 intro args lk r h hp
 unfold sp_motion_within at h
 split at h
 ·
  rename_i a1 a2 a3
  cases h
  obtain ⟨x, hx⟩ := Option.isSome_iff_exists.1 hp
  simp only [hx, Option.getD_some]
  refine hand0 rfl rfl (fun w0 M ε0 hX => ?_)
  refine rCount (fun hε => ?_)
  have hT : motion_within N a1 a2 a3 = some x := hx; clear hx hp; unfold motion_within at hT
  refine zA hX ?_
  replace hT := sIf hT; obtain ⟨⟨o1, o2, o3⟩, hT⟩ := hT
  refine rSeq (rRegC md0 hX rfl rfl rfl zO ?_)
  refine rThen (rRet ?_)
  have hy := Option.some.inj hT; subst hy
  exact zEnd0 hX rfl
 ·
  cases h
def motion_May_b1 (N : Nat) (a3 : (List Int)) (s1 : Int) : Option (Int ⊕ (Unit ⊕ Unit)) :=
 bif (decide (s1 < 2)) then
  if (0 : Int) ≤ s1 ∧ s1 < 2 ∧ (s1).toNat < 2 then
   let x2 := (bif (decide ((a3.getD (s1).toNat 0) < (-32))) then true else (decide ((31 : Int) < (a3.getD (s1).toNat 0))))
   bif x2 then
    some (.inr (Sum.inl ()))
   else
    if inK .i64 (s1 + 1) then
     some (.inl (s1 + 1))
    else none
  else none
 else
  some (.inr (Sum.inr ()))
def motion_May (N : Nat) (a1 : Int) (a2 : Int) (a3 : (List Int)) : Option Bool :=
 let c1 := (formats_Cells N a1)
 if c1.isSome = true then
  let c2 := (formats_Size N a1)
  if c2.isSome = true then
   let x1 := (bif (bif (!(c2.getD default).2.2) then true else (decide (a2 < 0))) then true else (decide (((c1.getD default).1 * (c1.getD default).2) ≤ a2)))
   if ((!(bif (!(c2.getD default).2.2) then true else (decide (a2 < 0)))) = true → inK .i64 ((c1.getD default).1 * (c1.getD default).2)) then
    bif x1 then
     some false
    else
     (iter (motion_May_b1 N a3) N 0).bind fun w1 =>
      (Sum.elim (fun v1 =>
       some false
      )
       (fun v2 =>
        let c3 := (motion_within N (((32 : Int) * (a2 % (c1.getD default).1)) + (a3.getD 0 0)) 16 (c2.getD default).1)
        let c4 := (motion_within N (((32 : Int) * (a2 / (c1.getD default).1)) + (a3.getD 1 0)) 16 (c2.getD default).2.1)
        if (0 : Int) ≤ a2 ∧ (0 : Int) < (c1.getD default).1 ∧ inK .i64 ((32 : Int) * (a2 % (c1.getD default).1)) ∧ inK .i64 (((32 : Int) * (a2 % (c1.getD default).1)) + (a3.getD 0 0)) ∧ c3.isSome = true ∧ ((c3.getD default) = true → (0 : Int) ≤ a2) ∧ ((c3.getD default) = true → (0 : Int) < (c1.getD default).1) ∧ ((c3.getD default) = true → inK .i64 ((32 : Int) * (a2 / (c1.getD default).1))) ∧ ((c3.getD default) = true → inK .i64 (((32 : Int) * (a2 / (c1.getD default).1)) + (a3.getD 1 0))) ∧ ((c3.getD default) = true → c4.isSome = true) then
         some (bif (c3.getD default) then (c4.getD default) else false)
        else none
       )
      ) w1
   else none
  else none
 else none
def sp_motion_May (N : Nat) : X.Spec := fun args lk => match args with
 | [.v (.c (.int .i64 a1)), .v (.c (.int .i64 a2)), .v (.agg [.ints 2 .i64 a3])] => some ⟨(motion_May N a1 a2 a3).isSome = true, .v (.c (.bool ((motion_May N a1 a2 a3).getD default))), [], []⟩
 | _ => none
set_option maxRecDepth 100000 in
set_option maxHeartbeats 1000000 in
theorem ok_motion_May (N : Nat) : FnOK Tryd.prog gt0 39 (sp_motion_May N) := by
 refine fnOK_handed Tryd.func39 rfl (by kernel_rfl) tt_ok (ktCons (ok_motion_within N) (ktCons (ok_formats_Size N) (ktCons (ok_formats_Cells N) (ktNil)))) ?_
 intro args lk r h hp
 unfold sp_motion_May at h
 split at h
 ·
  rename_i a1 a2 a3
  change (List Int) at a3
  cases h
  obtain ⟨x, hx⟩ := Option.isSome_iff_exists.1 hp
  simp only [hx, Option.getD_some]
  refine hand0 rfl rfl (fun w0 M ε0 hX => ?_)
  refine rCount (fun hε => ?_)
  have hT : motion_May N a1 a2 a3 = some x := hx; clear hx hp; unfold motion_May at hT
  refine zA hX ?_
  let c1 := (formats_Cells N a1)
  replace hT := sIf hT; obtain ⟨o1, hT⟩ := hT
  refine zA hX ?_
  let c2 := (formats_Size N a1)
  replace hT := sIf hT; obtain ⟨o1, hT⟩ := hT
  refine zA hX ?_
  refine rSeq ?_
  let x1 := (bif (bif (!(c2.getD default).2.2) then true else (decide (a2 < 0))) then true else (decide (((c1.getD default).1 * (c1.getD default).2) ≤ a2)))
  replace hT := sIf hT; obtain ⟨o1, hT⟩ := hT
  refine rSeq (rRegC md0 hX rfl rfl rfl zO ?_)
  refine rThen ?_
  refine zCond rfl rfl (fun hc => ?_) (fun hc => ?_)
  ·
   replace hT := sT hc hT
   refine zA hX ?_
   refine rRet (rThenRet ?_)
   have hy := Option.some.inj hT; subst hy
   exact zEnd0 hX rfl
  ·
   replace hT := sF hc hT
   refine rSkip (rThen (rSeq (zA hX ?_)))
   refine rBlock ?_
   replace hT := sBind hT; obtain ⟨w1, hl, hT⟩ := hT
   refine rJoinA (fun v1 => (Sum.inl v1) = w1) (fun v1 => ⟨[(6, .v (.c (.bool false)))], [], 1⟩) .ret (fun v1 hv => ?_) (fun hxs10 => ?_)
   ·
    subst hv; clear hl; replace hT := (sElimL hT)
    refine rInRet (rThenRet ?_)
    have hy := Option.some.inj hT; subst hy
    exact zEnd0 hX rfl
   refine rJoinA (fun v2 => (Sum.inr v2) = w1) (fun v2 => ⟨[(1, .v (.c (.int .i64 a2))), (5, .v (.c (.ptr 0 0 0 0 0 0))), (6, .v (.c (.bool false))), (7, .v (.c (.int .i64 (c1.getD default).1))), (9, .v (.c (.int .i64 (c2.getD default).1))), (10, .v (.c (.int .i64 (c2.getD default).2.1)))], [(0, .mem true 37 none (.flat [.ints 2 .i64 a3]))], 1⟩) (.exit 0) (fun v2 hv => ?_) (fun hxs11 => ?_)
   ·
    subst hv; clear hl; replace hT := (sElimR hT)
    refine rInHit (rThen ?_)
    let c3 := (motion_within N (((32 : Int) * (a2 % (c1.getD default).1)) + (a3.getD 0 0)) 16 (c2.getD default).1)
    let c4 := (motion_within N (((32 : Int) * (a2 / (c1.getD default).1)) + (a3.getD 1 0)) 16 (c2.getD default).2.1)
    replace hT := sIf hT; obtain ⟨⟨o1, o2, o3, o4, o5, o6, o7, o8, o9, o10⟩, hT⟩ := hT
    refine rSeq (rDrawM md0 0 [] hX mixed rfl rfl rfl rfl rfl zO ?_)
    refine rThen (rRet ?_)
    have hy := Option.some.inj hT; subst hy
    exact zEnd0 hX rfl
   refine rLoopM (motion_May_b1 N a3) (fun s1 => ⟨[(1, .v (.c (.int .i64 a2))), (5, .v (.c (.ptr 0 0 0 0 0 0))), (6, .v (.c (.bool false))), (7, .v (.c (.int .i64 (c1.getD default).1))), (9, .v (.c (.int .i64 (c2.getD default).1))), (10, .v (.c (.int .i64 (c2.getD default).2.1))), (38, .v (.agg [.ints 2 .i64 a3])), (39, .v (.c (.int .i64 s1)))], [(0, .mem true 37 none (.flat [.ints 2 .i64 a3]))], 1⟩) hl (To.mk' [] 0 hε rfl zL zL) (fun s1 zs1 NNs1 hz hnexts1 houts1 => ?_)
   clear hl hT
   have hT := hz; clear hz
   refine zA hX ?_
   refine rSeq ?_
   refine zCond rfl rfl (fun hc => ?_) (fun hc => ?_)
   ·
    replace hT := sT hc hT
    refine rSkip (rThen (rSeq (rBlock ?_)))
    replace hT := sIf hT; obtain ⟨⟨o1, o2, o3⟩, hT⟩ := hT
    refine zA hX ?_
    let x2 := (bif (decide ((a3.getD (s1).toNat 0) < (-32))) then true else (decide ((31 : Int) < (a3.getD (s1).toNat 0))))
    refine zA hX ?_
    refine zCond rfl rfl (fun hc => ?_) (fun hc => ?_)
    ·
     replace hT := sT hc hT
     refine zA hX ?_
     refine rRet (rInRet (rThenRet (rThenRet ?_)))
     exact zTo [] 0 hε (hxs10 _ (houts1 _ (Option.some.inj hT).symm))
    ·
     replace hT := sF hc hT
     refine rSkip (rInNormal (rThen ?_))
     replace hT := sIf hT; obtain ⟨o1, hT⟩ := hT
     refine zReg md0 hX rfl rfl rfl ?_
     exact hnexts1 _ (Option.some.inj hT).symm _ (To.mk' [] 0 hε rfl zL zL)
   ·
    replace hT := sF hc hT
    refine rExit (rThenExit (rThenExit ?_))
    exact zTo [] 0 hε (hxs11 _ (houts1 _ (Option.some.inj hT).symm))
 ·
  cases h
def sound_Check_b1 (N : Nat) (a3 : Int) (c5 : (Option Zt7)) (s1 : Int) : Option (Int ⊕ (Unit ⊕ Unit)) :=
 bif (decide (s1 < ((c5.getD default).length : Int))) then
  let x9 := ((c5.getD default).getD (s1).toNat Zd1).2.2.1
  let x11 : (List Int) := ((c5.getD default).getD (s1).toNat Zd1).2.2.2.2.1
  if (0 : Int) ≤ s1 ∧ s1 < ((c5.getD default).length : Int) then
   let c6 := (motion_May N a3 s1 x11)
   let x14 := (bif (bif (decide (x9 ≠ 3)) then (decide (x9 ≠ 4)) else false) then (!(c6.getD default)) else false)
   if ((bif (decide (x9 ≠ 3)) then (decide (x9 ≠ 4)) else false) = true → c6.isSome = true) then
    bif x14 then
     some (.inr (Sum.inl ()))
    else
     if inK .i64 (s1 + 1) then
      some (.inl (s1 + 1))
     else none
   else none
  else none
 else
  some (.inr (Sum.inr ()))
def sound_Check (N : Nat) (a1 : Int) (a2 : Int) (a3 : Int) (a4 : Bool) (a5 : Int) (a6 : Zt1) (a7 : Int) : Option Int :=
 let c1 := (formats_Rows N a3)
 if c1.isSome = true then
  let c2 := (outbits_New N)
  let c3 := (sheethead_Put N a1 a2 a3 a4 a5 a6 a7 (c2.getD default))
  let c4 := (sound_every_row N (c1.getD default).1 a1 a2 a3 a4 a5 a6 a7)
  let x5 := (bif (bif (bif (bif (decide ((c3.getD default).1 ≠ 0)) then true else (decide (a7 < 0))) then true else (decide ((262144 : Int) < a7))) then true else (decide ((a6.length : Int) ≠ (c1.getD default).1))) then true else (!(c4.getD default)))
  if c2.isSome = true ∧ c3.isSome = true ∧ ((!(bif (bif (bif (decide ((c3.getD default).1 ≠ 0)) then true else (decide (a7 < 0))) then true else (decide ((262144 : Int) < a7))) then true else (decide ((a6.length : Int) ≠ (c1.getD default).1)))) = true → c4.isSome = true) then
   bif x5 then
    some 12
   else
    let c5 := (sound_Cells N a1 a2 a3 a4 a5 a6 a7)
    if c5.isSome = true then
     (iter (sound_Check_b1 N a3 c5) N 0).bind fun w1 =>
      (Sum.elim (fun v1 =>
       some 8
      )
       (fun v2 =>
        some 0
       )
      ) w1
    else none
  else none
 else none
def sp_sound_Check (N : Nat) : X.Spec := fun args lk => match args with
 | [.v (.agg [.cs [.int .i64 a1, .int .i64 a2, .int .i64 a3, .bool a4, .int .i64 a5, .val (.slice none 0 0), .fz (.pair .bool (.pair (.int .i64) (.pair (.int .i64) (.sl (.pair (.int .i64) (.pair .bool (.pair (.int .i64) (.pair (.int .i64) (.pair (.arr 2 .i64) (.pair (.arr 6 .i64) (.arrS 6 (.pair .bool (.pair (.int .i64) (.int .i64)))))))))))))) a6, .int .i64 a7]])] => some ⟨(sound_Check N a1 a2 a3 a4 a5 a6 a7).isSome = true, .v (.c (.int .i64 ((sound_Check N a1 a2 a3 a4 a5 a6 a7).getD default))), [], []⟩
 | _ => none
set_option maxRecDepth 100000 in
set_option maxHeartbeats 1000000 in
theorem ok_sound_Check (N : Nat) : FnOK Tryd.prog gt0 11 (sp_sound_Check N) := by
 refine fnOK_handed Tryd.func11 rfl (by kernel_rfl) tt_ok (ktCons (ok_motion_May N) (ktCons (ok_sound_Cells N) (ktCons (ok_sound_every_row N) (ktCons (ok_sheethead_Put N) (ktCons (ok_outbits_New N) (ktCons (ok_formats_Rows N) (ktNil))))))) ?_
 intro args lk r h hp
 unfold sp_sound_Check at h
 split at h
 ·
  rename_i a1 a2 a3 a4 a5 a6 a7
  change Zt1 at a6
  cases h
  obtain ⟨x, hx⟩ := Option.isSome_iff_exists.1 hp
  simp only [hx, Option.getD_some]
  refine hand0 rfl rfl (fun w0 M ε0 hX => ?_)
  refine rCount (fun hε => ?_)
  have hT : sound_Check N a1 a2 a3 a4 a5 a6 a7 = some x := hx; clear hx hp; unfold sound_Check at hT
  refine zA hX ?_
  let c1 := (formats_Rows N a3)
  replace hT := sIf hT; obtain ⟨o1, hT⟩ := hT
  refine zA hX ?_
  refine rSeq ?_
  let c2 := (outbits_New N)
  let c3 := (sheethead_Put N a1 a2 a3 a4 a5 a6 a7 (c2.getD default))
  let c4 := (sound_every_row N (c1.getD default).1 a1 a2 a3 a4 a5 a6 a7)
  let x5 := (bif (bif (bif (bif (decide ((c3.getD default).1 ≠ 0)) then true else (decide (a7 < 0))) then true else (decide ((262144 : Int) < a7))) then true else (decide ((a6.length : Int) ≠ (c1.getD default).1))) then true else (!(c4.getD default)))
  replace hT := sIf hT; obtain ⟨⟨o1, o2, o3⟩, hT⟩ := hT
  refine rSeq (rDrawA md0 0 0 2 [] hX mixed rfl rfl rfl rfl rfl rfl rfl rfl rfl rfl rfl rfl rfl rfl rfl zL rfl rfl zO ?_)
  refine rThen ?_
  refine zCond rfl rfl (fun hc => ?_) (fun hc => ?_)
  ·
   replace hT := sT hc hT
   refine zA hX ?_
   refine rRet (rThenRet ?_)
   have hy := Option.some.inj hT; subst hy
   exact zEnd0 hX rfl
  ·
   replace hT := sF hc hT
   refine rSkip (rThen (rSeq ?_))
   let c5 := (sound_Cells N a1 a2 a3 a4 a5 a6 a7)
   replace hT := sIf hT; obtain ⟨o1, hT⟩ := hT
   refine zA hX ?_
   refine rBlock ?_
   replace hT := sBind hT; obtain ⟨w1, hl, hT⟩ := hT
   refine rJoinA (fun v1 => (Sum.inl v1) = w1) (fun v1 => ⟨[(2, .v (.c (.int .i64 8)))], [], 2⟩) .ret (fun v1 hv => ?_) (fun hxs10 => ?_)
   ·
    subst hv; clear hl; replace hT := (sElimL hT)
    refine rInRet (rThenRet ?_)
    have hy := Option.some.inj hT; subst hy
    exact zEnd0 hX rfl
   refine rJoinA (fun v2 => (Sum.inr v2) = w1) (fun v2 => ⟨[(2, .v (.c (.int .i64 0)))], [], 2⟩) (.exit 0) (fun v2 hv => ?_) (fun hxs11 => ?_)
   ·
    subst hv; clear hl; replace hT := (sElimR hT)
    refine rInHit (rThen (zA hX ?_))
    refine rRet ?_
    have hy := Option.some.inj hT; subst hy
    exact zEnd0 hX rfl
   refine rLoopM (sound_Check_b1 N a3 c5) (fun s1 => ⟨[(1, .v (.c (.ptr 0 0 0 0 0 0))), (2, .v (.c (.int .i64 0))), (42, .v (.c (.fz Zs2 (c5.getD default)))), (43, .v (.c (.int .i64 ((c5.getD default).length : Int)))), (44, .v (.c (.int .i64 s1)))], [(0, .mem true 25 none (.flat [.cs [.int .i64 a1, .int .i64 a2, .int .i64 a3, .bool a4, .int .i64 a5, .val (.slice none 0 0), .fz Zs1 a6, .int .i64 a7]]))], 2⟩) hl (To.mk' [] 0 hε rfl zL zL) (fun s1 zs1 NNs1 hz hnexts1 houts1 => ?_)
   clear hl hT
   have hT := hz; clear hz
   refine zA hX ?_
   refine rSeq ?_
   refine zCond rfl rfl (fun hc => ?_) (fun hc => ?_)
   ·
    replace hT := sT hc hT
    refine rSkip (rThen (rSeq (rBlock ?_)))
    let x9 := ((c5.getD default).getD (s1).toNat Zd1).2.2.1
    let x11 : (List Int) := ((c5.getD default).getD (s1).toNat Zd1).2.2.2.2.1
    replace hT := sIf hT; obtain ⟨⟨o1, o2⟩, hT⟩ := hT
    refine zA hX ?_
    let c6 := (motion_May N a3 s1 x11)
    let x14 := (bif (bif (decide (x9 ≠ 3)) then (decide (x9 ≠ 4)) else false) then (!(c6.getD default)) else false)
    replace hT := sIf hT; obtain ⟨o1, hT⟩ := hT
    refine rSeq (rRegC md0 hX rfl rfl rfl zO ?_)
    refine rThen ?_
    refine zCond rfl rfl (fun hc => ?_) (fun hc => ?_)
    ·
     replace hT := sT hc hT
     refine zA hX ?_
     refine rRet (rInRet (rThenRet (rThenRet ?_)))
     exact zTo [] 0 hε (hxs10 _ (houts1 _ (Option.some.inj hT).symm))
    ·
     replace hT := sF hc hT
     refine rSkip (rInNormal (rThen ?_))
     replace hT := sIf hT; obtain ⟨o1, hT⟩ := hT
     refine zReg md0 hX rfl rfl rfl ?_
     exact hnexts1 _ (Option.some.inj hT).symm _ (To.mk' [] 0 hε rfl zL zL)
   ·
    replace hT := sF hc hT
    refine rExit (rThenExit (rThenExit ?_))
    exact zTo [] 0 hε (hxs11 _ (houts1 _ (Option.some.inj hT).symm))
 ·
  cases h
def quants_Of_1 (N : Nat) (a1 : Int) : Option Unit :=
 some ()
def sp_quants_Of_1 (N : Nat) : X.Spec := fun args lk => match args with
 | [.v (.c (.int .i64 a1))] => some ⟨(quants_Of_1 N a1).isSome = true, .tup [], [], []⟩
 | _ => none
set_option maxRecDepth 100000 in
set_option maxHeartbeats 1000000 in
theorem ok_quants_Of_1 (N : Nat) : FnOK Tryd.prog gt0 53 (sp_quants_Of_1 N) := by
 refine fnOK_handed Tryd.func53 rfl (by kernel_rfl) tt_ok (ktNil) ?_
 intro args lk r h hp
 unfold sp_quants_Of_1 at h
 split at h
 ·
  rename_i a1
  cases h
  obtain ⟨x, hx⟩ := Option.isSome_iff_exists.1 hp
  simp only [hx, Option.getD_some]
  refine hand0 rfl rfl (fun w0 M ε0 hX => ?_)
  refine rCount (fun hε => ?_)
  have hT : quants_Of_1 N a1 = some x := hx; clear hx hp; unfold quants_Of_1 at hT
  refine rSkip (rNormal ?_)
  have hy := Option.some.inj hT; subst hy
  exact zEnd0 hX rfl
 ·
  cases h
def whole_Clip (N : Nat) (a1 : Int) (a2 : Int) (a3 : Int) : Option Int :=
 bif (bif (decide (a3 < a2)) then (decide (a3 < a2)) else (decide (a1 < a2))) then
  some a2
 else
  bif (decide (a3 < a1)) then
   some a3
  else
   some a1
def sp_whole_Clip (N : Nat) : X.Spec := fun args lk => match args with
 | [.v (.c (.int .i64 a1)), .v (.c (.int .i64 a2)), .v (.c (.int .i64 a3))] => some ⟨(whole_Clip N a1 a2 a3).isSome = true, .v (.c (.int .i64 ((whole_Clip N a1 a2 a3).getD default))), [], []⟩
 | _ => none
set_option maxRecDepth 100000 in
set_option maxHeartbeats 1000000 in
theorem ok_whole_Clip (N : Nat) : FnOK Tryd.prog gt0 60 (sp_whole_Clip N) := by
 refine fnOK_handed Tryd.func60 rfl (by kernel_rfl) tt_ok (ktNil) ?_
 intro args lk r h hp
 unfold sp_whole_Clip at h
 split at h
 ·
  rename_i a1 a2 a3
  cases h
  obtain ⟨x, hx⟩ := Option.isSome_iff_exists.1 hp
  simp only [hx, Option.getD_some]
  refine hand0 rfl rfl (fun w0 M ε0 hX => ?_)
  refine rCount (fun hε => ?_)
  have hT : whole_Clip N a1 a2 a3 = some x := hx; clear hx hp; unfold whole_Clip at hT
  refine zA hX ?_
  refine rSeq (rBlock (rSeq (zA hX ?_)))
  refine rJoin ⟨[(0, .v (.c (.int .i64 a1))), (1, .v (.c (.int .i64 a2))), (2, .v (.c (.int .i64 a3))), (6, .v (.c (.int .i64 0))), (7, .v (.c (.bool (bif (decide (a3 < a2)) then (decide (a3 < a2)) else (decide (a1 < a2))))))], [], 0⟩ ?_ (fun hj => ?_)
  ·
   refine rThen ?_
   refine zCond rfl rfl (fun hc => ?_) (fun hc => ?_)
   ·
    replace hT := sT hc hT
    refine zA hX ?_
    refine rRet (rInRet (rThenRet ?_))
    have hy := Option.some.inj hT; subst hy
    exact zEnd0 hX rfl
   ·
    replace hT := sF hc hT
    refine zA hX ?_
    refine zCond rfl rfl (fun hc => ?_) (fun hc => ?_)
    ·
     replace hT := sT hc hT
     refine zA hX ?_
     refine rRet (rInRet (rThenRet ?_))
     have hy := Option.some.inj hT; subst hy
     exact zEnd0 hX rfl
    ·
     replace hT := sF hc hT
     refine rSkip (rInNormal (rThen (zA hX ?_)))
     refine rRet ?_
     have hy := Option.some.inj hT; subst hy
     exact zEnd0 hX rfl
  ·
   clear hT
   refine zCond rfl rfl (fun hc => ?_) (fun hc => ?_)
   ·
    refine rSkip ?_
    exact rTo (To.mk' [] 0 hε rfl zJ zJ) hj
   ·
    refine zReg md0 hX rfl rfl rfl ?_
    exact rTo (To.mk' [] 0 hε rfl zJ zJ) hj
 ·
  cases h
def steps_Next (N : Nat) (a1 : Int) (a2 : Int) : Option Int :=
 let c1 := (whole_Clip N a1 1 31)
 let c2 := (whole_Clip N a2 (-2) 2)
 let c3 := (whole_Clip N ((c1.getD default) + (c2.getD default)) 1 31)
 if c1.isSome = true ∧ c2.isSome = true ∧ inK .i64 ((c1.getD default) + (c2.getD default)) ∧ c3.isSome = true then
  some (c3.getD default)
 else none
def sp_steps_Next (N : Nat) : X.Spec := fun args lk => match args with
 | [.v (.c (.int .i64 a1)), .v (.c (.int .i64 a2))] => some ⟨(steps_Next N a1 a2).isSome = true, .v (.c (.int .i64 ((steps_Next N a1 a2).getD default))), [], []⟩
 | _ => none
set_option maxRecDepth 100000 in
set_option maxHeartbeats 1000000 in
theorem ok_steps_Next (N : Nat) : FnOK Tryd.prog gt0 33 (sp_steps_Next N) := by
 refine fnOK_handed Tryd.func33 rfl (by kernel_rfl) tt_ok (ktCons (ok_whole_Clip N) (ktNil)) ?_
 intro args lk r h hp
 unfold sp_steps_Next at h
 split at h
 ·
  rename_i a1 a2
  cases h
  obtain ⟨x, hx⟩ := Option.isSome_iff_exists.1 hp
  simp only [hx, Option.getD_some]
  refine hand0 rfl rfl (fun w0 M ε0 hX => ?_)
  refine rCount (fun hε => ?_)
  have hT : steps_Next N a1 a2 = some x := hx; clear hx hp; unfold steps_Next at hT
  refine zA hX ?_
  let c1 := (whole_Clip N a1 1 31)
  let c2 := (whole_Clip N a2 (-2) 2)
  let c3 := (whole_Clip N ((c1.getD default) + (c2.getD default)) 1 31)
  replace hT := sIf hT; obtain ⟨⟨o1, o2, o3, o4⟩, hT⟩ := hT
  refine zA hX ?_
  refine rRet ?_
  have hy := Option.some.inj hT; subst hy
  exact zEnd0 hX rfl
 ·
  cases h
def quants_Of_2 (N : Nat) (a1 : Int) (a2 : Nat) (a3 : Nat) (a4 : (List Int)) : Option Zt9 :=
 if 1 ≤ 1 ∧ a3 = a2 ∧ (a2 + 1) * 8 ≤ 140737488355328 ∧ a2 + 1 ≤ 9223372036854775807 then
  some ((a2 + 1), (a3 + 1), (a4 ++ (((List.replicate 1 0).set 0 a1).take 1)))
 else none
def sp_quants_Of_2 (N : Nat) : X.Spec := fun args lk => match args with
 | [.v (.c (.int .i64 a1)), .v (.c (.ptr i0 0 0 0 0 0))] => (match lk i0 with
  | some (.bun 22 (.flat [.cs [.sl 1 0 a2 1]]) [(3, 1, .flat [.ints a3 .i64 a4])]) => some ⟨(quants_Of_2 N a1 a2 a3 a4).isSome = true, .tup [], [], [(i0, .bun 22 (.flat [.cs [.sl 1 0 ((quants_Of_2 N a1 a2 a3 a4).getD default).1 1]]) [(3, 1, .flat [.ints ((quants_Of_2 N a1 a2 a3 a4).getD default).2.1 .i64 ((quants_Of_2 N a1 a2 a3 a4).getD default).2.2])])]⟩
  | _ => none)
 | _ => none
set_option maxRecDepth 100000 in
set_option maxHeartbeats 1000000 in
theorem ok_quants_Of_2 (N : Nat) : FnOK Tryd.prog gt0 54 (sp_quants_Of_2 N) := by
 refine fnOK_handed Tryd.func54 rfl (by kernel_rfl) tt_ok (ktNil) ?_
 intro args lk r h hp
 unfold sp_quants_Of_2 at h
 split at h
 ·
  rename_i a1 i0
  split at h
  ·
   rename_i a2 a3 a4 hl0
   change (List Int) at a4
   cases h
   obtain ⟨x, hx⟩ := Option.isSome_iff_exists.1 hp
   simp only [hx, Option.getD_some]
   refine handL [i0] 1 [(0, .bun 22 (.flat [.cs [.sl 1 0 a2 1]]) [(3, 1, .flat [.ints a3 .i64 a4])])] [.v (.c (.int .i64 a1)), .v (.c (.ptr 0 0 0 0 0 0))] rfl rfl rfl ⟨isSome_of hl0, trivial⟩ ⟨⟨rfl, zT, _, hl0, .inl rfl⟩, trivial⟩ rfl (fun w0 M ε0 hX => ?_)
   refine rCount (fun hε => ?_)
   have hT : quants_Of_2 N a1 a2 a3 a4 = some x := hx; clear hx hp; unfold quants_Of_2 at hT
   refine rBunOpen 0 rfl rfl rfl rfl ?_
   refine rToW (T := ⟨[(0, .v (.c (.int .i64 a1))), (1, .v (.c (.ptr 0 0 0 0 0 0)))], [(0, .mem true 22 none (.flat [.cs [.sl 1 0 a2 1]])), (1, .mem true 3 (some 1) (.flat [.ints a3 .i64 a4]))], 2⟩) (To.mk' [] 1 hε rfl zL zL) ?_
   replace hT := sIf hT; obtain ⟨⟨o1, o2, o3, o4⟩, hT⟩ := hT
   refine zReg md0 hX rfl rfl rfl ?_
   refine rNormal (rBunShutQ 0 [3] (.flat [.cs [.sl 1 0 (a2 + 1) 1]]) [(3, 1, .flat [.ints (a3 + 1) .i64 (a4 ++ (((List.replicate 1 0).set 0 a1).take 1))])] rfl rfl zT zT rfl rfl ?_)
   have hy := Option.some.inj hT; subst hy
   exact rEndA [] [] [(0, .bun 22 (.flat [.cs [.sl 1 0 (a2 + 1) 1]]) [(3, 1, .flat [.ints (a3 + 1) .i64 (a4 ++ (((List.replicate 1 0).set 0 a1).take 1))])])] (.tup []) hX rfl zZ zL rfl rfl rfl zT rfl rfl zT rfl rfl
  ·
   cases h
 ·
  cases h
def quants_walk_Of_1_Of_2_b2 (N : Nat) (a6 : Zt1) (s1 : Zt5) (s2 : Zt5) : Option (Zt5 ⊕ (Int × Int × Bool × Nat × Nat × (List Int))) :=
 let x2 := (decide (s2.2.1 < ((a6.getD (s1.2.1).toNat Zd7).2.2.2.length : Int)))
 bif x2 then
  let x3 := ((a6.getD (s1.2.1).toNat Zd7).2.2.2.getD (s2.2.1).toNat Zd1)
  let x4 := ((a6.getD (s1.2.1).toNat Zd7).2.2.2.getD (s2.2.1).toNat Zd1).1
  let x5 := ((a6.getD (s1.2.1).toNat Zd7).2.2.2.getD (s2.2.1).toNat Zd1).2.1
  let x6 := ((a6.getD (s1.2.1).toNat Zd7).2.2.2.getD (s2.2.1).toNat Zd1).2.2.1
  let x7 := ((a6.getD (s1.2.1).toNat Zd7).2.2.2.getD (s2.2.1).toNat Zd1).2.2.2.1
  let x8 : (List Int) := ((a6.getD (s1.2.1).toNat Zd7).2.2.2.getD (s2.2.1).toNat Zd1).2.2.2.2.1
  let x9 : (List Int) := ((a6.getD (s1.2.1).toNat Zd7).2.2.2.getD (s2.2.1).toNat Zd1).2.2.2.2.2.1
  let x10 := ((a6.getD (s1.2.1).toNat Zd7).2.2.2.getD (s2.2.1).toNat Zd1).2.2.2.2.2.2
  if (0 : Int) ≤ s2.2.1 ∧ s2.2.1 < ((a6.getD (s1.2.1).toNat Zd7).2.2.2.length : Int) then
   joinK (fun (v3 : Int) =>
    let c2 := (quants_Of_2 N v3 s2.2.2.1 s2.2.2.2.1 s2.2.2.2.2)
    if c2.isSome = true then
     if inK .i64 (s2.2.1 + 1) then
      some (.inl (v3, (s2.2.1 + 1), (c2.getD default).1, (c2.getD default).2.1, (c2.getD default).2.2))
     else none
    else none
   ) fun k1 =>
    bif (bif (decide (x6 = 1)) then true else (decide (x6 = 4))) then
     let c3 := (steps_Next N s2.1 x7)
     if c3.isSome = true then
      k1 (c3.getD default)
     else none
    else
     k1 s2.1
  else none
 else
  some (.inr (s2.1, s2.2.1, x2, s2.2.2.1, s2.2.2.2.1, s2.2.2.2.2))
def quants_walk_Of_1_Of_2_b1 (N : Nat) (a6 : Zt1) (s1 : Zt5) : Option (Zt5 ⊕ Zt9) :=
 bif (decide (s1.2.1 < (a6.length : Int))) then
  if (0 : Int) ≤ s1.2.1 ∧ s1.2.1 < (a6.length : Int) then
   let x1 := (bif (a6.getD (s1.2.1).toNat Zd7).1 then (a6.getD (s1.2.1).toNat Zd7).2.2.1 else s1.1)
   let c1 := (quants_Of_1 N x1)
   if c1.isSome = true then
    (iter (quants_walk_Of_1_Of_2_b2 N a6 s1) N (x1, 0, s1.2.2.1, s1.2.2.2.1, s1.2.2.2.2)).bind fun v2 =>
     if inK .i64 (s1.2.1 + 1) then
      some (.inl (v2.1, (s1.2.1 + 1), v2.2.2.2.1, v2.2.2.2.2.1, v2.2.2.2.2.2))
     else none
   else none
  else none
 else
  some (.inr (s1.2.2.1, s1.2.2.2.1, s1.2.2.2.2))
def quants_walk_Of_1_Of_2 (N : Nat) (a1 : Int) (a2 : Int) (a3 : Int) (a4 : Bool) (a5 : Int) (a6 : Zt1) (a7 : Int) (a8 : Nat) (a9 : Nat) (a10 : (List Int)) : Option Zt9 :=
 (iter (quants_walk_Of_1_Of_2_b1 N a6) N (a5, 0, a8, a9, a10)).bind fun v1 =>
  some (v1.1, v1.2.1, v1.2.2)
def sp_quants_walk_Of_1_Of_2 (N : Nat) : X.Spec := fun args lk => match args with
 | [.v (.agg [.cs [.int .i64 a1, .int .i64 a2, .int .i64 a3, .bool a4, .int .i64 a5, .val (.slice none 0 0), .fz (.pair .bool (.pair (.int .i64) (.pair (.int .i64) (.sl (.pair (.int .i64) (.pair .bool (.pair (.int .i64) (.pair (.int .i64) (.pair (.arr 2 .i64) (.pair (.arr 6 .i64) (.arrS 6 (.pair .bool (.pair (.int .i64) (.int .i64)))))))))))))) a6, .int .i64 a7]]), .v (.c (.clo 53 [])), .v (.c (.clo 54 [i0]))] => (match lk i0 with
  | some (.bun 22 (.flat [.cs [.sl 1 0 a8 1]]) [(3, 1, .flat [.ints a9 .i64 a10])]) => some ⟨(quants_walk_Of_1_Of_2 N a1 a2 a3 a4 a5 a6 a7 a8 a9 a10).isSome = true, .tup [], [], [(i0, .bun 22 (.flat [.cs [.sl 1 0 ((quants_walk_Of_1_Of_2 N a1 a2 a3 a4 a5 a6 a7 a8 a9 a10).getD default).1 1]]) [(3, 1, .flat [.ints ((quants_walk_Of_1_Of_2 N a1 a2 a3 a4 a5 a6 a7 a8 a9 a10).getD default).2.1 .i64 ((quants_walk_Of_1_Of_2 N a1 a2 a3 a4 a5 a6 a7 a8 a9 a10).getD default).2.2])])]⟩
  | _ => none)
 | _ => none
set_option maxRecDepth 100000 in
set_option maxHeartbeats 1000000 in
theorem ok_quants_walk_Of_1_Of_2 (N : Nat) : FnOK Tryd.prog gt0 52 (sp_quants_walk_Of_1_Of_2 N) := by
 refine fnOK_handed Tryd.func52 rfl (by kernel_rfl) tt_ok (ktCons (ok_steps_Next N) (ktCons (ok_quants_Of_2 N) (ktCons (ok_quants_Of_1 N) (ktNil)))) ?_
 intro args lk r h hp
 unfold sp_quants_walk_Of_1_Of_2 at h
 split at h
 ·
  rename_i a1 a2 a3 a4 a5 a6 a7 i0
  split at h
  ·
   rename_i a8 a9 a10 hl0
   change Zt1 at a6
   change (List Int) at a10
   cases h
   obtain ⟨x, hx⟩ := Option.isSome_iff_exists.1 hp
   simp only [hx, Option.getD_some]
   refine handL [i0] 1 [(0, .bun 22 (.flat [.cs [.sl 1 0 a8 1]]) [(3, 1, .flat [.ints a9 .i64 a10])])] [.v (.agg [.cs [.int .i64 a1, .int .i64 a2, .int .i64 a3, .bool a4, .int .i64 a5, .val (.slice none 0 0), .fz Zs1 a6, .int .i64 a7]]), .v (.c (.clo 53 [])), .v (.c (.clo 54 [0]))] rfl rfl rfl ⟨isSome_of hl0, trivial⟩ ⟨⟨rfl, zT, _, hl0, .inl rfl⟩, trivial⟩ rfl (fun w0 M ε0 hX => ?_)
   refine rCount (fun hε => ?_)
   have hT : quants_walk_Of_1_Of_2 N a1 a2 a3 a4 a5 a6 a7 a8 a9 a10 = some x := hx; clear hx hp; unfold quants_walk_Of_1_Of_2 at hT
   refine zA hX ?_
   refine zA hX ?_
   refine zA hX ?_
   refine rBlock ?_
   replace hT := sBind hT; obtain ⟨w1, hl, hT⟩ := hT
   refine rJoinA (fun v1 => v1 = w1) (fun v1 => ⟨[], [(0, .bun 22 (.flat [.cs [.sl 1 0 v1.1 1]]) [(3, 1, .flat [.ints v1.2.1 .i64 v1.2.2])])], 2⟩) (.exit 0) (fun v1 hv => ?_) (fun hxs10 => ?_)
   ·
    subst hv; clear hl
    refine rInHit (rNormal ?_)
    have hy := Option.some.inj hT; subst hy
    exact rEndA [] [] [(0, .bun 22 (.flat [.cs [.sl 1 0 v1.1 1]]) [(3, 1, .flat [.ints v1.2.1 .i64 v1.2.2])])] (.tup []) hX rfl zZ zL rfl rfl rfl zT rfl rfl zT rfl rfl
   refine rLoopM (quants_walk_Of_1_Of_2_b1 N a6) (fun s1 => ⟨[(1, .v (.c (.clo 53 []))), (2, .v (.c (.clo 54 [0]))), (6, .v (.c (.int .i64 s1.1))), (14, .v (.c (.fz Zs1 a6))), (15, .v (.c (.int .i64 (a6.length : Int)))), (16, .v (.c (.int .i64 s1.2.1)))], [(0, .bun 22 (.flat [.cs [.sl 1 0 s1.2.2.1 1]]) [(3, 1, .flat [.ints s1.2.2.2.1 .i64 s1.2.2.2.2])])], 2⟩) hl (To.mk' [] 1 hε rfl zL zL) (fun s1 zs1 NNs1 hz hnexts1 houts1 => ?_)
   clear hl hT
   have hT := hz; clear hz
   refine zA hX ?_
   refine rSeq ?_
   refine zCond rfl rfl (fun hc => ?_) (fun hc => ?_)
   ·
    replace hT := sT hc hT
    refine rSkip (rThen (rSeq (rBlock ?_)))
    replace hT := sIf hT; obtain ⟨⟨o1, o2⟩, hT⟩ := hT
    refine zA hX ?_
    refine rSeq (zA hX ?_)
    refine rJoin ⟨[(1, .v (.c (.clo 53 []))), (2, .v (.c (.clo 54 [0]))), (6, .v (.c (.int .i64 (bif (a6.getD (s1.2.1).toNat Zd7).1 then (a6.getD (s1.2.1).toNat Zd7).2.2.1 else s1.1)))), (8, .v (.c (.ptr 2 0 0 0 0 0))), (14, .v (.c (.fz Zs1 a6))), (15, .v (.c (.int .i64 (a6.length : Int)))), (16, .v (.c (.int .i64 s1.2.1))), (17, .v (.c (.bool (decide (s1.2.1 < (a6.length : Int)))))), (18, .v (.c (.fp Zs1 (a6.getD (s1.2.1).toNat Zd7) 0 0 0))), (19, .v (.agg [.cs [.bool (a6.getD (s1.2.1).toNat Zd7).1, .int .i64 (a6.getD (s1.2.1).toNat Zd7).2.1, .int .i64 (a6.getD (s1.2.1).toNat Zd7).2.2.1, .fz Zs2 (a6.getD (s1.2.1).toNat Zd7).2.2.2]])), (20, .v (.c (.ptr 2 0 0 0 0 0))), (21, .v (.c (.bool (a6.getD (s1.2.1).toNat Zd7).1)))], [(0, .bun 22 (.flat [.cs [.sl 1 0 s1.2.2.1 1]]) [(3, 1, .flat [.ints s1.2.2.2.1 .i64 s1.2.2.2.2])]), (2, .mem true 49 none (.flat [.cs [.bool (a6.getD (s1.2.1).toNat Zd7).1, .int .i64 (a6.getD (s1.2.1).toNat Zd7).2.1, .int .i64 (a6.getD (s1.2.1).toNat Zd7).2.2.1, .fz Zs2 (a6.getD (s1.2.1).toNat Zd7).2.2.2]]))], 3⟩ ?_ (fun hj => ?_)
    ·
     let x1 := (bif (a6.getD (s1.2.1).toNat Zd7).1 then (a6.getD (s1.2.1).toNat Zd7).2.2.1 else s1.1)
     refine rThen ?_
     let c1 := (quants_Of_1 N x1)
     replace hT := sIf hT; obtain ⟨o1, hT⟩ := hT
     refine zA hX ?_
     refine zA hX ?_
     refine rBlock ?_
     replace hT := sBind hT; obtain ⟨w2, hl, hT⟩ := hT
     refine rJoinA (fun v2 => v2 = w2) (fun v2 => ⟨[(1, .v (.c (.clo 53 []))), (2, .v (.c (.clo 54 [0]))), (6, .v (.c (.int .i64 v2.1))), (8, .v (.c (.ptr 2 0 0 0 0 0))), (14, .v (.c (.fz Zs1 a6))), (15, .v (.c (.int .i64 (a6.length : Int)))), (16, .v (.c (.int .i64 s1.2.1))), (17, .v (.c (.bool (decide (s1.2.1 < (a6.length : Int)))))), (18, .v (.c (.fp Zs1 (a6.getD (s1.2.1).toNat Zd7) 0 0 0))), (19, .v (.agg [.cs [.bool (a6.getD (s1.2.1).toNat Zd7).1, .int .i64 (a6.getD (s1.2.1).toNat Zd7).2.1, .int .i64 (a6.getD (s1.2.1).toNat Zd7).2.2.1, .fz Zs2 (a6.getD (s1.2.1).toNat Zd7).2.2.2]])), (20, .v (.c (.ptr 2 0 0 0 0 0))), (21, .v (.c (.bool (a6.getD (s1.2.1).toNat Zd7).1))), (24, .v (.c (.clo 53 []))), (25, .v (.c (.int .i64 x1))), (27, .v (.c (.ptr 2 0 0 3 0 0))), (28, .v (.c (.fz Zs2 (a6.getD (s1.2.1).toNat Zd7).2.2.2))), (29, .v (.c (.int .i64 ((a6.getD (s1.2.1).toNat Zd7).2.2.2.length : Int)))), (30, .v (.c (.int .i64 v2.2.1))), (31, .v (.c (.bool v2.2.2.1)))], [(0, .bun 22 (.flat [.cs [.sl 1 0 v2.2.2.2.1 1]]) [(3, 1, .flat [.ints v2.2.2.2.2.1 .i64 v2.2.2.2.2.2])]), (2, .mem true 49 none (.flat [.cs [.bool (a6.getD (s1.2.1).toNat Zd7).1, .int .i64 (a6.getD (s1.2.1).toNat Zd7).2.1, .int .i64 (a6.getD (s1.2.1).toNat Zd7).2.2.1, .fz Zs2 (a6.getD (s1.2.1).toNat Zd7).2.2.2]]))], 3⟩) (.exit 2) (fun v2 hv => ?_) (fun hxs20 => ?_)
     ·
      subst hv; clear hl
      refine rInHit (rInNormal (rThen ?_))
      replace hT := sIf hT; obtain ⟨o1, hT⟩ := hT
      refine zReg md0 hX rfl rfl rfl ?_
      exact hnexts1 _ (Option.some.inj hT).symm _ (To.mk' [] 1 hε rfl zL zL)
     refine rLoopM (quants_walk_Of_1_Of_2_b2 N a6 s1) (fun s2 => ⟨[(1, .v (.c (.clo 53 []))), (2, .v (.c (.clo 54 [0]))), (6, .v (.c (.int .i64 s2.1))), (8, .v (.c (.ptr 2 0 0 0 0 0))), (14, .v (.c (.fz Zs1 a6))), (15, .v (.c (.int .i64 (a6.length : Int)))), (16, .v (.c (.int .i64 s1.2.1))), (17, .v (.c (.bool (decide (s1.2.1 < (a6.length : Int)))))), (18, .v (.c (.fp Zs1 (a6.getD (s1.2.1).toNat Zd7) 0 0 0))), (19, .v (.agg [.cs [.bool (a6.getD (s1.2.1).toNat Zd7).1, .int .i64 (a6.getD (s1.2.1).toNat Zd7).2.1, .int .i64 (a6.getD (s1.2.1).toNat Zd7).2.2.1, .fz Zs2 (a6.getD (s1.2.1).toNat Zd7).2.2.2]])), (20, .v (.c (.ptr 2 0 0 0 0 0))), (21, .v (.c (.bool (a6.getD (s1.2.1).toNat Zd7).1))), (24, .v (.c (.clo 53 []))), (25, .v (.c (.int .i64 x1))), (27, .v (.c (.ptr 2 0 0 3 0 0))), (28, .v (.c (.fz Zs2 (a6.getD (s1.2.1).toNat Zd7).2.2.2))), (29, .v (.c (.int .i64 ((a6.getD (s1.2.1).toNat Zd7).2.2.2.length : Int)))), (30, .v (.c (.int .i64 s2.2.1)))], [(0, .bun 22 (.flat [.cs [.sl 1 0 s2.2.2.1 1]]) [(3, 1, .flat [.ints s2.2.2.2.1 .i64 s2.2.2.2.2])]), (2, .mem true 49 none (.flat [.cs [.bool (a6.getD (s1.2.1).toNat Zd7).1, .int .i64 (a6.getD (s1.2.1).toNat Zd7).2.1, .int .i64 (a6.getD (s1.2.1).toNat Zd7).2.2.1, .fz Zs2 (a6.getD (s1.2.1).toNat Zd7).2.2.2]]))], 3⟩) hl (To.mk' [] 1 hε rfl zL zL) (fun s2 zs2 NNs2 hz hnexts2 houts2 => ?_)
     clear hl hT
     have hT := hz; clear hz
     let x2 := (decide (s2.2.1 < ((a6.getD (s1.2.1).toNat Zd7).2.2.2.length : Int)))
     refine zA hX ?_
     refine rSeq ?_
     refine zCond rfl rfl (fun hc => ?_) (fun hc => ?_)
     ·
      replace hT := sT hc hT
      refine rSkip (rThen (rSeq (rBlock ?_)))
      let x3 := ((a6.getD (s1.2.1).toNat Zd7).2.2.2.getD (s2.2.1).toNat Zd1)
      let x4 := ((a6.getD (s1.2.1).toNat Zd7).2.2.2.getD (s2.2.1).toNat Zd1).1
      let x5 := ((a6.getD (s1.2.1).toNat Zd7).2.2.2.getD (s2.2.1).toNat Zd1).2.1
      let x6 := ((a6.getD (s1.2.1).toNat Zd7).2.2.2.getD (s2.2.1).toNat Zd1).2.2.1
      let x7 := ((a6.getD (s1.2.1).toNat Zd7).2.2.2.getD (s2.2.1).toNat Zd1).2.2.2.1
      let x8 : (List Int) := ((a6.getD (s1.2.1).toNat Zd7).2.2.2.getD (s2.2.1).toNat Zd1).2.2.2.2.1
      let x9 : (List Int) := ((a6.getD (s1.2.1).toNat Zd7).2.2.2.getD (s2.2.1).toNat Zd1).2.2.2.2.2.1
      let x10 := ((a6.getD (s1.2.1).toNat Zd7).2.2.2.getD (s2.2.1).toNat Zd1).2.2.2.2.2.2
      replace hT := sIf hT; obtain ⟨⟨o1, o2⟩, hT⟩ := hT
      refine zA hX ?_
      refine rSeq (zA hX ?_)
      refine rJoinK hT (fun v3 => ⟨[(1, .v (.c (.clo 53 []))), (2, .v (.c (.clo 54 [0]))), (6, .v (.c (.int .i64 v3))), (8, .v (.c (.ptr 2 0 0 0 0 0))), (10, .v (.c (.ptr 3 0 0 0 0 0))), (14, .v (.c (.fz Zs1 a6))), (15, .v (.c (.int .i64 (a6.length : Int)))), (16, .v (.c (.int .i64 s1.2.1))), (17, .v (.c (.bool (decide (s1.2.1 < (a6.length : Int)))))), (18, .v (.c (.fp Zs1 (a6.getD (s1.2.1).toNat Zd7) 0 0 0))), (19, .v (.agg [.cs [.bool (a6.getD (s1.2.1).toNat Zd7).1, .int .i64 (a6.getD (s1.2.1).toNat Zd7).2.1, .int .i64 (a6.getD (s1.2.1).toNat Zd7).2.2.1, .fz Zs2 (a6.getD (s1.2.1).toNat Zd7).2.2.2]])), (20, .v (.c (.ptr 2 0 0 0 0 0))), (21, .v (.c (.bool (a6.getD (s1.2.1).toNat Zd7).1))), (24, .v (.c (.clo 53 []))), (25, .v (.c (.int .i64 x1))), (27, .v (.c (.ptr 2 0 0 3 0 0))), (28, .v (.c (.fz Zs2 (a6.getD (s1.2.1).toNat Zd7).2.2.2))), (29, .v (.c (.int .i64 ((a6.getD (s1.2.1).toNat Zd7).2.2.2.length : Int)))), (30, .v (.c (.int .i64 s2.2.1))), (31, .v (.c (.bool x2))), (32, .v (.c (.fp Zs2 x3 0 0 0))), (33, .v (.agg [.cs [.int .i64 x4, .bool x5, .int .i64 x6, .int .i64 x7], .ints 2 .i64 x8, .ints 6 .i64 x9, .fzs 6 Zs3 x10])), (34, .v (.c (.ptr 3 0 0 2 0 0))), (35, .v (.c (.int .i64 x6))), (36, .v (.c (.bool (decide (x6 = 1))))), (37, .v (.c (.bool (decide (x6 = 1))))), (41, .v (.c (.bool (bif (decide (x6 = 1)) then true else (decide (x6 = 4))))))], [(0, .bun 22 (.flat [.cs [.sl 1 0 s2.2.2.1 1]]) [(3, 1, .flat [.ints s2.2.2.2.1 .i64 s2.2.2.2.2])]), (2, .mem true 49 none (.flat [.cs [.bool (a6.getD (s1.2.1).toNat Zd7).1, .int .i64 (a6.getD (s1.2.1).toNat Zd7).2.1, .int .i64 (a6.getD (s1.2.1).toNat Zd7).2.2.1, .fz Zs2 (a6.getD (s1.2.1).toNat Zd7).2.2.2]])), (3, .mem true 42 none (.flat [.cs [.int .i64 x4, .bool x5, .int .i64 x6, .int .i64 x7], .ints 2 .i64 x8, .ints 6 .i64 x9, .fzs 6 Zs3 x10]))], 4⟩) (fun v3 hT => ?_) (fun k1 hjk1 hT => ?_)
      ·
       refine rThen ?_
       let c2 := (quants_Of_2 N v3 s2.2.2.1 s2.2.2.2.1 s2.2.2.2.2)
       replace hT := sIf hT; obtain ⟨o1, hT⟩ := hT
       refine zReg md0 hX rfl rfl rfl ?_
       refine rInNormal (rThen ?_)
       replace hT := sIf hT; obtain ⟨o1, hT⟩ := hT
       refine zReg md0 hX rfl rfl rfl ?_
       exact hnexts2 _ (Option.some.inj hT).symm _ (To.mk' [] 1 hε rfl zL zL)
      ·
       refine zCond rfl rfl (fun hc => ?_) (fun hc => ?_)
       ·
        replace hT := sT hc hT
        let c3 := (steps_Next N s2.1 x7)
        replace hT := sIf hT; obtain ⟨o1, hT⟩ := hT
        refine zReg md0 hX rfl rfl rfl ?_
        exact zTo [] 1 hε (hjk1 _ hT)
       ·
        replace hT := sF hc hT
        refine rSkip ?_
        exact zTo [] 1 hε (hjk1 _ hT)
     ·
      replace hT := sF hc hT
      refine rExit (rThenExit (rThenExit ?_))
      exact zTo [] 1 hε (hxs20 _ (houts2 _ (Option.some.inj hT).symm))
    ·
     clear hT
     refine zCond rfl rfl (fun hc => ?_) (fun hc => ?_)
     ·
      refine zReg md0 hX rfl rfl rfl ?_
      exact rTo (To.mk' [] 1 hε rfl zJ zJ) hj
     ·
      refine rSkip ?_
      exact rTo (To.mk' [] 1 hε rfl zJ zJ) hj
   ·
    replace hT := sF hc hT
    refine rExit (rThenExit (rThenExit ?_))
    exact zTo [] 1 hε (hxs10 _ (houts1 _ (Option.some.inj hT).symm))
  ·
   cases h
 ·
  cases h

end Go.Proofs.YtlcjjaglbcfbbaaDoor
