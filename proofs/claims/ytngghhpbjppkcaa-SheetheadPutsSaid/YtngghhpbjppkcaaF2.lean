/- Models of functions, and that the program does what they tell. -/
import Derived.Test.YtngghhpbjppkcaaF1
set_option linter.unusedVariables false
set_option linter.unusedSimpArgs false
namespace Go.Proofs.Ytngghhpbjppkcaa
open Go.X

def sheethead_Put_v1_b1 (N : Nat) (a6 : (List Int)) (s1 : (Int × (List Bool))) : Option ((Int × (List Bool)) ⊕ (List Bool)) :=
  bif (decide (s1.1 < (a6.length : Int))) then
    if (0 : Int) ≤ s1.1 ∧ s1.1 < (a6.length : Int) then
      let c12 := (overspill_outbits_Writer_Put N (orI (256 : Int) (a6.getD (s1.1).toNat 0)) 9 s1.2)
      if (0 : Int) ≤ (a6.getD (s1.1).toNat 0) ∧ c12.isSome = true then
        if inK .i64 (s1.1 + 1) then
          some (.inl ((s1.1 + 1), (c12.getD default).2))
        else none
      else none
    else none
  else
    some (.inr s1.2)
def sheethead_Put_v1 (N : Nat) (a1 : Int) (a2 : Int) (a3 : Int) (a4 : Bool) (a5 : Int) (a6 : (List Int)) (a7 : Zt1) (a8 : Int) (a9 : (List Bool)) : Option (Int × (List Bool)) :=
  let c1 := (sheethead_may_v1 N a1 a2 a3 a4 a5 a6 a7 a8)
  if c1.isSome = true then
    bif (!(c1.getD default)) then
      some (12, a9)
    else
      let c2 := (marks_Put N 0 a9)
      if c2.isSome = true then
        let c3 := (overspill_outbits_Writer_Put N a1 8 (c2.getD default).2)
        if c3.isSome = true then
          let c4 := (overspill_outbits_Writer_Put N 2 2 (c3.getD default).2)
          if c4.isSome = true then
            let c5 := (overspill_outbits_Writer_Put N a2 3 (c4.getD default).2)
            if c5.isSome = true then
              let c6 := (overspill_outbits_Writer_Put N a3 3 (c5.getD default).2)
              if c6.isSome = true then
                let c7 := (overspill_outbits_Writer_Put N (bif a4 then (1 : Int) else 0) 1 (c6.getD default).2)
                if c7.isSome = true then
                  let c8 := (overspill_outbits_Writer_Put N 0 4 (c7.getD default).2)
                  if c8.isSome = true then
                    let c9 := (overspill_outbits_Writer_Put N a5 5 (c8.getD default).2)
                    if c9.isSome = true then
                      let c10 := (overspill_outbits_Writer_Put N 0 1 (c9.getD default).2)
                      if c10.isSome = true then
                        (iter (sheethead_Put_v1_b1 N a6) N (0, (c10.getD default).2)).bind fun v1 =>
                          let c11 := (overspill_outbits_Writer_Put N 0 1 v1)
                          if c11.isSome = true then
                            some ((c11.getD default).1, (c11.getD default).2)
                          else none
                      else none
                    else none
                  else none
                else none
              else none
            else none
          else none
        else none
      else none
  else none
def sp_sheethead_Put_v1 (N : Nat) : X.Spec := fun args lk => match args with
  | [.v (.c (.ptr i0 0 0 0 0 0)), .v (.agg [.cs [.int .i64 a1, .int .i64 a2, .int .i64 a3, .bool a4, .int .i64 a5, .fz (.int .i64) a6, .fz (.pair .bool (.pair (.int .i64) (.pair (.int .i64) (.sl (.pair (.int .i64) (.pair .bool (.pair (.int .i64) (.pair (.int .i64) (.pair (.arr 2 .i64) (.pair (.arr 6 .i64) (.arrS 6 (.pair .bool (.pair (.int .i64) (.int .i64)))))))))))))) a7, .int .i64 a8]])] => (match lk i0 with
    | some (.obj 5 a9) => some ⟨(sheethead_Put_v1 N a1 a2 a3 a4 a5 a6 a7 a8 a9).isSome = true, .v (.c (.int .i64 ((sheethead_Put_v1 N a1 a2 a3 a4 a5 a6 a7 a8 a9).getD default).1)), [], [(i0, .obj 5 ((sheethead_Put_v1 N a1 a2 a3 a4 a5 a6 a7 a8 a9).getD default).2)]⟩
    | _ => none)
  | _ => none
set_option maxRecDepth 100000 in
set_option maxHeartbeats 1000000 in
theorem ok_sheethead_Put_v1 (N : Nat) : FnOK Try.prog gt0 16 (sp_sheethead_Put_v1 N) := by
  refine fnOK_handed Try.func16 rfl (by kernel_rfl) tt_ok (ktCons (ok_overspill_outbits_Writer_Put N) (ktCons (ok_marks_Put N) (ktCons (ok_sheethead_may_v1 N) (ktNil)))) ?_
  intro args lk r h hp
  unfold sp_sheethead_Put_v1 at h
  split at h
  · rename_i i0 a1 a2 a3 a4 a5 a6 a7 a8
    split at h
    · rename_i a9 hl0
      change (List Int) at a6
      change Zt1 at a7
      cases h
      obtain ⟨x, hx⟩ := Option.isSome_iff_exists.1 hp
      simp only [hx, Option.getD_some]
      refine handL [i0] 1 [(0, .obj 5 a9)] [.v (.c (.ptr 0 0 0 0 0 0)), .v (.agg [.cs [.int .i64 a1, .int .i64 a2, .int .i64 a3, .bool a4, .int .i64 a5, .fz (.int .i64) a6, .fz Zs1 a7, .int .i64 a8]])] rfl rfl rfl ⟨isSome_of hl0, trivial⟩ ⟨⟨rfl, zT, _, hl0, .inl rfl⟩, trivial⟩ rfl (fun w0 M ε0 hX => ?_)
      refine rCount (fun hε => ?_)
      have hT : sheethead_Put_v1 N a1 a2 a3 a4 a5 a6 a7 a8 a9 = some x := hx; clear hx hp; unfold sheethead_Put_v1 at hT
      refine zA hX ?_
      refine rSeq (rBlock (zA hX ?_))
      refine rCondF rfl rfl zP rfl ?_
      let c1 := (sheethead_may_v1 N a1 a2 a3 a4 a5 a6 a7 a8)
      replace hT := sIf hT; obtain ⟨o1, hT⟩ := hT
      refine zA hX ?_
      refine zCond rfl rfl (fun hc => ?_) (fun hc => ?_)
      · replace hT := sT hc hT
        refine zA hX ?_
        refine rRet (rInRet (rThenRet ?_))
        have hy := Option.some.inj hT; subst hy
        exact rEndA [] [] [(0, .obj 5 a9)] (.v (.c (.int .i64 12))) hX rfl zZ zL rfl rfl rfl zT rfl rfl zT rfl rfl
      · replace hT := sF hc hT
        refine rSkip (rInNormal (rThen (zA hX ?_)))
        refine rSeq (zA hX ?_)
        refine rJoin ⟨[(0, .v (.c (.ptr 0 0 0 0 0 0))), (3, .v (.c (.ptr 1 0 0 0 0 0))), (4, .v (.c (.int .i64 0))), (5, .v (.c (.int .i64 (bif a4 then (1 : Int) else 0))))], [(0, .obj 5 a9), (1, .mem true 30 none (.flat [.cs [.int .i64 a1, .int .i64 a2, .int .i64 a3, .bool a4, .int .i64 a5, .fz (.int .i64) a6, .fz Zs1 a7, .int .i64 a8]]))], 2⟩ ?_ (fun hj => ?_)
        · skip
          refine rThen ?_
          let c2 := (marks_Put N 0 a9)
          replace hT := sIf hT; obtain ⟨o1, hT⟩ := hT
          refine zA hX ?_
          let c3 := (overspill_outbits_Writer_Put N a1 8 (c2.getD default).2)
          replace hT := sIf hT; obtain ⟨o1, hT⟩ := hT
          refine zA hX ?_
          let c4 := (overspill_outbits_Writer_Put N 2 2 (c3.getD default).2)
          replace hT := sIf hT; obtain ⟨o1, hT⟩ := hT
          refine zA hX ?_
          let c5 := (overspill_outbits_Writer_Put N a2 3 (c4.getD default).2)
          replace hT := sIf hT; obtain ⟨o1, hT⟩ := hT
          refine zA hX ?_
          let c6 := (overspill_outbits_Writer_Put N a3 3 (c5.getD default).2)
          replace hT := sIf hT; obtain ⟨o1, hT⟩ := hT
          refine zA hX ?_
          let c7 := (overspill_outbits_Writer_Put N (bif a4 then (1 : Int) else 0) 1 (c6.getD default).2)
          replace hT := sIf hT; obtain ⟨o1, hT⟩ := hT
          refine zA hX ?_
          let c8 := (overspill_outbits_Writer_Put N 0 4 (c7.getD default).2)
          replace hT := sIf hT; obtain ⟨o1, hT⟩ := hT
          refine zA hX ?_
          let c9 := (overspill_outbits_Writer_Put N a5 5 (c8.getD default).2)
          replace hT := sIf hT; obtain ⟨o1, hT⟩ := hT
          refine zA hX ?_
          let c10 := (overspill_outbits_Writer_Put N 0 1 (c9.getD default).2)
          replace hT := sIf hT; obtain ⟨o1, hT⟩ := hT
          refine zA hX ?_
          refine rSeq (zA hX ?_)
          refine rBlock ?_
          replace hT := sBind hT; obtain ⟨w1, hl, hT⟩ := hT
          refine rJoinA (fun v1 => v1 = w1) (fun v1 => ⟨[(0, .v (.c (.ptr 0 0 0 0 0 0))), (4, .v (.c (.int .i64 0)))], [(0, .obj 5 v1)], 2⟩) (.exit 1) (fun v1 hv => ?_) (fun hxs10 => ?_)
          · subst hv; clear hl
            refine rInHit (rThen ?_)
            let c11 := (overspill_outbits_Writer_Put N 0 1 v1)
            replace hT := sIf hT; obtain ⟨o1, hT⟩ := hT
            refine zA hX ?_
            refine rRet ?_
            have hy := Option.some.inj hT; subst hy
            exact rEndA [] [] [(0, .obj 5 (c11.getD default).2)] (.v (.c (.int .i64 (c11.getD default).1))) hX rfl zZ zL rfl rfl rfl zT rfl rfl zT rfl rfl
          refine rLoopM (sheethead_Put_v1_b1 N a6) (fun s1 => ⟨[(0, .v (.c (.ptr 0 0 0 0 0 0))), (4, .v (.c (.int .i64 0))), (45, .v (.c (.fz (.int .i64) a6))), (46, .v (.c (.int .i64 (a6.length : Int)))), (47, .v (.c (.int .i64 s1.1)))], [(0, .obj 5 s1.2)], 2⟩) hl (To.mk' [] 1 hε rfl zL zL) (fun s1 zs1 NNs1 hz hnexts1 houts1 => ?_)
          clear hl hT
          have hT := hz; clear hz
          refine zA hX ?_
          refine rSeq ?_
          refine zCond rfl rfl (fun hc => ?_) (fun hc => ?_)
          · replace hT := sT hc hT
            refine rSkip (rThen (rSeq (rBlock ?_)))
            replace hT := sIf hT; obtain ⟨⟨o1, o2⟩, hT⟩ := hT
            refine zA hX ?_
            let c12 := (overspill_outbits_Writer_Put N (orI (256 : Int) (a6.getD (s1.1).toNat 0)) 9 s1.2)
            replace hT := sIf hT; obtain ⟨⟨o1, o2⟩, hT⟩ := hT
            refine zReg md0 hX rfl rfl rfl ?_
            refine rInNormal (rThen ?_)
            replace hT := sIf hT; obtain ⟨o1, hT⟩ := hT
            refine zReg md0 hX rfl rfl rfl ?_
            exact hnexts1 _ (Option.some.inj hT).symm _ (To.mk' [] 1 hε rfl zL zL)
          · replace hT := sF hc hT
            refine rExit (rThenExit (rThenExit ?_))
            exact zTo [] 1 hε (hxs10 _ (houts1 _ (Option.some.inj hT).symm))
        · clear hT
          refine zCond rfl rfl (fun hc => ?_) (fun hc => ?_)
          · skip
            refine zReg md0 hX rfl rfl rfl ?_
            exact rTo (To.mk' [] 1 hε rfl zJ zJ) hj
          · skip
            refine rSkip ?_
            exact rTo (To.mk' [] 1 hε rfl zJ zJ) hj
    · cases h
  · cases h
def sheethead_Put_v2 (N : Nat) (a1 : Int) (a2 : Int) (a3 : Int) (a4 : Bool) (a5 : Int) (a6 : (List Int)) (a7 : Zt1) (a8 : Int) : Option Int :=
  some 1
def sp_sheethead_Put_v2 (N : Nat) : X.Spec := fun args lk => match args with
  | [.v (.c (.val (.pointer none))), .v (.agg [.cs [.int .i64 a1, .int .i64 a2, .int .i64 a3, .bool a4, .int .i64 a5, .fz (.int .i64) a6, .fz (.pair .bool (.pair (.int .i64) (.pair (.int .i64) (.sl (.pair (.int .i64) (.pair .bool (.pair (.int .i64) (.pair (.int .i64) (.pair (.arr 2 .i64) (.pair (.arr 6 .i64) (.arrS 6 (.pair .bool (.pair (.int .i64) (.int .i64)))))))))))))) a7, .int .i64 a8]])] => some ⟨(sheethead_Put_v2 N a1 a2 a3 a4 a5 a6 a7 a8).isSome = true, .v (.c (.int .i64 ((sheethead_Put_v2 N a1 a2 a3 a4 a5 a6 a7 a8).getD default))), [], []⟩
  | _ => none
set_option maxRecDepth 100000 in
set_option maxHeartbeats 1000000 in
theorem ok_sheethead_Put_v2 (N : Nat) : FnOK Try.prog gt0 16 (sp_sheethead_Put_v2 N) := by
  refine fnOK_handed Try.func16 rfl (by kernel_rfl) tt_ok (ktNil) ?_
  intro args lk r h hp
  unfold sp_sheethead_Put_v2 at h
  split at h
  · rename_i a1 a2 a3 a4 a5 a6 a7 a8
    change (List Int) at a6
    change Zt1 at a7
    cases h
    obtain ⟨x, hx⟩ := Option.isSome_iff_exists.1 hp
    simp only [hx, Option.getD_some]
    refine hand0 rfl rfl (fun w0 M ε0 hX => ?_)
    refine rCount (fun hε => ?_)
    have hT : sheethead_Put_v2 N a1 a2 a3 a4 a5 a6 a7 a8 = some x := hx; clear hx hp; unfold sheethead_Put_v2 at hT
    refine zA hX ?_
    refine rSeq (rBlock (zA hX ?_))
    refine rCondT rfl rfl zP rfl ?_
    refine zA hX ?_
    refine rRet (rInRet (rThenRet ?_))
    have hy := Option.some.inj hT; subst hy
    exact zEnd0 hX rfl
  · cases h
def ref24_Right_b1 (N : Nat) (a6 : (List Int)) (s1 : Int) : Option (Int ⊕ (Unit ⊕ Unit)) :=
  bif (decide (s1 < (a6.length : Int))) then
    let x12 := (bif (decide ((a6.getD (s1).toNat 0) < 0)) then true else (decide ((255 : Int) < (a6.getD (s1).toNat 0))))
    if (0 : Int) ≤ s1 ∧ s1 < (a6.length : Int) ∧ ((!(decide ((a6.getD (s1).toNat 0) < 0))) = true → (0 : Int) ≤ s1) ∧ ((!(decide ((a6.getD (s1).toNat 0) < 0))) = true → s1 < (a6.length : Int)) then
      bif x12 then
        some (.inr (Sum.inl ()))
      else
        if inK .i64 (s1 + 1) then
          some (.inl (s1 + 1))
        else none
    else none
  else
    some (.inr (Sum.inr ()))
def ref24_Right (N : Nat) (a1 : Int) (a2 : Int) (a3 : Int) (a4 : Bool) (a5 : Int) (a6 : (List Int)) (a7 : Zt1) (a8 : Int) : Option Bool :=
  let c1 := (ref16_Many N a3)
  let x11 := (bif (bif (bif (bif (bif (bif (bif (decide (a1 < 0)) then true else (decide ((255 : Int) < a1))) then true else (decide (a2 < 0))) then true else (decide ((7 : Int) < a2))) then true else (decide ((c1.getD default) = 0))) then true else (decide (a5 < 1))) then true else (decide ((31 : Int) < a5))) then true else (decide ((8 : Int) < (a6.length : Int))))
  if ((!(bif (bif (bif (decide (a1 < 0)) then true else (decide ((255 : Int) < a1))) then true else (decide (a2 < 0))) then true else (decide ((7 : Int) < a2)))) = true → c1.isSome = true) then
    bif x11 then
      some false
    else
      (iter (ref24_Right_b1 N a6) N 0).bind fun w1 =>
        (Sum.elim (fun v1 =>
          some false
        )
          (fun v2 =>
            some true
          )
        ) w1
  else none
def sp_ref24_Right (N : Nat) : X.Spec := fun args lk => match args with
  | [.v (.agg [.cs [.int .i64 a1, .int .i64 a2, .int .i64 a3, .bool a4, .int .i64 a5, .fz (.int .i64) a6, .fz (.pair .bool (.pair (.int .i64) (.pair (.int .i64) (.sl (.pair (.int .i64) (.pair .bool (.pair (.int .i64) (.pair (.int .i64) (.pair (.arr 2 .i64) (.pair (.arr 6 .i64) (.arrS 6 (.pair .bool (.pair (.int .i64) (.int .i64)))))))))))))) a7, .int .i64 a8]])] => some ⟨(ref24_Right N a1 a2 a3 a4 a5 a6 a7 a8).isSome = true, .v (.c (.bool ((ref24_Right N a1 a2 a3 a4 a5 a6 a7 a8).getD default))), [], []⟩
  | _ => none
set_option maxRecDepth 100000 in
set_option maxHeartbeats 1000000 in
theorem ok_ref24_Right (N : Nat) : FnOK Try.prog gt0 17 (sp_ref24_Right N) := by
  refine fnOK_handed Try.func17 rfl (by kernel_rfl) tt_ok (ktCons (ok_ref16_Many N) (ktNil)) ?_
  intro args lk r h hp
  unfold sp_ref24_Right at h
  split at h
  · rename_i a1 a2 a3 a4 a5 a6 a7 a8
    change (List Int) at a6
    change Zt1 at a7
    cases h
    obtain ⟨x, hx⟩ := Option.isSome_iff_exists.1 hp
    simp only [hx, Option.getD_some]
    refine hand0 rfl rfl (fun w0 M ε0 hX => ?_)
    refine rCount (fun hε => ?_)
    have hT : ref24_Right N a1 a2 a3 a4 a5 a6 a7 a8 = some x := hx; clear hx hp; unfold ref24_Right at hT
    refine zA hX ?_
    refine rSeq ?_
    let c1 := (ref16_Many N a3)
    let x11 := (bif (bif (bif (bif (bif (bif (bif (decide (a1 < 0)) then true else (decide ((255 : Int) < a1))) then true else (decide (a2 < 0))) then true else (decide ((7 : Int) < a2))) then true else (decide ((c1.getD default) = 0))) then true else (decide (a5 < 1))) then true else (decide ((31 : Int) < a5))) then true else (decide ((8 : Int) < (a6.length : Int))))
    replace hT := sIf hT; obtain ⟨o1, hT⟩ := hT
    refine rSeq (rRegC md0 hX rfl rfl rfl zO ?_)
    refine rThen ?_
    refine zCond rfl rfl (fun hc => ?_) (fun hc => ?_)
    · replace hT := sT hc hT
      refine zA hX ?_
      refine rRet (rThenRet ?_)
      have hy := Option.some.inj hT; subst hy
      exact zEnd0 hX rfl
    · replace hT := sF hc hT
      refine rSkip (rThen (rSeq (zA hX ?_)))
      refine rBlock ?_
      replace hT := sBind hT; obtain ⟨w1, hl, hT⟩ := hT
      refine rJoinA (fun v1 => (Sum.inl v1) = w1) (fun v1 => ⟨[(2, .v (.c (.bool false)))], [], 1⟩) .ret (fun v1 hv => ?_) (fun hxs10 => ?_)
      · subst hv; clear hl; replace hT := (sElimL hT)
        refine rInRet (rThenRet ?_)
        have hy := Option.some.inj hT; subst hy
        exact zEnd0 hX rfl
      refine rJoinA (fun v2 => (Sum.inr v2) = w1) (fun v2 => ⟨[(2, .v (.c (.bool false)))], [], 1⟩) (.exit 0) (fun v2 hv => ?_) (fun hxs11 => ?_)
      · subst hv; clear hl; replace hT := (sElimR hT)
        refine rInHit (rThen (zA hX ?_))
        refine rRet ?_
        have hy := Option.some.inj hT; subst hy
        exact zEnd0 hX rfl
      refine rLoopM (ref24_Right_b1 N a6) (fun s1 => ⟨[(1, .v (.c (.ptr 0 0 0 0 0 0))), (2, .v (.c (.bool false))), (3, .v (.c (.int .i64 s1)))], [(0, .mem true 30 none (.flat [.cs [.int .i64 a1, .int .i64 a2, .int .i64 a3, .bool a4, .int .i64 a5, .fz (.int .i64) a6, .fz Zs1 a7, .int .i64 a8]]))], 1⟩) hl (To.mk' [] 0 hε rfl zL zL) (fun s1 zs1 NNs1 hz hnexts1 houts1 => ?_)
      clear hl hT
      have hT := hz; clear hz
      refine rSeq (zA hX ?_)
      refine zCond rfl rfl (fun hc => ?_) (fun hc => ?_)
      · replace hT := sT hc hT
        refine rSkip (rThen (rSeq (rBlock ?_)))
        let x12 := (bif (decide ((a6.getD (s1).toNat 0) < 0)) then true else (decide ((255 : Int) < (a6.getD (s1).toNat 0))))
        replace hT := sIf hT; obtain ⟨⟨o1, o2, o3, o4⟩, hT⟩ := hT
        refine rSeq (rRegC md0 hX rfl rfl rfl zO ?_)
        refine rThen ?_
        refine zCond rfl rfl (fun hc => ?_) (fun hc => ?_)
        · replace hT := sT hc hT
          refine zA hX ?_
          refine rRet (rInRet (rThenRet (rThenRet ?_)))
          exact zTo [] 0 hε (hxs10 _ (houts1 _ (Option.some.inj hT).symm))
        · replace hT := sF hc hT
          refine rSkip (rInNormal (rThen ?_))
          replace hT := sIf hT; obtain ⟨o1, hT⟩ := hT
          refine zReg md0 hX rfl rfl rfl ?_
          exact hnexts1 _ (Option.some.inj hT).symm _ (To.mk' [] 0 hε rfl zL zL)
      · replace hT := sF hc hT
        refine rExit (rThenExit (rThenExit ?_))
        exact zTo [] 0 hε (hxs11 _ (houts1 _ (Option.some.inj hT).symm))
  · cases h
def ref04_Row (N : Nat) (a1 : Int) : Option ByteArray :=
  let c1 := (ref02_Row N a1 5)
  let x1 := ((⟨#[48, 48, 48, 48, 48, 48, 48, 48, 48, 48, 48, 48, 48, 48, 48, 48, 49]⟩ : ByteArray) ++ (c1.getD default))
  if c1.isSome = true ∧ (ByteArray.size ⟨#[48, 48, 48, 48, 48, 48, 48, 48, 48, 48, 48, 48, 48, 48, 48, 48, 49]⟩ : Int) + ByteArray.size (c1.getD default) ≤ 9223372036854775807 then
    some x1
  else none
def sp_ref04_Row (N : Nat) : X.Spec := fun args lk => match args with
  | [.v (.c (.int .i64 a1))] => some ⟨(ref04_Row N a1).isSome = true, .v (.c (.str ((ref04_Row N a1).getD default))), [], []⟩
  | _ => none
set_option maxRecDepth 100000 in
set_option maxHeartbeats 1000000 in
theorem ok_ref04_Row (N : Nat) : FnOK Try.prog gt0 32 (sp_ref04_Row N) := by
  refine fnOK_handed Try.func32 rfl (by kernel_rfl) tt_ok (ktCons (ok_ref02_Row N) (ktNil)) ?_
  intro args lk r h hp
  unfold sp_ref04_Row at h
  split at h
  · rename_i a1
    cases h
    obtain ⟨x, hx⟩ := Option.isSome_iff_exists.1 hp
    simp only [hx, Option.getD_some]
    refine hand0 rfl rfl (fun w0 M ε0 hX => ?_)
    refine rCount (fun hε => ?_)
    have hT : ref04_Row N a1 = some x := hx; clear hx hp; unfold ref04_Row at hT
    refine zA hX ?_
    let c1 := (ref02_Row N a1 5)
    let x1 := ((⟨#[48, 48, 48, 48, 48, 48, 48, 48, 48, 48, 48, 48, 48, 48, 48, 48, 49]⟩ : ByteArray) ++ (c1.getD default))
    replace hT := sIf hT; obtain ⟨⟨o1, o2⟩, hT⟩ := hT
    refine zA hX ?_
    refine rRet ?_
    have hy := Option.some.inj hT; subst hy
    exact zEnd0 hX rfl
  · cases h
def ref24_Row_b1 (N : Nat) (a7 : (List Int)) (s2 : (ByteArray × Int)) : Option ((ByteArray × Int) ⊕ ByteArray) :=
  bif (decide (s2.2 < (a7.length : Int))) then
    let c6 := (ref02_Row N (a7.getD (s2.2).toNat 0) 8)
    if (ByteArray.size s2.1 : Int) + ByteArray.size ⟨#[49]⟩ ≤ 9223372036854775807 ∧ (0 : Int) ≤ s2.2 ∧ s2.2 < (a7.length : Int) ∧ c6.isSome = true ∧ (ByteArray.size (s2.1 ++ ⟨#[49]⟩) : Int) + ByteArray.size (c6.getD default) ≤ 9223372036854775807 then
      if inK .i64 (s2.2 + 1) then
        some (.inl (((s2.1 ++ ⟨#[49]⟩) ++ (c6.getD default)), (s2.2 + 1)))
      else none
    else none
  else
    some (.inr s2.1)
def ref24_Row_b2 (N : Nat) (a1 : Int) (s1 : ByteArray) : Option (ByteArray ⊕ ByteArray) :=
  if inK .i64 (a1 + (ByteArray.size s1 : Int)) ∧ (0 : Int) ≤ (a1 + (ByteArray.size s1 : Int)) then
    bif (decide (((a1 + (ByteArray.size s1 : Int)) % 8) ≠ 0)) then
      if (ByteArray.size s1 : Int) + ByteArray.size ⟨#[48]⟩ ≤ 9223372036854775807 then
        some (.inl (s1 ++ ⟨#[48]⟩))
      else none
    else
      some (.inr s1)
  else none
def ref24_Row (N : Nat) (a1 : Int) (a2 : Int) (a3 : Int) (a4 : Int) (a5 : Bool) (a6 : Int) (a7 : (List Int)) (a8 : Zt1) (a9 : Int) : Option ByteArray :=
  (iter (ref24_Row_b2 N a1) N ⟨#[]⟩).bind fun v1 =>
    let c1 := (ref04_Row N 0)
    let c2 := (ref02_Row N a2 8)
    let c3 := (ref02_Row N a3 3)
    let c4 := (ref02_Row N a4 3)
    let c5 := (ref02_Row N a6 5)
    let x1 := (((((((((v1 ++ (c1.getD default)) ++ (c2.getD default)) ++ ⟨#[49, 48]⟩) ++ (c3.getD default)) ++ (c4.getD default)) ++ (bif a5 then ⟨#[49]⟩ else ⟨#[48]⟩)) ++ ⟨#[48, 48, 48, 48]⟩) ++ (c5.getD default)) ++ ⟨#[48]⟩)
    if c1.isSome = true ∧ (ByteArray.size v1 : Int) + ByteArray.size (c1.getD default) ≤ 9223372036854775807 ∧ c2.isSome = true ∧ (ByteArray.size (v1 ++ (c1.getD default)) : Int) + ByteArray.size (c2.getD default) ≤ 9223372036854775807 ∧ (ByteArray.size ((v1 ++ (c1.getD default)) ++ (c2.getD default)) : Int) + ByteArray.size ⟨#[49, 48]⟩ ≤ 9223372036854775807 ∧ c3.isSome = true ∧ (ByteArray.size (((v1 ++ (c1.getD default)) ++ (c2.getD default)) ++ ⟨#[49, 48]⟩) : Int) + ByteArray.size (c3.getD default) ≤ 9223372036854775807 ∧ c4.isSome = true ∧ (ByteArray.size ((((v1 ++ (c1.getD default)) ++ (c2.getD default)) ++ ⟨#[49, 48]⟩) ++ (c3.getD default)) : Int) + ByteArray.size (c4.getD default) ≤ 9223372036854775807 ∧ (ByteArray.size (((((v1 ++ (c1.getD default)) ++ (c2.getD default)) ++ ⟨#[49, 48]⟩) ++ (c3.getD default)) ++ (c4.getD default)) : Int) + ByteArray.size (bif a5 then ⟨#[49]⟩ else ⟨#[48]⟩) ≤ 9223372036854775807 ∧ (ByteArray.size ((((((v1 ++ (c1.getD default)) ++ (c2.getD default)) ++ ⟨#[49, 48]⟩) ++ (c3.getD default)) ++ (c4.getD default)) ++ (bif a5 then ⟨#[49]⟩ else ⟨#[48]⟩)) : Int) + ByteArray.size ⟨#[48, 48, 48, 48]⟩ ≤ 9223372036854775807 ∧ c5.isSome = true ∧ (ByteArray.size (((((((v1 ++ (c1.getD default)) ++ (c2.getD default)) ++ ⟨#[49, 48]⟩) ++ (c3.getD default)) ++ (c4.getD default)) ++ (bif a5 then ⟨#[49]⟩ else ⟨#[48]⟩)) ++ ⟨#[48, 48, 48, 48]⟩) : Int) + ByteArray.size (c5.getD default) ≤ 9223372036854775807 ∧ (ByteArray.size ((((((((v1 ++ (c1.getD default)) ++ (c2.getD default)) ++ ⟨#[49, 48]⟩) ++ (c3.getD default)) ++ (c4.getD default)) ++ (bif a5 then ⟨#[49]⟩ else ⟨#[48]⟩)) ++ ⟨#[48, 48, 48, 48]⟩) ++ (c5.getD default)) : Int) + ByteArray.size ⟨#[48]⟩ ≤ 9223372036854775807 then
      (iter (ref24_Row_b1 N a7) N (x1, 0)).bind fun v2 =>
        if (ByteArray.size v2 : Int) + ByteArray.size ⟨#[48]⟩ ≤ 9223372036854775807 then
          some (v2 ++ ⟨#[48]⟩)
        else none
    else none
def sp_ref24_Row (N : Nat) : X.Spec := fun args lk => match args with
  | [.v (.c (.int .i64 a1)), .v (.agg [.cs [.int .i64 a2, .int .i64 a3, .int .i64 a4, .bool a5, .int .i64 a6, .fz (.int .i64) a7, .fz (.pair .bool (.pair (.int .i64) (.pair (.int .i64) (.sl (.pair (.int .i64) (.pair .bool (.pair (.int .i64) (.pair (.int .i64) (.pair (.arr 2 .i64) (.pair (.arr 6 .i64) (.arrS 6 (.pair .bool (.pair (.int .i64) (.int .i64)))))))))))))) a8, .int .i64 a9]])] => some ⟨(ref24_Row N a1 a2 a3 a4 a5 a6 a7 a8 a9).isSome = true, .v (.c (.str ((ref24_Row N a1 a2 a3 a4 a5 a6 a7 a8 a9).getD default))), [], []⟩
  | _ => none
set_option maxRecDepth 100000 in
set_option maxHeartbeats 1000000 in
theorem ok_ref24_Row (N : Nat) : FnOK Try.prog gt0 19 (sp_ref24_Row N) := by
  refine fnOK_handed Try.func19 rfl (by kernel_rfl) tt_ok (ktCons (ok_ref02_Row N) (ktCons (ok_ref04_Row N) (ktNil))) ?_
  intro args lk r h hp
  unfold sp_ref24_Row at h
  split at h
  · rename_i a1 a2 a3 a4 a5 a6 a7 a8 a9
    change (List Int) at a7
    change Zt1 at a8
    cases h
    obtain ⟨x, hx⟩ := Option.isSome_iff_exists.1 hp
    simp only [hx, Option.getD_some]
    refine hand0 rfl rfl (fun w0 M ε0 hX => ?_)
    refine rCount (fun hε => ?_)
    have hT : ref24_Row N a1 a2 a3 a4 a5 a6 a7 a8 a9 = some x := hx; clear hx hp; unfold ref24_Row at hT
    refine zA hX ?_
    refine zA hX ?_
    refine rSeq (rBlock ?_)
    replace hT := sBind hT; obtain ⟨w1, hl, hT⟩ := hT
    refine rJoinA (fun v1 => v1 = w1) (fun v1 => ⟨[(3, .v (.c (.ptr 0 0 0 0 0 0))), (4, .v (.c (.str ⟨#[]⟩))), (5, .v (.c (.str v1)))], [(0, .mem true 30 none (.flat [.cs [.int .i64 a2, .int .i64 a3, .int .i64 a4, .bool a5, .int .i64 a6, .fz (.int .i64) a7, .fz Zs1 a8, .int .i64 a9]]))], 1⟩) (.exit 0) (fun v1 hv => ?_) (fun hxs10 => ?_)
    · subst hv; clear hl
      refine rInHit (rThen (zA hX ?_))
      refine rSeq (zA hX ?_)
      refine rJoin ⟨[(3, .v (.c (.ptr 0 0 0 0 0 0))), (4, .v (.c (.str ⟨#[]⟩))), (5, .v (.c (.str v1))), (6, .v (.c (.str (bif a5 then ⟨#[49]⟩ else ⟨#[48]⟩))))], [(0, .mem true 30 none (.flat [.cs [.int .i64 a2, .int .i64 a3, .int .i64 a4, .bool a5, .int .i64 a6, .fz (.int .i64) a7, .fz Zs1 a8, .int .i64 a9]]))], 1⟩ ?_ (fun hj => ?_)
      · skip
        refine rThen ?_
        let c1 := (ref04_Row N 0)
        let c2 := (ref02_Row N a2 8)
        let c3 := (ref02_Row N a3 3)
        let c4 := (ref02_Row N a4 3)
        let c5 := (ref02_Row N a6 5)
        let x1 := (((((((((v1 ++ (c1.getD default)) ++ (c2.getD default)) ++ ⟨#[49, 48]⟩) ++ (c3.getD default)) ++ (c4.getD default)) ++ (bif a5 then ⟨#[49]⟩ else ⟨#[48]⟩)) ++ ⟨#[48, 48, 48, 48]⟩) ++ (c5.getD default)) ++ ⟨#[48]⟩)
        replace hT := sIf hT; obtain ⟨⟨o1, o2, o3, o4, o5, o6, o7, o8, o9, o10, o11, o12, o13, o14⟩, hT⟩ := hT
        refine rSeq (zDraw md0 1 [24] hX mixed rfl rfl rfl rfl rfl ?_)
        refine rThen (rSeq (zA hX ?_))
        refine rBlock ?_
        replace hT := sBind hT; obtain ⟨w2, hl, hT⟩ := hT
        refine rJoinA (fun v2 => v2 = w2) (fun v2 => ⟨[(4, .v (.c (.str ⟨#[]⟩))), (5, .v (.c (.str v2)))], [], 1⟩) (.exit 2) (fun v2 hv => ?_) (fun hxs20 => ?_)
        · subst hv; clear hl
          refine rInHit (rThen ?_)
          replace hT := sIf hT; obtain ⟨o1, hT⟩ := hT
          refine zA hX ?_
          refine rRet ?_
          have hy := Option.some.inj hT; subst hy
          exact zEnd0 hX rfl
        refine rLoopM (ref24_Row_b1 N a7) (fun s2 => ⟨[(3, .v (.c (.ptr 0 0 0 0 0 0))), (4, .v (.c (.str ⟨#[]⟩))), (5, .v (.c (.str s2.1))), (7, .v (.c (.int .i64 s2.2)))], [(0, .mem true 30 none (.flat [.cs [.int .i64 a2, .int .i64 a3, .int .i64 a4, .bool a5, .int .i64 a6, .fz (.int .i64) a7, .fz Zs1 a8, .int .i64 a9]]))], 1⟩) hl (To.mk' [] 0 hε rfl zL zL) (fun s2 zs2 NNs2 hz hnexts2 houts2 => ?_)
        clear hl hT
        have hT := hz; clear hz
        refine rSeq (zA hX ?_)
        refine zCond rfl rfl (fun hc => ?_) (fun hc => ?_)
        · replace hT := sT hc hT
          refine rSkip (rThen (rSeq (rBlock ?_)))
          let c6 := (ref02_Row N (a7.getD (s2.2).toNat 0) 8)
          replace hT := sIf hT; obtain ⟨⟨o1, o2, o3, o4, o5⟩, hT⟩ := hT
          refine zReg md0 hX rfl rfl rfl ?_
          refine rInNormal (rThen ?_)
          replace hT := sIf hT; obtain ⟨o1, hT⟩ := hT
          refine zReg md0 hX rfl rfl rfl ?_
          exact hnexts2 _ (Option.some.inj hT).symm _ (To.mk' [] 0 hε rfl zL zL)
        · replace hT := sF hc hT
          refine rExit (rThenExit (rThenExit ?_))
          exact zTo [] 0 hε (hxs20 _ (houts2 _ (Option.some.inj hT).symm))
      · clear hT
        refine zCond rfl rfl (fun hc => ?_) (fun hc => ?_)
        · skip
          refine zReg md0 hX rfl rfl rfl ?_
          exact rTo (To.mk' [] 0 hε rfl zJ zJ) hj
        · skip
          refine rSkip ?_
          exact rTo (To.mk' [] 0 hε rfl zJ zJ) hj
    refine rLoopM (ref24_Row_b2 N a1) (fun s1 => ⟨[(0, .v (.c (.int .i64 a1))), (3, .v (.c (.ptr 0 0 0 0 0 0))), (4, .v (.c (.str ⟨#[]⟩))), (5, .v (.c (.str s1)))], [(0, .mem true 30 none (.flat [.cs [.int .i64 a2, .int .i64 a3, .int .i64 a4, .bool a5, .int .i64 a6, .fz (.int .i64) a7, .fz Zs1 a8, .int .i64 a9]]))], 1⟩) hl (To.mk' [] 0 hε rfl zL zL) (fun s1 zs1 NNs1 hz hnexts1 houts1 => ?_)
    clear hl hT
    have hT := hz; clear hz
    refine rSeq ?_
    replace hT := sIf hT; obtain ⟨⟨o1, o2⟩, hT⟩ := hT
    refine zA hX ?_
    refine zCond rfl rfl (fun hc => ?_) (fun hc => ?_)
    · replace hT := sT hc hT
      refine rSkip (rThen (rBlock ?_))
      replace hT := sIf hT; obtain ⟨o1, hT⟩ := hT
      refine zReg md0 hX rfl rfl rfl ?_
      refine rInNormal ?_
      exact hnexts1 _ (Option.some.inj hT).symm _ (To.mk' [] 0 hε rfl zL zL)
    · replace hT := sF hc hT
      refine rExit (rThenExit (rThenExit ?_))
      exact zTo [] 0 hε (hxs10 _ (houts1 _ (Option.some.inj hT).symm))
  · cases h
def ref02_Pack_b1 (N : Nat) (v1 : ByteArray) (s3 : Zt5) : Option (Zt5 ⊕ (Nat × Nat × (List Int))) :=
  bif (decide (s3.2.1 < (ByteArray.size v1 : Int))) then
    let c1 := (ref02_Number N (ByteArray.extract v1 (s3.2.1).toNat (s3.2.1 + 8).toNat))
    if inK .i64 (s3.2.1 + 8) ∧ (0 : Int) ≤ s3.2.1 ∧ s3.2.1 ≤ (s3.2.1 + 8) ∧ (s3.2.1 + 8) ≤ (ByteArray.size v1 : Int) ∧ c1.isSome = true ∧ inK .u8 (c1.getD default) ∧ 1 ≤ 1 ∧ s3.2.2.1 = s3.1 ∧ (s3.1 + 1) * 1 ≤ 140737488355328 ∧ s3.1 + 1 ≤ 9223372036854775807 then
      if inK .i64 (s3.2.1 + 8) then
        some (.inl ((s3.1 + 1), (s3.2.1 + 8), (s3.2.2.1 + 1), (s3.2.2.2 ++ (((List.replicate 1 0).set 0 (c1.getD default)).take 1))))
      else none
    else none
  else
    some (.inr (s3.1, s3.2.2.1, s3.2.2.2))
def ref02_Pack_b2 (N : Nat) (s1 : ByteArray) : Option (ByteArray ⊕ ByteArray) :=
  if (0 : Int) ≤ (ByteArray.size s1 : Int) then
    bif (decide (((ByteArray.size s1 : Int) % 8) ≠ 0)) then
      if (ByteArray.size s1 : Int) + ByteArray.size ⟨#[48]⟩ ≤ 9223372036854775807 then
        some (.inl (s1 ++ ⟨#[48]⟩))
      else none
    else
      some (.inr s1)
  else none
def ref02_Pack (N : Nat) (a1 : ByteArray) : Option ByteArray :=
  (iter (ref02_Pack_b2 N) N a1).bind fun v1 =>
    (iter (ref02_Pack_b1 N v1) N (0, 0, 0, [])).bind fun v2 =>
      if v2.1 ≤ v2.2.1 ∧ (v2.1 : Int) ≤ 9223372036854775807 then
        some (bytesOf (v2.2.2.take v2.1))
      else none
def sp_ref02_Pack (N : Nat) : X.Spec := fun args lk => match args with
  | [.v (.c (.str a1))] => some ⟨(ref02_Pack N a1).isSome = true, .v (.c (.str ((ref02_Pack N a1).getD default))), [], []⟩
  | _ => none
set_option maxRecDepth 100000 in
set_option maxHeartbeats 1000000 in
theorem ok_ref02_Pack (N : Nat) : FnOK Try.prog gt0 21 (sp_ref02_Pack N) := by
  refine fnOK_handed Try.func21 rfl (by kernel_rfl) tt_ok (ktCons (ok_ref02_Number N) (ktNil)) ?_
  intro args lk r h hp
  unfold sp_ref02_Pack at h
  split at h
  · rename_i a1
    cases h
    obtain ⟨x, hx⟩ := Option.isSome_iff_exists.1 hp
    simp only [hx, Option.getD_some]
    refine hand0 rfl rfl (fun w0 M ε0 hX => ?_)
    refine rCount (fun hε => ?_)
    have hT : ref02_Pack N a1 = some x := hx; clear hx hp; unfold ref02_Pack at hT
    refine zA hX ?_
    refine rSeq (rBlock ?_)
    replace hT := sBind hT; obtain ⟨w1, hl, hT⟩ := hT
    refine rJoinA (fun v1 => v1 = w1) (fun v1 => ⟨[(0, .v (.c (.str v1))), (2, .v (.c (.str ⟨#[]⟩)))], [], 0⟩) (.exit 0) (fun v1 hv => ?_) (fun hxs10 => ?_)
    · subst hv; clear hl
      refine rInHit (rThen (zA hX ?_))
      refine rSeq (zA hX ?_)
      refine rBlock (rNil 5 1 (.flat [.ints 0 .u8 []]) [(0, .v (.c (.str v1))), (2, .v (.c (.str ⟨#[]⟩))), (3, .v (.c (.sl 0 0 0 1))), (4, .v (.c (.int .i64 0)))] [] (nil_ints _) zF zF ?_)
      replace hT := sBind hT; obtain ⟨w2, hl, hT⟩ := hT
      refine rJoinA (fun v2 => v2 = w2) (fun v2 => ⟨[(2, .v (.c (.str ⟨#[]⟩))), (3, .v (.c (.sl 0 0 v2.1 1)))], [(0, .mem true 5 (some 1) (.flat [.ints v2.2.1 .u8 v2.2.2]))], 1⟩) (.exit 2) (fun v2 hv => ?_) (fun hxs30 => ?_)
      · subst hv; clear hl
        refine rInHit (rThen ?_)
        replace hT := sIf hT; obtain ⟨⟨o1, o2⟩, hT⟩ := hT
        refine zA hX ?_
        refine rRet ?_
        have hy := Option.some.inj hT; subst hy
        exact zEnd0 hX rfl
      refine rLoopM (ref02_Pack_b1 N v1) (fun s3 => ⟨[(0, .v (.c (.str v1))), (2, .v (.c (.str ⟨#[]⟩))), (3, .v (.c (.sl 0 0 s3.1 1))), (4, .v (.c (.int .i64 s3.2.1)))], [(0, .mem true 5 (some 1) (.flat [.ints s3.2.2.1 .u8 s3.2.2.2]))], 1⟩) hl (To.mk' [] 0 hε rfl zL zL) (fun s3 zs3 NNs3 hz hnexts3 houts3 => ?_)
      clear hl hT
      have hT := hz; clear hz
      refine rSeq (zA hX ?_)
      refine zCond rfl rfl (fun hc => ?_) (fun hc => ?_)
      · replace hT := sT hc hT
        refine rSkip (rThen (rSeq (rBlock ?_)))
        let c1 := (ref02_Number N (ByteArray.extract v1 (s3.2.1).toNat (s3.2.1 + 8).toNat))
        replace hT := sIf hT; obtain ⟨⟨o1, o2, o3, o4, o5, o6, o7, o8, o9, o10⟩, hT⟩ := hT
        refine zReg md0 hX rfl rfl rfl ?_
        refine rInNormal (rThen ?_)
        replace hT := sIf hT; obtain ⟨o1, hT⟩ := hT
        refine zReg md0 hX rfl rfl rfl ?_
        exact hnexts3 _ (Option.some.inj hT).symm _ (To.mk' [2] 0 hε rfl zL zL)
      · replace hT := sF hc hT
        refine rExit (rThenExit (rThenExit ?_))
        exact zTo [] 0 hε (hxs30 _ (houts3 _ (Option.some.inj hT).symm))
    refine rLoopM (ref02_Pack_b2 N) (fun s1 => ⟨[(0, .v (.c (.str s1))), (2, .v (.c (.str ⟨#[]⟩)))], [], 0⟩) hl (To.mk' [] 0 hε rfl zL zL) (fun s1 zs1 NNs1 hz hnexts1 houts1 => ?_)
    clear hl hT
    have hT := hz; clear hz
    refine rSeq ?_
    replace hT := sIf hT; obtain ⟨o1, hT⟩ := hT
    refine zA hX ?_
    refine zCond rfl rfl (fun hc => ?_) (fun hc => ?_)
    · replace hT := sT hc hT
      refine rSkip (rThen (rBlock ?_))
      replace hT := sIf hT; obtain ⟨o1, hT⟩ := hT
      refine zReg md0 hX rfl rfl rfl ?_
      refine rInNormal ?_
      exact hnexts1 _ (Option.some.inj hT).symm _ (To.mk' [] 0 hε rfl zL zL)
    · replace hT := sF hc hT
      refine rExit (rThenExit (rThenExit ?_))
      exact zTo [] 0 hε (hxs10 _ (houts1 _ (Option.some.inj hT).symm))
  · cases h
def ref24_Same_v1_b1 (N : Nat) (a6 : (List Int)) (a13 : (List Int)) (s1 : Int) : Option (Int ⊕ (Unit ⊕ Unit)) :=
  bif (decide (s1 < (a6.length : Int))) then
    if (0 : Int) ≤ s1 ∧ s1 < (a6.length : Int) ∧ s1 < (a13.length : Int) then
      bif (decide ((a6.getD (s1).toNat 0) ≠ (a13.getD (s1).toNat 0))) then
        some (.inr (Sum.inl ()))
      else
        if inK .i64 (s1 + 1) then
          some (.inl (s1 + 1))
        else none
    else none
  else
    some (.inr (Sum.inr ()))
def ref24_Same_v1 (N : Nat) (a1 : Int) (a2 : Int) (a3 : Int) (a4 : Bool) (a5 : Int) (a6 : (List Int)) (a7 : Int) (a8 : Int) (a9 : Int) (a10 : Int) (a11 : Bool) (a12 : Int) (a13 : (List Int)) (a14 : Zt1) (a15 : Int) : Option Bool :=
  let x7 := (bif (bif (bif (bif (bif (decide (a1 ≠ a8)) then true else (decide (a2 ≠ a9))) then true else (decide (a3 ≠ a10))) then true else (!(a4 == a11))) then true else (decide (a5 ≠ a12))) then true else (decide ((a6.length : Int) ≠ (a13.length : Int))))
  bif x7 then
    some false
  else
    (iter (ref24_Same_v1_b1 N a6 a13) N 0).bind fun w1 =>
      (Sum.elim (fun v1 =>
        some false
      )
        (fun v2 =>
          some true
        )
      ) w1
def sp_ref24_Same_v1 (N : Nat) : X.Spec := fun args lk => match args with
  | [.v (.agg [.cs [.int .i64 a1, .int .i64 a2, .int .i64 a3, .bool a4, .int .i64 a5, .fz (.int .i64) a6, .val (.slice none 0 0), .int .i64 a7]]), .v (.agg [.cs [.int .i64 a8, .int .i64 a9, .int .i64 a10, .bool a11, .int .i64 a12, .fz (.int .i64) a13, .fz (.pair .bool (.pair (.int .i64) (.pair (.int .i64) (.sl (.pair (.int .i64) (.pair .bool (.pair (.int .i64) (.pair (.int .i64) (.pair (.arr 2 .i64) (.pair (.arr 6 .i64) (.arrS 6 (.pair .bool (.pair (.int .i64) (.int .i64)))))))))))))) a14, .int .i64 a15]])] => some ⟨(ref24_Same_v1 N a1 a2 a3 a4 a5 a6 a7 a8 a9 a10 a11 a12 a13 a14 a15).isSome = true, .v (.c (.bool ((ref24_Same_v1 N a1 a2 a3 a4 a5 a6 a7 a8 a9 a10 a11 a12 a13 a14 a15).getD default))), [], []⟩
  | _ => none
set_option maxRecDepth 100000 in
set_option maxHeartbeats 1000000 in
theorem ok_ref24_Same_v1 (N : Nat) : FnOK Try.prog gt0 11 (sp_ref24_Same_v1 N) := by
  refine fnOK_handed Try.func11 rfl (by kernel_rfl) tt_ok (ktNil) ?_
  intro args lk r h hp
  unfold sp_ref24_Same_v1 at h
  split at h
  · rename_i a1 a2 a3 a4 a5 a6 a7 a8 a9 a10 a11 a12 a13 a14 a15
    change (List Int) at a6
    change (List Int) at a13
    change Zt1 at a14
    cases h
    obtain ⟨x, hx⟩ := Option.isSome_iff_exists.1 hp
    simp only [hx, Option.getD_some]
    refine hand0 rfl rfl (fun w0 M ε0 hX => ?_)
    refine rCount (fun hε => ?_)
    have hT : ref24_Same_v1 N a1 a2 a3 a4 a5 a6 a7 a8 a9 a10 a11 a12 a13 a14 a15 = some x := hx; clear hx hp; unfold ref24_Same_v1 at hT
    refine zA hX ?_
    refine rSeq ?_
    let x7 := (bif (bif (bif (bif (bif (decide (a1 ≠ a8)) then true else (decide (a2 ≠ a9))) then true else (decide (a3 ≠ a10))) then true else (!(a4 == a11))) then true else (decide (a5 ≠ a12))) then true else (decide ((a6.length : Int) ≠ (a13.length : Int))))
    refine zA hX ?_
    refine zCond rfl rfl (fun hc => ?_) (fun hc => ?_)
    · replace hT := sT hc hT
      refine zA hX ?_
      refine rRet (rThenRet ?_)
      have hy := Option.some.inj hT; subst hy
      exact zEnd0 hX rfl
    · replace hT := sF hc hT
      refine rSkip (rThen (rSeq (zA hX ?_)))
      refine rBlock ?_
      replace hT := sBind hT; obtain ⟨w1, hl, hT⟩ := hT
      refine rJoinA (fun v1 => (Sum.inl v1) = w1) (fun v1 => ⟨[(4, .v (.c (.bool false)))], [], 2⟩) .ret (fun v1 hv => ?_) (fun hxs10 => ?_)
      · subst hv; clear hl; replace hT := (sElimL hT)
        refine rInRet (rThenRet ?_)
        have hy := Option.some.inj hT; subst hy
        exact zEnd0 hX rfl
      refine rJoinA (fun v2 => (Sum.inr v2) = w1) (fun v2 => ⟨[(4, .v (.c (.bool false)))], [], 2⟩) (.exit 0) (fun v2 hv => ?_) (fun hxs11 => ?_)
      · subst hv; clear hl; replace hT := (sElimR hT)
        refine rInHit (rThen (zA hX ?_))
        refine rRet ?_
        have hy := Option.some.inj hT; subst hy
        exact zEnd0 hX rfl
      refine rLoopM (ref24_Same_v1_b1 N a6 a13) (fun s1 => ⟨[(2, .v (.c (.ptr 0 0 0 0 0 0))), (3, .v (.c (.ptr 1 0 0 0 0 0))), (4, .v (.c (.bool false))), (5, .v (.c (.int .i64 s1)))], [(0, .mem true 30 none (.flat [.cs [.int .i64 a1, .int .i64 a2, .int .i64 a3, .bool a4, .int .i64 a5, .fz (.int .i64) a6, .val (.slice none 0 0), .int .i64 a7]])), (1, .mem true 30 none (.flat [.cs [.int .i64 a8, .int .i64 a9, .int .i64 a10, .bool a11, .int .i64 a12, .fz (.int .i64) a13, .fz Zs1 a14, .int .i64 a15]]))], 2⟩) hl (To.mk' [] 0 hε rfl zL zL) (fun s1 zs1 NNs1 hz hnexts1 houts1 => ?_)
      clear hl hT
      have hT := hz; clear hz
      refine rSeq (zA hX ?_)
      refine zCond rfl rfl (fun hc => ?_) (fun hc => ?_)
      · replace hT := sT hc hT
        refine rSkip (rThen (rSeq (rBlock ?_)))
        replace hT := sIf hT; obtain ⟨⟨o1, o2, o3⟩, hT⟩ := hT
        refine rSeq (zDraw md0 0 [] hX mixed rfl rfl rfl rfl rfl ?_)
        refine rThen ?_
        refine zCond rfl rfl (fun hc => ?_) (fun hc => ?_)
        · replace hT := sT hc hT
          refine zA hX ?_
          refine rRet (rInRet (rThenRet (rThenRet ?_)))
          exact zTo [] 0 hε (hxs10 _ (houts1 _ (Option.some.inj hT).symm))
        · replace hT := sF hc hT
          refine rSkip (rInNormal (rThen ?_))
          replace hT := sIf hT; obtain ⟨o1, hT⟩ := hT
          refine zReg md0 hX rfl rfl rfl ?_
          exact hnexts1 _ (Option.some.inj hT).symm _ (To.mk' [] 0 hε rfl zL zL)
      · replace hT := sF hc hT
        refine rExit (rThenExit (rThenExit ?_))
        exact zTo [] 0 hε (hxs11 _ (houts1 _ (Option.some.inj hT).symm))
  · cases h
def law24_SheetheadPuts (N : Nat) (a1 : Int) (a2 : Int) (a3 : Int) (a4 : Bool) (a5 : Int) (a6 : (List Int)) (a7 : Zt1) (a8 : Int) (a9 : ByteArray) : Option Bool :=
  let c1 := (ref02_Plain N a9)
  let x3 := (bif (bif (decide ((100 : Int) < (ByteArray.size a9 : Int))) then true else (!(c1.getD default))) then true else (decide ((100 : Int) < (a6.length : Int))))
  if ((!(decide ((100 : Int) < (ByteArray.size a9 : Int)))) = true → c1.isSome = true) then
    bif x3 then
      let c2 := (law24_lives N)
      if c2.isSome = true then
        some (c2.getD default)
      else none
    else
      let c3 := (outbits_New N)
      if c3.isSome = true then
        let c4 := (overspill_outbits_Writer_Add N a9 (c3.getD default))
        if c4.isSome = true then
          let c5 := (sheethead_Put_v1 N a1 a2 a3 a4 a5 a6 a7 a8 (c4.getD default).2)
          if c5.isSome = true then
            let c6 := (sheethead_Put_v2 N a1 a2 a3 a4 a5 a6 a7 a8)
            if c6.isSome = true then
              bif (decide ((c6.getD default) ≠ 1)) then
                some false
              else
                let c7 := (ref24_Right N a1 a2 a3 a4 a5 a6 a7 a8)
                if c7.isSome = true then
                  bif (!(c7.getD default)) then
                    joinK (fun (v1 : (Bool × (List Bool))) =>
                      some v1.1
                    ) fun k1 =>
                      let c9 := (overspill_outbits_Writer_Len N (c5.getD default).2)
                      if ((decide ((c5.getD default).1 = 12)) = true → c9.isSome = true) then
                        bif (decide ((c5.getD default).1 = 12)) then
                          let c10 := (law24_lives N)
                          if ((bif (decide ((c5.getD default).1 = 12)) then (decide ((c9.getD default).1 = (ByteArray.size a9 : Int))) else false) = true → c10.isSome = true) then
                            let x4 := (bif (bif (decide ((c5.getD default).1 = 12)) then (decide ((c9.getD default).1 = (ByteArray.size a9 : Int))) else false) then (c10.getD default) else false)
                            k1 (x4, (c9.getD default).2)
                          else none
                        else
                          let c11 := (law24_lives N)
                          if ((bif (decide ((c5.getD default).1 = 12)) then false else false) = true → c11.isSome = true) then
                            let x6 := (bif (bif (decide ((c5.getD default).1 = 12)) then false else false) then (c11.getD default) else false)
                            k1 (x6, (c5.getD default).2)
                          else none
                      else none
                  else
                    let c12 := (ref24_Row N (ByteArray.size a9 : Int) a1 a2 a3 a4 a5 a6 a7 a8)
                    if c12.isSome = true ∧ (ByteArray.size a9 : Int) + ByteArray.size (c12.getD default) ≤ 9223372036854775807 then
                      let c13 := (overspill_outbits_Writer_Text N (c5.getD default).2)
                      let c14 := (inbits_New N (c13.getD default).1)
                      if c13.isSome = true ∧ c14.isSome = true then
                        let c15 := (overspill_inbits_Reader_Seek N ((((ByteArray.size a9 : Int) + 7) / 8) * 8) (c14.getD default).1 (c14.getD default).2)
                        if inK .i64 ((ByteArray.size a9 : Int) + 7) ∧ (0 : Int) ≤ ((ByteArray.size a9 : Int) + 7) ∧ inK .i64 ((((ByteArray.size a9 : Int) + 7) / 8) * 8) ∧ c15.isSome = true then
                          let c16 := (sheethead_Take N (c15.getD default).2.1 (c15.getD default).2.2)
                          if c16.isSome = true then
                            joinK (fun (v2 : Bool) =>
                              some v2
                            ) fun k2 =>
                              let c18 := (overspill_outbits_Writer_Len N (c13.getD default).2)
                              if ((decide ((c5.getD default).1 = 0)) = true → c18.isSome = true) then
                                bif (decide ((c5.getD default).1 = 0)) then
                                  joinK (fun (v3 : Bool) =>
                                    k2 v3
                                  ) fun k3 =>
                                    let c20 := (overspill_outbits_Writer_Text N (c18.getD default).2)
                                    if ((bif (decide ((c5.getD default).1 = 0)) then (decide ((c18.getD default).1 = (ByteArray.size (a9 ++ (c12.getD default)) : Int))) else false) = true → c20.isSome = true) then
                                      bif (bif (decide ((c5.getD default).1 = 0)) then (decide ((c18.getD default).1 = (ByteArray.size (a9 ++ (c12.getD default)) : Int))) else false) then
                                        let c21 := (ref02_Pack N (a9 ++ (c12.getD default)))
                                        let c22 := (ref24_Same_v1 N (c16.getD default).1 (c16.getD default).2.1 (c16.getD default).2.2.1 (c16.getD default).2.2.2.1 (c16.getD default).2.2.2.2.1 (c16.getD default).2.2.2.2.2.1 (c16.getD default).2.2.2.2.2.2.1 a1 a2 a3 a4 a5 a6 a7 a8)
                                        let c23 := (overspill_inbits_Reader_At N (c16.getD default).2.2.2.2.2.2.2.2.1 (c16.getD default).2.2.2.2.2.2.2.2.2)
                                        if c21.isSome = true ∧ ((bif (bif (bif (decide ((c5.getD default).1 = 0)) then (decide ((c18.getD default).1 = (ByteArray.size (a9 ++ (c12.getD default)) : Int))) else false) then (decide (ByteArray.toList (c20.getD default).1 = ByteArray.toList (c21.getD default))) else false) then (decide ((c16.getD default).2.2.2.2.2.2.2.1 = 0)) else false) = true → c22.isSome = true) ∧ ((bif (bif (bif (bif (bif (bif (decide ((c5.getD default).1 = 0)) then (decide ((c18.getD default).1 = (ByteArray.size (a9 ++ (c12.getD default)) : Int))) else false) then (decide (ByteArray.toList (c20.getD default).1 = ByteArray.toList (c21.getD default))) else false) then (decide ((c16.getD default).2.2.2.2.2.2.2.1 = 0)) else false) then (c22.getD default) else false) then true else false) then (decide ((c16.getD default).2.2.2.2.2.2.1 = 0)) else false) = true → c23.isSome = true) then
                                          joinK (fun (v4 : Bool) =>
                                            k3 v4
                                          ) fun k4 =>
                                            let c25 := (overspill_outbits_Writer_Len N (c20.getD default).2)
                                            if ((bif (bif (bif (bif (bif (bif (decide ((c5.getD default).1 = 0)) then (decide ((c18.getD default).1 = (ByteArray.size (a9 ++ (c12.getD default)) : Int))) else false) then (decide (ByteArray.toList (c20.getD default).1 = ByteArray.toList (c21.getD default))) else false) then (decide ((c16.getD default).2.2.2.2.2.2.2.1 = 0)) else false) then (c22.getD default) else false) then true else false) then (decide ((c16.getD default).2.2.2.2.2.2.1 = 0)) else false) = true → c25.isSome = true) then
                                              bif (bif (bif (bif (bif (bif (bif (decide ((c5.getD default).1 = 0)) then (decide ((c18.getD default).1 = (ByteArray.size (a9 ++ (c12.getD default)) : Int))) else false) then (decide (ByteArray.toList (c20.getD default).1 = ByteArray.toList (c21.getD default))) else false) then (decide ((c16.getD default).2.2.2.2.2.2.2.1 = 0)) else false) then (c22.getD default) else false) then true else false) then (decide ((c16.getD default).2.2.2.2.2.2.1 = 0)) else false) then
                                                let c26 := (law24_lives N)
                                                if ((bif (bif (bif (bif (bif (bif (bif (decide ((c5.getD default).1 = 0)) then (decide ((c18.getD default).1 = (ByteArray.size (a9 ++ (c12.getD default)) : Int))) else false) then (decide (ByteArray.toList (c20.getD default).1 = ByteArray.toList (c21.getD default))) else false) then (decide ((c16.getD default).2.2.2.2.2.2.2.1 = 0)) else false) then (c22.getD default) else false) then true else false) then (decide ((c16.getD default).2.2.2.2.2.2.1 = 0)) else false) then (decide ((c23.getD default) = (c25.getD default).1)) else false) = true → c26.isSome = true) then
                                                  let x7 := (bif (bif (bif (bif (bif (bif (bif (bif (decide ((c5.getD default).1 = 0)) then (decide ((c18.getD default).1 = (ByteArray.size (a9 ++ (c12.getD default)) : Int))) else false) then (decide (ByteArray.toList (c20.getD default).1 = ByteArray.toList (c21.getD default))) else false) then (decide ((c16.getD default).2.2.2.2.2.2.2.1 = 0)) else false) then (c22.getD default) else false) then true else false) then (decide ((c16.getD default).2.2.2.2.2.2.1 = 0)) else false) then (decide ((c23.getD default) = (c25.getD default).1)) else false) then (c26.getD default) else false)
                                                  k4 x7
                                                else none
                                              else
                                                let c27 := (law24_lives N)
                                                if ((bif (bif (bif (bif (bif (bif (bif (decide ((c5.getD default).1 = 0)) then (decide ((c18.getD default).1 = (ByteArray.size (a9 ++ (c12.getD default)) : Int))) else false) then (decide (ByteArray.toList (c20.getD default).1 = ByteArray.toList (c21.getD default))) else false) then (decide ((c16.getD default).2.2.2.2.2.2.2.1 = 0)) else false) then (c22.getD default) else false) then true else false) then (decide ((c16.getD default).2.2.2.2.2.2.1 = 0)) else false) then false else false) = true → c27.isSome = true) then
                                                  let x15 := (bif (bif (bif (bif (bif (bif (bif (bif (decide ((c5.getD default).1 = 0)) then (decide ((c18.getD default).1 = (ByteArray.size (a9 ++ (c12.getD default)) : Int))) else false) then (decide (ByteArray.toList (c20.getD default).1 = ByteArray.toList (c21.getD default))) else false) then (decide ((c16.getD default).2.2.2.2.2.2.2.1 = 0)) else false) then (c22.getD default) else false) then true else false) then (decide ((c16.getD default).2.2.2.2.2.2.1 = 0)) else false) then false else false) then (c27.getD default) else false)
                                                  k4 x15
                                                else none
                                            else none
                                        else none
                                      else
                                        let c28 := (ref02_Pack N (a9 ++ (c12.getD default)))
                                        if ((bif (decide ((c5.getD default).1 = 0)) then (decide ((c18.getD default).1 = (ByteArray.size (a9 ++ (c12.getD default)) : Int))) else false) = true → c28.isSome = true) then
                                          let c29 := (ref24_Same_v1 N (c16.getD default).1 (c16.getD default).2.1 (c16.getD default).2.2.1 (c16.getD default).2.2.2.1 (c16.getD default).2.2.2.2.1 (c16.getD default).2.2.2.2.2.1 (c16.getD default).2.2.2.2.2.2.1 a1 a2 a3 a4 a5 a6 a7 a8)
                                          let c30 := (overspill_inbits_Reader_At N (c16.getD default).2.2.2.2.2.2.2.2.1 (c16.getD default).2.2.2.2.2.2.2.2.2)
                                          if ((bif (bif (bif (decide ((c5.getD default).1 = 0)) then (decide ((c18.getD default).1 = (ByteArray.size (a9 ++ (c12.getD default)) : Int))) else false) then false else false) then (decide ((c16.getD default).2.2.2.2.2.2.2.1 = 0)) else false) = true → c29.isSome = true) ∧ ((bif (bif (bif (bif (bif (bif (decide ((c5.getD default).1 = 0)) then (decide ((c18.getD default).1 = (ByteArray.size (a9 ++ (c12.getD default)) : Int))) else false) then false else false) then (decide ((c16.getD default).2.2.2.2.2.2.2.1 = 0)) else false) then (c29.getD default) else false) then true else false) then (decide ((c16.getD default).2.2.2.2.2.2.1 = 0)) else false) = true → c30.isSome = true) then
                                            joinK (fun (v5 : Bool) =>
                                              k3 v5
                                            ) fun k5 =>
                                              let c32 := (overspill_outbits_Writer_Len N (c18.getD default).2)
                                              if ((bif (bif (bif (bif (bif (bif (decide ((c5.getD default).1 = 0)) then (decide ((c18.getD default).1 = (ByteArray.size (a9 ++ (c12.getD default)) : Int))) else false) then false else false) then (decide ((c16.getD default).2.2.2.2.2.2.2.1 = 0)) else false) then (c29.getD default) else false) then true else false) then (decide ((c16.getD default).2.2.2.2.2.2.1 = 0)) else false) = true → c32.isSome = true) then
                                                bif (bif (bif (bif (bif (bif (bif (decide ((c5.getD default).1 = 0)) then (decide ((c18.getD default).1 = (ByteArray.size (a9 ++ (c12.getD default)) : Int))) else false) then false else false) then (decide ((c16.getD default).2.2.2.2.2.2.2.1 = 0)) else false) then (c29.getD default) else false) then true else false) then (decide ((c16.getD default).2.2.2.2.2.2.1 = 0)) else false) then
                                                  let c33 := (law24_lives N)
                                                  if ((bif (bif (bif (bif (bif (bif (bif (decide ((c5.getD default).1 = 0)) then (decide ((c18.getD default).1 = (ByteArray.size (a9 ++ (c12.getD default)) : Int))) else false) then false else false) then (decide ((c16.getD default).2.2.2.2.2.2.2.1 = 0)) else false) then (c29.getD default) else false) then true else false) then (decide ((c16.getD default).2.2.2.2.2.2.1 = 0)) else false) then (decide ((c30.getD default) = (c32.getD default).1)) else false) = true → c33.isSome = true) then
                                                    let x23 := (bif (bif (bif (bif (bif (bif (bif (bif (decide ((c5.getD default).1 = 0)) then (decide ((c18.getD default).1 = (ByteArray.size (a9 ++ (c12.getD default)) : Int))) else false) then false else false) then (decide ((c16.getD default).2.2.2.2.2.2.2.1 = 0)) else false) then (c29.getD default) else false) then true else false) then (decide ((c16.getD default).2.2.2.2.2.2.1 = 0)) else false) then (decide ((c30.getD default) = (c32.getD default).1)) else false) then (c33.getD default) else false)
                                                    k5 x23
                                                  else none
                                                else
                                                  let c34 := (law24_lives N)
                                                  if ((bif (bif (bif (bif (bif (bif (bif (decide ((c5.getD default).1 = 0)) then (decide ((c18.getD default).1 = (ByteArray.size (a9 ++ (c12.getD default)) : Int))) else false) then false else false) then (decide ((c16.getD default).2.2.2.2.2.2.2.1 = 0)) else false) then (c29.getD default) else false) then true else false) then (decide ((c16.getD default).2.2.2.2.2.2.1 = 0)) else false) then false else false) = true → c34.isSome = true) then
                                                    let x31 := (bif (bif (bif (bif (bif (bif (bif (bif (decide ((c5.getD default).1 = 0)) then (decide ((c18.getD default).1 = (ByteArray.size (a9 ++ (c12.getD default)) : Int))) else false) then false else false) then (decide ((c16.getD default).2.2.2.2.2.2.2.1 = 0)) else false) then (c29.getD default) else false) then true else false) then (decide ((c16.getD default).2.2.2.2.2.2.1 = 0)) else false) then false else false) then (c34.getD default) else false)
                                                    k5 x31
                                                  else none
                                              else none
                                          else none
                                        else none
                                    else none
                                else
                                  joinK (fun (v6 : Bool) =>
                                    k2 v6
                                  ) fun k6 =>
                                    let c36 := (overspill_outbits_Writer_Text N (c13.getD default).2)
                                    if ((bif (decide ((c5.getD default).1 = 0)) then false else false) = true → c36.isSome = true) then
                                      bif (bif (decide ((c5.getD default).1 = 0)) then false else false) then
                                        let c37 := (ref02_Pack N (a9 ++ (c12.getD default)))
                                        let c38 := (ref24_Same_v1 N (c16.getD default).1 (c16.getD default).2.1 (c16.getD default).2.2.1 (c16.getD default).2.2.2.1 (c16.getD default).2.2.2.2.1 (c16.getD default).2.2.2.2.2.1 (c16.getD default).2.2.2.2.2.2.1 a1 a2 a3 a4 a5 a6 a7 a8)
                                        let c39 := (overspill_inbits_Reader_At N (c16.getD default).2.2.2.2.2.2.2.2.1 (c16.getD default).2.2.2.2.2.2.2.2.2)
                                        if c37.isSome = true ∧ ((bif (bif (bif (decide ((c5.getD default).1 = 0)) then false else false) then (decide (ByteArray.toList (c36.getD default).1 = ByteArray.toList (c37.getD default))) else false) then (decide ((c16.getD default).2.2.2.2.2.2.2.1 = 0)) else false) = true → c38.isSome = true) ∧ ((bif (bif (bif (bif (bif (bif (decide ((c5.getD default).1 = 0)) then false else false) then (decide (ByteArray.toList (c36.getD default).1 = ByteArray.toList (c37.getD default))) else false) then (decide ((c16.getD default).2.2.2.2.2.2.2.1 = 0)) else false) then (c38.getD default) else false) then true else false) then (decide ((c16.getD default).2.2.2.2.2.2.1 = 0)) else false) = true → c39.isSome = true) then
                                          joinK (fun (v7 : Bool) =>
                                            k6 v7
                                          ) fun k7 =>
                                            let c41 := (overspill_outbits_Writer_Len N (c36.getD default).2)
                                            if ((bif (bif (bif (bif (bif (bif (decide ((c5.getD default).1 = 0)) then false else false) then (decide (ByteArray.toList (c36.getD default).1 = ByteArray.toList (c37.getD default))) else false) then (decide ((c16.getD default).2.2.2.2.2.2.2.1 = 0)) else false) then (c38.getD default) else false) then true else false) then (decide ((c16.getD default).2.2.2.2.2.2.1 = 0)) else false) = true → c41.isSome = true) then
                                              bif (bif (bif (bif (bif (bif (bif (decide ((c5.getD default).1 = 0)) then false else false) then (decide (ByteArray.toList (c36.getD default).1 = ByteArray.toList (c37.getD default))) else false) then (decide ((c16.getD default).2.2.2.2.2.2.2.1 = 0)) else false) then (c38.getD default) else false) then true else false) then (decide ((c16.getD default).2.2.2.2.2.2.1 = 0)) else false) then
                                                let c42 := (law24_lives N)
                                                if ((bif (bif (bif (bif (bif (bif (bif (decide ((c5.getD default).1 = 0)) then false else false) then (decide (ByteArray.toList (c36.getD default).1 = ByteArray.toList (c37.getD default))) else false) then (decide ((c16.getD default).2.2.2.2.2.2.2.1 = 0)) else false) then (c38.getD default) else false) then true else false) then (decide ((c16.getD default).2.2.2.2.2.2.1 = 0)) else false) then (decide ((c39.getD default) = (c41.getD default).1)) else false) = true → c42.isSome = true) then
                                                  let x39 := (bif (bif (bif (bif (bif (bif (bif (bif (decide ((c5.getD default).1 = 0)) then false else false) then (decide (ByteArray.toList (c36.getD default).1 = ByteArray.toList (c37.getD default))) else false) then (decide ((c16.getD default).2.2.2.2.2.2.2.1 = 0)) else false) then (c38.getD default) else false) then true else false) then (decide ((c16.getD default).2.2.2.2.2.2.1 = 0)) else false) then (decide ((c39.getD default) = (c41.getD default).1)) else false) then (c42.getD default) else false)
                                                  k7 x39
                                                else none
                                              else
                                                let c43 := (law24_lives N)
                                                if ((bif (bif (bif (bif (bif (bif (bif (decide ((c5.getD default).1 = 0)) then false else false) then (decide (ByteArray.toList (c36.getD default).1 = ByteArray.toList (c37.getD default))) else false) then (decide ((c16.getD default).2.2.2.2.2.2.2.1 = 0)) else false) then (c38.getD default) else false) then true else false) then (decide ((c16.getD default).2.2.2.2.2.2.1 = 0)) else false) then false else false) = true → c43.isSome = true) then
                                                  let x46 := (bif (bif (bif (bif (bif (bif (bif (bif (decide ((c5.getD default).1 = 0)) then false else false) then (decide (ByteArray.toList (c36.getD default).1 = ByteArray.toList (c37.getD default))) else false) then (decide ((c16.getD default).2.2.2.2.2.2.2.1 = 0)) else false) then (c38.getD default) else false) then true else false) then (decide ((c16.getD default).2.2.2.2.2.2.1 = 0)) else false) then false else false) then (c43.getD default) else false)
                                                  k7 x46
                                                else none
                                            else none
                                        else none
                                      else
                                        let c44 := (ref02_Pack N (a9 ++ (c12.getD default)))
                                        if ((bif (decide ((c5.getD default).1 = 0)) then false else false) = true → c44.isSome = true) then
                                          let c45 := (ref24_Same_v1 N (c16.getD default).1 (c16.getD default).2.1 (c16.getD default).2.2.1 (c16.getD default).2.2.2.1 (c16.getD default).2.2.2.2.1 (c16.getD default).2.2.2.2.2.1 (c16.getD default).2.2.2.2.2.2.1 a1 a2 a3 a4 a5 a6 a7 a8)
                                          let c46 := (overspill_inbits_Reader_At N (c16.getD default).2.2.2.2.2.2.2.2.1 (c16.getD default).2.2.2.2.2.2.2.2.2)
                                          if ((bif (bif (bif (decide ((c5.getD default).1 = 0)) then false else false) then false else false) then (decide ((c16.getD default).2.2.2.2.2.2.2.1 = 0)) else false) = true → c45.isSome = true) ∧ ((bif (bif (bif (bif (bif (bif (decide ((c5.getD default).1 = 0)) then false else false) then false else false) then (decide ((c16.getD default).2.2.2.2.2.2.2.1 = 0)) else false) then (c45.getD default) else false) then true else false) then (decide ((c16.getD default).2.2.2.2.2.2.1 = 0)) else false) = true → c46.isSome = true) then
                                            joinK (fun (v8 : Bool) =>
                                              k6 v8
                                            ) fun k8 =>
                                              let c48 := (overspill_outbits_Writer_Len N (c13.getD default).2)
                                              if ((bif (bif (bif (bif (bif (bif (decide ((c5.getD default).1 = 0)) then false else false) then false else false) then (decide ((c16.getD default).2.2.2.2.2.2.2.1 = 0)) else false) then (c45.getD default) else false) then true else false) then (decide ((c16.getD default).2.2.2.2.2.2.1 = 0)) else false) = true → c48.isSome = true) then
                                                bif (bif (bif (bif (bif (bif (bif (decide ((c5.getD default).1 = 0)) then false else false) then false else false) then (decide ((c16.getD default).2.2.2.2.2.2.2.1 = 0)) else false) then (c45.getD default) else false) then true else false) then (decide ((c16.getD default).2.2.2.2.2.2.1 = 0)) else false) then
                                                  let c49 := (law24_lives N)
                                                  if ((bif (bif (bif (bif (bif (bif (bif (decide ((c5.getD default).1 = 0)) then false else false) then false else false) then (decide ((c16.getD default).2.2.2.2.2.2.2.1 = 0)) else false) then (c45.getD default) else false) then true else false) then (decide ((c16.getD default).2.2.2.2.2.2.1 = 0)) else false) then (decide ((c46.getD default) = (c48.getD default).1)) else false) = true → c49.isSome = true) then
                                                    let x53 := (bif (bif (bif (bif (bif (bif (bif (bif (decide ((c5.getD default).1 = 0)) then false else false) then false else false) then (decide ((c16.getD default).2.2.2.2.2.2.2.1 = 0)) else false) then (c45.getD default) else false) then true else false) then (decide ((c16.getD default).2.2.2.2.2.2.1 = 0)) else false) then (decide ((c46.getD default) = (c48.getD default).1)) else false) then (c49.getD default) else false)
                                                    k8 x53
                                                  else none
                                                else
                                                  let c50 := (law24_lives N)
                                                  if ((bif (bif (bif (bif (bif (bif (bif (decide ((c5.getD default).1 = 0)) then false else false) then false else false) then (decide ((c16.getD default).2.2.2.2.2.2.2.1 = 0)) else false) then (c45.getD default) else false) then true else false) then (decide ((c16.getD default).2.2.2.2.2.2.1 = 0)) else false) then false else false) = true → c50.isSome = true) then
                                                    let x60 := (bif (bif (bif (bif (bif (bif (bif (bif (decide ((c5.getD default).1 = 0)) then false else false) then false else false) then (decide ((c16.getD default).2.2.2.2.2.2.2.1 = 0)) else false) then (c45.getD default) else false) then true else false) then (decide ((c16.getD default).2.2.2.2.2.2.1 = 0)) else false) then false else false) then (c50.getD default) else false)
                                                    k8 x60
                                                  else none
                                              else none
                                          else none
                                        else none
                                    else none
                              else none
                          else none
                        else none
                      else none
                    else none
                else none
            else none
          else none
        else none
      else none
  else none
def sp_law24_SheetheadPuts (N : Nat) : X.Spec := fun args lk => match args with
  | [.v (.agg [.cs [.int .i64 a1, .int .i64 a2, .int .i64 a3, .bool a4, .int .i64 a5, .fz (.int .i64) a6, .fz (.pair .bool (.pair (.int .i64) (.pair (.int .i64) (.sl (.pair (.int .i64) (.pair .bool (.pair (.int .i64) (.pair (.int .i64) (.pair (.arr 2 .i64) (.pair (.arr 6 .i64) (.arrS 6 (.pair .bool (.pair (.int .i64) (.int .i64)))))))))))))) a7, .int .i64 a8]]), .v (.c (.str a9))] => some ⟨(law24_SheetheadPuts N a1 a2 a3 a4 a5 a6 a7 a8 a9).isSome = true, .v (.c (.bool ((law24_SheetheadPuts N a1 a2 a3 a4 a5 a6 a7 a8 a9).getD default))), [], []⟩
  | _ => none
set_option maxRecDepth 100000 in
set_option maxHeartbeats 1000000 in
theorem ok_law24_SheetheadPuts (N : Nat) : FnOK Try.prog gt0 4 (sp_law24_SheetheadPuts N) := by
  refine fnOK_handed Try.func4 rfl (by kernel_rfl) tt_ok (ktCons (ok_overspill_inbits_Reader_At N) (ktCons (ok_ref24_Same_v1 N) (ktCons (ok_ref02_Pack N) (ktCons (ok_sheethead_Take N) (ktCons (ok_overspill_inbits_Reader_Seek N) (ktCons (ok_inbits_New N) (ktCons (ok_overspill_outbits_Writer_Text N) (ktCons (ok_ref24_Row N) (ktCons (ok_overspill_outbits_Writer_Len N) (ktCons (ok_ref24_Right N) (ktCons (FnOK.or (ok_sheethead_Put_v1 N) (ok_sheethead_Put_v2 N)) (ktCons (ok_overspill_outbits_Writer_Add N) (ktCons (ok_outbits_New N) (ktCons (ok_law24_lives N) (ktCons (ok_ref02_Plain N) (ktNil)))))))))))))))) ?_
  intro args lk r h hp
  unfold sp_law24_SheetheadPuts at h
  split at h
  · rename_i a1 a2 a3 a4 a5 a6 a7 a8 a9
    change (List Int) at a6
    change Zt1 at a7
    cases h
    obtain ⟨x, hx⟩ := Option.isSome_iff_exists.1 hp
    simp only [hx, Option.getD_some]
    refine hand0 rfl rfl (fun w0 M ε0 hX => ?_)
    refine rCount (fun hε => ?_)
    have hT : law24_SheetheadPuts N a1 a2 a3 a4 a5 a6 a7 a8 a9 = some x := hx; clear hx hp; unfold law24_SheetheadPuts at hT
    refine zA hX ?_
    refine rSeq ?_
    let c1 := (ref02_Plain N a9)
    let x3 := (bif (bif (decide ((100 : Int) < (ByteArray.size a9 : Int))) then true else (!(c1.getD default))) then true else (decide ((100 : Int) < (a6.length : Int))))
    replace hT := sIf hT; obtain ⟨o1, hT⟩ := hT
    refine rSeq (rRegC md0 hX rfl rfl rfl zO ?_)
    refine rThen ?_
    refine zCond rfl rfl (fun hc => ?_) (fun hc => ?_)
    · replace hT := sT hc hT
      let c2 := (law24_lives N)
      replace hT := sIf hT; obtain ⟨o1, hT⟩ := hT
      refine zA hX ?_
      refine rRet (rThenRet ?_)
      have hy := Option.some.inj hT; subst hy
      exact zEnd0 hX rfl
    · replace hT := sF hc hT
      refine rSkip (rThen ?_)
      let c3 := (outbits_New N)
      replace hT := sIf hT; obtain ⟨o1, hT⟩ := hT
      refine zA hX ?_
      let c4 := (overspill_outbits_Writer_Add N a9 (c3.getD default))
      replace hT := sIf hT; obtain ⟨o1, hT⟩ := hT
      refine zA hX ?_
      let c5 := (sheethead_Put_v1 N a1 a2 a3 a4 a5 a6 a7 a8 (c4.getD default).2)
      replace hT := sIf hT; obtain ⟨o1, hT⟩ := hT
      refine zA hX ?_
      refine rSeq ?_
      let c6 := (sheethead_Put_v2 N a1 a2 a3 a4 a5 a6 a7 a8)
      replace hT := sIf hT; obtain ⟨o1, hT⟩ := hT
      refine zA hX ?_
      refine zCond rfl rfl (fun hc => ?_) (fun hc => ?_)
      · replace hT := sT hc hT
        refine zA hX ?_
        refine rRet (rThenRet ?_)
        have hy := Option.some.inj hT; subst hy
        exact zEnd0 hX rfl
      · replace hT := sF hc hT
        refine rSkip (rThen (rSeq ?_))
        let c7 := (ref24_Right N a1 a2 a3 a4 a5 a6 a7 a8)
        replace hT := sIf hT; obtain ⟨o1, hT⟩ := hT
        refine zA hX ?_
        refine zCond rfl rfl (fun hc => ?_) (fun hc => ?_)
        · replace hT := sT hc hT
          refine rSeq (rRegSL ?_)
          refine rJoinKL hT (fun v1 => ⟨[(1, .v (.c (.str a9))), (2, .v (.c (.ptr 0 0 0 0 0 0))), (4, .v (.c (.bool v1.1))), (5, .v (.c (.ptr 1 0 0 0 0 0))), (6, .v (.c (.int .i64 (c5.getD default).1)))], [(0, .mem true 30 none (.flat [.cs [.int .i64 a1, .int .i64 a2, .int .i64 a3, .bool a4, .int .i64 a5, .fz (.int .i64) a6, .fz Zs1 a7, .int .i64 a8]])), (1, .obj 5 v1.2)], 2⟩) (fun v1 hT => ?_) (fun k1 hjk1 hT => ?_)
          · skip
            refine rThen (rRet (rThenRet ?_))
            have hy := Option.some.inj hT; subst hy
            exact zEnd0 hX rfl
          · skip
            let c9 := (overspill_outbits_Writer_Len N (c5.getD default).2)
            replace hT := sIf hT; obtain ⟨r1, hT⟩ := hT
            refine rSLG md0 hX rfl rfl rfl zP rfl rfl rfl rfl (fun hg => (by (repeat' first | exact True.intro | with_reducible assumption | (with_reducible apply And.intro)) <;> first | exact rfl | assumption | exact r1 hg | omega | exact Nat.le_of_ble_eq_true rfl)) (fun hg => ?_) (fun hg => ?_)
            · replace hT := sT hg hT
              let c10 := (law24_lives N)
              replace hT := sIf hT; obtain ⟨o1, hT⟩ := hT
              let x4 := (bif (bif (decide ((c5.getD default).1 = 12)) then (decide ((c9.getD default).1 = (ByteArray.size a9 : Int))) else false) then (c10.getD default) else false)
              refine rSLDone md0 hX rfl rfl rfl zO ?_
              exact zTo [] 0 hε (hjk1 _ hT)
            · replace hT := sF hg hT
              refine rSLSkip md0 hX rfl rfl rfl zP rfl rfl rfl (by assumption) ?_
              let c11 := (law24_lives N)
              replace hT := sIf hT; obtain ⟨o1, hT⟩ := hT
              let x6 := (bif (bif (decide ((c5.getD default).1 = 12)) then false else false) then (c11.getD default) else false)
              refine rSLDone md0 hX rfl rfl rfl zO ?_
              exact zTo [] 0 hε (hjk1 _ hT)
        · replace hT := sF hc hT
          refine rSkip (rThen ?_)
          let c12 := (ref24_Row N (ByteArray.size a9 : Int) a1 a2 a3 a4 a5 a6 a7 a8)
          replace hT := sIf hT; obtain ⟨⟨o1, o2⟩, hT⟩ := hT
          refine zA hX ?_
          let c13 := (overspill_outbits_Writer_Text N (c5.getD default).2)
          let c14 := (inbits_New N (c13.getD default).1)
          replace hT := sIf hT; obtain ⟨⟨o1, o2⟩, hT⟩ := hT
          refine zA hX ?_
          let c15 := (overspill_inbits_Reader_Seek N ((((ByteArray.size a9 : Int) + 7) / 8) * 8) (c14.getD default).1 (c14.getD default).2)
          replace hT := sIf hT; obtain ⟨⟨o1, o2, o3, o4⟩, hT⟩ := hT
          refine zA hX ?_
          let c16 := (sheethead_Take N (c15.getD default).2.1 (c15.getD default).2.2)
          replace hT := sIf hT; obtain ⟨o1, hT⟩ := hT
          refine zA hX ?_
          refine rSeq (rRegSL ?_)
          refine rJoinKL hT (fun v2 => ⟨[(4, .v (.c (.bool v2)))], [], 4⟩) (fun v2 hT => ?_) (fun k2 hjk2 hT => ?_)
          · skip
            refine rThen (rRet ?_)
            have hy := Option.some.inj hT; subst hy
            exact zEnd0 hX rfl
          · skip
            let c18 := (overspill_outbits_Writer_Len N (c13.getD default).2)
            replace hT := sIf hT; obtain ⟨r1, hT⟩ := hT
            refine rSLG md0 hX rfl rfl rfl zP rfl rfl rfl rfl (fun hg => (by (repeat' first | exact True.intro | with_reducible assumption | (with_reducible apply And.intro)) <;> first | exact rfl | assumption | exact r1 hg | omega | exact Nat.le_of_ble_eq_true rfl)) (fun hg => ?_) (fun hg => ?_)
            · replace hT := sT hg hT
              refine rJoinKL hT (fun v3 => ⟨[(4, .v (.c (.bool v3)))], [], 4⟩) (fun v3 hT => ?_) (fun k3 hjk3 hT => ?_)
              · skip
                exact zTo [] 0 hε (hjk2 _ hT)
              · skip
                let c20 := (overspill_outbits_Writer_Text N (c18.getD default).2)
                replace hT := sIf hT; obtain ⟨r1, hT⟩ := hT
                refine rSLG md0 hX rfl rfl rfl zP rfl rfl rfl rfl (fun hg => (by (repeat' first | exact True.intro | with_reducible assumption | (with_reducible apply And.intro)) <;> first | exact rfl | assumption | exact r1 hg | omega | exact Nat.le_of_ble_eq_true rfl)) (fun hg => ?_) (fun hg => ?_)
                · replace hT := sT hg hT
                  let c21 := (ref02_Pack N (a9 ++ (c12.getD default)))
                  let c22 := (ref24_Same_v1 N (c16.getD default).1 (c16.getD default).2.1 (c16.getD default).2.2.1 (c16.getD default).2.2.2.1 (c16.getD default).2.2.2.2.1 (c16.getD default).2.2.2.2.2.1 (c16.getD default).2.2.2.2.2.2.1 a1 a2 a3 a4 a5 a6 a7 a8)
                  let c23 := (overspill_inbits_Reader_At N (c16.getD default).2.2.2.2.2.2.2.2.1 (c16.getD default).2.2.2.2.2.2.2.2.2)
                  replace hT := sIf hT; obtain ⟨⟨o1, o2, o3⟩, hT⟩ := hT
                  refine rJoinKL hT (fun v4 => ⟨[(4, .v (.c (.bool v4)))], [], 4⟩) (fun v4 hT => ?_) (fun k4 hjk4 hT => ?_)
                  · skip
                    exact zTo [] 0 hε (hjk3 _ hT)
                  · skip
                    let c25 := (overspill_outbits_Writer_Len N (c20.getD default).2)
                    replace hT := sIf hT; obtain ⟨r1, hT⟩ := hT
                    refine rSLG md0 hX rfl rfl rfl zO rfl rfl rfl rfl (fun hg => (by (repeat' first | exact True.intro | with_reducible assumption | (with_reducible apply And.intro)) <;> first | exact rfl | assumption | exact r1 hg | omega | exact Nat.le_of_ble_eq_true rfl)) (fun hg => ?_) (fun hg => ?_)
                    · replace hT := sT hg hT
                      let c26 := (law24_lives N)
                      replace hT := sIf hT; obtain ⟨o1, hT⟩ := hT
                      let x7 := (bif (bif (bif (bif (bif (bif (bif (bif (decide ((c5.getD default).1 = 0)) then (decide ((c18.getD default).1 = (ByteArray.size (a9 ++ (c12.getD default)) : Int))) else false) then (decide (ByteArray.toList (c20.getD default).1 = ByteArray.toList (c21.getD default))) else false) then (decide ((c16.getD default).2.2.2.2.2.2.2.1 = 0)) else false) then (c22.getD default) else false) then true else false) then (decide ((c16.getD default).2.2.2.2.2.2.1 = 0)) else false) then (decide ((c23.getD default) = (c25.getD default).1)) else false) then (c26.getD default) else false)
                      refine rSLDone md0 hX rfl rfl rfl zO ?_
                      exact zTo [] 0 hε (hjk4 _ hT)
                    · replace hT := sF hg hT
                      refine rSLSkip md0 hX rfl rfl rfl zP rfl rfl rfl (by assumption) ?_
                      let c27 := (law24_lives N)
                      replace hT := sIf hT; obtain ⟨o1, hT⟩ := hT
                      let x15 := (bif (bif (bif (bif (bif (bif (bif (bif (decide ((c5.getD default).1 = 0)) then (decide ((c18.getD default).1 = (ByteArray.size (a9 ++ (c12.getD default)) : Int))) else false) then (decide (ByteArray.toList (c20.getD default).1 = ByteArray.toList (c21.getD default))) else false) then (decide ((c16.getD default).2.2.2.2.2.2.2.1 = 0)) else false) then (c22.getD default) else false) then true else false) then (decide ((c16.getD default).2.2.2.2.2.2.1 = 0)) else false) then false else false) then (c27.getD default) else false)
                      refine rSLDone md0 hX rfl rfl rfl zO ?_
                      exact zTo [] 0 hε (hjk4 _ hT)
                · replace hT := sF hg hT
                  let c28 := (ref02_Pack N (a9 ++ (c12.getD default)))
                  replace hT := sIf hT; obtain ⟨o1, hT⟩ := hT
                  refine rSLSkip md0 hX rfl rfl rfl zO rfl rfl rfl (by assumption) ?_
                  let c29 := (ref24_Same_v1 N (c16.getD default).1 (c16.getD default).2.1 (c16.getD default).2.2.1 (c16.getD default).2.2.2.1 (c16.getD default).2.2.2.2.1 (c16.getD default).2.2.2.2.2.1 (c16.getD default).2.2.2.2.2.2.1 a1 a2 a3 a4 a5 a6 a7 a8)
                  let c30 := (overspill_inbits_Reader_At N (c16.getD default).2.2.2.2.2.2.2.2.1 (c16.getD default).2.2.2.2.2.2.2.2.2)
                  replace hT := sIf hT; obtain ⟨⟨o1, o2⟩, hT⟩ := hT
                  refine rJoinKL hT (fun v5 => ⟨[(4, .v (.c (.bool v5)))], [], 4⟩) (fun v5 hT => ?_) (fun k5 hjk5 hT => ?_)
                  · skip
                    exact zTo [] 0 hε (hjk3 _ hT)
                  · skip
                    let c32 := (overspill_outbits_Writer_Len N (c18.getD default).2)
                    replace hT := sIf hT; obtain ⟨r1, hT⟩ := hT
                    refine rSLG md0 hX rfl rfl rfl zO rfl rfl rfl rfl (fun hg => (by (repeat' first | exact True.intro | with_reducible assumption | (with_reducible apply And.intro)) <;> first | exact rfl | assumption | exact r1 hg | omega | exact Nat.le_of_ble_eq_true rfl)) (fun hg => ?_) (fun hg => ?_)
                    · replace hT := sT hg hT
                      let c33 := (law24_lives N)
                      replace hT := sIf hT; obtain ⟨o1, hT⟩ := hT
                      let x23 := (bif (bif (bif (bif (bif (bif (bif (bif (decide ((c5.getD default).1 = 0)) then (decide ((c18.getD default).1 = (ByteArray.size (a9 ++ (c12.getD default)) : Int))) else false) then false else false) then (decide ((c16.getD default).2.2.2.2.2.2.2.1 = 0)) else false) then (c29.getD default) else false) then true else false) then (decide ((c16.getD default).2.2.2.2.2.2.1 = 0)) else false) then (decide ((c30.getD default) = (c32.getD default).1)) else false) then (c33.getD default) else false)
                      refine rSLDone md0 hX rfl rfl rfl zO ?_
                      exact zTo [] 0 hε (hjk5 _ hT)
                    · replace hT := sF hg hT
                      refine rSLSkip md0 hX rfl rfl rfl zP rfl rfl rfl (by assumption) ?_
                      let c34 := (law24_lives N)
                      replace hT := sIf hT; obtain ⟨o1, hT⟩ := hT
                      let x31 := (bif (bif (bif (bif (bif (bif (bif (bif (decide ((c5.getD default).1 = 0)) then (decide ((c18.getD default).1 = (ByteArray.size (a9 ++ (c12.getD default)) : Int))) else false) then false else false) then (decide ((c16.getD default).2.2.2.2.2.2.2.1 = 0)) else false) then (c29.getD default) else false) then true else false) then (decide ((c16.getD default).2.2.2.2.2.2.1 = 0)) else false) then false else false) then (c34.getD default) else false)
                      refine rSLDone md0 hX rfl rfl rfl zO ?_
                      exact zTo [] 0 hε (hjk5 _ hT)
            · replace hT := sF hg hT
              refine rSLSkip md0 hX rfl rfl rfl zP rfl rfl rfl (by assumption) ?_
              refine rJoinKL hT (fun v6 => ⟨[(4, .v (.c (.bool v6)))], [], 4⟩) (fun v6 hT => ?_) (fun k6 hjk6 hT => ?_)
              · skip
                exact zTo [] 0 hε (hjk2 _ hT)
              · skip
                let c36 := (overspill_outbits_Writer_Text N (c13.getD default).2)
                replace hT := sIf hT; obtain ⟨r1, hT⟩ := hT
                refine rSLG md0 hX rfl rfl rfl zP rfl rfl rfl rfl (fun hg => (by (repeat' first | exact True.intro | with_reducible assumption | (with_reducible apply And.intro)) <;> first | exact rfl | assumption | exact r1 hg | omega | exact Nat.le_of_ble_eq_true rfl)) (fun hg => ?_) (fun hg => ?_)
                · replace hT := sT hg hT
                  let c37 := (ref02_Pack N (a9 ++ (c12.getD default)))
                  let c38 := (ref24_Same_v1 N (c16.getD default).1 (c16.getD default).2.1 (c16.getD default).2.2.1 (c16.getD default).2.2.2.1 (c16.getD default).2.2.2.2.1 (c16.getD default).2.2.2.2.2.1 (c16.getD default).2.2.2.2.2.2.1 a1 a2 a3 a4 a5 a6 a7 a8)
                  let c39 := (overspill_inbits_Reader_At N (c16.getD default).2.2.2.2.2.2.2.2.1 (c16.getD default).2.2.2.2.2.2.2.2.2)
                  replace hT := sIf hT; obtain ⟨⟨o1, o2, o3⟩, hT⟩ := hT
                  refine rJoinKL hT (fun v7 => ⟨[(4, .v (.c (.bool v7)))], [], 4⟩) (fun v7 hT => ?_) (fun k7 hjk7 hT => ?_)
                  · skip
                    exact zTo [] 0 hε (hjk6 _ hT)
                  · skip
                    let c41 := (overspill_outbits_Writer_Len N (c36.getD default).2)
                    replace hT := sIf hT; obtain ⟨r1, hT⟩ := hT
                    refine rSLG md0 hX rfl rfl rfl zO rfl rfl rfl rfl (fun hg => (by (repeat' first | exact True.intro | with_reducible assumption | (with_reducible apply And.intro)) <;> first | exact rfl | assumption | exact r1 hg | omega | exact Nat.le_of_ble_eq_true rfl)) (fun hg => ?_) (fun hg => ?_)
                    · replace hT := sT hg hT
                      let c42 := (law24_lives N)
                      replace hT := sIf hT; obtain ⟨o1, hT⟩ := hT
                      let x39 := (bif (bif (bif (bif (bif (bif (bif (bif (decide ((c5.getD default).1 = 0)) then false else false) then (decide (ByteArray.toList (c36.getD default).1 = ByteArray.toList (c37.getD default))) else false) then (decide ((c16.getD default).2.2.2.2.2.2.2.1 = 0)) else false) then (c38.getD default) else false) then true else false) then (decide ((c16.getD default).2.2.2.2.2.2.1 = 0)) else false) then (decide ((c39.getD default) = (c41.getD default).1)) else false) then (c42.getD default) else false)
                      refine rSLDone md0 hX rfl rfl rfl zO ?_
                      exact zTo [] 0 hε (hjk7 _ hT)
                    · replace hT := sF hg hT
                      refine rSLSkip md0 hX rfl rfl rfl zP rfl rfl rfl (by assumption) ?_
                      let c43 := (law24_lives N)
                      replace hT := sIf hT; obtain ⟨o1, hT⟩ := hT
                      let x46 := (bif (bif (bif (bif (bif (bif (bif (bif (decide ((c5.getD default).1 = 0)) then false else false) then (decide (ByteArray.toList (c36.getD default).1 = ByteArray.toList (c37.getD default))) else false) then (decide ((c16.getD default).2.2.2.2.2.2.2.1 = 0)) else false) then (c38.getD default) else false) then true else false) then (decide ((c16.getD default).2.2.2.2.2.2.1 = 0)) else false) then false else false) then (c43.getD default) else false)
                      refine rSLDone md0 hX rfl rfl rfl zO ?_
                      exact zTo [] 0 hε (hjk7 _ hT)
                · replace hT := sF hg hT
                  let c44 := (ref02_Pack N (a9 ++ (c12.getD default)))
                  replace hT := sIf hT; obtain ⟨o1, hT⟩ := hT
                  refine rSLSkip md0 hX rfl rfl rfl zO rfl rfl rfl (by assumption) ?_
                  let c45 := (ref24_Same_v1 N (c16.getD default).1 (c16.getD default).2.1 (c16.getD default).2.2.1 (c16.getD default).2.2.2.1 (c16.getD default).2.2.2.2.1 (c16.getD default).2.2.2.2.2.1 (c16.getD default).2.2.2.2.2.2.1 a1 a2 a3 a4 a5 a6 a7 a8)
                  let c46 := (overspill_inbits_Reader_At N (c16.getD default).2.2.2.2.2.2.2.2.1 (c16.getD default).2.2.2.2.2.2.2.2.2)
                  replace hT := sIf hT; obtain ⟨⟨o1, o2⟩, hT⟩ := hT
                  refine rJoinKL hT (fun v8 => ⟨[(4, .v (.c (.bool v8)))], [], 4⟩) (fun v8 hT => ?_) (fun k8 hjk8 hT => ?_)
                  · skip
                    exact zTo [] 0 hε (hjk6 _ hT)
                  · skip
                    let c48 := (overspill_outbits_Writer_Len N (c13.getD default).2)
                    replace hT := sIf hT; obtain ⟨r1, hT⟩ := hT
                    refine rSLG md0 hX rfl rfl rfl zO rfl rfl rfl rfl (fun hg => (by (repeat' first | exact True.intro | with_reducible assumption | (with_reducible apply And.intro)) <;> first | exact rfl | assumption | exact r1 hg | omega | exact Nat.le_of_ble_eq_true rfl)) (fun hg => ?_) (fun hg => ?_)
                    · replace hT := sT hg hT
                      let c49 := (law24_lives N)
                      replace hT := sIf hT; obtain ⟨o1, hT⟩ := hT
                      let x53 := (bif (bif (bif (bif (bif (bif (bif (bif (decide ((c5.getD default).1 = 0)) then false else false) then false else false) then (decide ((c16.getD default).2.2.2.2.2.2.2.1 = 0)) else false) then (c45.getD default) else false) then true else false) then (decide ((c16.getD default).2.2.2.2.2.2.1 = 0)) else false) then (decide ((c46.getD default) = (c48.getD default).1)) else false) then (c49.getD default) else false)
                      refine rSLDone md0 hX rfl rfl rfl zO ?_
                      exact zTo [] 0 hε (hjk8 _ hT)
                    · replace hT := sF hg hT
                      refine rSLSkip md0 hX rfl rfl rfl zP rfl rfl rfl (by assumption) ?_
                      let c50 := (law24_lives N)
                      replace hT := sIf hT; obtain ⟨o1, hT⟩ := hT
                      let x60 := (bif (bif (bif (bif (bif (bif (bif (bif (decide ((c5.getD default).1 = 0)) then false else false) then false else false) then (decide ((c16.getD default).2.2.2.2.2.2.2.1 = 0)) else false) then (c45.getD default) else false) then true else false) then (decide ((c16.getD default).2.2.2.2.2.2.1 = 0)) else false) then false else false) then (c50.getD default) else false)
                      refine rSLDone md0 hX rfl rfl rfl zO ?_
                      exact zTo [] 0 hε (hjk8 _ hT)
  · cases h

end Go.Proofs.Ytngghhpbjppkcaa
