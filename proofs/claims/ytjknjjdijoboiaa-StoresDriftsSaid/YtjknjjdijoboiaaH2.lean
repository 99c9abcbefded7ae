/- Models of functions, and that the program does what they tell. -/
import Derived.Test.YtjknjjdijoboiaaH1
set_option linter.unusedVariables false
set_option linter.unusedSimpArgs false
namespace Go.Proofs.Ytjknjjdijoboiaa
open Go.X

def motion_Chroma (N : Nat) (a1 : Int) : Option Int :=
  let c1 := (whole_Clip N a1 (-64) 64)
  if c1.isSome = true then
    if inK .i64 (-(c1.getD default)) then
      if (0 : Int) ≤ (max (c1.getD default) (-(c1.getD default))) ∧ inK .i64 ((2 : Int) * ((max (c1.getD default) (-(c1.getD default))) / 4)) then
        if (0 : Int) ≤ (max (c1.getD default) (-(c1.getD default))) then
          if ((decide (((max (c1.getD default) (-(c1.getD default))) % 4) ≠ 0)) = true → inK .i64 (((2 : Int) * ((max (c1.getD default) (-(c1.getD default))) / 4)) + 1)) then
            let x1 := (bif (decide (((max (c1.getD default) (-(c1.getD default))) % 4) ≠ 0)) then (((2 : Int) * ((max (c1.getD default) (-(c1.getD default))) / 4)) + 1) else ((2 : Int) * ((max (c1.getD default) (-(c1.getD default))) / 4)))
            bif (decide ((c1.getD default) < 0)) then
              if inK .i64 (-x1) then
                some (-x1)
              else none
            else
              some x1
          else none
        else none
      else none
    else none
  else none
def sp_motion_Chroma (N : Nat) : X.Spec := fun args lk => match args with
  | [.v (.c (.int .i64 a1))] => some ⟨(motion_Chroma N a1).isSome = true, .v (.c (.int .i64 ((motion_Chroma N a1).getD default))), [], []⟩
  | _ => none
set_option maxRecDepth 100000 in
set_option maxHeartbeats 1000000 in
theorem ok_motion_Chroma (N : Nat) : FnOK Try.prog gt0 48 (sp_motion_Chroma N) := by
  refine fnOK_handed Try.func48 rfl (by kernel_rfl) tt_ok (ktCons (ok_whole_Clip N) (ktNil)) ?_
  intro args lk r h hp
  unfold sp_motion_Chroma at h
  split at h
  · rename_i a1
    cases h
    obtain ⟨x, hx⟩ := Option.isSome_iff_exists.1 hp
    simp only [hx, Option.getD_some]
    refine hand0 rfl rfl (fun w0 M ε0 hX => ?_)
    refine rCount (fun hε => ?_)
    have hT : motion_Chroma N a1 = some x := hx; clear hx hp; unfold motion_Chroma at hT
    refine rSeq ?_
    refine zReg md0 hX rfl rfl rfl ?_
    refine rThen ?_
    refine rSeq ?_
    let c1 := (whole_Clip N a1 (-64) 64)
    replace hT := sIf hT; obtain ⟨o1, hT⟩ := hT
    refine zReg md0 hX rfl rfl rfl ?_
    refine rThen ?_
    refine rSeq ?_
    replace hT := sIf hT; obtain ⟨o1, hT⟩ := hT
    refine zReg md0 hX rfl rfl rfl ?_
    refine rThen ?_
    refine rSeq ?_
    replace hT := sIf hT; obtain ⟨⟨o1, o2⟩, hT⟩ := hT
    refine zReg md0 hX rfl rfl rfl ?_
    refine rThen ?_
    refine rSeq ?_
    refine rSeq ?_
    replace hT := sIf hT; obtain ⟨o1, hT⟩ := hT
    refine zReg md0 hX rfl rfl rfl ?_
    refine rThen ?_
    replace hT := sIf hT; obtain ⟨q1, hT⟩ := hT
    refine rJoin ⟨[(0, .v (.c (.int .i64 (c1.getD default)))), (2, .v (.c (.int .i64 0))), (4, .v (.c (.int .i64 (bif (decide (((max (c1.getD default) (-(c1.getD default))) % 4) ≠ 0)) then (((2 : Int) * ((max (c1.getD default) (-(c1.getD default))) / 4)) + 1) else ((2 : Int) * ((max (c1.getD default) (-(c1.getD default))) / 4))))))], [], 0⟩ ?_ (fun hj => ?_)
    · skip
      let x1 := (bif (decide (((max (c1.getD default) (-(c1.getD default))) % 4) ≠ 0)) then (((2 : Int) * ((max (c1.getD default) (-(c1.getD default))) / 4)) + 1) else ((2 : Int) * ((max (c1.getD default) (-(c1.getD default))) / 4)))
      refine rThen ?_
      refine rSeq ?_
      refine rSeq ?_
      refine zReg md0 hX rfl rfl rfl ?_
      refine rThen ?_
      refine zCond rfl rfl (fun hc => ?_) (fun hc => ?_)
      · replace hT := sT hc hT
        refine rSeq ?_
        replace hT := sIf hT; obtain ⟨o1, hT⟩ := hT
        refine zReg md0 hX rfl rfl rfl ?_
        refine rThen ?_
        refine rRet ?_
        refine rThenRet ?_
        have hy := Option.some.inj hT; subst hy
        exact zEnd0 hX rfl
      · replace hT := sF hc hT
        refine rSkip ?_
        refine rThen ?_
        refine rSeq ?_
        refine zReg md0 hX rfl rfl rfl ?_
        refine rThen ?_
        refine rRet ?_
        have hy := Option.some.inj hT; subst hy
        exact zEnd0 hX rfl
    · clear hT
      refine zCond rfl rfl (fun hc => ?_) (fun hc => ?_)
      · skip
        have q1 := q1 hc
        refine zReg md0 hX rfl rfl rfl ?_
        exact rTo (To.mk' [] 0 hε rfl (by (repeat' first | exact True.intro | exact rfl | apply And.intro) <;> (repeat' first | exact rfl | refine Eq.trans ?_ (cTr (by assumption)) | refine Eq.trans ?_ (cFr (by assumption)) | refine Eq.trans (cTl (by assumption)) ?_ | refine Eq.trans (cFl (by assumption)) ?_)) (by (repeat' first | exact True.intro | exact rfl | apply And.intro) <;> (repeat' first | exact rfl | refine Eq.trans ?_ (cTr (by assumption)) | refine Eq.trans ?_ (cFr (by assumption)) | refine Eq.trans (cTl (by assumption)) ?_ | refine Eq.trans (cFl (by assumption)) ?_))) hj
      · skip
        refine rSkip ?_
        exact rTo (To.mk' [] 0 hε rfl (by (repeat' first | exact True.intro | exact rfl | apply And.intro) <;> (repeat' first | exact rfl | refine Eq.trans ?_ (cTr (by assumption)) | refine Eq.trans ?_ (cFr (by assumption)) | refine Eq.trans (cTl (by assumption)) ?_ | refine Eq.trans (cFl (by assumption)) ?_)) (by (repeat' first | exact True.intro | exact rfl | apply And.intro) <;> (repeat' first | exact rfl | refine Eq.trans ?_ (cTr (by assumption)) | refine Eq.trans ?_ (cFr (by assumption)) | refine Eq.trans (cTl (by assumption)) ?_ | refine Eq.trans (cFl (by assumption)) ?_))) hj
  · cases h
def motion_Predict_b1 (N : Nat) (a1 : Int) (a2 : (List (List Int))) (a3 : Int) (a4 : (List Int)) (c1 : (Option (Int × Int))) (s1 : (Int × (List Int))) : Option ((Int × (List Int)) ⊕ (List Int)) :=
  bif (decide (s1.1 < 6)) then
    if inK .i64 (s1.1 - 4) ∧ inK .i64 ((s1.1 - 4) + 1) then
      let c4 := (formats_Plane N a1 (max (0 : Int) ((s1.1 - 4) + 1)))
      if c4.isSome = true then
        let c5 := (motion_halves N (a2.getD (max (0 : Int) ((s1.1 - 4) + 1)).toNat []) (c4.getD default).1)
        if (0 : Int) ≤ (max (0 : Int) ((s1.1 - 4) + 1)) ∧ (max (0 : Int) ((s1.1 - 4) + 1)) < 3 ∧ (max (0 : Int) ((s1.1 - 4) + 1)).toNat < 3 ∧ c5.isSome = true then
          bif (decide ((max (0 : Int) ((s1.1 - 4) + 1)) = 0)) then
            let c6 := (motion_laid_halves_2 N (((2 : Int) * (((16 : Int) * (a3 % (c1.getD default).1)) + ((s1.1 % 2) * 8))) + (a4.getD 0 0)) (((2 : Int) * (((16 : Int) * (a3 / (c1.getD default).1)) + ((s1.1 / 2) * 8))) + (a4.getD 1 0)) (c5.getD default).1 (c5.getD default).2)
            if inK .i64 ((16 : Int) * (a3 % (c1.getD default).1)) ∧ (0 : Int) ≤ s1.1 ∧ inK .i64 ((s1.1 % 2) * 8) ∧ inK .i64 (((16 : Int) * (a3 % (c1.getD default).1)) + ((s1.1 % 2) * 8)) ∧ inK .i64 ((2 : Int) * (((16 : Int) * (a3 % (c1.getD default).1)) + ((s1.1 % 2) * 8))) ∧ inK .i64 (((2 : Int) * (((16 : Int) * (a3 % (c1.getD default).1)) + ((s1.1 % 2) * 8))) + (a4.getD 0 0)) ∧ inK .i64 ((16 : Int) * (a3 / (c1.getD default).1)) ∧ inK .i64 ((s1.1 / 2) * 8) ∧ inK .i64 (((16 : Int) * (a3 / (c1.getD default).1)) + ((s1.1 / 2) * 8)) ∧ inK .i64 ((2 : Int) * (((16 : Int) * (a3 / (c1.getD default).1)) + ((s1.1 / 2) * 8))) ∧ inK .i64 (((2 : Int) * (((16 : Int) * (a3 / (c1.getD default).1)) + ((s1.1 / 2) * 8))) + (a4.getD 1 0)) ∧ c6.isSome = true ∧ s1.1 < 6 ∧ (64 * (s1.1).toNat) + 64 ≤ 384 then
              if inK .i64 (s1.1 + 1) then
                some (.inl ((s1.1 + 1), (layL s1.2 (64 * (s1.1).toNat) (c6.getD default) 64)))
              else none
            else none
          else
            let c7 := (motion_Chroma N (a4.getD 0 0))
            let c8 := (motion_Chroma N (a4.getD 1 0))
            let c9 := (motion_laid_halves_2 N (((16 : Int) * (a3 % (c1.getD default).1)) + (c7.getD default)) (((16 : Int) * (a3 / (c1.getD default).1)) + (c8.getD default)) (c5.getD default).1 (c5.getD default).2)
            if inK .i64 ((16 : Int) * (a3 % (c1.getD default).1)) ∧ c7.isSome = true ∧ inK .i64 (((16 : Int) * (a3 % (c1.getD default).1)) + (c7.getD default)) ∧ inK .i64 ((16 : Int) * (a3 / (c1.getD default).1)) ∧ c8.isSome = true ∧ inK .i64 (((16 : Int) * (a3 / (c1.getD default).1)) + (c8.getD default)) ∧ c9.isSome = true ∧ (0 : Int) ≤ s1.1 ∧ s1.1 < 6 ∧ (64 * (s1.1).toNat) + 64 ≤ 384 then
              if inK .i64 (s1.1 + 1) then
                some (.inl ((s1.1 + 1), (layL s1.2 (64 * (s1.1).toNat) (c9.getD default) 64)))
              else none
            else none
        else none
      else none
    else none
  else
    some (.inr s1.2)
def motion_Predict (N : Nat) (a1 : Int) (a2 : (List (List Int))) (a3 : Int) (a4 : (List Int)) : Option ((List Int) × Int) :=
  let c1 := (formats_Cells N a1)
  if c1.isSome = true then
    let c2 := (planes_Right N a1 a2)
    if c2.isSome = true then
      if ((!(c2.getD default)) = false → ((decide (a3 < 0)) = false → inK .i64 ((c1.getD default).1 * (c1.getD default).2))) then
        let x1 := (bif (!(c2.getD default)) then (!(c2.getD default)) else (bif (decide (a3 < 0)) then (decide (a3 < 0)) else (decide (((c1.getD default).1 * (c1.getD default).2) ≤ a3))))
        bif x1 then
          some ((List.replicate 384 0), 1)
        else
          let c3 := (motion_May N a1 a3 a4)
          if c3.isSome = true then
            bif (!(c3.getD default)) then
              some ((List.replicate 384 0), 8)
            else
              if (0 : Int) ≤ a3 ∧ (0 : Int) < (c1.getD default).1 then
                (iter (motion_Predict_b1 N a1 a2 a3 a4 c1) N (0, (List.replicate 384 0))).bind fun v1 =>
                  some (v1, 0)
              else none
          else none
      else none
    else none
  else none
def sp_motion_Predict (N : Nat) : X.Spec := fun args lk => match args with
  | [.v (.agg [.cs [.int .i64 a1], .fzs 3 (.int .u8) a2]), .v (.c (.int .i64 a3)), .v (.agg [.ints 2 .i64 a4])] => some ⟨(motion_Predict N a1 a2 a3 a4).isSome = true, .tup [.agg [.ints 384 .i64 ((motion_Predict N a1 a2 a3 a4).getD default).1], .c (.int .i64 ((motion_Predict N a1 a2 a3 a4).getD default).2)], [], []⟩
  | _ => none
set_option maxRecDepth 100000 in
set_option maxHeartbeats 1000000 in
theorem ok_motion_Predict (N : Nat) : FnOK Try.prog gt0 14 (sp_motion_Predict N) := by
  refine fnOK_handed Try.func14 rfl (by kernel_rfl) tt_ok (ktCons (ok_motion_Chroma N) (ktCons (ok_motion_laid_halves_2 N) (ktCons (ok_motion_halves N) (ktCons (ok_formats_Plane N) (ktCons (ok_motion_May N) (ktCons (ok_planes_Right N) (ktCons (ok_formats_Cells N) (ktNil)))))))) ?_
  intro args lk r h hp
  unfold sp_motion_Predict at h
  split at h
  · rename_i a1 a2 a3 a4
    change (List (List Int)) at a2
    change (List Int) at a4
    cases h
    obtain ⟨x, hx⟩ := Option.isSome_iff_exists.1 hp
    simp only [hx, Option.getD_some]
    refine hand0 rfl rfl (fun w0 M ε0 hX => ?_)
    refine rCount (fun hε => ?_)
    have hT : motion_Predict N a1 a2 a3 a4 = some x := hx; clear hx hp; unfold motion_Predict at hT
    refine rSeq ?_
    refine zReg md0 hX rfl rfl rfl ?_
    refine rThen ?_
    refine rSeq ?_
    let c1 := (formats_Cells N a1)
    replace hT := sIf hT; obtain ⟨o1, hT⟩ := hT
    refine zReg md0 hX rfl rfl rfl ?_
    refine rThen ?_
    refine rSeq ?_
    refine rBlock ?_
    refine rSeq ?_
    refine rSeq ?_
    let c2 := (planes_Right N a1 a2)
    replace hT := sIf hT; obtain ⟨o1, hT⟩ := hT
    refine zReg md0 hX rfl rfl rfl ?_
    refine rThen ?_
    replace hT := sIf hT; obtain ⟨q1, hT⟩ := hT
    refine rJoin ⟨[(1, .v (.c (.int .i64 a3))), (3, .v (.c (.ptr 0 0 0 0 0 0))), (5, .v (.c (.ptr 1 0 0 0 0 0))), (6, .v (.c (.ptr 2 0 0 0 0 0))), (7, .v (.c (.int .i64 0))), (8, .v (.c (.int .i64 (c1.getD default).1))), (24, .v (.c (.bool (bif (!(c2.getD default)) then (!(c2.getD default)) else (bif (decide (a3 < 0)) then (decide (a3 < 0)) else (decide (((c1.getD default).1 * (c1.getD default).2) ≤ a3)))))))], [(0, .mem true 25 none (.flat [.cs [.int .i64 a1], .fzs 3 (.int .u8) a2])), (1, .mem true 26 none (.flat [.ints 2 .i64 a4])), (2, .mem true 31 none (.flat [.ints 384 .i64 (List.replicate 384 0)]))], 3⟩ ?_ (fun hj => ?_)
    · skip
      let x1 := (bif (!(c2.getD default)) then (!(c2.getD default)) else (bif (decide (a3 < 0)) then (decide (a3 < 0)) else (decide (((c1.getD default).1 * (c1.getD default).2) ≤ a3))))
      refine rThen ?_
      refine zCond rfl rfl (fun hc => ?_) (fun hc => ?_)
      · replace hT := sT hc hT
        refine rSeq ?_
        refine zReg md0 hX rfl rfl rfl ?_
        refine rThen ?_
        refine rRet ?_
        refine rInRet ?_
        refine rThenRet ?_
        have hy := Option.some.inj hT; subst hy
        exact zEnd0 hX rfl
      · replace hT := sF hc hT
        refine rSeq ?_
        let c3 := (motion_May N a1 a3 a4)
        replace hT := sIf hT; obtain ⟨o1, hT⟩ := hT
        refine zReg md0 hX rfl rfl rfl ?_
        refine rThen ?_
        refine zCond rfl rfl (fun hc => ?_) (fun hc => ?_)
        · replace hT := sT hc hT
          refine rSeq ?_
          refine zReg md0 hX rfl rfl rfl ?_
          refine rThen ?_
          refine rRet ?_
          refine rInRet ?_
          refine rThenRet ?_
          have hy := Option.some.inj hT; subst hy
          exact zEnd0 hX rfl
        · replace hT := sF hc hT
          refine rSkip ?_
          refine rInNormal ?_
          refine rThen ?_
          refine rSeq ?_
          refine zReg md0 hX rfl rfl rfl ?_
          refine rThen ?_
          refine rSeq ?_
          replace hT := sIf hT; obtain ⟨⟨o1, o2⟩, hT⟩ := hT
          refine zDraw md0 0 [] hX mixed rfl rfl rfl rfl rfl ?_
          refine rThen ?_
          refine rSeq ?_
          refine rSeq ?_
          refine zReg md0 hX rfl rfl rfl ?_
          refine rThen ?_
          refine rBlock ?_
          replace hT := sBind hT; obtain ⟨w1, hl, hT⟩ := hT
          refine rJoinA (fun v1 => v1 = w1) (fun v1 => ⟨[(6, .v (.c (.ptr 2 0 0 0 0 0))), (7, .v (.c (.int .i64 0))), (10, .v (.c (.ptr 3 0 0 0 0 0)))], [(2, .mem true 31 none (.flat [.ints 384 .i64 (List.replicate 384 0)])), (3, .mem true 31 none (.flat [.ints 384 .i64 v1]))], 4⟩) (.exit 1) (fun v1 hv => ?_) (fun hxs10 => ?_)
          · subst hv; clear hl
            refine rInHit ?_
            refine rThen ?_
            refine rSeq ?_
            refine zReg md0 hX rfl rfl rfl ?_
            refine rThen ?_
            refine rRet ?_
            have hy := Option.some.inj hT; subst hy
            exact zEnd0 hX rfl
          refine rLoopM (motion_Predict_b1 N a1 a2 a3 a4 c1) (fun s1 => ⟨[(3, .v (.c (.ptr 0 0 0 0 0 0))), (5, .v (.c (.ptr 1 0 0 0 0 0))), (6, .v (.c (.ptr 2 0 0 0 0 0))), (7, .v (.c (.int .i64 0))), (10, .v (.c (.ptr 3 0 0 0 0 0))), (11, .v (.c (.int .i64 (a3 % (c1.getD default).1)))), (12, .v (.c (.int .i64 (a3 / (c1.getD default).1)))), (50, .v (.c (.int .i64 s1.1)))], [(0, .mem true 25 none (.flat [.cs [.int .i64 a1], .fzs 3 (.int .u8) a2])), (1, .mem true 26 none (.flat [.ints 2 .i64 a4])), (2, .mem true 31 none (.flat [.ints 384 .i64 (List.replicate 384 0)])), (3, .mem true 31 none (.flat [.ints 384 .i64 s1.2]))], 4⟩) hl (To.mk' [] 0 hε rfl (by repeat' first | exact True.intro | exact rfl | apply And.intro) (by repeat' first | exact True.intro | exact rfl | apply And.intro)) (fun s1 zs1 NNs1 hz hnexts1 houts1 => ?_)
          clear hl hT
          have hT := hz; clear hz
          refine rSeq ?_
          refine zReg md0 hX rfl rfl rfl ?_
          refine rThen ?_
          refine rSeq ?_
          refine zCond rfl rfl (fun hc => ?_) (fun hc => ?_)
          · replace hT := sT hc hT
            refine rSkip ?_
            refine rThen ?_
            refine rSeq ?_
            refine rBlock ?_
            refine rSeq ?_
            refine zReg md0 hX rfl rfl rfl ?_
            refine rThen ?_
            refine rSeq ?_
            replace hT := sIf hT; obtain ⟨⟨o1, o2⟩, hT⟩ := hT
            refine zReg md0 hX rfl rfl rfl ?_
            refine rThen ?_
            refine rSeq ?_
            let c4 := (formats_Plane N a1 (max (0 : Int) ((s1.1 - 4) + 1)))
            replace hT := sIf hT; obtain ⟨o1, hT⟩ := hT
            refine zReg md0 hX rfl rfl rfl ?_
            refine rThen ?_
            refine rSeq ?_
            let c5 := (motion_halves N (a2.getD (max (0 : Int) ((s1.1 - 4) + 1)).toNat []) (c4.getD default).1)
            replace hT := sIf hT; obtain ⟨⟨o1, o2, o3, o4⟩, hT⟩ := hT
            refine zReg md0 hX rfl rfl rfl ?_
            refine rThen ?_
            refine rSeq ?_
            refine rSeq ?_
            refine zReg md0 hX rfl rfl rfl ?_
            refine rThen ?_
            refine zCond rfl rfl (fun hc => ?_) (fun hc => ?_)
            · replace hT := sT hc hT
              refine rSeq ?_
              let c6 := (motion_laid_halves_2 N (((2 : Int) * (((16 : Int) * (a3 % (c1.getD default).1)) + ((s1.1 % 2) * 8))) + (a4.getD 0 0)) (((2 : Int) * (((16 : Int) * (a3 / (c1.getD default).1)) + ((s1.1 / 2) * 8))) + (a4.getD 1 0)) (c5.getD default).1 (c5.getD default).2)
              replace hT := sIf hT; obtain ⟨⟨o1, o2, o3, o4, o5, o6, o7, o8, o9, o10, o11, o12, o13, o14⟩, hT⟩ := hT
              refine zReg md0 hX rfl rfl rfl ?_
              refine rThen ?_
              refine rExit ?_
              refine rThenExit ?_
              refine rInHit ?_
              refine rThen ?_
              replace hT := sIf hT; obtain ⟨o1, hT⟩ := hT
              refine zReg md0 hX rfl rfl rfl ?_
              exact hnexts1 _ (Option.some.inj hT).symm _ (To.mk' [] 0 hε rfl (by repeat' first | exact True.intro | exact rfl | apply And.intro) (by repeat' first | exact True.intro | exact rfl | apply And.intro))
            · replace hT := sF hc hT
              refine rSkip ?_
              refine rThen ?_
              let c7 := (motion_Chroma N (a4.getD 0 0))
              let c8 := (motion_Chroma N (a4.getD 1 0))
              let c9 := (motion_laid_halves_2 N (((16 : Int) * (a3 % (c1.getD default).1)) + (c7.getD default)) (((16 : Int) * (a3 / (c1.getD default).1)) + (c8.getD default)) (c5.getD default).1 (c5.getD default).2)
              replace hT := sIf hT; obtain ⟨⟨o1, o2, o3, o4, o5, o6, o7, o8, o9, o10⟩, hT⟩ := hT
              refine zDraw md0 1 [16] hX mixed rfl rfl rfl rfl rfl ?_
              refine rInNormal ?_
              refine rThen ?_
              replace hT := sIf hT; obtain ⟨o1, hT⟩ := hT
              refine zReg md0 hX rfl rfl rfl ?_
              exact hnexts1 _ (Option.some.inj hT).symm _ (To.mk' [] 0 hε rfl (by repeat' first | exact True.intro | exact rfl | apply And.intro) (by repeat' first | exact True.intro | exact rfl | apply And.intro))
          · replace hT := sF hc hT
            refine rExit ?_
            refine rThenExit ?_
            refine rThenExit ?_
            exact zTo [] 0 hε (hxs10 _ (houts1 _ (Option.some.inj hT).symm))
    · clear hT
      refine zCond rfl rfl (fun hc => ?_) (fun hc => ?_)
      · skip
        refine rSkip ?_
        exact rTo (To.mk' [] 0 hε rfl (by (repeat' first | exact True.intro | exact rfl | apply And.intro) <;> (repeat' first | exact rfl | refine Eq.trans ?_ (cTr (by assumption)) | refine Eq.trans ?_ (cFr (by assumption)) | refine Eq.trans (cTl (by assumption)) ?_ | refine Eq.trans (cFl (by assumption)) ?_)) (by (repeat' first | exact True.intro | exact rfl | apply And.intro) <;> (repeat' first | exact rfl | refine Eq.trans ?_ (cTr (by assumption)) | refine Eq.trans ?_ (cFr (by assumption)) | refine Eq.trans (cTl (by assumption)) ?_ | refine Eq.trans (cFl (by assumption)) ?_))) hj
      · skip
        have q1 := q1 hc
        refine rSeq ?_
        refine zReg md0 hX rfl rfl rfl ?_
        refine rThen ?_
        refine zCond rfl rfl (fun hc => ?_) (fun hc => ?_)
        · skip
          refine rSkip ?_
          exact rTo (To.mk' [] 0 hε rfl (by (repeat' first | exact True.intro | exact rfl | apply And.intro) <;> (repeat' first | exact rfl | refine Eq.trans ?_ (cTr (by assumption)) | refine Eq.trans ?_ (cFr (by assumption)) | refine Eq.trans (cTl (by assumption)) ?_ | refine Eq.trans (cFl (by assumption)) ?_)) (by (repeat' first | exact True.intro | exact rfl | apply And.intro) <;> (repeat' first | exact rfl | refine Eq.trans ?_ (cTr (by assumption)) | refine Eq.trans ?_ (cFr (by assumption)) | refine Eq.trans (cTl (by assumption)) ?_ | refine Eq.trans (cFl (by assumption)) ?_))) hj
        · skip
          have q1 := q1 hc
          refine zReg md0 hX rfl rfl rfl ?_
          exact rTo (To.mk' [] 0 hε rfl (by (repeat' first | exact True.intro | exact rfl | apply And.intro) <;> (repeat' first | exact rfl | refine Eq.trans ?_ (cTr (by assumption)) | refine Eq.trans ?_ (cFr (by assumption)) | refine Eq.trans (cTl (by assumption)) ?_ | refine Eq.trans (cFl (by assumption)) ?_)) (by (repeat' first | exact True.intro | exact rfl | apply And.intro) <;> (repeat' first | exact rfl | refine Eq.trans ?_ (cTr (by assumption)) | refine Eq.trans ?_ (cFr (by assumption)) | refine Eq.trans (cTl (by assumption)) ?_ | refine Eq.trans (cFl (by assumption)) ?_))) hj
  · cases h
def stores_Drift_b2 (N : Nat) (c3 : (Option ((List Int) × Int))) (s1 : (Int × (List Int))) (s2 : (Int × (List Int))) : Option ((Int × (List Int)) ⊕ (Int × Bool × (List Int))) :=
  bif (decide (s2.1 < 64)) then
    let x2 := (s2.2.set ((s1.1).toNat * 64 + (s2.1).toNat) ((s2.2.getD ((s1.1).toNat * 64 + (s2.1).toNat) 0) - ((c3.getD default).1.getD ((s1.1).toNat * 64 + (s2.1).toNat) 0)))
    if (0 : Int) ≤ s1.1 ∧ s1.1 < 6 ∧ (0 : Int) ≤ s2.1 ∧ s2.1 < 64 ∧ ((s1.1).toNat * 64 + (s2.1).toNat) < 384 ∧ inK .i64 ((s2.2.getD ((s1.1).toNat * 64 + (s2.1).toNat) 0) - ((c3.getD default).1.getD ((s1.1).toNat * 64 + (s2.1).toNat) 0)) then
      if inK .i64 (s2.1 + 1) then
        some (.inl ((s2.1 + 1), x2))
      else none
    else none
  else
    some (.inr (s2.1, (decide (s2.1 < 64)), s2.2))
def stores_Drift_b1 (N : Nat) (c3 : (Option ((List Int) × Int))) (s1 : (Int × (List Int))) : Option ((Int × (List Int)) ⊕ (List Int)) :=
  bif (decide (s1.1 < 6)) then
    (iter (stores_Drift_b2 N c3 s1) N (0, s1.2)).bind fun v2 =>
      if inK .i64 (s1.1 + 1) then
        some (.inl ((s1.1 + 1), v2.2.2))
      else none
  else
    some (.inr s1.2)
def stores_Drift (N : Nat) (a1 : Int) (a2 : (List (List Int))) (a3 : Int) (a4 : (List (List Int))) (a5 : Int) (a6 : (List Int)) : Option ((List Int) × Int) :=
  let c1 := (stores_Add N a1 a2 a3 a4)
  if c1.isSome = true then
    bif (decide ((c1.getD default).2.2 ≠ 0)) then
      some ((List.replicate 384 0), (c1.getD default).2.2)
    else
      let c2 := (motion_Predict N (c1.getD default).1 (c1.getD default).2.1 a5 a6)
      if c2.isSome = true then
        bif (decide ((c2.getD default).2 ≠ 0)) then
          some ((List.replicate 384 0), (c2.getD default).2)
        else
          let c3 := (motion_Predict N a1 a2 a5 a6)
          if c3.isSome = true then
            (iter (stores_Drift_b1 N c3) N (0, (c2.getD default).1)).bind fun v1 =>
              some (v1, 0)
          else none
      else none
  else none
def sp_stores_Drift (N : Nat) : X.Spec := fun args lk => match args with
  | [.v (.agg [.cs [.int .i64 a1], .fzs 3 (.int .u8) a2]), .v (.agg [.cs [.int .i64 a3], .fzs 3 (.int .i64) a4]), .v (.c (.int .i64 a5)), .v (.agg [.ints 2 .i64 a6])] => some ⟨(stores_Drift N a1 a2 a3 a4 a5 a6).isSome = true, .tup [.agg [.ints 384 .i64 ((stores_Drift N a1 a2 a3 a4 a5 a6).getD default).1], .c (.int .i64 ((stores_Drift N a1 a2 a3 a4 a5 a6).getD default).2)], [], []⟩
  | _ => none
set_option maxRecDepth 100000 in
set_option maxHeartbeats 1000000 in
theorem ok_stores_Drift (N : Nat) : FnOK Try.prog gt0 46 (sp_stores_Drift N) := by
  refine fnOK_handed Try.func46 rfl (by kernel_rfl) tt_ok (ktCons (ok_motion_Predict N) (ktCons (ok_stores_Add N) (ktNil))) ?_
  intro args lk r h hp
  unfold sp_stores_Drift at h
  split at h
  · rename_i a1 a2 a3 a4 a5 a6
    change (List (List Int)) at a2
    change (List (List Int)) at a4
    change (List Int) at a6
    cases h
    obtain ⟨x, hx⟩ := Option.isSome_iff_exists.1 hp
    simp only [hx, Option.getD_some]
    refine hand0 rfl rfl (fun w0 M ε0 hX => ?_)
    refine rCount (fun hε => ?_)
    have hT : stores_Drift N a1 a2 a3 a4 a5 a6 = some x := hx; clear hx hp; unfold stores_Drift at hT
    refine rSeq ?_
    refine zReg md0 hX rfl rfl rfl ?_
    refine rThen ?_
    refine rSeq ?_
    let c1 := (stores_Add N a1 a2 a3 a4)
    replace hT := sIf hT; obtain ⟨o1, hT⟩ := hT
    refine zReg md0 hX rfl rfl rfl ?_
    refine rThen ?_
    refine rSeq ?_
    refine rSeq ?_
    refine zReg md0 hX rfl rfl rfl ?_
    refine rThen ?_
    refine zCond rfl rfl (fun hc => ?_) (fun hc => ?_)
    · replace hT := sT hc hT
      refine rSeq ?_
      refine zReg md0 hX rfl rfl rfl ?_
      refine rThen ?_
      refine rRet ?_
      refine rThenRet ?_
      have hy := Option.some.inj hT; subst hy
      exact zEnd0 hX rfl
    · replace hT := sF hc hT
      refine rSkip ?_
      refine rThen ?_
      refine rSeq ?_
      let c2 := (motion_Predict N (c1.getD default).1 (c1.getD default).2.1 a5 a6)
      replace hT := sIf hT; obtain ⟨o1, hT⟩ := hT
      refine zReg md0 hX rfl rfl rfl ?_
      refine rThen ?_
      refine rSeq ?_
      refine rSeq ?_
      refine zReg md0 hX rfl rfl rfl ?_
      refine rThen ?_
      refine zCond rfl rfl (fun hc => ?_) (fun hc => ?_)
      · replace hT := sT hc hT
        refine rSeq ?_
        refine zReg md0 hX rfl rfl rfl ?_
        refine rThen ?_
        refine rRet ?_
        refine rThenRet ?_
        have hy := Option.some.inj hT; subst hy
        exact zEnd0 hX rfl
      · replace hT := sF hc hT
        refine rSkip ?_
        refine rThen ?_
        refine rSeq ?_
        let c3 := (motion_Predict N a1 a2 a5 a6)
        replace hT := sIf hT; obtain ⟨o1, hT⟩ := hT
        refine zReg md0 hX rfl rfl rfl ?_
        refine rThen ?_
        refine rSeq ?_
        refine rSeq ?_
        refine zReg md0 hX rfl rfl rfl ?_
        refine rThen ?_
        refine rBlock ?_
        replace hT := sBind hT; obtain ⟨w1, hl, hT⟩ := hT
        refine rJoinA (fun v1 => v1 = w1) (fun v1 => ⟨[(8, .v (.c (.ptr 3 0 0 0 0 0))), (9, .v (.c (.int .i64 0))), (12, .v (.c (.ptr 5 0 0 0 0 0)))], [(3, .mem true 31 none (.flat [.ints 384 .i64 (List.replicate 384 0)])), (5, .mem true 31 none (.flat [.ints 384 .i64 v1]))], 7⟩) (.exit 0) (fun v1 hv => ?_) (fun hxs10 => ?_)
        · subst hv; clear hl
          refine rInHit ?_
          refine rThen ?_
          refine rSeq ?_
          refine zReg md0 hX rfl rfl rfl ?_
          refine rThen ?_
          refine rRet ?_
          have hy := Option.some.inj hT; subst hy
          exact zEnd0 hX rfl
        refine rLoopM (stores_Drift_b1 N c3) (fun s1 => ⟨[(8, .v (.c (.ptr 3 0 0 0 0 0))), (9, .v (.c (.int .i64 0))), (12, .v (.c (.ptr 5 0 0 0 0 0))), (13, .v (.c (.ptr 6 0 0 0 0 0))), (45, .v (.c (.int .i64 s1.1)))], [(3, .mem true 31 none (.flat [.ints 384 .i64 (List.replicate 384 0)])), (5, .mem true 31 none (.flat [.ints 384 .i64 s1.2])), (6, .mem true 31 none (.flat [.ints 384 .i64 (c3.getD default).1]))], 7⟩) hl (To.mk' [] 0 hε rfl (by repeat' first | exact True.intro | exact rfl | apply And.intro) (by repeat' first | exact True.intro | exact rfl | apply And.intro)) (fun s1 zs1 NNs1 hz hnexts1 houts1 => ?_)
        clear hl hT
        have hT := hz; clear hz
        refine rSeq ?_
        refine zReg md0 hX rfl rfl rfl ?_
        refine rThen ?_
        refine rSeq ?_
        refine zCond rfl rfl (fun hc => ?_) (fun hc => ?_)
        · replace hT := sT hc hT
          refine rSkip ?_
          refine rThen ?_
          refine rSeq ?_
          refine rBlock ?_
          refine rSeq ?_
          refine zReg md0 hX rfl rfl rfl ?_
          refine rThen ?_
          refine rSeq ?_
          refine zReg md0 hX rfl rfl rfl ?_
          refine rThen ?_
          refine rBlock ?_
          replace hT := sBind hT; obtain ⟨w2, hl, hT⟩ := hT
          refine rJoinA (fun v2 => v2 = w2) (fun v2 => ⟨[(8, .v (.c (.ptr 3 0 0 0 0 0))), (9, .v (.c (.int .i64 0))), (12, .v (.c (.ptr 5 0 0 0 0 0))), (13, .v (.c (.ptr 6 0 0 0 0 0))), (15, .v (.c (.int .i64 s1.1))), (45, .v (.c (.int .i64 s1.1))), (46, .v (.c (.bool (decide (s1.1 < 6))))), (47, .v (.c (.int .i64 s1.1))), (48, .v (.c (.int .i64 v2.1))), (49, .v (.c (.bool v2.2.1)))], [(3, .mem true 31 none (.flat [.ints 384 .i64 (List.replicate 384 0)])), (5, .mem true 31 none (.flat [.ints 384 .i64 v2.2.2])), (6, .mem true 31 none (.flat [.ints 384 .i64 (c3.getD default).1]))], 7⟩) (.exit 2) (fun v2 hv => ?_) (fun hxs20 => ?_)
          · subst hv; clear hl
            refine rInHit ?_
            refine rInNormal ?_
            refine rThen ?_
            replace hT := sIf hT; obtain ⟨o1, hT⟩ := hT
            refine zReg md0 hX rfl rfl rfl ?_
            exact hnexts1 _ (Option.some.inj hT).symm _ (To.mk' [] 0 hε rfl (by repeat' first | exact True.intro | exact rfl | apply And.intro) (by repeat' first | exact True.intro | exact rfl | apply And.intro))
          refine rLoopM (stores_Drift_b2 N c3 s1) (fun s2 => ⟨[(8, .v (.c (.ptr 3 0 0 0 0 0))), (9, .v (.c (.int .i64 0))), (12, .v (.c (.ptr 5 0 0 0 0 0))), (13, .v (.c (.ptr 6 0 0 0 0 0))), (15, .v (.c (.int .i64 s1.1))), (45, .v (.c (.int .i64 s1.1))), (46, .v (.c (.bool (decide (s1.1 < 6))))), (47, .v (.c (.int .i64 s1.1))), (48, .v (.c (.int .i64 s2.1)))], [(3, .mem true 31 none (.flat [.ints 384 .i64 (List.replicate 384 0)])), (5, .mem true 31 none (.flat [.ints 384 .i64 s2.2])), (6, .mem true 31 none (.flat [.ints 384 .i64 (c3.getD default).1]))], 7⟩) hl (To.mk' [] 0 hε rfl (by repeat' first | exact True.intro | exact rfl | apply And.intro) (by repeat' first | exact True.intro | exact rfl | apply And.intro)) (fun s2 zs2 NNs2 hz hnexts2 houts2 => ?_)
          clear hl hT
          have hT := hz; clear hz
          refine rSeq ?_
          refine zReg md0 hX rfl rfl rfl ?_
          refine rThen ?_
          refine rSeq ?_
          refine zCond rfl rfl (fun hc => ?_) (fun hc => ?_)
          · replace hT := sT hc hT
            refine rSkip ?_
            refine rThen ?_
            refine rSeq ?_
            refine rBlock ?_
            refine rSeq ?_
            refine zReg md0 hX rfl rfl rfl ?_
            refine rThen ?_
            let x2 := (s2.2.set ((s1.1).toNat * 64 + (s2.1).toNat) ((s2.2.getD ((s1.1).toNat * 64 + (s2.1).toNat) 0) - ((c3.getD default).1.getD ((s1.1).toNat * 64 + (s2.1).toNat) 0)))
            replace hT := sIf hT; obtain ⟨⟨o1, o2, o3, o4, o5, o6⟩, hT⟩ := hT
            refine zDraw md0 1 [13] hX mixed rfl rfl rfl rfl rfl ?_
            refine rInNormal ?_
            refine rThen ?_
            replace hT := sIf hT; obtain ⟨o1, hT⟩ := hT
            refine zReg md0 hX rfl rfl rfl ?_
            exact hnexts2 _ (Option.some.inj hT).symm _ (To.mk' [] 0 hε rfl (by repeat' first | exact True.intro | exact rfl | apply And.intro) (by repeat' first | exact True.intro | exact rfl | apply And.intro))
          · replace hT := sF hc hT
            refine rExit ?_
            refine rThenExit ?_
            refine rThenExit ?_
            exact zTo [] 0 hε (hxs20 _ (houts2 _ (Option.some.inj hT).symm))
        · replace hT := sF hc hT
          refine rExit ?_
          refine rThenExit ?_
          refine rThenExit ?_
          exact zTo [] 0 hε (hxs10 _ (houts1 _ (Option.some.inj hT).symm))
  · cases h
def ref16_Size (N : Nat) (a1 : Int) : Option (List Int) :=
  let x1 := [(List.replicate 4 0), (((((List.replicate 4 0).set 0 128).set 1 96).set 2 6).set 3 1), (((((List.replicate 4 0).set 0 176).set 1 144).set 2 9).set 3 1), (((((List.replicate 4 0).set 0 352).set 1 288).set 2 18).set 3 1), (((((List.replicate 4 0).set 0 704).set 1 576).set 2 18).set 3 2), (((((List.replicate 4 0).set 0 1408).set 1 1152).set 2 18).set 3 4), (((((List.replicate 4 0).set 0 32).set 1 32).set 2 2).set 3 1)]
  bif (bif (decide (a1 < 0)) then true else (decide ((7 : Int) ≤ a1))) then
    some (List.replicate 4 0)
  else
    if (0 : Int) ≤ a1 ∧ a1 < 7 ∧ (a1).toNat < x1.length then
      some (x1.getD (a1).toNat (List.replicate 4 (0 : Int)))
    else none
def sp_ref16_Size (N : Nat) : X.Spec := fun args lk => match args with
  | [.v (.c (.int .i64 a1))] => some ⟨(ref16_Size N a1).isSome = true, .v (.agg [.ints 4 .i64 ((ref16_Size N a1).getD default)]), [], []⟩
  | _ => none
set_option maxRecDepth 100000 in
set_option maxHeartbeats 1000000 in
theorem ok_ref16_Size (N : Nat) : FnOK Try.prog gt0 54 (sp_ref16_Size N) := by
  refine fnOK_handed Try.func54 rfl (by kernel_rfl) tt_ok (ktNil) ?_
  intro args lk r h hp
  unfold sp_ref16_Size at h
  split at h
  · rename_i a1
    cases h
    obtain ⟨x, hx⟩ := Option.isSome_iff_exists.1 hp
    simp only [hx, Option.getD_some]
    refine hand0 rfl rfl (fun w0 M ε0 hX => ?_)
    refine rCount (fun hε => ?_)
    have hT : ref16_Size N a1 = some x := hx; clear hx hp; unfold ref16_Size at hT
    refine rSeq ?_
    refine zReg md0 hX rfl rfl rfl ?_
    refine rThen ?_
    refine rSeq ?_
    refine zReg md0 hX rfl rfl rfl ?_
    refine rLstQ 1 (.arr 4 .i64) [(List.replicate 4 0), (((((List.replicate 4 0).set 0 128).set 1 96).set 2 6).set 3 1), (((((List.replicate 4 0).set 0 176).set 1 144).set 2 9).set 3 1), (((((List.replicate 4 0).set 0 352).set 1 288).set 2 18).set 3 1), (((((List.replicate 4 0).set 0 704).set 1 576).set 2 18).set 3 2), (((((List.replicate 4 0).set 0 1408).set 1 1152).set 2 18).set 3 4), (((((List.replicate 4 0).set 0 32).set 1 32).set 2 2).set 3 1)] rfl rfl rfl ?_
    refine rThen ?_
    refine rSeq ?_
    refine rSeq ?_
    let x1 := [(List.replicate 4 0), (((((List.replicate 4 0).set 0 128).set 1 96).set 2 6).set 3 1), (((((List.replicate 4 0).set 0 176).set 1 144).set 2 9).set 3 1), (((((List.replicate 4 0).set 0 352).set 1 288).set 2 18).set 3 1), (((((List.replicate 4 0).set 0 704).set 1 576).set 2 18).set 3 2), (((((List.replicate 4 0).set 0 1408).set 1 1152).set 2 18).set 3 4), (((((List.replicate 4 0).set 0 32).set 1 32).set 2 2).set 3 1)]
    refine zReg md0 hX rfl rfl rfl ?_
    refine rThen ?_
    refine zCond rfl rfl (fun hc => ?_) (fun hc => ?_)
    · replace hT := sT hc hT
      refine rSeq ?_
      refine zReg md0 hX rfl rfl rfl ?_
      refine rThen ?_
      refine rRet ?_
      refine rThenRet ?_
      have hy := Option.some.inj hT; subst hy
      exact zEnd0 hX rfl
    · replace hT := sF hc hT
      refine rSkip ?_
      refine rThen ?_
      refine rSeq ?_
      replace hT := sIf hT; obtain ⟨⟨o1, o2, o3⟩, hT⟩ := hT
      refine zReg md0 hX rfl rfl rfl ?_
      refine rThen ?_
      refine rRet ?_
      have hy := Option.some.inj hT; subst hy
      exact zEnd0 hX rfl
  · cases h
def ref17_Wide (N : Nat) (a1 : Int) (a2 : Int) : Option Int :=
  bif (decide (a2 = 0)) then
    let c1 := (ref16_Size N a1)
    if c1.isSome = true then
      some ((c1.getD default).getD 0 0)
    else none
  else
    let c2 := (ref16_Size N a1)
    if c2.isSome = true ∧ (0 : Int) ≤ ((c2.getD default).getD 0 0) then
      some (((c2.getD default).getD 0 0) / 2)
    else none
def sp_ref17_Wide (N : Nat) : X.Spec := fun args lk => match args with
  | [.v (.c (.int .i64 a1)), .v (.c (.int .i64 a2))] => some ⟨(ref17_Wide N a1 a2).isSome = true, .v (.c (.int .i64 ((ref17_Wide N a1 a2).getD default))), [], []⟩
  | _ => none
set_option maxRecDepth 100000 in
set_option maxHeartbeats 1000000 in
theorem ok_ref17_Wide (N : Nat) : FnOK Try.prog gt0 55 (sp_ref17_Wide N) := by
  refine fnOK_handed Try.func55 rfl (by kernel_rfl) tt_ok (ktCons (ok_ref16_Size N) (ktNil)) ?_
  intro args lk r h hp
  unfold sp_ref17_Wide at h
  split at h
  · rename_i a1 a2
    cases h
    obtain ⟨x, hx⟩ := Option.isSome_iff_exists.1 hp
    simp only [hx, Option.getD_some]
    refine hand0 rfl rfl (fun w0 M ε0 hX => ?_)
    refine rCount (fun hε => ?_)
    have hT : ref17_Wide N a1 a2 = some x := hx; clear hx hp; unfold ref17_Wide at hT
    refine rSeq ?_
    refine zReg md0 hX rfl rfl rfl ?_
    refine rThen ?_
    refine rSeq ?_
    refine rSeq ?_
    refine zReg md0 hX rfl rfl rfl ?_
    refine rThen ?_
    refine zCond rfl rfl (fun hc => ?_) (fun hc => ?_)
    · replace hT := sT hc hT
      refine rSeq ?_
      let c1 := (ref16_Size N a1)
      replace hT := sIf hT; obtain ⟨o1, hT⟩ := hT
      refine zReg md0 hX rfl rfl rfl ?_
      refine rThen ?_
      refine rRet ?_
      refine rThenRet ?_
      have hy := Option.some.inj hT; subst hy
      exact zEnd0 hX rfl
    · replace hT := sF hc hT
      refine rSkip ?_
      refine rThen ?_
      refine rSeq ?_
      let c2 := (ref16_Size N a1)
      replace hT := sIf hT; obtain ⟨⟨o1, o2⟩, hT⟩ := hT
      refine zReg md0 hX rfl rfl rfl ?_
      refine rThen ?_
      refine rRet ?_
      have hy := Option.some.inj hT; subst hy
      exact zEnd0 hX rfl
  · cases h
def ref17_High (N : Nat) (a1 : Int) (a2 : Int) : Option Int :=
  bif (decide (a2 = 0)) then
    let c1 := (ref16_Size N a1)
    if c1.isSome = true then
      some ((c1.getD default).getD 1 0)
    else none
  else
    let c2 := (ref16_Size N a1)
    if c2.isSome = true ∧ (0 : Int) ≤ ((c2.getD default).getD 1 0) then
      some (((c2.getD default).getD 1 0) / 2)
    else none
def sp_ref17_High (N : Nat) : X.Spec := fun args lk => match args with
  | [.v (.c (.int .i64 a1)), .v (.c (.int .i64 a2))] => some ⟨(ref17_High N a1 a2).isSome = true, .v (.c (.int .i64 ((ref17_High N a1 a2).getD default))), [], []⟩
  | _ => none
set_option maxRecDepth 100000 in
set_option maxHeartbeats 1000000 in
theorem ok_ref17_High (N : Nat) : FnOK Try.prog gt0 56 (sp_ref17_High N) := by
  refine fnOK_handed Try.func56 rfl (by kernel_rfl) tt_ok (ktCons (ok_ref16_Size N) (ktNil)) ?_
  intro args lk r h hp
  unfold sp_ref17_High at h
  split at h
  · rename_i a1 a2
    cases h
    obtain ⟨x, hx⟩ := Option.isSome_iff_exists.1 hp
    simp only [hx, Option.getD_some]
    refine hand0 rfl rfl (fun w0 M ε0 hX => ?_)
    refine rCount (fun hε => ?_)
    have hT : ref17_High N a1 a2 = some x := hx; clear hx hp; unfold ref17_High at hT
    refine rSeq ?_
    refine zReg md0 hX rfl rfl rfl ?_
    refine rThen ?_
    refine rSeq ?_
    refine rSeq ?_
    refine zReg md0 hX rfl rfl rfl ?_
    refine rThen ?_
    refine zCond rfl rfl (fun hc => ?_) (fun hc => ?_)
    · replace hT := sT hc hT
      refine rSeq ?_
      let c1 := (ref16_Size N a1)
      replace hT := sIf hT; obtain ⟨o1, hT⟩ := hT
      refine zReg md0 hX rfl rfl rfl ?_
      refine rThen ?_
      refine rRet ?_
      refine rThenRet ?_
      have hy := Option.some.inj hT; subst hy
      exact zEnd0 hX rfl
    · replace hT := sF hc hT
      refine rSkip ?_
      refine rThen ?_
      refine rSeq ?_
      let c2 := (ref16_Size N a1)
      replace hT := sIf hT; obtain ⟨⟨o1, o2⟩, hT⟩ := hT
      refine zReg md0 hX rfl rfl rfl ?_
      refine rThen ?_
      refine rRet ?_
      have hy := Option.some.inj hT; subst hy
      exact zEnd0 hX rfl
  · cases h
def ref17_Right_b1 (N : Nat) (a1 : Int) (a2 : (List (List Int))) (s1 : Int) : Option (Int ⊕ (Unit ⊕ Unit)) :=
  bif (decide (s1 < 3)) then
    let c2 := (ref17_Wide N a1 s1)
    let c3 := (ref17_High N a1 s1)
    let x1 := (decide (((a2.getD (s1).toNat []).length : Int) ≠ ((c2.getD default) * (c3.getD default))))
    if (0 : Int) ≤ s1 ∧ s1 < 3 ∧ (s1).toNat < 3 ∧ c2.isSome = true ∧ c3.isSome = true ∧ inK .i64 ((c2.getD default) * (c3.getD default)) then
      bif x1 then
        some (.inr (Sum.inl ()))
      else
        if inK .i64 (s1 + 1) then
          some (.inl (s1 + 1))
        else none
    else none
  else
    some (.inr (Sum.inr ()))
def ref17_Right (N : Nat) (a1 : Int) (a2 : (List (List Int))) : Option Bool :=
  let c1 := (ref16_Size N a1)
  if c1.isSome = true then
    bif (decide (((c1.getD default).getD 0 0) = 0)) then
      some false
    else
      (iter (ref17_Right_b1 N a1 a2) N 0).bind fun w1 =>
        (Sum.elim (fun v1 =>
          some false
        )
          (fun v2 =>
            some true
          )
        ) w1
  else none
def sp_ref17_Right (N : Nat) : X.Spec := fun args lk => match args with
  | [.v (.agg [.cs [.int .i64 a1], .fzs 3 (.int .u8) a2])] => some ⟨(ref17_Right N a1 a2).isSome = true, .v (.c (.bool ((ref17_Right N a1 a2).getD default))), [], []⟩
  | _ => none
set_option maxRecDepth 100000 in
set_option maxHeartbeats 1000000 in
theorem ok_ref17_Right (N : Nat) : FnOK Try.prog gt0 15 (sp_ref17_Right N) := by
  refine fnOK_handed Try.func15 rfl (by kernel_rfl) tt_ok (ktCons (ok_ref17_High N) (ktCons (ok_ref17_Wide N) (ktCons (ok_ref16_Size N) (ktNil)))) ?_
  intro args lk r h hp
  unfold sp_ref17_Right at h
  split at h
  · rename_i a1 a2
    change (List (List Int)) at a2
    cases h
    obtain ⟨x, hx⟩ := Option.isSome_iff_exists.1 hp
    simp only [hx, Option.getD_some]
    refine hand0 rfl rfl (fun w0 M ε0 hX => ?_)
    refine rCount (fun hε => ?_)
    have hT : ref17_Right N a1 a2 = some x := hx; clear hx hp; unfold ref17_Right at hT
    refine rSeq ?_
    refine zReg md0 hX rfl rfl rfl ?_
    refine rThen ?_
    refine rSeq ?_
    refine rSeq ?_
    let c1 := (ref16_Size N a1)
    replace hT := sIf hT; obtain ⟨o1, hT⟩ := hT
    refine zReg md0 hX rfl rfl rfl ?_
    refine rThen ?_
    refine zCond rfl rfl (fun hc => ?_) (fun hc => ?_)
    · replace hT := sT hc hT
      refine rSeq ?_
      refine zReg md0 hX rfl rfl rfl ?_
      refine rThen ?_
      refine rRet ?_
      refine rThenRet ?_
      have hy := Option.some.inj hT; subst hy
      exact zEnd0 hX rfl
    · replace hT := sF hc hT
      refine rSkip ?_
      refine rThen ?_
      refine rSeq ?_
      refine rSeq ?_
      refine zReg md0 hX rfl rfl rfl ?_
      refine rThen ?_
      refine rBlock ?_
      replace hT := sBind hT; obtain ⟨w1, hl, hT⟩ := hT
      refine rJoinA (fun v1 => (Sum.inl v1) = w1) (fun v1 => ⟨[(2, .v (.c (.bool false)))], [], 1⟩) .ret (fun v1 hv => ?_) (fun hxs10 => ?_)
      · subst hv; clear hl; replace hT := (sElimL hT)
        refine rInRet ?_
        refine rThenRet ?_
        have hy := Option.some.inj hT; subst hy
        exact zEnd0 hX rfl
      refine rJoinA (fun v2 => (Sum.inr v2) = w1) (fun v2 => ⟨[(2, .v (.c (.bool false)))], [], 1⟩) (.exit 0) (fun v2 hv => ?_) (fun hxs11 => ?_)
      · subst hv; clear hl; replace hT := (sElimR hT)
        refine rInHit ?_
        refine rThen ?_
        refine rSeq ?_
        refine zReg md0 hX rfl rfl rfl ?_
        refine rThen ?_
        refine rRet ?_
        have hy := Option.some.inj hT; subst hy
        exact zEnd0 hX rfl
      refine rLoopM (ref17_Right_b1 N a1 a2) (fun s1 => ⟨[(1, .v (.c (.ptr 0 0 0 0 0 0))), (2, .v (.c (.bool false))), (3, .v (.c (.int .i64 s1)))], [(0, .mem true 25 none (.flat [.cs [.int .i64 a1], .fzs 3 (.int .u8) a2]))], 1⟩) hl (To.mk' [] 0 hε rfl (by repeat' first | exact True.intro | exact rfl | apply And.intro) (by repeat' first | exact True.intro | exact rfl | apply And.intro)) (fun s1 zs1 NNs1 hz hnexts1 houts1 => ?_)
      clear hl hT
      have hT := hz; clear hz
      refine rSeq ?_
      refine rSeq ?_
      refine zReg md0 hX rfl rfl rfl ?_
      refine rThen ?_
      refine zCond rfl rfl (fun hc => ?_) (fun hc => ?_)
      · replace hT := sT hc hT
        refine rSkip ?_
        refine rThen ?_
        refine rSeq ?_
        refine rBlock ?_
        refine rSeq ?_
        let c2 := (ref17_Wide N a1 s1)
        let c3 := (ref17_High N a1 s1)
        let x1 := (decide (((a2.getD (s1).toNat []).length : Int) ≠ ((c2.getD default) * (c3.getD default))))
        replace hT := sIf hT; obtain ⟨⟨o1, o2, o3, o4, o5, o6⟩, hT⟩ := hT
        refine zDraw md0 0 [] hX mixed rfl rfl rfl rfl rfl ?_
        refine rThen ?_
        refine zCond rfl rfl (fun hc => ?_) (fun hc => ?_)
        · replace hT := sT hc hT
          refine rSeq ?_
          refine zReg md0 hX rfl rfl rfl ?_
          refine rThen ?_
          refine rRet ?_
          refine rInRet ?_
          refine rThenRet ?_
          refine rThenRet ?_
          exact zTo [] 0 hε (hxs10 _ (houts1 _ (Option.some.inj hT).symm))
        · replace hT := sF hc hT
          refine rSkip ?_
          refine rInNormal ?_
          refine rThen ?_
          replace hT := sIf hT; obtain ⟨o1, hT⟩ := hT
          refine zReg md0 hX rfl rfl rfl ?_
          exact hnexts1 _ (Option.some.inj hT).symm _ (To.mk' [] 0 hε rfl (by repeat' first | exact True.intro | exact rfl | apply And.intro) (by repeat' first | exact True.intro | exact rfl | apply And.intro))
      · replace hT := sF hc hT
        refine rExit ?_
        refine rThenExit ?_
        refine rThenExit ?_
        exact zTo [] 0 hε (hxs11 _ (houts1 _ (Option.some.inj hT).symm))
  · cases h
def ref16_Many (N : Nat) (a1 : Int) : Option Int :=
  let c1 := (ref16_Size N a1)
  let c2 := (ref16_Size N a1)
  if c1.isSome = true ∧ (0 : Int) ≤ ((c1.getD default).getD 0 0) ∧ c2.isSome = true ∧ (0 : Int) ≤ ((c2.getD default).getD 1 0) ∧ inK .i64 ((((c1.getD default).getD 0 0) / 16) * (((c2.getD default).getD 1 0) / 16)) then
    some ((((c1.getD default).getD 0 0) / 16) * (((c2.getD default).getD 1 0) / 16))
  else none
def sp_ref16_Many (N : Nat) : X.Spec := fun args lk => match args with
  | [.v (.c (.int .i64 a1))] => some ⟨(ref16_Many N a1).isSome = true, .v (.c (.int .i64 ((ref16_Many N a1).getD default))), [], []⟩
  | _ => none
set_option maxRecDepth 100000 in
set_option maxHeartbeats 1000000 in
theorem ok_ref16_Many (N : Nat) : FnOK Try.prog gt0 16 (sp_ref16_Many N) := by
  refine fnOK_handed Try.func16 rfl (by kernel_rfl) tt_ok (ktCons (ok_ref16_Size N) (ktNil)) ?_
  intro args lk r h hp
  unfold sp_ref16_Many at h
  split at h
  · rename_i a1
    cases h
    obtain ⟨x, hx⟩ := Option.isSome_iff_exists.1 hp
    simp only [hx, Option.getD_some]
    refine hand0 rfl rfl (fun w0 M ε0 hX => ?_)
    refine rCount (fun hε => ?_)
    have hT : ref16_Many N a1 = some x := hx; clear hx hp; unfold ref16_Many at hT
    refine rSeq ?_
    refine zReg md0 hX rfl rfl rfl ?_
    refine rThen ?_
    refine rSeq ?_
    let c1 := (ref16_Size N a1)
    let c2 := (ref16_Size N a1)
    replace hT := sIf hT; obtain ⟨⟨o1, o2, o3, o4, o5⟩, hT⟩ := hT
    refine zReg md0 hX rfl rfl rfl ?_
    refine rThen ?_
    refine rRet ?_
    have hy := Option.some.inj hT; subst hy
    exact zEnd0 hX rfl
  · cases h
def ref34_Right_b2 (N : Nat) (a2 : (List (List Int))) (s1 : Int) (s2 : Int) : Option (Int ⊕ (Unit ⊕ (Int × Int × Bool))) :=
  if (0 : Int) ≤ s1 ∧ s1 < 3 ∧ (s1).toNat < 3 then
    bif (decide (s2 < ((a2.getD (s1).toNat []).length : Int))) then
      let x2 := (bif (decide ((255 : Int) < ((a2.getD (s1).toNat []).getD (s2).toNat 0))) then true else (decide (((a2.getD (s1).toNat []).getD (s2).toNat 0) < (-255))))
      if (0 : Int) ≤ s1 ∧ s1 < 3 ∧ (s1).toNat < 3 ∧ (0 : Int) ≤ s2 ∧ s2 < ((a2.getD (s1).toNat []).length : Int) ∧ ((!(decide ((255 : Int) < ((a2.getD (s1).toNat []).getD (s2).toNat 0)))) = true → (0 : Int) ≤ s1) ∧ ((!(decide ((255 : Int) < ((a2.getD (s1).toNat []).getD (s2).toNat 0)))) = true → s1 < 3) ∧ ((!(decide ((255 : Int) < ((a2.getD (s1).toNat []).getD (s2).toNat 0)))) = true → (s1).toNat < 3) ∧ ((!(decide ((255 : Int) < ((a2.getD (s1).toNat []).getD (s2).toNat 0)))) = true → (0 : Int) ≤ s2) ∧ ((!(decide ((255 : Int) < ((a2.getD (s1).toNat []).getD (s2).toNat 0)))) = true → s2 < ((a2.getD (s1).toNat []).length : Int)) then
        bif x2 then
          some (.inr (Sum.inl ()))
        else
          if inK .i64 (s2 + 1) then
            some (.inl (s2 + 1))
          else none
      else none
    else
      some (.inr (Sum.inr (s2, s2, (decide (s2 < ((a2.getD (s1).toNat []).length : Int))))))
  else none
def ref34_Right_b1 (N : Nat) (a1 : Int) (a2 : (List (List Int))) (s1 : Int) : Option (Int ⊕ (Unit ⊕ Unit)) :=
  bif (decide (s1 < 3)) then
    let c2 := (ref17_Wide N a1 s1)
    let c3 := (ref17_High N a1 s1)
    let x1 := (decide (((a2.getD (s1).toNat []).length : Int) ≠ ((c2.getD default) * (c3.getD default))))
    if (0 : Int) ≤ s1 ∧ s1 < 3 ∧ (s1).toNat < 3 ∧ c2.isSome = true ∧ c3.isSome = true ∧ inK .i64 ((c2.getD default) * (c3.getD default)) then
      bif x1 then
        some (.inr (Sum.inl ()))
      else
        (iter (ref34_Right_b2 N a2 s1) N 0).bind fun w2 =>
          (Sum.elim (fun v3 =>
            some (.inr (Sum.inl ()))
          )
            (fun v4 =>
              if inK .i64 (s1 + 1) then
                some (.inl (s1 + 1))
              else none
            )
          ) w2
    else none
  else
    some (.inr (Sum.inr ()))
def ref34_Right (N : Nat) (a1 : Int) (a2 : (List (List Int))) : Option Bool :=
  let c1 := (ref16_Many N a1)
  if c1.isSome = true then
    bif (decide ((c1.getD default) = 0)) then
      some false
    else
      (iter (ref34_Right_b1 N a1 a2) N 0).bind fun w1 =>
        (Sum.elim (fun v1 =>
          some false
        )
          (fun v2 =>
            some true
          )
        ) w1
  else none
def sp_ref34_Right (N : Nat) : X.Spec := fun args lk => match args with
  | [.v (.agg [.cs [.int .i64 a1], .fzs 3 (.int .i64) a2])] => some ⟨(ref34_Right N a1 a2).isSome = true, .v (.c (.bool ((ref34_Right N a1 a2).getD default))), [], []⟩
  | _ => none
set_option maxRecDepth 100000 in
set_option maxHeartbeats 1000000 in
theorem ok_ref34_Right (N : Nat) : FnOK Try.prog gt0 40 (sp_ref34_Right N) := by
  refine fnOK_handed Try.func40 rfl (by kernel_rfl) tt_ok (ktCons (ok_ref17_High N) (ktCons (ok_ref17_Wide N) (ktCons (ok_ref16_Many N) (ktNil)))) ?_
  intro args lk r h hp
  unfold sp_ref34_Right at h
  split at h
  · rename_i a1 a2
    change (List (List Int)) at a2
    cases h
    obtain ⟨x, hx⟩ := Option.isSome_iff_exists.1 hp
    simp only [hx, Option.getD_some]
    refine hand0 rfl rfl (fun w0 M ε0 hX => ?_)
    refine rCount (fun hε => ?_)
    have hT : ref34_Right N a1 a2 = some x := hx; clear hx hp; unfold ref34_Right at hT
    refine rSeq ?_
    refine zReg md0 hX rfl rfl rfl ?_
    refine rThen ?_
    refine rSeq ?_
    refine rSeq ?_
    let c1 := (ref16_Many N a1)
    replace hT := sIf hT; obtain ⟨o1, hT⟩ := hT
    refine zReg md0 hX rfl rfl rfl ?_
    refine rThen ?_
    refine zCond rfl rfl (fun hc => ?_) (fun hc => ?_)
    · replace hT := sT hc hT
      refine rSeq ?_
      refine zReg md0 hX rfl rfl rfl ?_
      refine rThen ?_
      refine rRet ?_
      refine rThenRet ?_
      have hy := Option.some.inj hT; subst hy
      exact zEnd0 hX rfl
    · replace hT := sF hc hT
      refine rSkip ?_
      refine rThen ?_
      refine rSeq ?_
      refine rSeq ?_
      refine zReg md0 hX rfl rfl rfl ?_
      refine rThen ?_
      refine rBlock ?_
      replace hT := sBind hT; obtain ⟨w1, hl, hT⟩ := hT
      refine rJoinA (fun v1 => (Sum.inl v1) = w1) (fun v1 => ⟨[(2, .v (.c (.bool false)))], [], 1⟩) .ret (fun v1 hv => ?_) (fun hxs10 => ?_)
      · subst hv; clear hl; replace hT := (sElimL hT)
        refine rInRet ?_
        refine rThenRet ?_
        have hy := Option.some.inj hT; subst hy
        exact zEnd0 hX rfl
      refine rJoinA (fun v2 => (Sum.inr v2) = w1) (fun v2 => ⟨[(2, .v (.c (.bool false)))], [], 1⟩) (.exit 0) (fun v2 hv => ?_) (fun hxs11 => ?_)
      · subst hv; clear hl; replace hT := (sElimR hT)
        refine rInHit ?_
        refine rThen ?_
        refine rSeq ?_
        refine zReg md0 hX rfl rfl rfl ?_
        refine rThen ?_
        refine rRet ?_
        have hy := Option.some.inj hT; subst hy
        exact zEnd0 hX rfl
      refine rLoopM (ref34_Right_b1 N a1 a2) (fun s1 => ⟨[(1, .v (.c (.ptr 0 0 0 0 0 0))), (2, .v (.c (.bool false))), (3, .v (.c (.int .i64 s1)))], [(0, .mem true 64 none (.flat [.cs [.int .i64 a1], .fzs 3 (.int .i64) a2]))], 1⟩) hl (To.mk' [] 0 hε rfl (by repeat' first | exact True.intro | exact rfl | apply And.intro) (by repeat' first | exact True.intro | exact rfl | apply And.intro)) (fun s1 zs1 NNs1 hz hnexts1 houts1 => ?_)
      clear hl hT
      have hT := hz; clear hz
      refine rSeq ?_
      refine rSeq ?_
      refine zReg md0 hX rfl rfl rfl ?_
      refine rThen ?_
      refine zCond rfl rfl (fun hc => ?_) (fun hc => ?_)
      · replace hT := sT hc hT
        refine rSkip ?_
        refine rThen ?_
        refine rSeq ?_
        refine rBlock ?_
        refine rSeq ?_
        refine rSeq ?_
        let c2 := (ref17_Wide N a1 s1)
        let c3 := (ref17_High N a1 s1)
        let x1 := (decide (((a2.getD (s1).toNat []).length : Int) ≠ ((c2.getD default) * (c3.getD default))))
        replace hT := sIf hT; obtain ⟨⟨o1, o2, o3, o4, o5, o6⟩, hT⟩ := hT
        refine zDraw md0 0 [] hX mixed rfl rfl rfl rfl rfl ?_
        refine rThen ?_
        refine zCond rfl rfl (fun hc => ?_) (fun hc => ?_)
        · replace hT := sT hc hT
          refine rSeq ?_
          refine zReg md0 hX rfl rfl rfl ?_
          refine rThen ?_
          refine rRet ?_
          refine rThenRet ?_
          refine rInRet ?_
          refine rThenRet ?_
          refine rThenRet ?_
          exact zTo [] 0 hε (hxs10 _ (houts1 _ (Option.some.inj hT).symm))
        · replace hT := sF hc hT
          refine rSkip ?_
          refine rThen ?_
          refine rSeq ?_
          refine zReg md0 hX rfl rfl rfl ?_
          refine rThen ?_
          refine rBlock ?_
          replace hT := sBind hT; obtain ⟨w2, hl, hT⟩ := hT
          refine rJoinA (fun v3 => (Sum.inl v3) = w2) (fun v3 => ⟨[(2, .v (.c (.bool false)))], [], 1⟩) .ret (fun v3 hv => ?_) (fun hxs20 => ?_)
          · subst hv; clear hl; replace hT := (sElimL hT)
            refine rInRet ?_
            refine rInRet ?_
            refine rThenRet ?_
            refine rThenRet ?_
            exact zTo [] 0 hε (hxs10 _ (houts1 _ (Option.some.inj hT).symm))
          refine rJoinA (fun v4 => (Sum.inr v4) = w2) (fun v4 => ⟨[(1, .v (.c (.ptr 0 0 0 0 0 0))), (2, .v (.c (.bool false))), (3, .v (.c (.int .i64 s1))), (4, .v (.c (.int .i64 v4.1))), (9, .v (.c (.int .i64 s1))), (10, .v (.c (.bool (decide (s1 < 3))))), (13, .v (.c (.int .i64 s1))), (14, .v (.c (.ptr 0 0 0 1 0 0))), (15, .v (.c (.ptr 0 0 0 1 1 (s1).toNat))), (16, .v (.c (.fz (.int .i64) (a2.getD (s1).toNat [])))), (17, .v (.c (.int .i64 ((a2.getD (s1).toNat []).length : Int)))), (18, .v (.c (.ptr 0 0 0 0 0 0))), (19, .v (.c (.int .i64 a1))), (20, .v (.c (.int .i64 s1))), (21, .v (.c (.int .i64 (c2.getD default)))), (22, .v (.c (.ptr 0 0 0 0 0 0))), (23, .v (.c (.int .i64 a1))), (24, .v (.c (.int .i64 s1))), (25, .v (.c (.int .i64 (c3.getD default)))), (26, .v (.c (.int .i64 ((c2.getD default) * (c3.getD default))))), (27, .v (.c (.bool x1))), (28, .v (.c (.int .i64 v4.2.1))), (29, .v (.c (.int .i64 s1))), (30, .v (.c (.ptr 0 0 0 1 0 0))), (31, .v (.c (.ptr 0 0 0 1 1 (s1).toNat))), (32, .v (.c (.fz (.int .i64) (a2.getD (s1).toNat [])))), (33, .v (.c (.int .i64 ((a2.getD (s1).toNat []).length : Int)))), (34, .v (.c (.bool v4.2.2)))], [(0, .mem true 64 none (.flat [.cs [.int .i64 a1], .fzs 3 (.int .i64) a2]))], 1⟩) (.exit 2) (fun v4 hv => ?_) (fun hxs21 => ?_)
          · subst hv; clear hl; replace hT := (sElimR hT)
            refine rInHit ?_
            refine rInNormal ?_
            refine rThen ?_
            replace hT := sIf hT; obtain ⟨o1, hT⟩ := hT
            refine zReg md0 hX rfl rfl rfl ?_
            exact hnexts1 _ (Option.some.inj hT).symm _ (To.mk' [] 0 hε rfl (by repeat' first | exact True.intro | exact rfl | apply And.intro) (by repeat' first | exact True.intro | exact rfl | apply And.intro))
          refine rLoopM (ref34_Right_b2 N a2 s1) (fun s2 => ⟨[(1, .v (.c (.ptr 0 0 0 0 0 0))), (2, .v (.c (.bool false))), (3, .v (.c (.int .i64 s1))), (4, .v (.c (.int .i64 s2))), (9, .v (.c (.int .i64 s1))), (10, .v (.c (.bool (decide (s1 < 3))))), (13, .v (.c (.int .i64 s1))), (14, .v (.c (.ptr 0 0 0 1 0 0))), (15, .v (.c (.ptr 0 0 0 1 1 (s1).toNat))), (16, .v (.c (.fz (.int .i64) (a2.getD (s1).toNat [])))), (17, .v (.c (.int .i64 ((a2.getD (s1).toNat []).length : Int)))), (18, .v (.c (.ptr 0 0 0 0 0 0))), (19, .v (.c (.int .i64 a1))), (20, .v (.c (.int .i64 s1))), (21, .v (.c (.int .i64 (c2.getD default)))), (22, .v (.c (.ptr 0 0 0 0 0 0))), (23, .v (.c (.int .i64 a1))), (24, .v (.c (.int .i64 s1))), (25, .v (.c (.int .i64 (c3.getD default)))), (26, .v (.c (.int .i64 ((c2.getD default) * (c3.getD default))))), (27, .v (.c (.bool x1)))], [(0, .mem true 64 none (.flat [.cs [.int .i64 a1], .fzs 3 (.int .i64) a2]))], 1⟩) hl (To.mk' [] 0 hε rfl (by repeat' first | exact True.intro | exact rfl | apply And.intro) (by repeat' first | exact True.intro | exact rfl | apply And.intro)) (fun s2 zs2 NNs2 hz hnexts2 houts2 => ?_)
          clear hl hT
          have hT := hz; clear hz
          refine rSeq ?_
          refine rSeq ?_
          replace hT := sIf hT; obtain ⟨⟨o1, o2, o3⟩, hT⟩ := hT
          refine zReg md0 hX rfl rfl rfl ?_
          refine rThen ?_
          refine zCond rfl rfl (fun hc => ?_) (fun hc => ?_)
          · replace hT := sT hc hT
            refine rSkip ?_
            refine rThen ?_
            refine rSeq ?_
            refine rBlock ?_
            refine rSeq ?_
            let x2 := (bif (decide ((255 : Int) < ((a2.getD (s1).toNat []).getD (s2).toNat 0))) then true else (decide (((a2.getD (s1).toNat []).getD (s2).toNat 0) < (-255))))
            replace hT := sIf hT; obtain ⟨⟨o1, o2, o3, o4, o5, o6, o7, o8, o9, o10⟩, hT⟩ := hT
            refine rRegC md0 hX rfl rfl rfl (by (repeat' first | exact True.intro | with_reducible assumption | (with_reducible apply And.intro) | intro _) <;> first | assumption | exact o6 (by assumption) | exact o7 (by assumption) | exact o8 (by assumption) | exact o9 (by assumption) | exact o10 (by assumption) | exact rfl | omega | exact Nat.le_of_ble_eq_true rfl | exact selF (by assumption) | exact selT (by assumption) | exact And.intro rfl rfl | exact And.intro (by assumption) rfl | exact And.intro (by omega) rfl | (simp only [inK] at *; omega) | (simp_all [sel] <;> fail) | fail) ?_
            refine rThen ?_
            refine zCond rfl rfl (fun hc => ?_) (fun hc => ?_)
            · replace hT := sT hc hT
              refine rSeq ?_
              refine zReg md0 hX rfl rfl rfl ?_
              refine rThen ?_
              refine rRet ?_
              refine rInRet ?_
              refine rThenRet ?_
              refine rThenRet ?_
              exact zTo [] 0 hε (hxs20 _ (houts2 _ (Option.some.inj hT).symm))
            · replace hT := sF hc hT
              refine rSkip ?_
              refine rInNormal ?_
              refine rThen ?_
              replace hT := sIf hT; obtain ⟨o1, hT⟩ := hT
              refine zReg md0 hX rfl rfl rfl ?_
              exact hnexts2 _ (Option.some.inj hT).symm _ (To.mk' [] 0 hε rfl (by repeat' first | exact True.intro | exact rfl | apply And.intro) (by repeat' first | exact True.intro | exact rfl | apply And.intro))
          · replace hT := sF hc hT
            refine rExit ?_
            refine rThenExit ?_
            refine rThenExit ?_
            exact zTo [] 0 hε (hxs21 _ (houts2 _ (Option.some.inj hT).symm))
      · replace hT := sF hc hT
        refine rExit ?_
        refine rThenExit ?_
        refine rThenExit ?_
        exact zTo [] 0 hε (hxs11 _ (houts1 _ (Option.some.inj hT).symm))
  · cases h
def ref16_Across (N : Nat) (a1 : Int) : Option Int :=
  let c1 := (ref16_Size N a1)
  if c1.isSome = true ∧ (0 : Int) ≤ ((c1.getD default).getD 0 0) then
    some (((c1.getD default).getD 0 0) / 16)
  else none
def sp_ref16_Across (N : Nat) : X.Spec := fun args lk => match args with
  | [.v (.c (.int .i64 a1))] => some ⟨(ref16_Across N a1).isSome = true, .v (.c (.int .i64 ((ref16_Across N a1).getD default))), [], []⟩
  | _ => none
set_option maxRecDepth 100000 in
set_option maxHeartbeats 1000000 in
theorem ok_ref16_Across (N : Nat) : FnOK Try.prog gt0 57 (sp_ref16_Across N) := by
  refine fnOK_handed Try.func57 rfl (by kernel_rfl) tt_ok (ktCons (ok_ref16_Size N) (ktNil)) ?_
  intro args lk r h hp
  unfold sp_ref16_Across at h
  split at h
  · rename_i a1
    cases h
    obtain ⟨x, hx⟩ := Option.isSome_iff_exists.1 hp
    simp only [hx, Option.getD_some]
    refine hand0 rfl rfl (fun w0 M ε0 hX => ?_)
    refine rCount (fun hε => ?_)
    have hT : ref16_Across N a1 = some x := hx; clear hx hp; unfold ref16_Across at hT
    refine rSeq ?_
    refine zReg md0 hX rfl rfl rfl ?_
    refine rThen ?_
    refine rSeq ?_
    let c1 := (ref16_Size N a1)
    replace hT := sIf hT; obtain ⟨⟨o1, o2⟩, hT⟩ := hT
    refine zReg md0 hX rfl rfl rfl ?_
    refine rThen ?_
    refine rRet ?_
    have hy := Option.some.inj hT; subst hy
    exact zEnd0 hX rfl
  · cases h
def ref18_inside (N : Nat) (a1 : Int) (a2 : Int) : Option Bool :=
  if inK .i64 (a1 + 30) then
    let x1 := (bif (decide ((0 : Int) ≤ a1)) then (decide ((((a1 + 30) / 2) + ((a1 + 30) % 2)) < a2)) else false)
    if ((decide ((0 : Int) ≤ a1)) = true → (0 : Int) ≤ (a1 + 30)) ∧ ((decide ((0 : Int) ≤ a1)) = true → inK .i64 (((a1 + 30) / 2) + ((a1 + 30) % 2))) then
      some x1
    else none
  else none
def sp_ref18_inside (N : Nat) : X.Spec := fun args lk => match args with
  | [.v (.c (.int .i64 a1)), .v (.c (.int .i64 a2))] => some ⟨(ref18_inside N a1 a2).isSome = true, .v (.c (.bool ((ref18_inside N a1 a2).getD default))), [], []⟩
  | _ => none
set_option maxRecDepth 100000 in
set_option maxHeartbeats 1000000 in
theorem ok_ref18_inside (N : Nat) : FnOK Try.prog gt0 58 (sp_ref18_inside N) := by
  refine fnOK_handed Try.func58 rfl (by kernel_rfl) tt_ok (ktNil) ?_
  intro args lk r h hp
  unfold sp_ref18_inside at h
  split at h
  · rename_i a1 a2
    cases h
    obtain ⟨x, hx⟩ := Option.isSome_iff_exists.1 hp
    simp only [hx, Option.getD_some]
    refine hand0 rfl rfl (fun w0 M ε0 hX => ?_)
    refine rCount (fun hε => ?_)
    have hT : ref18_inside N a1 a2 = some x := hx; clear hx hp; unfold ref18_inside at hT
    refine rSeq ?_
    refine zReg md0 hX rfl rfl rfl ?_
    refine rThen ?_
    refine rSeq ?_
    replace hT := sIf hT; obtain ⟨o1, hT⟩ := hT
    refine zReg md0 hX rfl rfl rfl ?_
    refine rThen ?_
    refine rSeq ?_
    let x1 := (bif (decide ((0 : Int) ≤ a1)) then (decide ((((a1 + 30) / 2) + ((a1 + 30) % 2)) < a2)) else false)
    replace hT := sIf hT; obtain ⟨⟨o1, o2⟩, hT⟩ := hT
    refine rRegC md0 hX rfl rfl rfl (by (repeat' first | exact True.intro | with_reducible assumption | (with_reducible apply And.intro) | intro _) <;> first | assumption | exact o1 (by assumption) | exact o2 (by assumption) | exact rfl | omega | exact Nat.le_of_ble_eq_true rfl | exact selF (by assumption) | exact selT (by assumption) | exact And.intro rfl rfl | exact And.intro (by assumption) rfl | exact And.intro (by omega) rfl | (simp only [inK] at *; omega) | (simp_all [sel] <;> fail) | fail) ?_
    refine rThen ?_
    refine rRet ?_
    have hy := Option.some.inj hT; subst hy
    exact zEnd0 hX rfl
  · cases h
def ref18_May_b1 (N : Nat) (a3 : (List Int)) (s1 : Int) : Option (Int ⊕ (Unit ⊕ Unit)) :=
  bif (decide (s1 < 2)) then
    let x1 := (bif (decide ((a3.getD (s1).toNat 0) < (-32))) then true else (decide ((31 : Int) < (a3.getD (s1).toNat 0))))
    if (0 : Int) ≤ s1 ∧ s1 < 2 ∧ (s1).toNat < 2 ∧ ((!(decide ((a3.getD (s1).toNat 0) < (-32)))) = true → (0 : Int) ≤ s1) ∧ ((!(decide ((a3.getD (s1).toNat 0) < (-32)))) = true → s1 < 2) ∧ ((!(decide ((a3.getD (s1).toNat 0) < (-32)))) = true → (s1).toNat < 2) then
      bif x1 then
        some (.inr (Sum.inl ()))
      else
        if inK .i64 (s1 + 1) then
          some (.inl (s1 + 1))
        else none
    else none
  else
    some (.inr (Sum.inr ()))
def ref18_May (N : Nat) (a1 : Int) (a2 : Int) (a3 : (List Int)) : Option Bool :=
  let c1 := (ref16_Many N a1)
  if ((!(decide (a2 < 0))) = true → c1.isSome = true) then
    bif (bif (decide (a2 < 0)) then true else (decide ((c1.getD default) ≤ a2))) then
      some false
    else
      let c2 := (ref16_Across N a1)
      if c2.isSome = true ∧ (0 : Int) ≤ a2 ∧ (0 : Int) < (c2.getD default) then
        let c3 := (ref16_Across N a1)
        if c3.isSome = true ∧ (0 : Int) ≤ a2 ∧ (0 : Int) < (c3.getD default) then
          (iter (ref18_May_b1 N a3) N 0).bind fun w1 =>
            (Sum.elim (fun v1 =>
              some false
            )
              (fun v2 =>
                let c4 := (ref16_Size N a1)
                let c5 := (ref18_inside N (((32 : Int) * (a2 % (c2.getD default))) + (a3.getD 0 0)) ((c4.getD default).getD 0 0))
                let c6 := (ref16_Size N a1)
                let c7 := (ref18_inside N (((32 : Int) * (a2 / (c3.getD default))) + (a3.getD 1 0)) ((c6.getD default).getD 1 0))
                if inK .i64 ((32 : Int) * (a2 % (c2.getD default))) ∧ inK .i64 (((32 : Int) * (a2 % (c2.getD default))) + (a3.getD 0 0)) ∧ c4.isSome = true ∧ c5.isSome = true ∧ ((c5.getD default) = true → inK .i64 ((32 : Int) * (a2 / (c3.getD default)))) ∧ ((c5.getD default) = true → inK .i64 (((32 : Int) * (a2 / (c3.getD default))) + (a3.getD 1 0))) ∧ ((c5.getD default) = true → c6.isSome = true) ∧ ((c5.getD default) = true → c7.isSome = true) then
                  some (bif (c5.getD default) then (c7.getD default) else false)
                else none
              )
            ) w1
        else none
      else none
  else none
def sp_ref18_May (N : Nat) : X.Spec := fun args lk => match args with
  | [.v (.c (.int .i64 a1)), .v (.c (.int .i64 a2)), .v (.agg [.ints 2 .i64 a3])] => some ⟨(ref18_May N a1 a2 a3).isSome = true, .v (.c (.bool ((ref18_May N a1 a2 a3).getD default))), [], []⟩
  | _ => none
set_option maxRecDepth 100000 in
set_option maxHeartbeats 1000000 in
theorem ok_ref18_May (N : Nat) : FnOK Try.prog gt0 17 (sp_ref18_May N) := by
  refine fnOK_handed Try.func17 rfl (by kernel_rfl) tt_ok (ktCons (ok_ref18_inside N) (ktCons (ok_ref16_Size N) (ktCons (ok_ref16_Across N) (ktCons (ok_ref16_Many N) (ktNil))))) ?_
  intro args lk r h hp
  unfold sp_ref18_May at h
  split at h
  · rename_i a1 a2 a3
    change (List Int) at a3
    cases h
    obtain ⟨x, hx⟩ := Option.isSome_iff_exists.1 hp
    simp only [hx, Option.getD_some]
    refine hand0 rfl rfl (fun w0 M ε0 hX => ?_)
    refine rCount (fun hε => ?_)
    have hT : ref18_May N a1 a2 a3 = some x := hx; clear hx hp; unfold ref18_May at hT
    refine rSeq ?_
    refine zReg md0 hX rfl rfl rfl ?_
    refine rThen ?_
    refine rSeq ?_
    refine rSeq ?_
    let c1 := (ref16_Many N a1)
    replace hT := sIf hT; obtain ⟨o1, hT⟩ := hT
    refine rRegC md0 hX rfl rfl rfl (by (repeat' first | exact True.intro | with_reducible assumption | (with_reducible apply And.intro) | intro _) <;> first | assumption | exact o1 (by assumption) | exact rfl | omega | exact Nat.le_of_ble_eq_true rfl | exact selF (by assumption) | exact selT (by assumption) | exact And.intro rfl rfl | exact And.intro (by assumption) rfl | exact And.intro (by omega) rfl | (simp only [inK] at *; omega) | (simp_all [sel] <;> fail) | fail) ?_
    refine rThen ?_
    refine zCond rfl rfl (fun hc => ?_) (fun hc => ?_)
    · replace hT := sT hc hT
      refine rSeq ?_
      refine zReg md0 hX rfl rfl rfl ?_
      refine rThen ?_
      refine rRet ?_
      refine rThenRet ?_
      have hy := Option.some.inj hT; subst hy
      exact zEnd0 hX rfl
    · replace hT := sF hc hT
      refine rSkip ?_
      refine rThen ?_
      refine rSeq ?_
      let c2 := (ref16_Across N a1)
      replace hT := sIf hT; obtain ⟨⟨o1, o2, o3⟩, hT⟩ := hT
      refine zReg md0 hX rfl rfl rfl ?_
      refine rThen ?_
      refine rSeq ?_
      let c3 := (ref16_Across N a1)
      replace hT := sIf hT; obtain ⟨⟨o1, o2, o3⟩, hT⟩ := hT
      refine zReg md0 hX rfl rfl rfl ?_
      refine rThen ?_
      refine rSeq ?_
      refine rSeq ?_
      refine zReg md0 hX rfl rfl rfl ?_
      refine rThen ?_
      refine rBlock ?_
      replace hT := sBind hT; obtain ⟨w1, hl, hT⟩ := hT
      refine rJoinA (fun v1 => (Sum.inl v1) = w1) (fun v1 => ⟨[(6, .v (.c (.bool false)))], [], 1⟩) .ret (fun v1 hv => ?_) (fun hxs10 => ?_)
      · subst hv; clear hl; replace hT := (sElimL hT)
        refine rInRet ?_
        refine rThenRet ?_
        have hy := Option.some.inj hT; subst hy
        exact zEnd0 hX rfl
      refine rJoinA (fun v2 => (Sum.inr v2) = w1) (fun v2 => ⟨[(0, .v (.c (.int .i64 a1))), (5, .v (.c (.ptr 0 0 0 0 0 0))), (6, .v (.c (.bool false))), (7, .v (.c (.int .i64 (a2 % (c2.getD default))))), (8, .v (.c (.int .i64 (a2 / (c3.getD default)))))], [(0, .mem true 26 none (.flat [.ints 2 .i64 a3]))], 1⟩) (.exit 0) (fun v2 hv => ?_) (fun hxs11 => ?_)
      · subst hv; clear hl; replace hT := (sElimR hT)
        refine rInHit ?_
        refine rThen ?_
        refine rSeq ?_
        let c4 := (ref16_Size N a1)
        let c5 := (ref18_inside N (((32 : Int) * (a2 % (c2.getD default))) + (a3.getD 0 0)) ((c4.getD default).getD 0 0))
        let c6 := (ref16_Size N a1)
        let c7 := (ref18_inside N (((32 : Int) * (a2 / (c3.getD default))) + (a3.getD 1 0)) ((c6.getD default).getD 1 0))
        replace hT := sIf hT; obtain ⟨⟨o1, o2, o3, o4, o5, o6, o7, o8⟩, hT⟩ := hT
        refine rDrawM md0 0 [] hX mixed rfl rfl rfl rfl rfl (by (repeat' first | exact True.intro | with_reducible assumption | (with_reducible apply And.intro) | intro _) <;> first | assumption | exact o5 (by assumption) | exact o6 (by assumption) | exact o7 (by assumption) | exact o8 (by assumption) | exact rfl | omega | exact Nat.le_of_ble_eq_true rfl | exact selF (by assumption) | exact selT (by assumption) | exact And.intro rfl rfl | exact And.intro (by assumption) rfl | exact And.intro (by omega) rfl | (simp only [inK] at *; omega) | (simp_all [sel] <;> fail) | fail) ?_
        refine rThen ?_
        refine rRet ?_
        have hy := Option.some.inj hT; subst hy
        exact zEnd0 hX rfl
      refine rLoopM (ref18_May_b1 N a3) (fun s1 => ⟨[(0, .v (.c (.int .i64 a1))), (5, .v (.c (.ptr 0 0 0 0 0 0))), (6, .v (.c (.bool false))), (7, .v (.c (.int .i64 (a2 % (c2.getD default))))), (8, .v (.c (.int .i64 (a2 / (c3.getD default))))), (9, .v (.c (.int .i64 s1)))], [(0, .mem true 26 none (.flat [.ints 2 .i64 a3]))], 1⟩) hl (To.mk' [] 0 hε rfl (by repeat' first | exact True.intro | exact rfl | apply And.intro) (by repeat' first | exact True.intro | exact rfl | apply And.intro)) (fun s1 zs1 NNs1 hz hnexts1 houts1 => ?_)
      clear hl hT
      have hT := hz; clear hz
      refine rSeq ?_
      refine rSeq ?_
      refine zReg md0 hX rfl rfl rfl ?_
      refine rThen ?_
      refine zCond rfl rfl (fun hc => ?_) (fun hc => ?_)
      · replace hT := sT hc hT
        refine rSkip ?_
        refine rThen ?_
        refine rSeq ?_
        refine rBlock ?_
        refine rSeq ?_
        let x1 := (bif (decide ((a3.getD (s1).toNat 0) < (-32))) then true else (decide ((31 : Int) < (a3.getD (s1).toNat 0))))
        replace hT := sIf hT; obtain ⟨⟨o1, o2, o3, o4, o5, o6⟩, hT⟩ := hT
        refine rRegC md0 hX rfl rfl rfl (by (repeat' first | exact True.intro | with_reducible assumption | (with_reducible apply And.intro) | intro _) <;> first | assumption | exact o4 (by assumption) | exact o5 (by assumption) | exact o6 (by assumption) | exact rfl | omega | exact Nat.le_of_ble_eq_true rfl | exact selF (by assumption) | exact selT (by assumption) | exact And.intro rfl rfl | exact And.intro (by assumption) rfl | exact And.intro (by omega) rfl | (simp only [inK] at *; omega) | (simp_all [sel] <;> fail) | fail) ?_
        refine rThen ?_
        refine zCond rfl rfl (fun hc => ?_) (fun hc => ?_)
        · replace hT := sT hc hT
          refine rSeq ?_
          refine zReg md0 hX rfl rfl rfl ?_
          refine rThen ?_
          refine rRet ?_
          refine rInRet ?_
          refine rThenRet ?_
          refine rThenRet ?_
          exact zTo [] 0 hε (hxs10 _ (houts1 _ (Option.some.inj hT).symm))
        · replace hT := sF hc hT
          refine rSkip ?_
          refine rInNormal ?_
          refine rThen ?_
          replace hT := sIf hT; obtain ⟨o1, hT⟩ := hT
          refine zReg md0 hX rfl rfl rfl ?_
          exact hnexts1 _ (Option.some.inj hT).symm _ (To.mk' [] 0 hε rfl (by repeat' first | exact True.intro | exact rfl | apply And.intro) (by repeat' first | exact True.intro | exact rfl | apply And.intro))
      · replace hT := sF hc hT
        refine rExit ?_
        refine rThenExit ?_
        refine rThenExit ?_
        exact zTo [] 0 hε (hxs11 _ (houts1 _ (Option.some.inj hT).symm))
  · cases h
def stores_New_b1 (N : Nat) (a1 : Int) (s1 : (Int × (List (List Int)))) : Option ((Int × (List (List Int))) ⊕ (List (List Int))) :=
  bif (decide (s1.1 < 3)) then
    let c2 := (formats_Plane N a1 s1.1)
    if c2.isSome = true then
      if inK .i64 ((c2.getD default).1 * (c2.getD default).2) ∧ (0 : Int) ≤ ((c2.getD default).1 * (c2.getD default).2) ∧ ((c2.getD default).1 * (c2.getD default).2) * 8 ≤ 140737488355328 ∧ (0 : Int) ≤ s1.1 ∧ s1.1 < 3 then
        if ((c2.getD default).1 * (c2.getD default).2).toNat = ((List.replicate ((c2.getD default).1 * (c2.getD default).2).toNat 0) : List Int).length then
          if (s1.1).toNat < 3 then
            let x1 := (s1.2.set (s1.1).toNat ((List.replicate ((c2.getD default).1 * (c2.getD default).2).toNat 0) : List Int))
            if inK .i64 (s1.1 + 1) then
              some (.inl ((s1.1 + 1), x1))
            else none
          else none
        else none
      else none
    else none
  else
    some (.inr s1.2)
def stores_New (N : Nat) (a1 : Int) : Option (Int × (List (List Int)) × Int) :=
  let c1 := (formats_Size N a1)
  if c1.isSome = true then
    bif (!(c1.getD default).2.2) then
      some (0, (List.replicate 3 []), 1)
    else
      (iter (stores_New_b1 N a1) N (0, (List.replicate 3 []))).bind fun v1 =>
        some (a1, v1, 0)
  else none
def sp_stores_New (N : Nat) : X.Spec := fun args lk => match args with
  | [.v (.c (.int .i64 a1))] => some ⟨(stores_New N a1).isSome = true, .tup [.agg [.cs [.int .i64 ((stores_New N a1).getD default).1], .fzs 3 (.int .i64) ((stores_New N a1).getD default).2.1], .c (.int .i64 ((stores_New N a1).getD default).2.2)], [], []⟩
  | _ => none
set_option maxRecDepth 100000 in
set_option maxHeartbeats 1000000 in
theorem ok_stores_New (N : Nat) : FnOK Try.prog gt0 43 (sp_stores_New N) := by
  refine fnOK_handed Try.func43 rfl (by kernel_rfl) tt_ok (ktCons (ok_formats_Plane N) (ktCons (ok_formats_Size N) (ktNil))) ?_
  intro args lk r h hp
  unfold sp_stores_New at h
  split at h
  · rename_i a1
    cases h
    obtain ⟨x, hx⟩ := Option.isSome_iff_exists.1 hp
    simp only [hx, Option.getD_some]
    refine hand0 rfl rfl (fun w0 M ε0 hX => ?_)
    refine rCount (fun hε => ?_)
    have hT : stores_New N a1 = some x := hx; clear hx hp; unfold stores_New at hT
    refine rSeq ?_
    refine zReg md0 hX rfl rfl rfl ?_
    refine rThen ?_
    refine rSeq ?_
    refine rSeq ?_
    let c1 := (formats_Size N a1)
    replace hT := sIf hT; obtain ⟨o1, hT⟩ := hT
    refine zReg md0 hX rfl rfl rfl ?_
    refine rThen ?_
    refine rSeq ?_
    refine zReg md0 hX rfl rfl rfl ?_
    refine rThen ?_
    refine zCond rfl rfl (fun hc => ?_) (fun hc => ?_)
    · replace hT := sT hc hT
      refine rSeq ?_
      refine zReg md0 hX rfl rfl rfl ?_
      refine rThen ?_
      refine rRet ?_
      refine rThenRet ?_
      have hy := Option.some.inj hT; subst hy
      exact zEnd0 hX rfl
    · replace hT := sF hc hT
      refine rSkip ?_
      refine rThen ?_
      refine rSeq ?_
      refine zReg md0 hX rfl rfl rfl ?_
      refine rThen ?_
      refine rSeq ?_
      refine rSeq ?_
      refine zReg md0 hX rfl rfl rfl ?_
      refine rThen ?_
      refine rBlock ?_
      replace hT := sBind hT; obtain ⟨w1, hl, hT⟩ := hT
      refine rJoinA (fun v1 => v1 = w1) (fun v1 => ⟨[(2, .v (.c (.ptr 0 0 0 0 0 0))), (3, .v (.c (.int .i64 0))), (7, .v (.c (.ptr 1 0 0 0 0 0)))], [(0, .mem true 64 none (.flat [.cs [.int .i64 0], .fzs 3 (.int .i64) (List.replicate 3 [])])), (1, .mem true 64 none (.flat [.cs [.int .i64 a1], .fzs 3 (.int .i64) v1]))], 2⟩) (.exit 0) (fun v1 hv => ?_) (fun hxs10 => ?_)
      · subst hv; clear hl
        refine rInHit ?_
        refine rThen ?_
        refine rSeq ?_
        refine zReg md0 hX rfl rfl rfl ?_
        refine rThen ?_
        refine rRet ?_
        have hy := Option.some.inj hT; subst hy
        exact zEnd0 hX rfl
      refine rLoopM (stores_New_b1 N a1) (fun s1 => ⟨[(0, .v (.c (.int .i64 a1))), (2, .v (.c (.ptr 0 0 0 0 0 0))), (3, .v (.c (.int .i64 0))), (7, .v (.c (.ptr 1 0 0 0 0 0))), (22, .v (.c (.int .i64 s1.1)))], [(0, .mem true 64 none (.flat [.cs [.int .i64 0], .fzs 3 (.int .i64) (List.replicate 3 [])])), (1, .mem true 64 none (.flat [.cs [.int .i64 a1], .fzs 3 (.int .i64) s1.2]))], 2⟩) hl (To.mk' [] 0 hε rfl (by repeat' first | exact True.intro | exact rfl | apply And.intro) (by repeat' first | exact True.intro | exact rfl | apply And.intro)) (fun s1 zs1 NNs1 hz hnexts1 houts1 => ?_)
      clear hl hT
      have hT := hz; clear hz
      refine rSeq ?_
      refine zReg md0 hX rfl rfl rfl ?_
      refine rThen ?_
      refine rSeq ?_
      refine zCond rfl rfl (fun hc => ?_) (fun hc => ?_)
      · replace hT := sT hc hT
        refine rSkip ?_
        refine rThen ?_
        refine rSeq ?_
        refine rBlock ?_
        refine rSeq ?_
        refine zReg md0 hX rfl rfl rfl ?_
        refine rThen ?_
        refine rSeq ?_
        let c2 := (formats_Plane N a1 s1.1)
        replace hT := sIf hT; obtain ⟨o1, hT⟩ := hT
        refine zReg md0 hX rfl rfl rfl ?_
        refine rThen ?_
        refine rRegSL ?_
        replace hT := sIf hT; obtain ⟨⟨o1, o2, o3, o4, o5⟩, hT⟩ := hT
        refine rSLCut md0 7 hX rfl rfl rfl (by (repeat' first | exact True.intro | with_reducible assumption | (with_reducible apply And.intro) | intro _) <;> first | assumption | exact rfl | omega | exact Nat.le_of_ble_eq_true rfl | exact selF (by assumption) | exact selT (by assumption) | exact And.intro rfl rfl | exact And.intro (by assumption) rfl | exact And.intro (by omega) rfl | (simp only [inK] at *; omega) | (simp_all [sel] <;> fail) | fail) ?_
        replace hT := sIf hT; obtain ⟨f1, hT⟩ := hT
        refine rFreezeL 2 (.int .i64) ((List.replicate ((c2.getD default).1 * (c2.getD default).2).toNat 0) : List Int) [(0, .v (.c (.int .i64 a1))), (2, .v (.c (.ptr 0 0 0 0 0 0))), (3, .v (.c (.int .i64 0))), (7, .v (.c (.ptr 1 0 0 0 0 0))), (8, .v (.c (.int .i64 s1.1))), (9, .v (.c (.int .i64 (c2.getD default).1))), (10, .v (.c (.int .i64 (c2.getD default).2))), (22, .v (.c (.int .i64 s1.1))), (23, .v (.c (.bool (decide (s1.1 < 3))))), (24, .v (.c (.int .i64 s1.1))), (25, .tup [.c (.int .i64 (c2.getD default).1), .c (.int .i64 (c2.getD default).2)]), (26, .v (.c (.int .i64 a1))), (27, .v (.c (.int .i64 s1.1))), (28, .tup [.c (.int .i64 (c2.getD default).1), .c (.int .i64 (c2.getD default).2)]), (29, .v (.c (.int .i64 (c2.getD default).1))), (30, .v (.c (.int .i64 (c2.getD default).2))), (31, .v (.c (.int .i64 s1.1))), (32, .v (.c (.int .i64 (c2.getD default).1))), (33, .v (.c (.int .i64 (c2.getD default).2))), (34, .v (.c (.int .i64 ((c2.getD default).1 * (c2.getD default).2)))), (35, .v (.c (.fz (.int .i64) ((List.replicate ((c2.getD default).1 * (c2.getD default).2).toNat 0) : List Int)))), (36, .v (.c (.ptr 1 0 0 1 0 0))), (37, .v (.c (.ptr 1 0 0 1 1 (s1.1).toNat)))] [(0, .mem true 64 none (.flat [.cs [.int .i64 0], .fzs 3 (.int .i64) (List.replicate 3 [])])), (1, .mem true 64 none (.flat [.cs [.int .i64 a1], .fzs 3 (.int .i64) s1.2]))] rfl rfl (by (repeat' first | exact True.intro | exact rfl | apply And.intro) <;> first | assumption | rfl) (by (repeat' first | exact True.intro | exact rfl | apply And.intro) <;> first | assumption | rfl) ?_
        replace hT := sIf hT; obtain ⟨o1, hT⟩ := hT
        let x1 := (s1.2.set (s1.1).toNat ((List.replicate ((c2.getD default).1 * (c2.getD default).2).toNat 0) : List Int))
        refine rSLDone md0 hX rfl rfl rfl (by (repeat' first | exact True.intro | with_reducible assumption | (with_reducible apply And.intro) | intro _) <;> first | assumption | exact rfl | omega | exact Nat.le_of_ble_eq_true rfl | exact selF (by assumption) | exact selT (by assumption) | exact And.intro rfl rfl | exact And.intro (by assumption) rfl | exact And.intro (by omega) rfl | (simp only [inK] at *; omega) | (simp_all [sel] <;> fail) | fail) ?_
        refine rInNormal ?_
        refine rThen ?_
        replace hT := sIf hT; obtain ⟨o1, hT⟩ := hT
        refine zReg md0 hX rfl rfl rfl ?_
        exact hnexts1 _ (Option.some.inj hT).symm _ (To.mk' [] 0 hε rfl (by repeat' first | exact True.intro | exact rfl | apply And.intro) (by repeat' first | exact True.intro | exact rfl | apply And.intro))
      · replace hT := sF hc hT
        refine rExit ?_
        refine rThenExit ?_
        refine rThenExit ?_
        exact zTo [] 0 hε (hxs10 _ (houts1 _ (Option.some.inj hT).symm))
  · cases h
def ref01_Clip (N : Nat) (a1 : Int) (a2 : Int) (a3 : Int) : Option Int :=
  bif (bif (decide (a3 < a2)) then true else (decide (a1 < a2))) then
    some a2
  else
    bif (decide (a3 < a1)) then
      some a3
    else
      some a1
def sp_ref01_Clip (N : Nat) : X.Spec := fun args lk => match args with
  | [.v (.c (.int .i64 a1)), .v (.c (.int .i64 a2)), .v (.c (.int .i64 a3))] => some ⟨(ref01_Clip N a1 a2 a3).isSome = true, .v (.c (.int .i64 ((ref01_Clip N a1 a2 a3).getD default))), [], []⟩
  | _ => none
set_option maxRecDepth 100000 in
set_option maxHeartbeats 1000000 in
theorem ok_ref01_Clip (N : Nat) : FnOK Try.prog gt0 66 (sp_ref01_Clip N) := by
  refine fnOK_handed Try.func66 rfl (by kernel_rfl) tt_ok (ktNil) ?_
  intro args lk r h hp
  unfold sp_ref01_Clip at h
  split at h
  · rename_i a1 a2 a3
    cases h
    obtain ⟨x, hx⟩ := Option.isSome_iff_exists.1 hp
    simp only [hx, Option.getD_some]
    refine hand0 rfl rfl (fun w0 M ε0 hX => ?_)
    refine rCount (fun hε => ?_)
    have hT : ref01_Clip N a1 a2 a3 = some x := hx; clear hx hp; unfold ref01_Clip at hT
    refine rSeq ?_
    refine zReg md0 hX rfl rfl rfl ?_
    refine rThen ?_
    refine rSeq ?_
    refine rSeq ?_
    refine zReg md0 hX rfl rfl rfl ?_
    refine rThen ?_
    refine zCond rfl rfl (fun hc => ?_) (fun hc => ?_)
    · replace hT := sT hc hT
      refine rSeq ?_
      refine zReg md0 hX rfl rfl rfl ?_
      refine rThen ?_
      refine rRet ?_
      refine rThenRet ?_
      have hy := Option.some.inj hT; subst hy
      exact zEnd0 hX rfl
    · replace hT := sF hc hT
      refine rSkip ?_
      refine rThen ?_
      refine rSeq ?_
      refine rSeq ?_
      refine zReg md0 hX rfl rfl rfl ?_
      refine rThen ?_
      refine zCond rfl rfl (fun hc => ?_) (fun hc => ?_)
      · replace hT := sT hc hT
        refine rSeq ?_
        refine zReg md0 hX rfl rfl rfl ?_
        refine rThen ?_
        refine rRet ?_
        refine rThenRet ?_
        have hy := Option.some.inj hT; subst hy
        exact zEnd0 hX rfl
      · replace hT := sF hc hT
        refine rSkip ?_
        refine rThen ?_
        refine rSeq ?_
        refine zReg md0 hX rfl rfl rfl ?_
        refine rThen ?_
        refine rRet ?_
        have hy := Option.some.inj hT; subst hy
        exact zEnd0 hX rfl
  · cases h
def ref17_New_own_b1 (N : Nat) (a2 : Int) (c5 : (Option Int)) (c6 : (Option Int)) (s3 : (Int × (List Int))) : Option ((Int × (List Int)) ⊕ (List Int)) :=
  bif (decide (s3.1 < (((c5.getD default) * (c6.getD default)).toNat : Int))) then
    let c7 := (ref01_Clip N a2 0 255)
    if c7.isSome = true ∧ inK .u8 (c7.getD default) ∧ (0 : Int) ≤ s3.1 ∧ s3.1 < (((c5.getD default) * (c6.getD default)).toNat : Int) ∧ (s3.1).toNat < ((c5.getD default) * (c6.getD default)).toNat then
      if inK .i64 (s3.1 + 1) then
        some (.inl ((s3.1 + 1), (s3.2.set (s3.1).toNat (c7.getD default))))
      else none
    else none
  else
    some (.inr s3.2)
def ref17_New_own_b2 (N : Nat) (a2 : Int) (c3 : (Option Int)) (c4 : (Option Int)) (s2 : (Int × (List Int))) : Option ((Int × (List Int)) ⊕ (List Int)) :=
  bif (decide (s2.1 < (((c3.getD default) * (c4.getD default)).toNat : Int))) then
    let c8 := (ref01_Clip N a2 0 255)
    if c8.isSome = true ∧ inK .u8 (c8.getD default) ∧ (0 : Int) ≤ s2.1 ∧ s2.1 < (((c3.getD default) * (c4.getD default)).toNat : Int) ∧ (s2.1).toNat < ((c3.getD default) * (c4.getD default)).toNat then
      if inK .i64 (s2.1 + 1) then
        some (.inl ((s2.1 + 1), (s2.2.set (s2.1).toNat (c8.getD default))))
      else none
    else none
  else
    some (.inr s2.2)
def ref17_New_own_b3 (N : Nat) (a2 : Int) (c1 : (Option Int)) (c2 : (Option Int)) (s1 : (Int × (List Int))) : Option ((Int × (List Int)) ⊕ (List Int)) :=
  bif (decide (s1.1 < (((c1.getD default) * (c2.getD default)).toNat : Int))) then
    let c9 := (ref01_Clip N a2 0 255)
    if c9.isSome = true ∧ inK .u8 (c9.getD default) ∧ (0 : Int) ≤ s1.1 ∧ s1.1 < (((c1.getD default) * (c2.getD default)).toNat : Int) ∧ (s1.1).toNat < ((c1.getD default) * (c2.getD default)).toNat then
      if inK .i64 (s1.1 + 1) then
        some (.inl ((s1.1 + 1), (s1.2.set (s1.1).toNat (c9.getD default))))
      else none
    else none
  else
    some (.inr s1.2)
def ref17_New_own (N : Nat) (a1 : Int) (a2 : Int) : Option (Int × Nat × Nat × Nat × Nat × (List Int) × Nat × (List Int) × Nat × (List Int)) :=
  let c1 := (ref17_Wide N a1 0)
  let c2 := (ref17_High N a1 0)
  if c1.isSome = true ∧ c2.isSome = true ∧ inK .i64 ((c1.getD default) * (c2.getD default)) ∧ (0 : Int) ≤ ((c1.getD default) * (c2.getD default)) ∧ ((c1.getD default) * (c2.getD default)) * 1 ≤ 140737488355328 then
    (iter (ref17_New_own_b3 N a2 c1 c2) N (0, (List.replicate ((c1.getD default) * (c2.getD default)).toNat 0))).bind fun v1 =>
      let c3 := (ref17_Wide N a1 1)
      let c4 := (ref17_High N a1 1)
      if c3.isSome = true ∧ c4.isSome = true ∧ inK .i64 ((c3.getD default) * (c4.getD default)) ∧ (0 : Int) ≤ ((c3.getD default) * (c4.getD default)) ∧ ((c3.getD default) * (c4.getD default)) * 1 ≤ 140737488355328 then
        (iter (ref17_New_own_b2 N a2 c3 c4) N (0, (List.replicate ((c3.getD default) * (c4.getD default)).toNat 0))).bind fun v2 =>
          let c5 := (ref17_Wide N a1 2)
          let c6 := (ref17_High N a1 2)
          if c5.isSome = true ∧ c6.isSome = true ∧ inK .i64 ((c5.getD default) * (c6.getD default)) ∧ (0 : Int) ≤ ((c5.getD default) * (c6.getD default)) ∧ ((c5.getD default) * (c6.getD default)) * 1 ≤ 140737488355328 then
            (iter (ref17_New_own_b1 N a2 c5 c6) N (0, (List.replicate ((c5.getD default) * (c6.getD default)).toNat 0))).bind fun v3 =>
              some (a1, ((c1.getD default) * (c2.getD default)).toNat, ((c3.getD default) * (c4.getD default)).toNat, ((c5.getD default) * (c6.getD default)).toNat, ((c1.getD default) * (c2.getD default)).toNat, v1, ((c3.getD default) * (c4.getD default)).toNat, v2, ((c5.getD default) * (c6.getD default)).toNat, v3)
          else none
      else none
  else none
def sp_ref17_New_own (N : Nat) : X.Spec := fun args lk => match args with
  | [.v (.c (.int .i64 a1)), .v (.c (.int .i64 a2))] => some ⟨(ref17_New_own N a1 a2).isSome = true, .v (.agg [.cs [.int .i64 ((ref17_New_own N a1 a2).getD default).1, .sl 0 0 ((ref17_New_own N a1 a2).getD default).2.1 1, .sl 1 0 ((ref17_New_own N a1 a2).getD default).2.2.1 1, .sl 2 0 ((ref17_New_own N a1 a2).getD default).2.2.2.1 1]]), [.mem true 5 (some 0) (.flat [.ints ((ref17_New_own N a1 a2).getD default).2.2.2.2.1 .u8 ((ref17_New_own N a1 a2).getD default).2.2.2.2.2.1]), .mem true 5 (some 0) (.flat [.ints ((ref17_New_own N a1 a2).getD default).2.2.2.2.2.2.1 .u8 ((ref17_New_own N a1 a2).getD default).2.2.2.2.2.2.2.1]), .mem true 5 (some 0) (.flat [.ints ((ref17_New_own N a1 a2).getD default).2.2.2.2.2.2.2.2.1 .u8 ((ref17_New_own N a1 a2).getD default).2.2.2.2.2.2.2.2.2])], []⟩
  | _ => none
set_option maxRecDepth 100000 in
set_option maxHeartbeats 1000000 in
theorem ok_ref17_New_own (N : Nat) : FnOK Try.prog gt0 24 (sp_ref17_New_own N) := by
  refine fnOK_handed Try.func24 rfl (by kernel_rfl) ttC_ok (ktCons (ok_ref01_Clip N) (ktCons (ok_ref17_High N) (ktCons (ok_ref17_Wide N) (ktNil)))) ?_
  intro args lk r h hp
  unfold sp_ref17_New_own at h
  split at h
  · rename_i a1 a2
    cases h
    obtain ⟨x, hx⟩ := Option.isSome_iff_exists.1 hp
    simp only [hx, Option.getD_some]
    refine hand0 rfl rfl (fun w0 M ε0 hX => ?_)
    refine rCount (fun hε => ?_)
    have hT : ref17_New_own N a1 a2 = some x := hx; clear hx hp; unfold ref17_New_own at hT
    refine rSeq ?_
    refine zReg md0 hX rfl rfl rfl ?_
    refine rThen ?_
    refine rSeq ?_
    refine zReg md0 hX rfl rfl rfl ?_
    refine rThen ?_
    refine rSeq ?_
    refine rSeq ?_
    refine zReg md0 hX rfl rfl rfl ?_
    refine rThen ?_
    refine rBlock ?_
    refine rRounds 24 ?_
    refine rSeq ?_
    refine rSeq ?_
    refine zReg md0 hX rfl rfl rfl ?_
    refine rThen ?_
    refine rCondT rfl rfl (by (repeat' first | exact True.intro | with_reducible assumption | (with_reducible apply And.intro) | intro _) <;> first | assumption | exact rfl | omega | exact Nat.le_of_ble_eq_true rfl | exact selF (by assumption) | exact selT (by assumption) | exact And.intro rfl rfl | exact And.intro (by assumption) rfl | exact And.intro (by omega) rfl | (simp only [inK] at *; omega) | (simp_all [sel] <;> fail) | fail) rfl ?_
    refine rSkip ?_
    refine rThen ?_
    refine rSeq ?_
    refine rBlock ?_
    refine rSeq ?_
    let c1 := (ref17_Wide N a1 0)
    let c2 := (ref17_High N a1 0)
    replace hT := sIf hT; obtain ⟨⟨o1, o2, o3, o4, o5⟩, hT⟩ := hT
    refine zReg md0 hX rfl rfl rfl ?_
    refine rThen ?_
    refine rSeq ?_
    refine rSeq ?_
    refine zReg md0 hX rfl rfl rfl ?_
    refine rThen ?_
    refine rBlock ?_
    replace hT := sBind hT; obtain ⟨w1, hl, hT⟩ := hT
    refine rJoinA (fun v1 => v1 = w1) (fun v1 => ⟨[(0, .v (.c (.int .i64 a1))), (1, .v (.c (.int .i64 a2))), (4, .v (.c (.ptr 0 0 0 0 0 0))), (5, .v (.c (.ptr 1 0 0 0 0 0))), (6, .v (.c (.int .i64 0))), (7, .v (.c (.sl 2 0 ((c1.getD default) * (c2.getD default)).toNat 1)))], [(0, .mem true 25 none (.flat [.cs [.int .i64 0, .val (.slice none 0 0), .val (.slice none 0 0), .val (.slice none 0 0)]])), (1, .mem true 25 none (.flat [.cs [.int .i64 a1, .val (.slice none 0 0), .val (.slice none 0 0), .val (.slice none 0 0)]])), (2, .mem true 5 (some 1) (.flat [.ints ((c1.getD default) * (c2.getD default)).toNat .u8 v1]))], 3⟩) (.exit 2) (fun v1 hv => ?_) (fun hxs10 => ?_)
    · subst hv; clear hl
      refine rInHit ?_
      refine rThen ?_
      refine zReg md0 hX rfl rfl rfl ?_
      refine rInNormal ?_
      refine rThen ?_
      refine zReg md0 hX rfl rfl rfl ?_
      refine rRound ?_
      refine rSeq ?_
      refine rSeq ?_
      refine zReg md0 hX rfl rfl rfl ?_
      refine rThen ?_
      refine rCondT rfl rfl (by (repeat' first | exact True.intro | with_reducible assumption | (with_reducible apply And.intro) | intro _) <;> first | assumption | exact rfl | omega | exact Nat.le_of_ble_eq_true rfl | exact selF (by assumption) | exact selT (by assumption) | exact And.intro rfl rfl | exact And.intro (by assumption) rfl | exact And.intro (by omega) rfl | (simp only [inK] at *; omega) | (simp_all [sel] <;> fail) | fail) rfl ?_
      refine rSkip ?_
      refine rThen ?_
      refine rSeq ?_
      refine rBlock ?_
      refine rSeq ?_
      let c3 := (ref17_Wide N a1 1)
      let c4 := (ref17_High N a1 1)
      replace hT := sIf hT; obtain ⟨⟨o1, o2, o3, o4, o5⟩, hT⟩ := hT
      refine zReg md0 hX rfl rfl rfl ?_
      refine rThen ?_
      refine rSeq ?_
      refine rSeq ?_
      refine zReg md0 hX rfl rfl rfl ?_
      refine rThen ?_
      refine rBlock ?_
      replace hT := sBind hT; obtain ⟨w2, hl, hT⟩ := hT
      refine rJoinA (fun v2 => v2 = w2) (fun v2 => ⟨[(0, .v (.c (.int .i64 a1))), (1, .v (.c (.int .i64 a2))), (4, .v (.c (.ptr 0 0 0 0 0 0))), (5, .v (.c (.ptr 1 0 0 0 0 0))), (6, .v (.c (.int .i64 1))), (7, .v (.c (.sl 3 0 ((c3.getD default) * (c4.getD default)).toNat 1)))], [(0, .mem true 25 none (.flat [.cs [.int .i64 0, .val (.slice none 0 0), .val (.slice none 0 0), .val (.slice none 0 0)]])), (1, .mem true 25 none (.flat [.cs [.int .i64 a1, .sl 2 0 ((c1.getD default) * (c2.getD default)).toNat 1, .val (.slice none 0 0), .val (.slice none 0 0)]])), (2, .mem true 5 (some 1) (.flat [.ints ((c1.getD default) * (c2.getD default)).toNat .u8 v1])), (3, .mem true 5 (some 1) (.flat [.ints ((c3.getD default) * (c4.getD default)).toNat .u8 v2]))], 4⟩) (.exit 2) (fun v2 hv => ?_) (fun hxs20 => ?_)
      · subst hv; clear hl
        refine rInHit ?_
        refine rThen ?_
        refine zReg md0 hX rfl rfl rfl ?_
        refine rInNormal ?_
        refine rThen ?_
        refine zReg md0 hX rfl rfl rfl ?_
        refine rRound ?_
        refine rSeq ?_
        refine rSeq ?_
        refine zReg md0 hX rfl rfl rfl ?_
        refine rThen ?_
        refine rCondT rfl rfl (by (repeat' first | exact True.intro | with_reducible assumption | (with_reducible apply And.intro) | intro _) <;> first | assumption | exact rfl | omega | exact Nat.le_of_ble_eq_true rfl | exact selF (by assumption) | exact selT (by assumption) | exact And.intro rfl rfl | exact And.intro (by assumption) rfl | exact And.intro (by omega) rfl | (simp only [inK] at *; omega) | (simp_all [sel] <;> fail) | fail) rfl ?_
        refine rSkip ?_
        refine rThen ?_
        refine rSeq ?_
        refine rBlock ?_
        refine rSeq ?_
        let c5 := (ref17_Wide N a1 2)
        let c6 := (ref17_High N a1 2)
        replace hT := sIf hT; obtain ⟨⟨o1, o2, o3, o4, o5⟩, hT⟩ := hT
        refine zReg md0 hX rfl rfl rfl ?_
        refine rThen ?_
        refine rSeq ?_
        refine rSeq ?_
        refine zReg md0 hX rfl rfl rfl ?_
        refine rThen ?_
        refine rBlock ?_
        replace hT := sBind hT; obtain ⟨w3, hl, hT⟩ := hT
        refine rJoinA (fun v3 => v3 = w3) (fun v3 => ⟨[(0, .v (.c (.int .i64 a1))), (1, .v (.c (.int .i64 a2))), (4, .v (.c (.ptr 0 0 0 0 0 0))), (5, .v (.c (.ptr 1 0 0 0 0 0))), (6, .v (.c (.int .i64 2))), (7, .v (.c (.sl 4 0 ((c5.getD default) * (c6.getD default)).toNat 1)))], [(0, .mem true 25 none (.flat [.cs [.int .i64 0, .val (.slice none 0 0), .val (.slice none 0 0), .val (.slice none 0 0)]])), (1, .mem true 25 none (.flat [.cs [.int .i64 a1, .sl 2 0 ((c1.getD default) * (c2.getD default)).toNat 1, .sl 3 0 ((c3.getD default) * (c4.getD default)).toNat 1, .val (.slice none 0 0)]])), (2, .mem true 5 (some 1) (.flat [.ints ((c1.getD default) * (c2.getD default)).toNat .u8 v1])), (3, .mem true 5 (some 1) (.flat [.ints ((c3.getD default) * (c4.getD default)).toNat .u8 v2])), (4, .mem true 5 (some 1) (.flat [.ints ((c5.getD default) * (c6.getD default)).toNat .u8 v3]))], 5⟩) (.exit 2) (fun v3 hv => ?_) (fun hxs30 => ?_)
        · subst hv; clear hl
          refine rInHit ?_
          refine rThen ?_
          refine zReg md0 hX rfl rfl rfl ?_
          refine rInNormal ?_
          refine rThen ?_
          refine zReg md0 hX rfl rfl rfl ?_
          refine rRound ?_
          refine rSeq ?_
          refine rSeq ?_
          refine zReg md0 hX rfl rfl rfl ?_
          refine rThen ?_
          refine rCondF rfl rfl (by (repeat' first | exact True.intro | with_reducible assumption | (with_reducible apply And.intro) | intro _) <;> first | assumption | exact rfl | omega | exact Nat.le_of_ble_eq_true rfl | exact selF (by assumption) | exact selT (by assumption) | exact And.intro rfl rfl | exact And.intro (by assumption) rfl | exact And.intro (by omega) rfl | (simp only [inK] at *; omega) | (simp_all [sel] <;> fail) | fail) rfl ?_
          refine rExit ?_
          refine rThenExit ?_
          refine rThenExit ?_
          refine rInHit ?_
          refine rThen ?_
          refine rSeq ?_
          refine zReg md0 hX rfl rfl rfl ?_
          refine rThen ?_
          refine rRet ?_
          refine rTail0Q 2 rfl rfl ?_
          refine rTail0Q 3 rfl rfl ?_
          refine rTail0Q 4 rfl rfl ?_
          have hy := Option.some.inj hT; subst hy
          exact rEndA [2, 3, 4] [.mem true 5 (some 0) (.flat [.ints ((c1.getD default) * (c2.getD default)).toNat .u8 v1]), .mem true 5 (some 0) (.flat [.ints ((c3.getD default) * (c4.getD default)).toNat .u8 v2]), .mem true 5 (some 0) (.flat [.ints ((c5.getD default) * (c6.getD default)).toNat .u8 v3])] [] (.v (.agg [.cs [.int .i64 a1, .sl 2 0 ((c1.getD default) * (c2.getD default)).toNat 1, .sl 3 0 ((c3.getD default) * (c4.getD default)).toNat 1, .sl 4 0 ((c5.getD default) * (c6.getD default)).toNat 1]])) hX rfl (by repeat' first | exact True.intro | exact rfl | apply And.intro | omega | exact Nat.le_of_ble_eq_true rfl) (by repeat' first | exact True.intro | exact rfl | apply And.intro) rfl rfl rfl (by repeat' first | exact True.intro | exact rfl | exact ⟨_, rfl, rfl⟩ | apply And.intro | exact Or.inl rfl) rfl rfl (by repeat' first | exact True.intro | exact rfl | exact ⟨_, rfl, rfl⟩ | apply And.intro | exact Or.inl rfl) rfl rfl
        refine rLoopM (ref17_New_own_b1 N a2 c5 c6) (fun s3 => ⟨[(0, .v (.c (.int .i64 a1))), (1, .v (.c (.int .i64 a2))), (4, .v (.c (.ptr 0 0 0 0 0 0))), (5, .v (.c (.ptr 1 0 0 0 0 0))), (6, .v (.c (.int .i64 2))), (7, .v (.c (.sl 4 0 ((c5.getD default) * (c6.getD default)).toNat 1))), (8, .v (.c (.int .i64 s3.1)))], [(0, .mem true 25 none (.flat [.cs [.int .i64 0, .val (.slice none 0 0), .val (.slice none 0 0), .val (.slice none 0 0)]])), (1, .mem true 25 none (.flat [.cs [.int .i64 a1, .sl 2 0 ((c1.getD default) * (c2.getD default)).toNat 1, .sl 3 0 ((c3.getD default) * (c4.getD default)).toNat 1, .val (.slice none 0 0)]])), (2, .mem true 5 (some 1) (.flat [.ints ((c1.getD default) * (c2.getD default)).toNat .u8 v1])), (3, .mem true 5 (some 1) (.flat [.ints ((c3.getD default) * (c4.getD default)).toNat .u8 v2])), (4, .mem true 5 (some 1) (.flat [.ints ((c5.getD default) * (c6.getD default)).toNat .u8 s3.2]))], 5⟩) hl (To.mk' [] 0 hε rfl (by repeat' first | exact True.intro | exact rfl | apply And.intro) (by repeat' first | exact True.intro | exact rfl | apply And.intro)) (fun s3 zs3 NNs3 hz hnexts3 houts3 => ?_)
        clear hl hT
        have hT := hz; clear hz
        refine rSeq ?_
        refine rSeq ?_
        refine zReg md0 hX rfl rfl rfl ?_
        refine rThen ?_
        refine zCond rfl rfl (fun hc => ?_) (fun hc => ?_)
        · replace hT := sT hc hT
          refine rSkip ?_
          refine rThen ?_
          refine rSeq ?_
          refine rBlock ?_
          let c7 := (ref01_Clip N a2 0 255)
          replace hT := sIf hT; obtain ⟨⟨o1, o2, o3, o4, o5⟩, hT⟩ := hT
          refine zReg md0 hX rfl rfl rfl ?_
          refine rInNormal ?_
          refine rThen ?_
          replace hT := sIf hT; obtain ⟨o1, hT⟩ := hT
          refine zReg md0 hX rfl rfl rfl ?_
          exact hnexts3 _ (Option.some.inj hT).symm _ (To.mk' [] 0 hε rfl (by repeat' first | exact True.intro | exact rfl | apply And.intro) (by repeat' first | exact True.intro | exact rfl | apply And.intro))
        · replace hT := sF hc hT
          refine rExit ?_
          refine rThenExit ?_
          refine rThenExit ?_
          exact zTo [] 0 hε (hxs30 _ (houts3 _ (Option.some.inj hT).symm))
      refine rLoopM (ref17_New_own_b2 N a2 c3 c4) (fun s2 => ⟨[(0, .v (.c (.int .i64 a1))), (1, .v (.c (.int .i64 a2))), (4, .v (.c (.ptr 0 0 0 0 0 0))), (5, .v (.c (.ptr 1 0 0 0 0 0))), (6, .v (.c (.int .i64 1))), (7, .v (.c (.sl 3 0 ((c3.getD default) * (c4.getD default)).toNat 1))), (8, .v (.c (.int .i64 s2.1)))], [(0, .mem true 25 none (.flat [.cs [.int .i64 0, .val (.slice none 0 0), .val (.slice none 0 0), .val (.slice none 0 0)]])), (1, .mem true 25 none (.flat [.cs [.int .i64 a1, .sl 2 0 ((c1.getD default) * (c2.getD default)).toNat 1, .val (.slice none 0 0), .val (.slice none 0 0)]])), (2, .mem true 5 (some 1) (.flat [.ints ((c1.getD default) * (c2.getD default)).toNat .u8 v1])), (3, .mem true 5 (some 1) (.flat [.ints ((c3.getD default) * (c4.getD default)).toNat .u8 s2.2]))], 4⟩) hl (To.mk' [] 0 hε rfl (by repeat' first | exact True.intro | exact rfl | apply And.intro) (by repeat' first | exact True.intro | exact rfl | apply And.intro)) (fun s2 zs2 NNs2 hz hnexts2 houts2 => ?_)
      clear hl hT
      have hT := hz; clear hz
      refine rSeq ?_
      refine rSeq ?_
      refine zReg md0 hX rfl rfl rfl ?_
      refine rThen ?_
      refine zCond rfl rfl (fun hc => ?_) (fun hc => ?_)
      · replace hT := sT hc hT
        refine rSkip ?_
        refine rThen ?_
        refine rSeq ?_
        refine rBlock ?_
        let c8 := (ref01_Clip N a2 0 255)
        replace hT := sIf hT; obtain ⟨⟨o1, o2, o3, o4, o5⟩, hT⟩ := hT
        refine zReg md0 hX rfl rfl rfl ?_
        refine rInNormal ?_
        refine rThen ?_
        replace hT := sIf hT; obtain ⟨o1, hT⟩ := hT
        refine zReg md0 hX rfl rfl rfl ?_
        exact hnexts2 _ (Option.some.inj hT).symm _ (To.mk' [] 0 hε rfl (by repeat' first | exact True.intro | exact rfl | apply And.intro) (by repeat' first | exact True.intro | exact rfl | apply And.intro))
      · replace hT := sF hc hT
        refine rExit ?_
        refine rThenExit ?_
        refine rThenExit ?_
        exact zTo [] 0 hε (hxs20 _ (houts2 _ (Option.some.inj hT).symm))
    refine rLoopM (ref17_New_own_b3 N a2 c1 c2) (fun s1 => ⟨[(0, .v (.c (.int .i64 a1))), (1, .v (.c (.int .i64 a2))), (4, .v (.c (.ptr 0 0 0 0 0 0))), (5, .v (.c (.ptr 1 0 0 0 0 0))), (6, .v (.c (.int .i64 0))), (7, .v (.c (.sl 2 0 ((c1.getD default) * (c2.getD default)).toNat 1))), (8, .v (.c (.int .i64 s1.1)))], [(0, .mem true 25 none (.flat [.cs [.int .i64 0, .val (.slice none 0 0), .val (.slice none 0 0), .val (.slice none 0 0)]])), (1, .mem true 25 none (.flat [.cs [.int .i64 a1, .val (.slice none 0 0), .val (.slice none 0 0), .val (.slice none 0 0)]])), (2, .mem true 5 (some 1) (.flat [.ints ((c1.getD default) * (c2.getD default)).toNat .u8 s1.2]))], 3⟩) hl (To.mk' [] 0 hε rfl (by repeat' first | exact True.intro | exact rfl | apply And.intro) (by repeat' first | exact True.intro | exact rfl | apply And.intro)) (fun s1 zs1 NNs1 hz hnexts1 houts1 => ?_)
    clear hl hT
    have hT := hz; clear hz
    refine rSeq ?_
    refine rSeq ?_
    refine zReg md0 hX rfl rfl rfl ?_
    refine rThen ?_
    refine zCond rfl rfl (fun hc => ?_) (fun hc => ?_)
    · replace hT := sT hc hT
      refine rSkip ?_
      refine rThen ?_
      refine rSeq ?_
      refine rBlock ?_
      let c9 := (ref01_Clip N a2 0 255)
      replace hT := sIf hT; obtain ⟨⟨o1, o2, o3, o4, o5⟩, hT⟩ := hT
      refine zReg md0 hX rfl rfl rfl ?_
      refine rInNormal ?_
      refine rThen ?_
      replace hT := sIf hT; obtain ⟨o1, hT⟩ := hT
      refine zReg md0 hX rfl rfl rfl ?_
      exact hnexts1 _ (Option.some.inj hT).symm _ (To.mk' [] 0 hε rfl (by repeat' first | exact True.intro | exact rfl | apply And.intro) (by repeat' first | exact True.intro | exact rfl | apply And.intro))
    · replace hT := sF hc hT
      refine rExit ?_
      refine rThenExit ?_
      refine rThenExit ?_
      exact zTo [] 0 hε (hxs10 _ (houts1 _ (Option.some.inj hT).symm))
  · cases h
def ref34_Add_b1 (N : Nat) (a2 : (List (List Int))) (a4 : (List (List Int))) (c1 : (Option (Int × Nat × Nat × Nat × Nat × (List Int) × Nat × (List Int) × Nat × (List Int)))) (s3 : (Int × (List Int))) : Option ((Int × (List Int)) ⊕ (List Int)) :=
  bif (decide (s3.1 < ((a2.getD 2 []).length : Int))) then
    let c2 := (ref01_Clip N (((a2.getD 2 []).getD (s3.1).toNat 0) + ((a4.getD 2 []).getD (s3.1).toNat 0)) 0 255)
    if (0 : Int) ≤ s3.1 ∧ s3.1 < ((a2.getD 2 []).length : Int) ∧ inK .i64 ((a2.getD 2 []).getD (s3.1).toNat 0) ∧ s3.1 < ((a4.getD 2 []).length : Int) ∧ inK .i64 (((a2.getD 2 []).getD (s3.1).toNat 0) + ((a4.getD 2 []).getD (s3.1).toNat 0)) ∧ c2.isSome = true ∧ inK .u8 (c2.getD default) ∧ s3.1 < ((c1.getD default).2.2.2.1 : Int) ∧ (s3.1).toNat < (c1.getD default).2.2.2.2.2.2.2.2.1 then
      if inK .i64 (s3.1 + 1) then
        some (.inl ((s3.1 + 1), (s3.2.set (s3.1).toNat (c2.getD default))))
      else none
    else none
  else
    some (.inr s3.2)
def ref34_Add_b2 (N : Nat) (a2 : (List (List Int))) (a4 : (List (List Int))) (c1 : (Option (Int × Nat × Nat × Nat × Nat × (List Int) × Nat × (List Int) × Nat × (List Int)))) (s2 : (Int × (List Int))) : Option ((Int × (List Int)) ⊕ (List Int)) :=
  bif (decide (s2.1 < ((a2.getD 1 []).length : Int))) then
    let c3 := (ref01_Clip N (((a2.getD 1 []).getD (s2.1).toNat 0) + ((a4.getD 1 []).getD (s2.1).toNat 0)) 0 255)
    if (0 : Int) ≤ s2.1 ∧ s2.1 < ((a2.getD 1 []).length : Int) ∧ inK .i64 ((a2.getD 1 []).getD (s2.1).toNat 0) ∧ s2.1 < ((a4.getD 1 []).length : Int) ∧ inK .i64 (((a2.getD 1 []).getD (s2.1).toNat 0) + ((a4.getD 1 []).getD (s2.1).toNat 0)) ∧ c3.isSome = true ∧ inK .u8 (c3.getD default) ∧ s2.1 < ((c1.getD default).2.2.1 : Int) ∧ (s2.1).toNat < (c1.getD default).2.2.2.2.2.2.1 then
      if inK .i64 (s2.1 + 1) then
        some (.inl ((s2.1 + 1), (s2.2.set (s2.1).toNat (c3.getD default))))
      else none
    else none
  else
    some (.inr s2.2)
def ref34_Add_b3 (N : Nat) (a2 : (List (List Int))) (a4 : (List (List Int))) (c1 : (Option (Int × Nat × Nat × Nat × Nat × (List Int) × Nat × (List Int) × Nat × (List Int)))) (s1 : (Int × (List Int))) : Option ((Int × (List Int)) ⊕ (List Int)) :=
  bif (decide (s1.1 < ((a2.getD 0 []).length : Int))) then
    let c4 := (ref01_Clip N (((a2.getD 0 []).getD (s1.1).toNat 0) + ((a4.getD 0 []).getD (s1.1).toNat 0)) 0 255)
    if (0 : Int) ≤ s1.1 ∧ s1.1 < ((a2.getD 0 []).length : Int) ∧ inK .i64 ((a2.getD 0 []).getD (s1.1).toNat 0) ∧ s1.1 < ((a4.getD 0 []).length : Int) ∧ inK .i64 (((a2.getD 0 []).getD (s1.1).toNat 0) + ((a4.getD 0 []).getD (s1.1).toNat 0)) ∧ c4.isSome = true ∧ inK .u8 (c4.getD default) ∧ s1.1 < ((c1.getD default).2.1 : Int) ∧ (s1.1).toNat < (c1.getD default).2.2.2.2.1 then
      if inK .i64 (s1.1 + 1) then
        some (.inl ((s1.1 + 1), (s1.2.set (s1.1).toNat (c4.getD default))))
      else none
    else none
  else
    some (.inr s1.2)
def ref34_Add (N : Nat) (a1 : Int) (a2 : (List (List Int))) (a3 : Int) (a4 : (List (List Int))) : Option (Int × (List (List Int))) :=
  let c1 := (ref17_New_own N a1 0)
  if c1.isSome = true then
    (iter (ref34_Add_b3 N a2 a4 c1) N (0, (c1.getD default).2.2.2.2.2.1)).bind fun v1 =>
      (iter (ref34_Add_b2 N a2 a4 c1) N (0, (c1.getD default).2.2.2.2.2.2.2.1)).bind fun v2 =>
        (iter (ref34_Add_b1 N a2 a4 c1) N (0, (c1.getD default).2.2.2.2.2.2.2.2.2)).bind fun v3 =>
          if (c1.getD default).2.1 = v1.length ∧ (c1.getD default).2.2.1 = v2.length ∧ (c1.getD default).2.2.2.1 = v3.length then
            some ((c1.getD default).1, [v1, v2, v3])
          else none
  else none
def sp_ref34_Add (N : Nat) : X.Spec := fun args lk => match args with
  | [.v (.agg [.cs [.int .i64 a1], .fzs 3 (.int .u8) a2]), .v (.agg [.cs [.int .i64 a3], .fzs 3 (.int .i64) a4])] => some ⟨(ref34_Add N a1 a2 a3 a4).isSome = true, .v (.agg [.cs [.int .i64 ((ref34_Add N a1 a2 a3 a4).getD default).1], .fzs 3 (.int .u8) ((ref34_Add N a1 a2 a3 a4).getD default).2]), [], []⟩
  | _ => none
set_option maxRecDepth 100000 in
set_option maxHeartbeats 1000000 in
theorem ok_ref34_Add (N : Nat) : FnOK Try.prog gt0 42 (sp_ref34_Add N) := by
  refine fnOK_handed Try.func42 rfl (by kernel_rfl) ttC_ok (ktCons (ok_ref01_Clip N) (ktCons (ok_ref17_New_own N) (ktNil))) ?_
  intro args lk r h hp
  unfold sp_ref34_Add at h
  split at h
  · rename_i a1 a2 a3 a4
    change (List (List Int)) at a2
    change (List (List Int)) at a4
    cases h
    obtain ⟨x, hx⟩ := Option.isSome_iff_exists.1 hp
    simp only [hx, Option.getD_some]
    refine hand0 rfl rfl (fun w0 M ε0 hX => ?_)
    refine rCount (fun hε => ?_)
    have hT : ref34_Add N a1 a2 a3 a4 = some x := hx; clear hx hp; unfold ref34_Add at hT
    refine rSeq ?_
    refine zReg md0 hX rfl rfl rfl ?_
    refine rThen ?_
    refine rSeq ?_
    let c1 := (ref17_New_own N a1 0)
    replace hT := sIf hT; obtain ⟨o1, hT⟩ := hT
    refine zReg md0 hX rfl rfl rfl ?_
    refine rThen ?_
    refine rSeq ?_
    refine rSeq ?_
    refine zReg md0 hX rfl rfl rfl ?_
    refine rThen ?_
    refine rBlock ?_
    refine rRounds 24 ?_
    refine rSeq ?_
    refine rSeq ?_
    refine zReg md0 hX rfl rfl rfl ?_
    refine rThen ?_
    refine rCondT rfl rfl (by (repeat' first | exact True.intro | with_reducible assumption | (with_reducible apply And.intro) | intro _) <;> first | assumption | exact rfl | omega | exact Nat.le_of_ble_eq_true rfl | exact selF (by assumption) | exact selT (by assumption) | exact And.intro rfl rfl | exact And.intro (by assumption) rfl | exact And.intro (by omega) rfl | (simp only [inK] at *; omega) | (simp_all [sel] <;> fail) | fail) rfl ?_
    refine rSkip ?_
    refine rThen ?_
    refine rSeq ?_
    refine rBlock ?_
    refine rSeq ?_
    refine zReg md0 hX rfl rfl rfl ?_
    refine rThen ?_
    refine rBlock ?_
    replace hT := sBind hT; obtain ⟨w1, hl, hT⟩ := hT
    refine rJoinA (fun v1 => v1 = w1) (fun v1 => ⟨[(2, .v (.c (.ptr 0 0 0 0 0 0))), (3, .v (.c (.ptr 1 0 0 0 0 0))), (4, .v (.c (.ptr 2 0 0 0 0 0))), (5, .v (.c (.ptr 6 0 0 0 0 0))), (6, .v (.c (.int .i64 0)))], [(0, .mem true 25 none (.flat [.cs [.int .i64 a1], .fzs 3 (.int .u8) a2])), (1, .mem true 64 none (.flat [.cs [.int .i64 a3], .fzs 3 (.int .i64) a4])), (2, .mem true 25 none (.flat [.cs [.int .i64 0, .val (.slice none 0 0), .val (.slice none 0 0), .val (.slice none 0 0)]])), (3, .mem true 5 (some 0) (.flat [.ints (c1.getD default).2.2.2.2.1 .u8 v1])), (4, .mem true 5 (some 0) (.flat [.ints (c1.getD default).2.2.2.2.2.2.1 .u8 (c1.getD default).2.2.2.2.2.2.2.1])), (5, .mem true 5 (some 0) (.flat [.ints (c1.getD default).2.2.2.2.2.2.2.2.1 .u8 (c1.getD default).2.2.2.2.2.2.2.2.2])), (6, .mem true 25 none (.flat [.cs [.int .i64 (c1.getD default).1, .sl 3 0 (c1.getD default).2.1 1, .sl 4 0 (c1.getD default).2.2.1 1, .sl 5 0 (c1.getD default).2.2.2.1 1]]))], 7⟩) (.exit 2) (fun v1 hv => ?_) (fun hxs10 => ?_)
    · subst hv; clear hl
      refine rInHit ?_
      refine rInNormal ?_
      refine rThen ?_
      refine zReg md0 hX rfl rfl rfl ?_
      refine rRound ?_
      refine rSeq ?_
      refine rSeq ?_
      refine zReg md0 hX rfl rfl rfl ?_
      refine rThen ?_
      refine rCondT rfl rfl (by (repeat' first | exact True.intro | with_reducible assumption | (with_reducible apply And.intro) | intro _) <;> first | assumption | exact rfl | omega | exact Nat.le_of_ble_eq_true rfl | exact selF (by assumption) | exact selT (by assumption) | exact And.intro rfl rfl | exact And.intro (by assumption) rfl | exact And.intro (by omega) rfl | (simp only [inK] at *; omega) | (simp_all [sel] <;> fail) | fail) rfl ?_
      refine rSkip ?_
      refine rThen ?_
      refine rSeq ?_
      refine rBlock ?_
      refine rSeq ?_
      refine zReg md0 hX rfl rfl rfl ?_
      refine rThen ?_
      refine rBlock ?_
      replace hT := sBind hT; obtain ⟨w2, hl, hT⟩ := hT
      refine rJoinA (fun v2 => v2 = w2) (fun v2 => ⟨[(2, .v (.c (.ptr 0 0 0 0 0 0))), (3, .v (.c (.ptr 1 0 0 0 0 0))), (4, .v (.c (.ptr 2 0 0 0 0 0))), (5, .v (.c (.ptr 6 0 0 0 0 0))), (6, .v (.c (.int .i64 1)))], [(0, .mem true 25 none (.flat [.cs [.int .i64 a1], .fzs 3 (.int .u8) a2])), (1, .mem true 64 none (.flat [.cs [.int .i64 a3], .fzs 3 (.int .i64) a4])), (2, .mem true 25 none (.flat [.cs [.int .i64 0, .val (.slice none 0 0), .val (.slice none 0 0), .val (.slice none 0 0)]])), (3, .mem true 5 (some 0) (.flat [.ints (c1.getD default).2.2.2.2.1 .u8 v1])), (4, .mem true 5 (some 0) (.flat [.ints (c1.getD default).2.2.2.2.2.2.1 .u8 v2])), (5, .mem true 5 (some 0) (.flat [.ints (c1.getD default).2.2.2.2.2.2.2.2.1 .u8 (c1.getD default).2.2.2.2.2.2.2.2.2])), (6, .mem true 25 none (.flat [.cs [.int .i64 (c1.getD default).1, .sl 3 0 (c1.getD default).2.1 1, .sl 4 0 (c1.getD default).2.2.1 1, .sl 5 0 (c1.getD default).2.2.2.1 1]]))], 7⟩) (.exit 2) (fun v2 hv => ?_) (fun hxs20 => ?_)
      · subst hv; clear hl
        refine rInHit ?_
        refine rInNormal ?_
        refine rThen ?_
        refine zReg md0 hX rfl rfl rfl ?_
        refine rRound ?_
        refine rSeq ?_
        refine rSeq ?_
        refine zReg md0 hX rfl rfl rfl ?_
        refine rThen ?_
        refine rCondT rfl rfl (by (repeat' first | exact True.intro | with_reducible assumption | (with_reducible apply And.intro) | intro _) <;> first | assumption | exact rfl | omega | exact Nat.le_of_ble_eq_true rfl | exact selF (by assumption) | exact selT (by assumption) | exact And.intro rfl rfl | exact And.intro (by assumption) rfl | exact And.intro (by omega) rfl | (simp only [inK] at *; omega) | (simp_all [sel] <;> fail) | fail) rfl ?_
        refine rSkip ?_
        refine rThen ?_
        refine rSeq ?_
        refine rBlock ?_
        refine rSeq ?_
        refine zReg md0 hX rfl rfl rfl ?_
        refine rThen ?_
        refine rBlock ?_
        replace hT := sBind hT; obtain ⟨w3, hl, hT⟩ := hT
        refine rJoinA (fun v3 => v3 = w3) (fun v3 => ⟨[(2, .v (.c (.ptr 0 0 0 0 0 0))), (3, .v (.c (.ptr 1 0 0 0 0 0))), (4, .v (.c (.ptr 2 0 0 0 0 0))), (5, .v (.c (.ptr 6 0 0 0 0 0))), (6, .v (.c (.int .i64 2)))], [(0, .mem true 25 none (.flat [.cs [.int .i64 a1], .fzs 3 (.int .u8) a2])), (1, .mem true 64 none (.flat [.cs [.int .i64 a3], .fzs 3 (.int .i64) a4])), (2, .mem true 25 none (.flat [.cs [.int .i64 0, .val (.slice none 0 0), .val (.slice none 0 0), .val (.slice none 0 0)]])), (3, .mem true 5 (some 0) (.flat [.ints (c1.getD default).2.2.2.2.1 .u8 v1])), (4, .mem true 5 (some 0) (.flat [.ints (c1.getD default).2.2.2.2.2.2.1 .u8 v2])), (5, .mem true 5 (some 0) (.flat [.ints (c1.getD default).2.2.2.2.2.2.2.2.1 .u8 v3])), (6, .mem true 25 none (.flat [.cs [.int .i64 (c1.getD default).1, .sl 3 0 (c1.getD default).2.1 1, .sl 4 0 (c1.getD default).2.2.1 1, .sl 5 0 (c1.getD default).2.2.2.1 1]]))], 7⟩) (.exit 2) (fun v3 hv => ?_) (fun hxs30 => ?_)
        · subst hv; clear hl
          refine rInHit ?_
          refine rInNormal ?_
          refine rThen ?_
          refine zReg md0 hX rfl rfl rfl ?_
          refine rRound ?_
          refine rSeq ?_
          refine rSeq ?_
          refine zReg md0 hX rfl rfl rfl ?_
          refine rThen ?_
          refine rCondF rfl rfl (by (repeat' first | exact True.intro | with_reducible assumption | (with_reducible apply And.intro) | intro _) <;> first | assumption | exact rfl | omega | exact Nat.le_of_ble_eq_true rfl | exact selF (by assumption) | exact selT (by assumption) | exact And.intro rfl rfl | exact And.intro (by assumption) rfl | exact And.intro (by omega) rfl | (simp only [inK] at *; omega) | (simp_all [sel] <;> fail) | fail) rfl ?_
          refine rExit ?_
          refine rThenExit ?_
          refine rThenExit ?_
          refine rInHit ?_
          refine rThen ?_
          refine rSeq ?_
          refine zReg md0 hX rfl rfl rfl ?_
          refine rThen ?_
          refine rRet ?_
          replace hT := sIf hT; obtain ⟨⟨p1, p2, p3⟩, hT⟩ := hT
          refine rFreezeQ 3 (.int .u8) v1 [(4, .v (.c (.ptr 2 0 0 0 0 0)))] [(2, .mem true 25 none (.flat [.cs [.int .i64 (c1.getD default).1, .fz (.int .u8) v1, .sl 4 0 (c1.getD default).2.2.1 1, .sl 5 0 (c1.getD default).2.2.2.1 1]])), (4, .mem true 5 (some 0) (.flat [.ints (c1.getD default).2.2.2.2.2.2.1 .u8 v2])), (5, .mem true 5 (some 0) (.flat [.ints (c1.getD default).2.2.2.2.2.2.2.2.1 .u8 v3]))] rfl rfl (by (repeat' first | exact True.intro | exact rfl | apply And.intro) <;> first | assumption | rfl) (by (repeat' first | exact True.intro | exact rfl | apply And.intro) <;> first | assumption | rfl) ?_
          refine rFreezeQ 4 (.int .u8) v2 [(4, .v (.c (.ptr 2 0 0 0 0 0)))] [(2, .mem true 25 none (.flat [.cs [.int .i64 (c1.getD default).1, .fz (.int .u8) v1, .fz (.int .u8) v2, .sl 5 0 (c1.getD default).2.2.2.1 1]])), (5, .mem true 5 (some 0) (.flat [.ints (c1.getD default).2.2.2.2.2.2.2.2.1 .u8 v3]))] rfl rfl (by (repeat' first | exact True.intro | exact rfl | apply And.intro) <;> first | assumption | rfl) (by (repeat' first | exact True.intro | exact rfl | apply And.intro) <;> first | assumption | rfl) ?_
          refine rFreezeQ 5 (.int .u8) v3 [(4, .v (.c (.ptr 2 0 0 0 0 0)))] [(2, .mem true 25 none (.flat [.cs [.int .i64 (c1.getD default).1, .fz (.int .u8) v1, .fz (.int .u8) v2, .fz (.int .u8) v3]]))] rfl rfl (by (repeat' first | exact True.intro | exact rfl | apply And.intro) <;> first | assumption | rfl) (by (repeat' first | exact True.intro | exact rfl | apply And.intro) <;> first | assumption | rfl) ?_
          refine rPackE 2 rfl rfl ?_
          have hy := Option.some.inj hT; subst hy
          exact zEnd0 hX rfl
        refine rLoopM (ref34_Add_b1 N a2 a4 c1) (fun s3 => ⟨[(2, .v (.c (.ptr 0 0 0 0 0 0))), (3, .v (.c (.ptr 1 0 0 0 0 0))), (4, .v (.c (.ptr 2 0 0 0 0 0))), (5, .v (.c (.ptr 6 0 0 0 0 0))), (6, .v (.c (.int .i64 2))), (7, .v (.c (.int .i64 s3.1)))], [(0, .mem true 25 none (.flat [.cs [.int .i64 a1], .fzs 3 (.int .u8) a2])), (1, .mem true 64 none (.flat [.cs [.int .i64 a3], .fzs 3 (.int .i64) a4])), (2, .mem true 25 none (.flat [.cs [.int .i64 0, .val (.slice none 0 0), .val (.slice none 0 0), .val (.slice none 0 0)]])), (3, .mem true 5 (some 0) (.flat [.ints (c1.getD default).2.2.2.2.1 .u8 v1])), (4, .mem true 5 (some 0) (.flat [.ints (c1.getD default).2.2.2.2.2.2.1 .u8 v2])), (5, .mem true 5 (some 0) (.flat [.ints (c1.getD default).2.2.2.2.2.2.2.2.1 .u8 s3.2])), (6, .mem true 25 none (.flat [.cs [.int .i64 (c1.getD default).1, .sl 3 0 (c1.getD default).2.1 1, .sl 4 0 (c1.getD default).2.2.1 1, .sl 5 0 (c1.getD default).2.2.2.1 1]]))], 7⟩) hl (To.mk' [] 0 hε rfl (by repeat' first | exact True.intro | exact rfl | apply And.intro) (by repeat' first | exact True.intro | exact rfl | apply And.intro)) (fun s3 zs3 NNs3 hz hnexts3 houts3 => ?_)
        clear hl hT
        have hT := hz; clear hz
        refine rSeq ?_
        refine rSeq ?_
        refine zReg md0 hX rfl rfl rfl ?_
        refine rThen ?_
        refine zCond rfl rfl (fun hc => ?_) (fun hc => ?_)
        · replace hT := sT hc hT
          refine rSkip ?_
          refine rThen ?_
          refine rSeq ?_
          refine rBlock ?_
          let c2 := (ref01_Clip N (((a2.getD 2 []).getD (s3.1).toNat 0) + ((a4.getD 2 []).getD (s3.1).toNat 0)) 0 255)
          replace hT := sIf hT; obtain ⟨⟨o1, o2, o3, o4, o5, o6, o7, o8, o9⟩, hT⟩ := hT
          refine zDraw md0 1 [24] hX mixed rfl rfl rfl rfl rfl ?_
          refine rInNormal ?_
          refine rThen ?_
          replace hT := sIf hT; obtain ⟨o1, hT⟩ := hT
          refine zReg md0 hX rfl rfl rfl ?_
          exact hnexts3 _ (Option.some.inj hT).symm _ (To.mk' [] 0 hε rfl (by repeat' first | exact True.intro | exact rfl | apply And.intro) (by repeat' first | exact True.intro | exact rfl | apply And.intro))
        · replace hT := sF hc hT
          refine rExit ?_
          refine rThenExit ?_
          refine rThenExit ?_
          exact zTo [] 0 hε (hxs30 _ (houts3 _ (Option.some.inj hT).symm))
      refine rLoopM (ref34_Add_b2 N a2 a4 c1) (fun s2 => ⟨[(2, .v (.c (.ptr 0 0 0 0 0 0))), (3, .v (.c (.ptr 1 0 0 0 0 0))), (4, .v (.c (.ptr 2 0 0 0 0 0))), (5, .v (.c (.ptr 6 0 0 0 0 0))), (6, .v (.c (.int .i64 1))), (7, .v (.c (.int .i64 s2.1)))], [(0, .mem true 25 none (.flat [.cs [.int .i64 a1], .fzs 3 (.int .u8) a2])), (1, .mem true 64 none (.flat [.cs [.int .i64 a3], .fzs 3 (.int .i64) a4])), (2, .mem true 25 none (.flat [.cs [.int .i64 0, .val (.slice none 0 0), .val (.slice none 0 0), .val (.slice none 0 0)]])), (3, .mem true 5 (some 0) (.flat [.ints (c1.getD default).2.2.2.2.1 .u8 v1])), (4, .mem true 5 (some 0) (.flat [.ints (c1.getD default).2.2.2.2.2.2.1 .u8 s2.2])), (5, .mem true 5 (some 0) (.flat [.ints (c1.getD default).2.2.2.2.2.2.2.2.1 .u8 (c1.getD default).2.2.2.2.2.2.2.2.2])), (6, .mem true 25 none (.flat [.cs [.int .i64 (c1.getD default).1, .sl 3 0 (c1.getD default).2.1 1, .sl 4 0 (c1.getD default).2.2.1 1, .sl 5 0 (c1.getD default).2.2.2.1 1]]))], 7⟩) hl (To.mk' [] 0 hε rfl (by repeat' first | exact True.intro | exact rfl | apply And.intro) (by repeat' first | exact True.intro | exact rfl | apply And.intro)) (fun s2 zs2 NNs2 hz hnexts2 houts2 => ?_)
      clear hl hT
      have hT := hz; clear hz
      refine rSeq ?_
      refine rSeq ?_
      refine zReg md0 hX rfl rfl rfl ?_
      refine rThen ?_
      refine zCond rfl rfl (fun hc => ?_) (fun hc => ?_)
      · replace hT := sT hc hT
        refine rSkip ?_
        refine rThen ?_
        refine rSeq ?_
        refine rBlock ?_
        let c3 := (ref01_Clip N (((a2.getD 1 []).getD (s2.1).toNat 0) + ((a4.getD 1 []).getD (s2.1).toNat 0)) 0 255)
        replace hT := sIf hT; obtain ⟨⟨o1, o2, o3, o4, o5, o6, o7, o8, o9⟩, hT⟩ := hT
        refine zDraw md0 1 [24] hX mixed rfl rfl rfl rfl rfl ?_
        refine rInNormal ?_
        refine rThen ?_
        replace hT := sIf hT; obtain ⟨o1, hT⟩ := hT
        refine zReg md0 hX rfl rfl rfl ?_
        exact hnexts2 _ (Option.some.inj hT).symm _ (To.mk' [] 0 hε rfl (by repeat' first | exact True.intro | exact rfl | apply And.intro) (by repeat' first | exact True.intro | exact rfl | apply And.intro))
      · replace hT := sF hc hT
        refine rExit ?_
        refine rThenExit ?_
        refine rThenExit ?_
        exact zTo [] 0 hε (hxs20 _ (houts2 _ (Option.some.inj hT).symm))
    refine rLoopM (ref34_Add_b3 N a2 a4 c1) (fun s1 => ⟨[(2, .v (.c (.ptr 0 0 0 0 0 0))), (3, .v (.c (.ptr 1 0 0 0 0 0))), (4, .v (.c (.ptr 2 0 0 0 0 0))), (5, .v (.c (.ptr 6 0 0 0 0 0))), (6, .v (.c (.int .i64 0))), (7, .v (.c (.int .i64 s1.1)))], [(0, .mem true 25 none (.flat [.cs [.int .i64 a1], .fzs 3 (.int .u8) a2])), (1, .mem true 64 none (.flat [.cs [.int .i64 a3], .fzs 3 (.int .i64) a4])), (2, .mem true 25 none (.flat [.cs [.int .i64 0, .val (.slice none 0 0), .val (.slice none 0 0), .val (.slice none 0 0)]])), (3, .mem true 5 (some 0) (.flat [.ints (c1.getD default).2.2.2.2.1 .u8 s1.2])), (4, .mem true 5 (some 0) (.flat [.ints (c1.getD default).2.2.2.2.2.2.1 .u8 (c1.getD default).2.2.2.2.2.2.2.1])), (5, .mem true 5 (some 0) (.flat [.ints (c1.getD default).2.2.2.2.2.2.2.2.1 .u8 (c1.getD default).2.2.2.2.2.2.2.2.2])), (6, .mem true 25 none (.flat [.cs [.int .i64 (c1.getD default).1, .sl 3 0 (c1.getD default).2.1 1, .sl 4 0 (c1.getD default).2.2.1 1, .sl 5 0 (c1.getD default).2.2.2.1 1]]))], 7⟩) hl (To.mk' [] 0 hε rfl (by repeat' first | exact True.intro | exact rfl | apply And.intro) (by repeat' first | exact True.intro | exact rfl | apply And.intro)) (fun s1 zs1 NNs1 hz hnexts1 houts1 => ?_)
    clear hl hT
    have hT := hz; clear hz
    refine rSeq ?_
    refine rSeq ?_
    refine zReg md0 hX rfl rfl rfl ?_
    refine rThen ?_
    refine zCond rfl rfl (fun hc => ?_) (fun hc => ?_)
    · replace hT := sT hc hT
      refine rSkip ?_
      refine rThen ?_
      refine rSeq ?_
      refine rBlock ?_
      let c4 := (ref01_Clip N (((a2.getD 0 []).getD (s1.1).toNat 0) + ((a4.getD 0 []).getD (s1.1).toNat 0)) 0 255)
      replace hT := sIf hT; obtain ⟨⟨o1, o2, o3, o4, o5, o6, o7, o8, o9⟩, hT⟩ := hT
      refine zDraw md0 1 [24] hX mixed rfl rfl rfl rfl rfl ?_
      refine rInNormal ?_
      refine rThen ?_
      replace hT := sIf hT; obtain ⟨o1, hT⟩ := hT
      refine zReg md0 hX rfl rfl rfl ?_
      exact hnexts1 _ (Option.some.inj hT).symm _ (To.mk' [] 0 hε rfl (by repeat' first | exact True.intro | exact rfl | apply And.intro) (by repeat' first | exact True.intro | exact rfl | apply And.intro))
    · replace hT := sF hc hT
      refine rExit ?_
      refine rThenExit ?_
      refine rThenExit ?_
      exact zTo [] 0 hε (hxs10 _ (houts1 _ (Option.some.inj hT).symm))
  · cases h
def ref17_Place (N : Nat) (a1 : Int) (a2 : Int) (a3 : Int) (a4 : Int) : Option (Int × Int × Int) :=
  let c1 := (ref16_Across N a1)
  if c1.isSome = true ∧ (0 : Int) ≤ a2 ∧ (0 : Int) < (c1.getD default) then
    let c2 := (ref16_Across N a1)
    if c2.isSome = true ∧ (0 : Int) ≤ a2 ∧ (0 : Int) < (c2.getD default) then
      bif (decide (a3 < 4)) then
        if inK .i64 ((16 : Int) * (a2 % (c1.getD default))) ∧ (0 : Int) ≤ a3 ∧ inK .i64 ((8 : Int) * (a3 % 2)) ∧ inK .i64 (((16 : Int) * (a2 % (c1.getD default))) + ((8 : Int) * (a3 % 2))) ∧ (0 : Int) ≤ a4 ∧ inK .i64 ((((16 : Int) * (a2 % (c1.getD default))) + ((8 : Int) * (a3 % 2))) + (a4 % 8)) ∧ inK .i64 ((16 : Int) * (a2 / (c2.getD default))) ∧ inK .i64 ((8 : Int) * (a3 / 2)) ∧ inK .i64 (((16 : Int) * (a2 / (c2.getD default))) + ((8 : Int) * (a3 / 2))) ∧ inK .i64 ((((16 : Int) * (a2 / (c2.getD default))) + ((8 : Int) * (a3 / 2))) + (a4 / 8)) then
          some (0, ((((16 : Int) * (a2 % (c1.getD default))) + ((8 : Int) * (a3 % 2))) + (a4 % 8)), ((((16 : Int) * (a2 / (c2.getD default))) + ((8 : Int) * (a3 / 2))) + (a4 / 8)))
        else none
      else
        if inK .i64 (a3 - 3) ∧ inK .i64 ((8 : Int) * (a2 % (c1.getD default))) ∧ (0 : Int) ≤ a4 ∧ inK .i64 (((8 : Int) * (a2 % (c1.getD default))) + (a4 % 8)) ∧ inK .i64 ((8 : Int) * (a2 / (c2.getD default))) ∧ inK .i64 (((8 : Int) * (a2 / (c2.getD default))) + (a4 / 8)) then
          some ((a3 - 3), (((8 : Int) * (a2 % (c1.getD default))) + (a4 % 8)), (((8 : Int) * (a2 / (c2.getD default))) + (a4 / 8)))
        else none
    else none
  else none
def sp_ref17_Place (N : Nat) : X.Spec := fun args lk => match args with
  | [.v (.c (.int .i64 a1)), .v (.c (.int .i64 a2)), .v (.c (.int .i64 a3)), .v (.c (.int .i64 a4))] => some ⟨(ref17_Place N a1 a2 a3 a4).isSome = true, .tup [.c (.int .i64 ((ref17_Place N a1 a2 a3 a4).getD default).1), .c (.int .i64 ((ref17_Place N a1 a2 a3 a4).getD default).2.1), .c (.int .i64 ((ref17_Place N a1 a2 a3 a4).getD default).2.2)], [], []⟩
  | _ => none
set_option maxRecDepth 100000 in
set_option maxHeartbeats 1000000 in
theorem ok_ref17_Place (N : Nat) : FnOK Try.prog gt0 59 (sp_ref17_Place N) := by
  refine fnOK_handed Try.func59 rfl (by kernel_rfl) tt_ok (ktCons (ok_ref16_Across N) (ktNil)) ?_
  intro args lk r h hp
  unfold sp_ref17_Place at h
  split at h
  · rename_i a1 a2 a3 a4
    cases h
    obtain ⟨x, hx⟩ := Option.isSome_iff_exists.1 hp
    simp only [hx, Option.getD_some]
    refine hand0 rfl rfl (fun w0 M ε0 hX => ?_)
    refine rCount (fun hε => ?_)
    have hT : ref17_Place N a1 a2 a3 a4 = some x := hx; clear hx hp; unfold ref17_Place at hT
    refine rSeq ?_
    refine zReg md0 hX rfl rfl rfl ?_
    refine rThen ?_
    refine rSeq ?_
    let c1 := (ref16_Across N a1)
    replace hT := sIf hT; obtain ⟨⟨o1, o2, o3⟩, hT⟩ := hT
    refine zReg md0 hX rfl rfl rfl ?_
    refine rThen ?_
    refine rSeq ?_
    let c2 := (ref16_Across N a1)
    replace hT := sIf hT; obtain ⟨⟨o1, o2, o3⟩, hT⟩ := hT
    refine zReg md0 hX rfl rfl rfl ?_
    refine rThen ?_
    refine rSeq ?_
    refine rSeq ?_
    refine zReg md0 hX rfl rfl rfl ?_
    refine rThen ?_
    refine zCond rfl rfl (fun hc => ?_) (fun hc => ?_)
    · replace hT := sT hc hT
      refine rSeq ?_
      replace hT := sIf hT; obtain ⟨⟨o1, o2, o3, o4, o5, o6, o7, o8, o9, o10⟩, hT⟩ := hT
      refine zReg md0 hX rfl rfl rfl ?_
      refine rThen ?_
      refine rRet ?_
      refine rThenRet ?_
      have hy := Option.some.inj hT; subst hy
      exact zEnd0 hX rfl
    · replace hT := sF hc hT
      refine rSkip ?_
      refine rThen ?_
      refine rSeq ?_
      replace hT := sIf hT; obtain ⟨⟨o1, o2, o3, o4, o5, o6⟩, hT⟩ := hT
      refine zReg md0 hX rfl rfl rfl ?_
      refine rThen ?_
      refine rRet ?_
      have hy := Option.some.inj hT; subst hy
      exact zEnd0 hX rfl
  · cases h
def ref17_At (N : Nat) (a1 : Int) (a2 : (List (List Int))) (a3 : Int) (a4 : Int) (a5 : Int) : Option Int :=
  let c1 := (ref17_Wide N a1 a3)
  if (0 : Int) ≤ a3 ∧ a3 < 3 ∧ (a3).toNat < 3 ∧ c1.isSome = true ∧ inK .i64 (a5 * (c1.getD default)) ∧ inK .i64 ((a5 * (c1.getD default)) + a4) ∧ (0 : Int) ≤ ((a5 * (c1.getD default)) + a4) ∧ ((a5 * (c1.getD default)) + a4) < ((a2.getD (a3).toNat []).length : Int) ∧ inK .i64 ((a2.getD (a3).toNat []).getD ((a5 * (c1.getD default)) + a4).toNat 0) then
    some ((a2.getD (a3).toNat []).getD ((a5 * (c1.getD default)) + a4).toNat 0)
  else none
def sp_ref17_At (N : Nat) : X.Spec := fun args lk => match args with
  | [.v (.agg [.cs [.int .i64 a1], .fzs 3 (.int .u8) a2]), .v (.c (.int .i64 a3)), .v (.c (.int .i64 a4)), .v (.c (.int .i64 a5))] => some ⟨(ref17_At N a1 a2 a3 a4 a5).isSome = true, .v (.c (.int .i64 ((ref17_At N a1 a2 a3 a4 a5).getD default))), [], []⟩
  | _ => none
set_option maxRecDepth 100000 in
set_option maxHeartbeats 1000000 in
theorem ok_ref17_At (N : Nat) : FnOK Try.prog gt0 69 (sp_ref17_At N) := by
  refine fnOK_handed Try.func69 rfl (by kernel_rfl) tt_ok (ktCons (ok_ref17_Wide N) (ktNil)) ?_
  intro args lk r h hp
  unfold sp_ref17_At at h
  split at h
  · rename_i a1 a2 a3 a4 a5
    change (List (List Int)) at a2
    cases h
    obtain ⟨x, hx⟩ := Option.isSome_iff_exists.1 hp
    simp only [hx, Option.getD_some]
    refine hand0 rfl rfl (fun w0 M ε0 hX => ?_)
    refine rCount (fun hε => ?_)
    have hT : ref17_At N a1 a2 a3 a4 a5 = some x := hx; clear hx hp; unfold ref17_At at hT
    refine rSeq ?_
    refine zReg md0 hX rfl rfl rfl ?_
    refine rThen ?_
    refine rSeq ?_
    let c1 := (ref17_Wide N a1 a3)
    replace hT := sIf hT; obtain ⟨⟨o1, o2, o3, o4, o5, o6, o7, o8, o9⟩, hT⟩ := hT
    refine zDraw md0 0 [] hX mixed rfl rfl rfl rfl rfl ?_
    refine rThen ?_
    refine rRet ?_
    have hy := Option.some.inj hT; subst hy
    exact zEnd0 hX rfl
  · cases h
def ref18_At_b1 (N : Nat) (a1 : Int) (a2 : (List (List Int))) (a3 : Int) (a4 : Int) (a5 : Int) (s1 : (Int × Int)) : Option ((Int × Int) ⊕ Int) :=
  bif (decide (s1.2 < 4)) then
    let c1 := (ref17_At N a1 a2 a3 ((a4 / 2) + ((a4 % 2) * (s1.2 % 2))) ((a5 / 2) + ((a5 % 2) * (s1.2 / 2))))
    if (0 : Int) ≤ a4 ∧ (0 : Int) ≤ s1.2 ∧ inK .i64 ((a4 % 2) * (s1.2 % 2)) ∧ inK .i64 ((a4 / 2) + ((a4 % 2) * (s1.2 % 2))) ∧ (0 : Int) ≤ a5 ∧ inK .i64 ((a5 % 2) * (s1.2 / 2)) ∧ inK .i64 ((a5 / 2) + ((a5 % 2) * (s1.2 / 2))) ∧ c1.isSome = true ∧ inK .i64 (s1.1 + (c1.getD default)) then
      if inK .i64 (s1.2 + 1) then
        some (.inl ((s1.1 + (c1.getD default)), (s1.2 + 1)))
      else none
    else none
  else
    some (.inr s1.1)
def ref18_At (N : Nat) (a1 : Int) (a2 : (List (List Int))) (a3 : Int) (a4 : Int) (a5 : Int) : Option Int :=
  if (0 : Int) ≤ a4 then
    if (0 : Int) ≤ a5 then
      (iter (ref18_At_b1 N a1 a2 a3 a4 a5) N (0, 0)).bind fun v1 =>
        if inK .i64 (v1 + 2) ∧ (0 : Int) ≤ (v1 + 2) then
          some ((v1 + 2) / 4)
        else none
    else none
  else none
def sp_ref18_At (N : Nat) : X.Spec := fun args lk => match args with
  | [.v (.agg [.cs [.int .i64 a1], .fzs 3 (.int .u8) a2]), .v (.c (.int .i64 a3)), .v (.c (.int .i64 a4)), .v (.c (.int .i64 a5))] => some ⟨(ref18_At N a1 a2 a3 a4 a5).isSome = true, .v (.c (.int .i64 ((ref18_At N a1 a2 a3 a4 a5).getD default))), [], []⟩
  | _ => none
set_option maxRecDepth 100000 in
set_option maxHeartbeats 1000000 in
theorem ok_ref18_At (N : Nat) : FnOK Try.prog gt0 60 (sp_ref18_At N) := by
  refine fnOK_handed Try.func60 rfl (by kernel_rfl) tt_ok (ktCons (ok_ref17_At N) (ktNil)) ?_
  intro args lk r h hp
  unfold sp_ref18_At at h
  split at h
  · rename_i a1 a2 a3 a4 a5
    change (List (List Int)) at a2
    cases h
    obtain ⟨x, hx⟩ := Option.isSome_iff_exists.1 hp
    simp only [hx, Option.getD_some]
    refine hand0 rfl rfl (fun w0 M ε0 hX => ?_)
    refine rCount (fun hε => ?_)
    have hT : ref18_At N a1 a2 a3 a4 a5 = some x := hx; clear hx hp; unfold ref18_At at hT
    refine rSeq ?_
    refine zReg md0 hX rfl rfl rfl ?_
    refine rThen ?_
    refine rSeq ?_
    replace hT := sIf hT; obtain ⟨o1, hT⟩ := hT
    refine zReg md0 hX rfl rfl rfl ?_
    refine rThen ?_
    refine rSeq ?_
    replace hT := sIf hT; obtain ⟨o1, hT⟩ := hT
    refine zReg md0 hX rfl rfl rfl ?_
    refine rThen ?_
    refine rSeq ?_
    refine zReg md0 hX rfl rfl rfl ?_
    refine rThen ?_
    refine rSeq ?_
    refine rSeq ?_
    refine zReg md0 hX rfl rfl rfl ?_
    refine rThen ?_
    refine rBlock ?_
    replace hT := sBind hT; obtain ⟨w1, hl, hT⟩ := hT
    refine rJoinA (fun v1 => v1 = w1) (fun v1 => ⟨[(8, .v (.c (.int .i64 0))), (11, .v (.c (.int .i64 v1)))], [], 1⟩) (.exit 0) (fun v1 hv => ?_) (fun hxs10 => ?_)
    · subst hv; clear hl
      refine rInHit ?_
      refine rThen ?_
      refine rSeq ?_
      replace hT := sIf hT; obtain ⟨⟨o1, o2⟩, hT⟩ := hT
      refine zReg md0 hX rfl rfl rfl ?_
      refine rThen ?_
      refine rRet ?_
      have hy := Option.some.inj hT; subst hy
      exact zEnd0 hX rfl
    refine rLoopM (ref18_At_b1 N a1 a2 a3 a4 a5) (fun s1 => ⟨[(1, .v (.c (.int .i64 a3))), (2, .v (.c (.int .i64 a4))), (3, .v (.c (.int .i64 a5))), (4, .v (.c (.ptr 0 0 0 0 0 0))), (8, .v (.c (.int .i64 0))), (9, .v (.c (.int .i64 (a4 / 2)))), (10, .v (.c (.int .i64 (a5 / 2)))), (11, .v (.c (.int .i64 s1.1))), (12, .v (.c (.int .i64 s1.2)))], [(0, .mem true 25 none (.flat [.cs [.int .i64 a1], .fzs 3 (.int .u8) a2]))], 1⟩) hl (To.mk' [] 0 hε rfl (by repeat' first | exact True.intro | exact rfl | apply And.intro) (by repeat' first | exact True.intro | exact rfl | apply And.intro)) (fun s1 zs1 NNs1 hz hnexts1 houts1 => ?_)
    clear hl hT
    have hT := hz; clear hz
    refine rSeq ?_
    refine rSeq ?_
    refine zReg md0 hX rfl rfl rfl ?_
    refine rThen ?_
    refine zCond rfl rfl (fun hc => ?_) (fun hc => ?_)
    · replace hT := sT hc hT
      refine rSkip ?_
      refine rThen ?_
      refine rSeq ?_
      refine rBlock ?_
      let c1 := (ref17_At N a1 a2 a3 ((a4 / 2) + ((a4 % 2) * (s1.2 % 2))) ((a5 / 2) + ((a5 % 2) * (s1.2 / 2))))
      replace hT := sIf hT; obtain ⟨⟨o1, o2, o3, o4, o5, o6, o7, o8, o9⟩, hT⟩ := hT
      refine zReg md0 hX rfl rfl rfl ?_
      refine rInNormal ?_
      refine rThen ?_
      replace hT := sIf hT; obtain ⟨o1, hT⟩ := hT
      refine zReg md0 hX rfl rfl rfl ?_
      exact hnexts1 _ (Option.some.inj hT).symm _ (To.mk' [] 0 hε rfl (by repeat' first | exact True.intro | exact rfl | apply And.intro) (by repeat' first | exact True.intro | exact rfl | apply And.intro))
    · replace hT := sF hc hT
      refine rExit ?_
      refine rThenExit ?_
      refine rThenExit ?_
      exact zTo [] 0 hε (hxs10 _ (houts1 _ (Option.some.inj hT).symm))
  · cases h
def ref18_Chroma_v1_b1 (N : Nat) (c1 : (Option Int)) (s1 : Int) : Option (Int ⊕ Int) :=
  if (0 : Int) ≤ s1 ∧ inK .i64 ((4 : Int) * (s1 / 2)) ∧ inK .i64 (((4 : Int) * (s1 / 2)) + 4) then
    bif (decide ((((4 : Int) * (s1 / 2)) + 4) ≤ (c1.getD default))) then
      if inK .i64 (s1 + 2) then
        some (.inl (s1 + 2))
      else none
    else
      some (.inr s1)
  else none
def ref18_Chroma_v1 (N : Nat) (a1 : Int) : Option Int :=
  let c1 := (ref01_Clip N a1 (-64) 64)
  if c1.isSome = true then
    bif (decide ((c1.getD default) < 0)) then
      none
    else
      (iter (ref18_Chroma_v1_b1 N c1) N 0).bind fun v1 =>
        if (0 : Int) ≤ (c1.getD default) then
          if ((decide (((c1.getD default) % 4) ≠ 0)) = true → inK .i64 (v1 + 1)) then
            some (bif (decide (((c1.getD default) % 4) ≠ 0)) then (v1 + 1) else v1)
          else none
        else none
  else none
def sp_ref18_Chroma_v1 (N : Nat) : X.Spec := fun args lk => match args with
  | [.v (.c (.int .i64 a1))] => some ⟨(ref18_Chroma_v1 N a1).isSome = true, .v (.c (.int .i64 ((ref18_Chroma_v1 N a1).getD default))), [], []⟩
  | _ => none
set_option maxRecDepth 100000 in
set_option maxHeartbeats 1000000 in
theorem ok_ref18_Chroma_v1 (N : Nat) : FnOK Try.prog gt0 61 (sp_ref18_Chroma_v1 N) := by
  refine fnOK_handed Try.func61 rfl (by kernel_rfl) tt_ok (ktCons (ok_ref01_Clip N) (ktNil)) ?_
  intro args lk r h hp
  unfold sp_ref18_Chroma_v1 at h
  split at h
  · rename_i a1
    cases h
    obtain ⟨x, hx⟩ := Option.isSome_iff_exists.1 hp
    simp only [hx, Option.getD_some]
    refine hand0 rfl rfl (fun w0 M ε0 hX => ?_)
    refine rCount (fun hε => ?_)
    have hT : ref18_Chroma_v1 N a1 = some x := hx; clear hx hp; unfold ref18_Chroma_v1 at hT
    refine rSeq ?_
    refine zReg md0 hX rfl rfl rfl ?_
    refine rThen ?_
    refine rSeq ?_
    let c1 := (ref01_Clip N a1 (-64) 64)
    replace hT := sIf hT; obtain ⟨o1, hT⟩ := hT
    refine zReg md0 hX rfl rfl rfl ?_
    refine rThen ?_
    refine rSeq ?_
    refine rSeq ?_
    refine zReg md0 hX rfl rfl rfl ?_
    refine rThen ?_
    refine zCond rfl rfl (fun hc => ?_) (fun hc => ?_)
    · replace hT := sT hc hT
      refine rSeq ?_
      cases hT
    · replace hT := sF hc hT
      refine rSkip ?_
      refine rThen ?_
      refine rSeq ?_
      refine zReg md0 hX rfl rfl rfl ?_
      refine rThen ?_
      refine rSeq ?_
      refine rBlock ?_
      replace hT := sBind hT; obtain ⟨w1, hl, hT⟩ := hT
      refine rJoinA (fun v1 => v1 = w1) (fun v1 => ⟨[(0, .v (.c (.int .i64 (c1.getD default)))), (2, .v (.c (.int .i64 0))), (3, .v (.c (.int .i64 v1)))], [], 0⟩) (.exit 0) (fun v1 hv => ?_) (fun hxs10 => ?_)
      · subst hv; clear hl
        refine rInHit ?_
        refine rThen ?_
        refine rSeq ?_
        refine rSeq ?_
        replace hT := sIf hT; obtain ⟨o1, hT⟩ := hT
        refine zReg md0 hX rfl rfl rfl ?_
        refine rThen ?_
        replace hT := sIf hT; obtain ⟨q1, hT⟩ := hT
        refine rJoin ⟨[(2, .v (.c (.int .i64 0))), (3, .v (.c (.int .i64 (bif (decide (((c1.getD default) % 4) ≠ 0)) then (v1 + 1) else v1))))], [], 0⟩ ?_ (fun hj => ?_)
        · skip
          refine rThen ?_
          refine rSeq ?_
          refine zReg md0 hX rfl rfl rfl ?_
          refine rThen ?_
          refine rRet ?_
          have hy := Option.some.inj hT; subst hy
          exact zEnd0 hX rfl
        · clear hT
          refine zCond rfl rfl (fun hc => ?_) (fun hc => ?_)
          · skip
            have q1 := q1 hc
            refine zReg md0 hX rfl rfl rfl ?_
            exact rTo (To.mk' [] 0 hε rfl (by (repeat' first | exact True.intro | exact rfl | apply And.intro) <;> (repeat' first | exact rfl | refine Eq.trans ?_ (cTr (by assumption)) | refine Eq.trans ?_ (cFr (by assumption)) | refine Eq.trans (cTl (by assumption)) ?_ | refine Eq.trans (cFl (by assumption)) ?_)) (by (repeat' first | exact True.intro | exact rfl | apply And.intro) <;> (repeat' first | exact rfl | refine Eq.trans ?_ (cTr (by assumption)) | refine Eq.trans ?_ (cFr (by assumption)) | refine Eq.trans (cTl (by assumption)) ?_ | refine Eq.trans (cFl (by assumption)) ?_))) hj
          · skip
            refine rSkip ?_
            exact rTo (To.mk' [] 0 hε rfl (by (repeat' first | exact True.intro | exact rfl | apply And.intro) <;> (repeat' first | exact rfl | refine Eq.trans ?_ (cTr (by assumption)) | refine Eq.trans ?_ (cFr (by assumption)) | refine Eq.trans (cTl (by assumption)) ?_ | refine Eq.trans (cFl (by assumption)) ?_)) (by (repeat' first | exact True.intro | exact rfl | apply And.intro) <;> (repeat' first | exact rfl | refine Eq.trans ?_ (cTr (by assumption)) | refine Eq.trans ?_ (cFr (by assumption)) | refine Eq.trans (cTl (by assumption)) ?_ | refine Eq.trans (cFl (by assumption)) ?_))) hj
      refine rLoopM (ref18_Chroma_v1_b1 N c1) (fun s1 => ⟨[(0, .v (.c (.int .i64 (c1.getD default)))), (2, .v (.c (.int .i64 0))), (3, .v (.c (.int .i64 s1)))], [], 0⟩) hl (To.mk' [] 0 hε rfl (by repeat' first | exact True.intro | exact rfl | apply And.intro) (by repeat' first | exact True.intro | exact rfl | apply And.intro)) (fun s1 zs1 NNs1 hz hnexts1 houts1 => ?_)
      clear hl hT
      have hT := hz; clear hz
      refine rSeq ?_
      refine rSeq ?_
      replace hT := sIf hT; obtain ⟨⟨o1, o2, o3⟩, hT⟩ := hT
      refine zReg md0 hX rfl rfl rfl ?_
      refine rThen ?_
      refine zCond rfl rfl (fun hc => ?_) (fun hc => ?_)
      · replace hT := sT hc hT
        refine rSkip ?_
        refine rThen ?_
        refine rBlock ?_
        replace hT := sIf hT; obtain ⟨o1, hT⟩ := hT
        refine zReg md0 hX rfl rfl rfl ?_
        refine rInNormal ?_
        exact hnexts1 _ (Option.some.inj hT).symm _ (To.mk' [] 0 hε rfl (by repeat' first | exact True.intro | exact rfl | apply And.intro) (by repeat' first | exact True.intro | exact rfl | apply And.intro))
      · replace hT := sF hc hT
        refine rExit ?_
        refine rThenExit ?_
        refine rThenExit ?_
        exact zTo [] 0 hε (hxs10 _ (houts1 _ (Option.some.inj hT).symm))
  · cases h
def ref18_Chroma_b1 (N : Nat) (c1 : (Option Int)) (s1 : Int) : Option (Int ⊕ Int) :=
  if (0 : Int) ≤ s1 ∧ inK .i64 ((4 : Int) * (s1 / 2)) ∧ inK .i64 (((4 : Int) * (s1 / 2)) + 4) then
    bif (decide ((((4 : Int) * (s1 / 2)) + 4) ≤ (c1.getD default))) then
      if inK .i64 (s1 + 2) then
        some (.inl (s1 + 2))
      else none
    else
      some (.inr s1)
  else none
def ref18_Chroma (N : Nat) (a1 : Int) : Option Int :=
  let c1 := (ref01_Clip N a1 (-64) 64)
  if c1.isSome = true then
    bif (decide ((c1.getD default) < 0)) then
      let c2 := (ref18_Chroma_v1 N (-(c1.getD default)))
      if inK .i64 (-(c1.getD default)) ∧ c2.isSome = true ∧ inK .i64 (-(c2.getD default)) then
        some (-(c2.getD default))
      else none
    else
      (iter (ref18_Chroma_b1 N c1) N 0).bind fun v1 =>
        if (0 : Int) ≤ (c1.getD default) then
          if ((decide (((c1.getD default) % 4) ≠ 0)) = true → inK .i64 (v1 + 1)) then
            some (bif (decide (((c1.getD default) % 4) ≠ 0)) then (v1 + 1) else v1)
          else none
        else none
  else none
def sp_ref18_Chroma (N : Nat) : X.Spec := fun args lk => match args with
  | [.v (.c (.int .i64 a1))] => some ⟨(ref18_Chroma N a1).isSome = true, .v (.c (.int .i64 ((ref18_Chroma N a1).getD default))), [], []⟩
  | _ => none
set_option maxRecDepth 100000 in
set_option maxHeartbeats 1000000 in
theorem ok_ref18_Chroma (N : Nat) : FnOK Try.prog gt0 61 (sp_ref18_Chroma N) := by
  refine fnOK_handed Try.func61 rfl (by kernel_rfl) tt_ok (ktCons (ok_ref18_Chroma_v1 N) (ktCons (ok_ref01_Clip N) (ktNil))) ?_
  intro args lk r h hp
  unfold sp_ref18_Chroma at h
  split at h
  · rename_i a1
    cases h
    obtain ⟨x, hx⟩ := Option.isSome_iff_exists.1 hp
    simp only [hx, Option.getD_some]
    refine hand0 rfl rfl (fun w0 M ε0 hX => ?_)
    refine rCount (fun hε => ?_)
    have hT : ref18_Chroma N a1 = some x := hx; clear hx hp; unfold ref18_Chroma at hT
    refine rSeq ?_
    refine zReg md0 hX rfl rfl rfl ?_
    refine rThen ?_
    refine rSeq ?_
    let c1 := (ref01_Clip N a1 (-64) 64)
    replace hT := sIf hT; obtain ⟨o1, hT⟩ := hT
    refine zReg md0 hX rfl rfl rfl ?_
    refine rThen ?_
    refine rSeq ?_
    refine rSeq ?_
    refine zReg md0 hX rfl rfl rfl ?_
    refine rThen ?_
    refine zCond rfl rfl (fun hc => ?_) (fun hc => ?_)
    · replace hT := sT hc hT
      refine rSeq ?_
      let c2 := (ref18_Chroma_v1 N (-(c1.getD default)))
      replace hT := sIf hT; obtain ⟨⟨o1, o2, o3⟩, hT⟩ := hT
      refine zReg md0 hX rfl rfl rfl ?_
      refine rThen ?_
      refine rRet ?_
      refine rThenRet ?_
      have hy := Option.some.inj hT; subst hy
      exact zEnd0 hX rfl
    · replace hT := sF hc hT
      refine rSkip ?_
      refine rThen ?_
      refine rSeq ?_
      refine zReg md0 hX rfl rfl rfl ?_
      refine rThen ?_
      refine rSeq ?_
      refine rBlock ?_
      replace hT := sBind hT; obtain ⟨w1, hl, hT⟩ := hT
      refine rJoinA (fun v1 => v1 = w1) (fun v1 => ⟨[(0, .v (.c (.int .i64 (c1.getD default)))), (2, .v (.c (.int .i64 0))), (3, .v (.c (.int .i64 v1)))], [], 0⟩) (.exit 0) (fun v1 hv => ?_) (fun hxs10 => ?_)
      · subst hv; clear hl
        refine rInHit ?_
        refine rThen ?_
        refine rSeq ?_
        refine rSeq ?_
        replace hT := sIf hT; obtain ⟨o1, hT⟩ := hT
        refine zReg md0 hX rfl rfl rfl ?_
        refine rThen ?_
        replace hT := sIf hT; obtain ⟨q1, hT⟩ := hT
        refine rJoin ⟨[(2, .v (.c (.int .i64 0))), (3, .v (.c (.int .i64 (bif (decide (((c1.getD default) % 4) ≠ 0)) then (v1 + 1) else v1))))], [], 0⟩ ?_ (fun hj => ?_)
        · skip
          refine rThen ?_
          refine rSeq ?_
          refine zReg md0 hX rfl rfl rfl ?_
          refine rThen ?_
          refine rRet ?_
          have hy := Option.some.inj hT; subst hy
          exact zEnd0 hX rfl
        · clear hT
          refine zCond rfl rfl (fun hc => ?_) (fun hc => ?_)
          · skip
            have q1 := q1 hc
            refine zReg md0 hX rfl rfl rfl ?_
            exact rTo (To.mk' [] 0 hε rfl (by (repeat' first | exact True.intro | exact rfl | apply And.intro) <;> (repeat' first | exact rfl | refine Eq.trans ?_ (cTr (by assumption)) | refine Eq.trans ?_ (cFr (by assumption)) | refine Eq.trans (cTl (by assumption)) ?_ | refine Eq.trans (cFl (by assumption)) ?_)) (by (repeat' first | exact True.intro | exact rfl | apply And.intro) <;> (repeat' first | exact rfl | refine Eq.trans ?_ (cTr (by assumption)) | refine Eq.trans ?_ (cFr (by assumption)) | refine Eq.trans (cTl (by assumption)) ?_ | refine Eq.trans (cFl (by assumption)) ?_))) hj
          · skip
            refine rSkip ?_
            exact rTo (To.mk' [] 0 hε rfl (by (repeat' first | exact True.intro | exact rfl | apply And.intro) <;> (repeat' first | exact rfl | refine Eq.trans ?_ (cTr (by assumption)) | refine Eq.trans ?_ (cFr (by assumption)) | refine Eq.trans (cTl (by assumption)) ?_ | refine Eq.trans (cFl (by assumption)) ?_)) (by (repeat' first | exact True.intro | exact rfl | apply And.intro) <;> (repeat' first | exact rfl | refine Eq.trans ?_ (cTr (by assumption)) | refine Eq.trans ?_ (cFr (by assumption)) | refine Eq.trans (cTl (by assumption)) ?_ | refine Eq.trans (cFl (by assumption)) ?_))) hj
      refine rLoopM (ref18_Chroma_b1 N c1) (fun s1 => ⟨[(0, .v (.c (.int .i64 (c1.getD default)))), (2, .v (.c (.int .i64 0))), (3, .v (.c (.int .i64 s1)))], [], 0⟩) hl (To.mk' [] 0 hε rfl (by repeat' first | exact True.intro | exact rfl | apply And.intro) (by repeat' first | exact True.intro | exact rfl | apply And.intro)) (fun s1 zs1 NNs1 hz hnexts1 houts1 => ?_)
      clear hl hT
      have hT := hz; clear hz
      refine rSeq ?_
      refine rSeq ?_
      replace hT := sIf hT; obtain ⟨⟨o1, o2, o3⟩, hT⟩ := hT
      refine zReg md0 hX rfl rfl rfl ?_
      refine rThen ?_
      refine zCond rfl rfl (fun hc => ?_) (fun hc => ?_)
      · replace hT := sT hc hT
        refine rSkip ?_
        refine rThen ?_
        refine rBlock ?_
        replace hT := sIf hT; obtain ⟨o1, hT⟩ := hT
        refine zReg md0 hX rfl rfl rfl ?_
        refine rInNormal ?_
        exact hnexts1 _ (Option.some.inj hT).symm _ (To.mk' [] 0 hε rfl (by repeat' first | exact True.intro | exact rfl | apply And.intro) (by repeat' first | exact True.intro | exact rfl | apply And.intro))
      · replace hT := sF hc hT
        refine rExit ?_
        refine rThenExit ?_
        refine rThenExit ?_
        exact zTo [] 0 hε (hxs10 _ (houts1 _ (Option.some.inj hT).symm))
  · cases h
def ref18_Predict_b2 (N : Nat) (a1 : Int) (a2 : (List (List Int))) (a3 : Int) (a4 : (List Int)) (s1 : (Int × (List Int))) (s2 : (Int × (List Int))) : Option ((Int × (List Int)) ⊕ (Int × Int × Bool × (List Int))) :=
  bif (decide (s2.1 < 64)) then
    let c1 := (ref17_Place N a1 a3 s1.1 s2.1)
    if c1.isSome = true then
      let c2 := (ref18_At N a1 a2 (c1.getD default).1 (((2 : Int) * (c1.getD default).2.1) + (a4.getD 0 0)) (((2 : Int) * (c1.getD default).2.2) + (a4.getD 1 0)))
      let c3 := (ref18_Chroma N (a4.getD 0 0))
      let c4 := (ref18_Chroma N (a4.getD 1 0))
      let c5 := (ref18_At N a1 a2 (c1.getD default).1 (((2 : Int) * (c1.getD default).2.1) + (c3.getD default)) (((2 : Int) * (c1.getD default).2.2) + (c4.getD default)))
      if ((decide ((c1.getD default).1 = 0)) = true → inK .i64 ((2 : Int) * (c1.getD default).2.1)) ∧ ((decide ((c1.getD default).1 = 0)) = true → inK .i64 (((2 : Int) * (c1.getD default).2.1) + (a4.getD 0 0))) ∧ ((decide ((c1.getD default).1 = 0)) = true → inK .i64 ((2 : Int) * (c1.getD default).2.2)) ∧ ((decide ((c1.getD default).1 = 0)) = true → inK .i64 (((2 : Int) * (c1.getD default).2.2) + (a4.getD 1 0))) ∧ ((decide ((c1.getD default).1 = 0)) = true → c2.isSome = true) ∧ ((decide ((c1.getD default).1 = 0)) = true → (0 : Int) ≤ s1.1) ∧ ((decide ((c1.getD default).1 = 0)) = true → s1.1 < 6) ∧ ((decide ((c1.getD default).1 = 0)) = true → (0 : Int) ≤ s2.1) ∧ ((decide ((c1.getD default).1 = 0)) = true → s2.1 < 64) ∧ ((decide ((c1.getD default).1 = 0)) = true → ((s1.1).toNat * 64 + (s2.1).toNat) < 384) ∧ ((decide ((c1.getD default).1 = 0)) = false → inK .i64 ((2 : Int) * (c1.getD default).2.1)) ∧ ((decide ((c1.getD default).1 = 0)) = false → c3.isSome = true) ∧ ((decide ((c1.getD default).1 = 0)) = false → inK .i64 (((2 : Int) * (c1.getD default).2.1) + (c3.getD default))) ∧ ((decide ((c1.getD default).1 = 0)) = false → inK .i64 ((2 : Int) * (c1.getD default).2.2)) ∧ ((decide ((c1.getD default).1 = 0)) = false → c4.isSome = true) ∧ ((decide ((c1.getD default).1 = 0)) = false → inK .i64 (((2 : Int) * (c1.getD default).2.2) + (c4.getD default))) ∧ ((decide ((c1.getD default).1 = 0)) = false → c5.isSome = true) ∧ ((decide ((c1.getD default).1 = 0)) = false → (0 : Int) ≤ s1.1) ∧ ((decide ((c1.getD default).1 = 0)) = false → s1.1 < 6) ∧ ((decide ((c1.getD default).1 = 0)) = false → (0 : Int) ≤ s2.1) ∧ ((decide ((c1.getD default).1 = 0)) = false → s2.1 < 64) ∧ ((decide ((c1.getD default).1 = 0)) = false → ((s1.1).toNat * 64 + (s2.1).toNat) < 384) then
        let x1 := (bif (decide ((c1.getD default).1 = 0)) then (s2.2.set ((s1.1).toNat * 64 + (s2.1).toNat) (c2.getD default)) else (s2.2.set ((s1.1).toNat * 64 + (s2.1).toNat) (c5.getD default)))
        if inK .i64 (s2.1 + 1) then
          some (.inl ((s2.1 + 1), x1))
        else none
      else none
    else none
  else
    some (.inr (s2.1, s2.1, (decide (s2.1 < 64)), s2.2))
def ref18_Predict_b1 (N : Nat) (a1 : Int) (a2 : (List (List Int))) (a3 : Int) (a4 : (List Int)) (s1 : (Int × (List Int))) : Option ((Int × (List Int)) ⊕ (List Int)) :=
  bif (decide (s1.1 < 6)) then
    (iter (ref18_Predict_b2 N a1 a2 a3 a4 s1) N (0, s1.2)).bind fun v2 =>
      if inK .i64 (s1.1 + 1) then
        some (.inl ((s1.1 + 1), v2.2.2.2))
      else none
  else
    some (.inr s1.2)
def ref18_Predict (N : Nat) (a1 : Int) (a2 : (List (List Int))) (a3 : Int) (a4 : (List Int)) : Option (List Int) :=
  (iter (ref18_Predict_b1 N a1 a2 a3 a4) N (0, (List.replicate 384 0))).bind fun v1 =>
    some v1
def sp_ref18_Predict (N : Nat) : X.Spec := fun args lk => match args with
  | [.v (.agg [.cs [.int .i64 a1], .fzs 3 (.int .u8) a2]), .v (.c (.int .i64 a3)), .v (.agg [.ints 2 .i64 a4])] => some ⟨(ref18_Predict N a1 a2 a3 a4).isSome = true, .v (.agg [.ints 384 .i64 ((ref18_Predict N a1 a2 a3 a4).getD default)]), [], []⟩
  | _ => none
set_option maxRecDepth 100000 in
set_option maxHeartbeats 1000000 in
theorem ok_ref18_Predict (N : Nat) : FnOK Try.prog gt0 18 (sp_ref18_Predict N) := by
  refine fnOK_handed Try.func18 rfl (by kernel_rfl) tt_ok (ktCons (ok_ref18_Chroma N) (ktCons (ok_ref18_At N) (ktCons (ok_ref17_Place N) (ktNil)))) ?_
  intro args lk r h hp
  unfold sp_ref18_Predict at h
  split at h
  · rename_i a1 a2 a3 a4
    change (List (List Int)) at a2
    change (List Int) at a4
    cases h
    obtain ⟨x, hx⟩ := Option.isSome_iff_exists.1 hp
    simp only [hx, Option.getD_some]
    refine hand0 rfl rfl (fun w0 M ε0 hX => ?_)
    refine rCount (fun hε => ?_)
    have hT : ref18_Predict N a1 a2 a3 a4 = some x := hx; clear hx hp; unfold ref18_Predict at hT
    refine rSeq ?_
    refine zReg md0 hX rfl rfl rfl ?_
    refine rThen ?_
    refine rSeq ?_
    refine zReg md0 hX rfl rfl rfl ?_
    refine rThen ?_
    refine rSeq ?_
    refine rSeq ?_
    refine zReg md0 hX rfl rfl rfl ?_
    refine rThen ?_
    refine rBlock ?_
    replace hT := sBind hT; obtain ⟨w1, hl, hT⟩ := hT
    refine rJoinA (fun v1 => v1 = w1) (fun v1 => ⟨[(6, .v (.c (.ptr 2 0 0 0 0 0))), (7, .v (.c (.ptr 3 0 0 0 0 0)))], [(2, .mem true 31 none (.flat [.ints 384 .i64 (List.replicate 384 0)])), (3, .mem true 31 none (.flat [.ints 384 .i64 v1]))], 4⟩) (.exit 0) (fun v1 hv => ?_) (fun hxs10 => ?_)
    · subst hv; clear hl
      refine rInHit ?_
      refine rThen ?_
      refine rSeq ?_
      refine zReg md0 hX rfl rfl rfl ?_
      refine rThen ?_
      refine rRet ?_
      have hy := Option.some.inj hT; subst hy
      exact zEnd0 hX rfl
    refine rLoopM (ref18_Predict_b1 N a1 a2 a3 a4) (fun s1 => ⟨[(1, .v (.c (.int .i64 a3))), (3, .v (.c (.ptr 0 0 0 0 0 0))), (5, .v (.c (.ptr 1 0 0 0 0 0))), (6, .v (.c (.ptr 2 0 0 0 0 0))), (7, .v (.c (.ptr 3 0 0 0 0 0))), (8, .v (.c (.int .i64 s1.1)))], [(0, .mem true 25 none (.flat [.cs [.int .i64 a1], .fzs 3 (.int .u8) a2])), (1, .mem true 26 none (.flat [.ints 2 .i64 a4])), (2, .mem true 31 none (.flat [.ints 384 .i64 (List.replicate 384 0)])), (3, .mem true 31 none (.flat [.ints 384 .i64 s1.2]))], 4⟩) hl (To.mk' [] 0 hε rfl (by repeat' first | exact True.intro | exact rfl | apply And.intro) (by repeat' first | exact True.intro | exact rfl | apply And.intro)) (fun s1 zs1 NNs1 hz hnexts1 houts1 => ?_)
    clear hl hT
    have hT := hz; clear hz
    refine rSeq ?_
    refine rSeq ?_
    refine zReg md0 hX rfl rfl rfl ?_
    refine rThen ?_
    refine zCond rfl rfl (fun hc => ?_) (fun hc => ?_)
    · replace hT := sT hc hT
      refine rSkip ?_
      refine rThen ?_
      refine rSeq ?_
      refine rBlock ?_
      refine rSeq ?_
      refine zReg md0 hX rfl rfl rfl ?_
      refine rThen ?_
      refine rBlock ?_
      replace hT := sBind hT; obtain ⟨w2, hl, hT⟩ := hT
      refine rJoinA (fun v2 => v2 = w2) (fun v2 => ⟨[(1, .v (.c (.int .i64 a3))), (3, .v (.c (.ptr 0 0 0 0 0 0))), (5, .v (.c (.ptr 1 0 0 0 0 0))), (6, .v (.c (.ptr 2 0 0 0 0 0))), (7, .v (.c (.ptr 3 0 0 0 0 0))), (8, .v (.c (.int .i64 s1.1))), (9, .v (.c (.int .i64 v2.1))), (13, .v (.c (.int .i64 s1.1))), (14, .v (.c (.bool (decide (s1.1 < 6))))), (17, .v (.c (.int .i64 v2.2.1))), (18, .v (.c (.bool v2.2.2.1)))], [(0, .mem true 25 none (.flat [.cs [.int .i64 a1], .fzs 3 (.int .u8) a2])), (1, .mem true 26 none (.flat [.ints 2 .i64 a4])), (2, .mem true 31 none (.flat [.ints 384 .i64 (List.replicate 384 0)])), (3, .mem true 31 none (.flat [.ints 384 .i64 v2.2.2.2]))], 4⟩) (.exit 2) (fun v2 hv => ?_) (fun hxs20 => ?_)
      · subst hv; clear hl
        refine rInHit ?_
        refine rInNormal ?_
        refine rThen ?_
        replace hT := sIf hT; obtain ⟨o1, hT⟩ := hT
        refine zReg md0 hX rfl rfl rfl ?_
        exact hnexts1 _ (Option.some.inj hT).symm _ (To.mk' [] 0 hε rfl (by repeat' first | exact True.intro | exact rfl | apply And.intro) (by repeat' first | exact True.intro | exact rfl | apply And.intro))
      refine rLoopM (ref18_Predict_b2 N a1 a2 a3 a4 s1) (fun s2 => ⟨[(1, .v (.c (.int .i64 a3))), (3, .v (.c (.ptr 0 0 0 0 0 0))), (5, .v (.c (.ptr 1 0 0 0 0 0))), (6, .v (.c (.ptr 2 0 0 0 0 0))), (7, .v (.c (.ptr 3 0 0 0 0 0))), (8, .v (.c (.int .i64 s1.1))), (9, .v (.c (.int .i64 s2.1))), (13, .v (.c (.int .i64 s1.1))), (14, .v (.c (.bool (decide (s1.1 < 6)))))], [(0, .mem true 25 none (.flat [.cs [.int .i64 a1], .fzs 3 (.int .u8) a2])), (1, .mem true 26 none (.flat [.ints 2 .i64 a4])), (2, .mem true 31 none (.flat [.ints 384 .i64 (List.replicate 384 0)])), (3, .mem true 31 none (.flat [.ints 384 .i64 s2.2]))], 4⟩) hl (To.mk' [] 0 hε rfl (by repeat' first | exact True.intro | exact rfl | apply And.intro) (by repeat' first | exact True.intro | exact rfl | apply And.intro)) (fun s2 zs2 NNs2 hz hnexts2 houts2 => ?_)
      clear hl hT
      have hT := hz; clear hz
      refine rSeq ?_
      refine rSeq ?_
      refine zReg md0 hX rfl rfl rfl ?_
      refine rThen ?_
      refine zCond rfl rfl (fun hc => ?_) (fun hc => ?_)
      · replace hT := sT hc hT
        refine rSkip ?_
        refine rThen ?_
        refine rSeq ?_
        refine rBlock ?_
        refine rSeq ?_
        let c1 := (ref17_Place N a1 a3 s1.1 s2.1)
        replace hT := sIf hT; obtain ⟨o1, hT⟩ := hT
        refine zReg md0 hX rfl rfl rfl ?_
        refine rThen ?_
        refine rSeq ?_
        refine zReg md0 hX rfl rfl rfl ?_
        refine rThen ?_
        let c2 := (ref18_At N a1 a2 (c1.getD default).1 (((2 : Int) * (c1.getD default).2.1) + (a4.getD 0 0)) (((2 : Int) * (c1.getD default).2.2) + (a4.getD 1 0)))
        let c3 := (ref18_Chroma N (a4.getD 0 0))
        let c4 := (ref18_Chroma N (a4.getD 1 0))
        let c5 := (ref18_At N a1 a2 (c1.getD default).1 (((2 : Int) * (c1.getD default).2.1) + (c3.getD default)) (((2 : Int) * (c1.getD default).2.2) + (c4.getD default)))
        replace hT := sIf hT; obtain ⟨⟨q1, q2, q3, q4, q5, q6, q7, q8, q9, q10, q11, q12, q13, q14, q15, q16, q17, q18, q19, q20, q21, q22⟩, hT⟩ := hT
        refine rJoin ⟨[(1, .v (.c (.int .i64 a3))), (3, .v (.c (.ptr 0 0 0 0 0 0))), (5, .v (.c (.ptr 1 0 0 0 0 0))), (6, .v (.c (.ptr 2 0 0 0 0 0))), (7, .v (.c (.ptr 3 0 0 0 0 0))), (8, .v (.c (.int .i64 s1.1))), (9, .v (.c (.int .i64 s2.1))), (10, .v (.c (.int .i64 (c1.getD default).1))), (11, .v (.c (.int .i64 (c1.getD default).2.1))), (12, .v (.c (.int .i64 (c1.getD default).2.2))), (13, .v (.c (.int .i64 s1.1))), (14, .v (.c (.bool (decide (s1.1 < 6))))), (17, .v (.c (.int .i64 s2.1))), (18, .v (.c (.bool (decide (s2.1 < 64))))), (21, .tup [.c (.int .i64 (c1.getD default).1), .c (.int .i64 (c1.getD default).2.1), .c (.int .i64 (c1.getD default).2.2)]), (22, .v (.c (.ptr 0 0 0 0 0 0))), (23, .v (.c (.int .i64 a1))), (24, .v (.c (.int .i64 a3))), (25, .v (.c (.int .i64 s1.1))), (26, .v (.c (.int .i64 s2.1))), (27, .tup [.c (.int .i64 (c1.getD default).1), .c (.int .i64 (c1.getD default).2.1), .c (.int .i64 (c1.getD default).2.2)]), (28, .v (.c (.int .i64 (c1.getD default).1))), (29, .v (.c (.int .i64 (c1.getD default).2.1))), (30, .v (.c (.int .i64 (c1.getD default).2.2))), (31, .v (.c (.int .i64 (c1.getD default).1))), (32, .v (.c (.bool (decide ((c1.getD default).1 = 0)))))], [(0, .mem true 25 none (.flat [.cs [.int .i64 a1], .fzs 3 (.int .u8) a2])), (1, .mem true 26 none (.flat [.ints 2 .i64 a4])), (2, .mem true 31 none (.flat [.ints 384 .i64 (List.replicate 384 0)])), (3, .mem true 31 none (.flat [.ints 384 .i64 (bif (decide ((c1.getD default).1 = 0)) then (s2.2.set ((s1.1).toNat * 64 + (s2.1).toNat) (c2.getD default)) else (s2.2.set ((s1.1).toNat * 64 + (s2.1).toNat) (c5.getD default)))]))], 4⟩ ?_ (fun hj => ?_)
        · skip
          let x1 := (bif (decide ((c1.getD default).1 = 0)) then (s2.2.set ((s1.1).toNat * 64 + (s2.1).toNat) (c2.getD default)) else (s2.2.set ((s1.1).toNat * 64 + (s2.1).toNat) (c5.getD default)))
          refine rInNormal ?_
          refine rThen ?_
          replace hT := sIf hT; obtain ⟨o1, hT⟩ := hT
          refine zReg md0 hX rfl rfl rfl ?_
          exact hnexts2 _ (Option.some.inj hT).symm _ (To.mk' [] 0 hε rfl (by repeat' first | exact True.intro | exact rfl | apply And.intro) (by repeat' first | exact True.intro | exact rfl | apply And.intro))
        · clear hT
          refine zCond rfl rfl (fun hc => ?_) (fun hc => ?_)
          · skip
            have q1 := q1 hc
            have q2 := q2 hc
            have q3 := q3 hc
            have q4 := q4 hc
            have q5 := q5 hc
            have q6 := q6 hc
            have q7 := q7 hc
            have q8 := q8 hc
            have q9 := q9 hc
            have q10 := q10 hc
            refine zDraw md0 1 [17] hX mixed rfl rfl rfl rfl rfl ?_
            exact rTo (To.mk' [] 0 hε rfl (by (repeat' first | exact True.intro | exact rfl | apply And.intro) <;> (repeat' first | exact rfl | refine Eq.trans ?_ (cTr (by assumption)) | refine Eq.trans ?_ (cFr (by assumption)) | refine Eq.trans (cTl (by assumption)) ?_ | refine Eq.trans (cFl (by assumption)) ?_)) (by (repeat' first | exact True.intro | exact rfl | apply And.intro) <;> (repeat' first | exact rfl | refine Eq.trans ?_ (cTr (by assumption)) | refine Eq.trans ?_ (cFr (by assumption)) | refine Eq.trans (cTl (by assumption)) ?_ | refine Eq.trans (cFl (by assumption)) ?_))) hj
          · skip
            have q11 := q11 hc
            have q12 := q12 hc
            have q13 := q13 hc
            have q14 := q14 hc
            have q15 := q15 hc
            have q16 := q16 hc
            have q17 := q17 hc
            have q18 := q18 hc
            have q19 := q19 hc
            have q20 := q20 hc
            have q21 := q21 hc
            have q22 := q22 hc
            refine zDraw md0 1 [19] hX mixed rfl rfl rfl rfl rfl ?_
            exact rTo (To.mk' [] 0 hε rfl (by (repeat' first | exact True.intro | exact rfl | apply And.intro) <;> (repeat' first | exact rfl | refine Eq.trans ?_ (cTr (by assumption)) | refine Eq.trans ?_ (cFr (by assumption)) | refine Eq.trans (cTl (by assumption)) ?_ | refine Eq.trans (cFl (by assumption)) ?_)) (by (repeat' first | exact True.intro | exact rfl | apply And.intro) <;> (repeat' first | exact rfl | refine Eq.trans ?_ (cTr (by assumption)) | refine Eq.trans ?_ (cFr (by assumption)) | refine Eq.trans (cTl (by assumption)) ?_ | refine Eq.trans (cFl (by assumption)) ?_))) hj
      · replace hT := sF hc hT
        refine rExit ?_
        refine rThenExit ?_
        refine rThenExit ?_
        exact zTo [] 0 hε (hxs20 _ (houts2 _ (Option.some.inj hT).symm))
    · replace hT := sF hc hT
      refine rExit ?_
      refine rThenExit ?_
      refine rThenExit ?_
      exact zTo [] 0 hε (hxs10 _ (houts1 _ (Option.some.inj hT).symm))
  · cases h
def ref34_Drift_b2 (N : Nat) (c2 : (Option (List Int))) (c3 : (Option (List Int))) (s1 : (Int × (List Int))) (s2 : (Int × (List Int))) : Option ((Int × (List Int)) ⊕ (Int × Int × Bool × (List Int))) :=
  bif (decide (s2.1 < 64)) then
    let x2 := (s2.2.set ((s1.1).toNat * 64 + (s2.1).toNat) (((c2.getD default).getD ((s1.1).toNat * 64 + (s2.1).toNat) 0) - ((c3.getD default).getD ((s1.1).toNat * 64 + (s2.1).toNat) 0)))
    if (0 : Int) ≤ s1.1 ∧ s1.1 < 6 ∧ (0 : Int) ≤ s2.1 ∧ s2.1 < 64 ∧ ((s1.1).toNat * 64 + (s2.1).toNat) < 384 ∧ inK .i64 (((c2.getD default).getD ((s1.1).toNat * 64 + (s2.1).toNat) 0) - ((c3.getD default).getD ((s1.1).toNat * 64 + (s2.1).toNat) 0)) then
      if inK .i64 (s2.1 + 1) then
        some (.inl ((s2.1 + 1), x2))
      else none
    else none
  else
    some (.inr (s2.1, s2.1, (decide (s2.1 < 64)), s2.2))
def ref34_Drift_b1 (N : Nat) (c2 : (Option (List Int))) (c3 : (Option (List Int))) (s1 : (Int × (List Int))) : Option ((Int × (List Int)) ⊕ (List Int)) :=
  bif (decide (s1.1 < 6)) then
    (iter (ref34_Drift_b2 N c2 c3 s1) N (0, s1.2)).bind fun v2 =>
      if inK .i64 (s1.1 + 1) then
        some (.inl ((s1.1 + 1), v2.2.2.2))
      else none
  else
    some (.inr s1.2)
def ref34_Drift (N : Nat) (a1 : Int) (a2 : (List (List Int))) (a3 : Int) (a4 : (List (List Int))) (a5 : Int) (a6 : (List Int)) : Option (List Int) :=
  let c1 := (ref34_Add N a1 a2 a3 a4)
  let c2 := (ref18_Predict N (c1.getD default).1 (c1.getD default).2 a5 a6)
  if c1.isSome = true ∧ c2.isSome = true then
    let c3 := (ref18_Predict N a1 a2 a5 a6)
    if c3.isSome = true then
      (iter (ref34_Drift_b1 N c2 c3) N (0, (List.replicate 384 0))).bind fun v1 =>
        some v1
    else none
  else none
def sp_ref34_Drift (N : Nat) : X.Spec := fun args lk => match args with
  | [.v (.agg [.cs [.int .i64 a1], .fzs 3 (.int .u8) a2]), .v (.agg [.cs [.int .i64 a3], .fzs 3 (.int .i64) a4]), .v (.c (.int .i64 a5)), .v (.agg [.ints 2 .i64 a6])] => some ⟨(ref34_Drift N a1 a2 a3 a4 a5 a6).isSome = true, .v (.agg [.ints 384 .i64 ((ref34_Drift N a1 a2 a3 a4 a5 a6).getD default)]), [], []⟩
  | _ => none
set_option maxRecDepth 100000 in
set_option maxHeartbeats 1000000 in
theorem ok_ref34_Drift (N : Nat) : FnOK Try.prog gt0 47 (sp_ref34_Drift N) := by
  refine fnOK_handed Try.func47 rfl (by kernel_rfl) tt_ok (ktCons (ok_ref18_Predict N) (ktCons (ok_ref34_Add N) (ktNil))) ?_
  intro args lk r h hp
  unfold sp_ref34_Drift at h
  split at h
  · rename_i a1 a2 a3 a4 a5 a6
    change (List (List Int)) at a2
    change (List (List Int)) at a4
    change (List Int) at a6
    cases h
    obtain ⟨x, hx⟩ := Option.isSome_iff_exists.1 hp
    simp only [hx, Option.getD_some]
    refine hand0 rfl rfl (fun w0 M ε0 hX => ?_)
    refine rCount (fun hε => ?_)
    have hT : ref34_Drift N a1 a2 a3 a4 a5 a6 = some x := hx; clear hx hp; unfold ref34_Drift at hT
    refine rSeq ?_
    refine zReg md0 hX rfl rfl rfl ?_
    refine rThen ?_
    refine rSeq ?_
    let c1 := (ref34_Add N a1 a2 a3 a4)
    let c2 := (ref18_Predict N (c1.getD default).1 (c1.getD default).2 a5 a6)
    replace hT := sIf hT; obtain ⟨⟨o1, o2⟩, hT⟩ := hT
    refine rDrawA md0 0 6 7 [] hX mixed rfl rfl rfl rfl rfl rfl rfl rfl rfl rfl rfl rfl rfl rfl rfl (by repeat' first | exact True.intro | exact rfl | apply And.intro) rfl rfl (by (repeat' first | exact True.intro | with_reducible assumption | (with_reducible apply And.intro) | intro _) <;> first | assumption | exact rfl | omega | exact Nat.le_of_ble_eq_true rfl | exact selF (by assumption) | exact selT (by assumption) | exact And.intro rfl rfl | exact And.intro (by assumption) rfl | exact And.intro (by omega) rfl | (simp only [inK] at *; omega) | (simp_all [sel] <;> fail) | fail) ?_
    refine rThen ?_
    refine rSeq ?_
    let c3 := (ref18_Predict N a1 a2 a5 a6)
    replace hT := sIf hT; obtain ⟨o1, hT⟩ := hT
    refine zReg md0 hX rfl rfl rfl ?_
    refine rThen ?_
    refine rSeq ?_
    refine zReg md0 hX rfl rfl rfl ?_
    refine rThen ?_
    refine rSeq ?_
    refine rSeq ?_
    refine zReg md0 hX rfl rfl rfl ?_
    refine rThen ?_
    refine rBlock ?_
    replace hT := sBind hT; obtain ⟨w1, hl, hT⟩ := hT
    refine rJoinA (fun v1 => v1 = w1) (fun v1 => ⟨[(8, .v (.c (.ptr 3 0 0 0 0 0))), (11, .v (.c (.ptr 6 0 0 0 0 0)))], [(3, .mem true 31 none (.flat [.ints 384 .i64 (List.replicate 384 0)])), (6, .mem true 31 none (.flat [.ints 384 .i64 v1]))], 7⟩) (.exit 0) (fun v1 hv => ?_) (fun hxs10 => ?_)
    · subst hv; clear hl
      refine rInHit ?_
      refine rThen ?_
      refine rSeq ?_
      refine zReg md0 hX rfl rfl rfl ?_
      refine rThen ?_
      refine rRet ?_
      have hy := Option.some.inj hT; subst hy
      exact zEnd0 hX rfl
    refine rLoopM (ref34_Drift_b1 N c2 c3) (fun s1 => ⟨[(8, .v (.c (.ptr 3 0 0 0 0 0))), (9, .v (.c (.ptr 4 0 0 0 0 0))), (10, .v (.c (.ptr 5 0 0 0 0 0))), (11, .v (.c (.ptr 6 0 0 0 0 0))), (12, .v (.c (.int .i64 s1.1)))], [(3, .mem true 31 none (.flat [.ints 384 .i64 (List.replicate 384 0)])), (4, .mem true 31 none (.flat [.ints 384 .i64 (c2.getD default)])), (5, .mem true 31 none (.flat [.ints 384 .i64 (c3.getD default)])), (6, .mem true 31 none (.flat [.ints 384 .i64 s1.2]))], 7⟩) hl (To.mk' [] 0 hε rfl (by repeat' first | exact True.intro | exact rfl | apply And.intro) (by repeat' first | exact True.intro | exact rfl | apply And.intro)) (fun s1 zs1 NNs1 hz hnexts1 houts1 => ?_)
    clear hl hT
    have hT := hz; clear hz
    refine rSeq ?_
    refine rSeq ?_
    refine zReg md0 hX rfl rfl rfl ?_
    refine rThen ?_
    refine zCond rfl rfl (fun hc => ?_) (fun hc => ?_)
    · replace hT := sT hc hT
      refine rSkip ?_
      refine rThen ?_
      refine rSeq ?_
      refine rBlock ?_
      refine rSeq ?_
      refine zReg md0 hX rfl rfl rfl ?_
      refine rThen ?_
      refine rBlock ?_
      replace hT := sBind hT; obtain ⟨w2, hl, hT⟩ := hT
      refine rJoinA (fun v2 => v2 = w2) (fun v2 => ⟨[(8, .v (.c (.ptr 3 0 0 0 0 0))), (9, .v (.c (.ptr 4 0 0 0 0 0))), (10, .v (.c (.ptr 5 0 0 0 0 0))), (11, .v (.c (.ptr 6 0 0 0 0 0))), (12, .v (.c (.int .i64 s1.1))), (13, .v (.c (.int .i64 v2.1))), (24, .v (.c (.int .i64 s1.1))), (25, .v (.c (.bool (decide (s1.1 < 6))))), (28, .v (.c (.int .i64 v2.2.1))), (29, .v (.c (.bool v2.2.2.1)))], [(3, .mem true 31 none (.flat [.ints 384 .i64 (List.replicate 384 0)])), (4, .mem true 31 none (.flat [.ints 384 .i64 (c2.getD default)])), (5, .mem true 31 none (.flat [.ints 384 .i64 (c3.getD default)])), (6, .mem true 31 none (.flat [.ints 384 .i64 v2.2.2.2]))], 7⟩) (.exit 2) (fun v2 hv => ?_) (fun hxs20 => ?_)
      · subst hv; clear hl
        refine rInHit ?_
        refine rInNormal ?_
        refine rThen ?_
        replace hT := sIf hT; obtain ⟨o1, hT⟩ := hT
        refine zReg md0 hX rfl rfl rfl ?_
        exact hnexts1 _ (Option.some.inj hT).symm _ (To.mk' [] 0 hε rfl (by repeat' first | exact True.intro | exact rfl | apply And.intro) (by repeat' first | exact True.intro | exact rfl | apply And.intro))
      refine rLoopM (ref34_Drift_b2 N c2 c3 s1) (fun s2 => ⟨[(8, .v (.c (.ptr 3 0 0 0 0 0))), (9, .v (.c (.ptr 4 0 0 0 0 0))), (10, .v (.c (.ptr 5 0 0 0 0 0))), (11, .v (.c (.ptr 6 0 0 0 0 0))), (12, .v (.c (.int .i64 s1.1))), (13, .v (.c (.int .i64 s2.1))), (24, .v (.c (.int .i64 s1.1))), (25, .v (.c (.bool (decide (s1.1 < 6)))))], [(3, .mem true 31 none (.flat [.ints 384 .i64 (List.replicate 384 0)])), (4, .mem true 31 none (.flat [.ints 384 .i64 (c2.getD default)])), (5, .mem true 31 none (.flat [.ints 384 .i64 (c3.getD default)])), (6, .mem true 31 none (.flat [.ints 384 .i64 s2.2]))], 7⟩) hl (To.mk' [] 0 hε rfl (by repeat' first | exact True.intro | exact rfl | apply And.intro) (by repeat' first | exact True.intro | exact rfl | apply And.intro)) (fun s2 zs2 NNs2 hz hnexts2 houts2 => ?_)
      clear hl hT
      have hT := hz; clear hz
      refine rSeq ?_
      refine rSeq ?_
      refine zReg md0 hX rfl rfl rfl ?_
      refine rThen ?_
      refine zCond rfl rfl (fun hc => ?_) (fun hc => ?_)
      · replace hT := sT hc hT
        refine rSkip ?_
        refine rThen ?_
        refine rSeq ?_
        refine rBlock ?_
        let x2 := (s2.2.set ((s1.1).toNat * 64 + (s2.1).toNat) (((c2.getD default).getD ((s1.1).toNat * 64 + (s2.1).toNat) 0) - ((c3.getD default).getD ((s1.1).toNat * 64 + (s2.1).toNat) 0)))
        replace hT := sIf hT; obtain ⟨⟨o1, o2, o3, o4, o5, o6⟩, hT⟩ := hT
        refine zDraw md0 1 [15] hX mixed rfl rfl rfl rfl rfl ?_
        refine rInNormal ?_
        refine rThen ?_
        replace hT := sIf hT; obtain ⟨o1, hT⟩ := hT
        refine zReg md0 hX rfl rfl rfl ?_
        exact hnexts2 _ (Option.some.inj hT).symm _ (To.mk' [] 0 hε rfl (by repeat' first | exact True.intro | exact rfl | apply And.intro) (by repeat' first | exact True.intro | exact rfl | apply And.intro))
      · replace hT := sF hc hT
        refine rExit ?_
        refine rThenExit ?_
        refine rThenExit ?_
        exact zTo [] 0 hε (hxs20 _ (houts2 _ (Option.some.inj hT).symm))
    · replace hT := sF hc hT
      refine rExit ?_
      refine rThenExit ?_
      refine rThenExit ?_
      exact zTo [] 0 hε (hxs10 _ (houts1 _ (Option.some.inj hT).symm))
  · cases h
def law34_StoresDrifts (N : Nat) (a1 : Int) (a2 : (List (List Int))) (a3 : Int) (a4 : (List (List Int))) (a5 : (List Int)) : Option Bool :=
  let c1 := (law17_Light N a1 a2)
  let c2 := (law34_Light N a3 a4)
  if c1.isSome = true ∧ ((!(!(c1.getD default))) = true → c2.isSome = true) then
    bif (bif (!(c1.getD default)) then true else (!(c2.getD default))) then
      let c3 := (law34_lives N)
      if c3.isSome = true then
        some (c3.getD default)
      else none
    else
      let c4 := (stores_Drift N a1 a2 a3 a4 (a5.getD 0 0) (((List.replicate 2 0).set 0 (a5.getD 1 0)).set 1 (a5.getD 2 0)))
      if c4.isSome = true then
        let c5 := (ref17_Right N a1 a2)
        let c6 := (ref34_Right N a3 a4)
        let c7 := (ref16_Many N a1)
        let x5 := (bif (bif (bif (bif (!(c5.getD default)) then true else (!(c6.getD default))) then true else (decide (a1 ≠ a3))) then true else (decide ((a5.getD 0 0) < 0))) then true else (decide ((c7.getD default) ≤ (a5.getD 0 0))))
        if c5.isSome = true ∧ ((!(!(c5.getD default))) = true → c6.isSome = true) ∧ ((!(bif (bif (bif (!(c5.getD default)) then true else (!(c6.getD default))) then true else (decide (a1 ≠ a3))) then true else (decide ((a5.getD 0 0) < 0)))) = true → c7.isSome = true) then
          let c8 := (ref18_May N a1 (a5.getD 0 0) (((List.replicate 2 0).set 0 (a5.getD 1 0)).set 1 (a5.getD 2 0)))
          if (x5 = false → c8.isSome = true) then
            bif (decide ((bif x5 then 1 else (bif (!(c8.getD default)) then (8 : Int) else 0)) ≠ 0)) then
              let c9 := (law34_lives N)
              let x6 := (bif (bif (decide ((c4.getD default).1 = (List.replicate 384 0))) then (decide ((c4.getD default).2 = (bif x5 then 1 else (bif (!(c8.getD default)) then (8 : Int) else 0)))) else false) then (c9.getD default) else false)
              if ((bif (decide ((c4.getD default).1 = (List.replicate 384 0))) then (decide ((c4.getD default).2 = (bif x5 then 1 else (bif (!(c8.getD default)) then (8 : Int) else 0)))) else false) = true → c9.isSome = true) then
                some x6
              else none
            else
              let c10 := (stores_New N a1)
              if c10.isSome = true then
                let c11 := (stores_Drift N a1 a2 (c10.getD default).1 (c10.getD default).2.1 (a5.getD 0 0) (((List.replicate 2 0).set 0 (a5.getD 1 0)).set 1 (a5.getD 2 0)))
                if c11.isSome = true then
                  let c12 := (ref34_Drift N a1 a2 a3 a4 (a5.getD 0 0) (((List.replicate 2 0).set 0 (a5.getD 1 0)).set 1 (a5.getD 2 0)))
                  let c13 := (law34_lives N)
                  let x9 := (bif (bif (bif (bif (decide ((c4.getD default).1 = (c12.getD default))) then (decide ((c4.getD default).2 = 0)) else false) then (decide ((c11.getD default).1 = (List.replicate 384 0))) else false) then (decide ((c11.getD default).2 = 0)) else false) then (c13.getD default) else false)
                  if c12.isSome = true ∧ ((bif (bif (bif (decide ((c4.getD default).1 = (c12.getD default))) then (decide ((c4.getD default).2 = 0)) else false) then (decide ((c11.getD default).1 = (List.replicate 384 0))) else false) then (decide ((c11.getD default).2 = 0)) else false) = true → c13.isSome = true) then
                    some x9
                  else none
                else none
              else none
          else none
        else none
      else none
  else none
def sp_law34_StoresDrifts (N : Nat) : X.Spec := fun args lk => match args with
  | [.v (.agg [.cs [.int .i64 a1], .fzs 3 (.int .u8) a2]), .v (.agg [.cs [.int .i64 a3], .fzs 3 (.int .i64) a4]), .v (.agg [.ints 3 .i64 a5])] => some ⟨(law34_StoresDrifts N a1 a2 a3 a4 a5).isSome = true, .v (.c (.bool ((law34_StoresDrifts N a1 a2 a3 a4 a5).getD default))), [], []⟩
  | _ => none
set_option maxRecDepth 100000 in
set_option maxHeartbeats 1000000 in
theorem ok_law34_StoresDrifts (N : Nat) : FnOK Try.prog gt0 11 (sp_law34_StoresDrifts N) := by
  refine fnOK_handed Try.func11 rfl (by kernel_rfl) tt_ok (ktCons (ok_ref34_Drift N) (ktCons (ok_stores_New N) (ktCons (ok_ref18_May N) (ktCons (ok_ref16_Many N) (ktCons (ok_ref34_Right N) (ktCons (ok_ref17_Right N) (ktCons (ok_stores_Drift N) (ktCons (ok_law34_lives N) (ktCons (ok_law34_Light N) (ktCons (ok_law17_Light N) (ktNil))))))))))) ?_
  intro args lk r h hp
  unfold sp_law34_StoresDrifts at h
  split at h
  · rename_i a1 a2 a3 a4 a5
    change (List (List Int)) at a2
    change (List (List Int)) at a4
    change (List Int) at a5
    cases h
    obtain ⟨x, hx⟩ := Option.isSome_iff_exists.1 hp
    simp only [hx, Option.getD_some]
    refine hand0 rfl rfl (fun w0 M ε0 hX => ?_)
    refine rCount (fun hε => ?_)
    have hT : law34_StoresDrifts N a1 a2 a3 a4 a5 = some x := hx; clear hx hp; unfold law34_StoresDrifts at hT
    refine rSeq ?_
    refine zReg md0 hX rfl rfl rfl ?_
    refine rThen ?_
    refine rSeq ?_
    refine rSeq ?_
    let c1 := (law17_Light N a1 a2)
    let c2 := (law34_Light N a3 a4)
    replace hT := sIf hT; obtain ⟨⟨o1, o2⟩, hT⟩ := hT
    refine rRegC md0 hX rfl rfl rfl (by (repeat' first | exact True.intro | with_reducible assumption | (with_reducible apply And.intro) | intro _) <;> first | assumption | exact o2 (by assumption) | exact rfl | omega | exact Nat.le_of_ble_eq_true rfl | exact selF (by assumption) | exact selT (by assumption) | exact And.intro rfl rfl | exact And.intro (by assumption) rfl | exact And.intro (by omega) rfl | (simp only [inK] at *; omega) | (simp_all [sel] <;> fail) | fail) ?_
    refine rThen ?_
    refine zCond rfl rfl (fun hc => ?_) (fun hc => ?_)
    · replace hT := sT hc hT
      refine rSeq ?_
      let c3 := (law34_lives N)
      replace hT := sIf hT; obtain ⟨o1, hT⟩ := hT
      refine zReg md0 hX rfl rfl rfl ?_
      refine rThen ?_
      refine rRet ?_
      refine rThenRet ?_
      have hy := Option.some.inj hT; subst hy
      exact zEnd0 hX rfl
    · replace hT := sF hc hT
      refine rSkip ?_
      refine rThen ?_
      refine rSeq ?_
      refine rDrawA md0 0 7 9 [] hX mixed rfl rfl rfl rfl rfl rfl rfl rfl rfl rfl rfl rfl rfl rfl rfl (by repeat' first | exact True.intro | exact rfl | apply And.intro) rfl rfl (by repeat' first | exact True.intro | exact rfl | apply And.intro | omega | exact Nat.le_of_ble_eq_true rfl) ?_
      refine rThen ?_
      refine rSeq ?_
      let c4 := (stores_Drift N a1 a2 a3 a4 (a5.getD 0 0) (((List.replicate 2 0).set 0 (a5.getD 1 0)).set 1 (a5.getD 2 0)))
      replace hT := sIf hT; obtain ⟨o1, hT⟩ := hT
      refine zReg md0 hX rfl rfl rfl ?_
      refine rThen ?_
      refine rSeq ?_
      refine zReg md0 hX rfl rfl rfl ?_
      refine rThen ?_
      refine rSeq ?_
      refine rSeq ?_
      let c5 := (ref17_Right N a1 a2)
      let c6 := (ref34_Right N a3 a4)
      let c7 := (ref16_Many N a1)
      let x5 := (bif (bif (bif (bif (!(c5.getD default)) then true else (!(c6.getD default))) then true else (decide (a1 ≠ a3))) then true else (decide ((a5.getD 0 0) < 0))) then true else (decide ((c7.getD default) ≤ (a5.getD 0 0))))
      replace hT := sIf hT; obtain ⟨⟨o1, o2, o3⟩, hT⟩ := hT
      refine rRegC md0 hX rfl rfl rfl (by (repeat' first | exact True.intro | with_reducible assumption | (with_reducible apply And.intro) | intro _) <;> first | assumption | exact o2 (by assumption) | exact o3 (by assumption) | exact rfl | omega | exact Nat.le_of_ble_eq_true rfl | exact selF (by assumption) | exact selT (by assumption) | exact And.intro rfl rfl | exact And.intro (by assumption) rfl | exact And.intro (by omega) rfl | (simp only [inK] at *; omega) | (simp_all [sel] <;> fail) | fail) ?_
      refine rThen ?_
      let c8 := (ref18_May N a1 (a5.getD 0 0) (((List.replicate 2 0).set 0 (a5.getD 1 0)).set 1 (a5.getD 2 0)))
      replace hT := sIf hT; obtain ⟨q1, hT⟩ := hT
      refine rJoin ⟨[(3, .v (.c (.ptr 0 0 0 0 0 0))), (4, .v (.c (.ptr 1 0 0 0 0 0))), (6, .v (.c (.bool false))), (7, .v (.c (.int .i64 (a5.getD 0 0)))), (8, .v (.c (.ptr 3 0 0 0 0 0))), (9, .v (.c (.ptr 4 0 0 0 0 0))), (10, .v (.c (.int .i64 (c4.getD default).2))), (11, .v (.c (.int .i64 (bif x5 then 1 else (bif (!(c8.getD default)) then (8 : Int) else 0)))))], [(0, .mem true 25 none (.flat [.cs [.int .i64 a1], .fzs 3 (.int .u8) a2])), (1, .mem true 64 none (.flat [.cs [.int .i64 a3], .fzs 3 (.int .i64) a4])), (3, .mem true 26 none (.flat [.ints 2 .i64 (((List.replicate 2 0).set 0 (a5.getD 1 0)).set 1 (a5.getD 2 0))])), (4, .mem true 31 none (.flat [.ints 384 .i64 (c4.getD default).1]))], 5⟩ ?_ (fun hj => ?_)
      · skip
        refine rThen ?_
        refine rSeq ?_
        refine rSeq ?_
        refine zReg md0 hX rfl rfl rfl ?_
        refine rThen ?_
        refine zCond rfl rfl (fun hc => ?_) (fun hc => ?_)
        · replace hT := sT hc hT
          refine rSeq ?_
          let c9 := (law34_lives N)
          let x6 := (bif (bif (decide ((c4.getD default).1 = (List.replicate 384 0))) then (decide ((c4.getD default).2 = (bif x5 then 1 else (bif (!(c8.getD default)) then (8 : Int) else 0)))) else false) then (c9.getD default) else false)
          replace hT := sIf hT; obtain ⟨o1, hT⟩ := hT
          refine rRegC md0 hX rfl rfl rfl (by (repeat' first | exact True.intro | with_reducible assumption | (with_reducible apply And.intro) | intro _) <;> first | assumption | exact o1 (by assumption) | exact rfl | omega | exact Nat.le_of_ble_eq_true rfl | exact selF (by assumption) | exact selT (by assumption) | exact And.intro rfl rfl | exact And.intro (by assumption) rfl | exact And.intro (by omega) rfl | (simp only [inK] at *; omega) | (simp_all [sel] <;> fail) | fail) ?_
          refine rThen ?_
          refine rRet ?_
          refine rThenRet ?_
          have hy := Option.some.inj hT; subst hy
          exact zEnd0 hX rfl
        · replace hT := sF hc hT
          refine rSkip ?_
          refine rThen ?_
          refine rSeq ?_
          let c10 := (stores_New N a1)
          replace hT := sIf hT; obtain ⟨o1, hT⟩ := hT
          refine zReg md0 hX rfl rfl rfl ?_
          refine rThen ?_
          refine rSeq ?_
          let c11 := (stores_Drift N a1 a2 (c10.getD default).1 (c10.getD default).2.1 (a5.getD 0 0) (((List.replicate 2 0).set 0 (a5.getD 1 0)).set 1 (a5.getD 2 0)))
          replace hT := sIf hT; obtain ⟨o1, hT⟩ := hT
          refine zReg md0 hX rfl rfl rfl ?_
          refine rThen ?_
          refine rSeq ?_
          let c12 := (ref34_Drift N a1 a2 a3 a4 (a5.getD 0 0) (((List.replicate 2 0).set 0 (a5.getD 1 0)).set 1 (a5.getD 2 0)))
          let c13 := (law34_lives N)
          let x9 := (bif (bif (bif (bif (decide ((c4.getD default).1 = (c12.getD default))) then (decide ((c4.getD default).2 = 0)) else false) then (decide ((c11.getD default).1 = (List.replicate 384 0))) else false) then (decide ((c11.getD default).2 = 0)) else false) then (c13.getD default) else false)
          replace hT := sIf hT; obtain ⟨⟨o1, o2⟩, hT⟩ := hT
          refine rDrawM md0 0 [] hX mixed rfl rfl rfl rfl rfl (by (repeat' first | exact True.intro | with_reducible assumption | (with_reducible apply And.intro) | intro _) <;> first | assumption | exact o2 (by assumption) | exact rfl | omega | exact Nat.le_of_ble_eq_true rfl | exact selF (by assumption) | exact selT (by assumption) | exact And.intro rfl rfl | exact And.intro (by assumption) rfl | exact And.intro (by omega) rfl | (simp only [inK] at *; omega) | (simp_all [sel] <;> fail) | fail) ?_
          refine rThen ?_
          refine rRet ?_
          have hy := Option.some.inj hT; subst hy
          exact zEnd0 hX rfl
      · clear hT
        refine zCond rfl rfl (fun hc => ?_) (fun hc => ?_)
        · skip
          refine zReg md0 hX rfl rfl rfl ?_
          exact rTo (To.mk' [] 0 hε rfl (by (repeat' first | exact True.intro | exact rfl | apply And.intro) <;> (repeat' first | exact rfl | refine Eq.trans ?_ (cTr (by assumption)) | refine Eq.trans ?_ (cFr (by assumption)) | refine Eq.trans (cTl (by assumption)) ?_ | refine Eq.trans (cFl (by assumption)) ?_)) (by (repeat' first | exact True.intro | exact rfl | apply And.intro) <;> (repeat' first | exact rfl | refine Eq.trans ?_ (cTr (by assumption)) | refine Eq.trans ?_ (cFr (by assumption)) | refine Eq.trans (cTl (by assumption)) ?_ | refine Eq.trans (cFl (by assumption)) ?_))) hj
        · skip
          have q1 := q1 hc
          refine rSeq ?_
          refine zReg md0 hX rfl rfl rfl ?_
          refine rThen ?_
          refine zCond rfl rfl (fun hc => ?_) (fun hc => ?_)
          · skip
            refine zReg md0 hX rfl rfl rfl ?_
            exact rTo (To.mk' [] 0 hε rfl (by (repeat' first | exact True.intro | exact rfl | apply And.intro) <;> (repeat' first | exact rfl | refine Eq.trans ?_ (cTr (by assumption)) | refine Eq.trans ?_ (cFr (by assumption)) | refine Eq.trans (cTl (by assumption)) ?_ | refine Eq.trans (cFl (by assumption)) ?_)) (by (repeat' first | exact True.intro | exact rfl | apply And.intro) <;> (repeat' first | exact rfl | refine Eq.trans ?_ (cTr (by assumption)) | refine Eq.trans ?_ (cFr (by assumption)) | refine Eq.trans (cTl (by assumption)) ?_ | refine Eq.trans (cFl (by assumption)) ?_))) hj
          · skip
            refine rSkip ?_
            exact rTo (To.mk' [] 0 hε rfl (by (repeat' first | exact True.intro | exact rfl | apply And.intro) <;> (repeat' first | exact rfl | refine Eq.trans ?_ (cTr (by assumption)) | refine Eq.trans ?_ (cFr (by assumption)) | refine Eq.trans (cTl (by assumption)) ?_ | refine Eq.trans (cFl (by assumption)) ?_)) (by (repeat' first | exact True.intro | exact rfl | apply And.intro) <;> (repeat' first | exact rfl | refine Eq.trans ?_ (cTr (by assumption)) | refine Eq.trans ?_ (cFr (by assumption)) | refine Eq.trans (cTl (by assumption)) ?_ | refine Eq.trans (cFl (by assumption)) ?_))) hj
  · cases h

end Go.Proofs.Ytjknjjdijoboiaa
