/- Models of functions, and that the program does what they tell. -/
import Derived.Test.YtlcjjaglbcfbbaaDoorF1
set_option linter.unusedVariables false
set_option linter.unusedSimpArgs false
namespace Go.Proofs.YtlcjjaglbcfbbaaDoor
open Go.X

def overspill_sound_sheet_row_b1 (N : Nat) (a4 : Bool) (a6 : (List (Bool × (Int × (Int × (List (Int × (Bool × (Int × (Int × ((List Int) × ((List Int) × (List (List (Bool × (Int × Int)))))))))))))))) (a8 : Int) (s1 : Int) : Option (Int ⊕ (Unit ⊕ Unit)) :=
  let x13 := (decide (s1 < ((a6.getD (a8).toNat (false, ((0 : Int), ((0 : Int), [])))).2.2.2.length : Int)))
  bif x13 then
    let x15 := ((a6.getD (a8).toNat (false, ((0 : Int), ((0 : Int), [])))).2.2.2.getD (s1).toNat ((0 : Int), (false, ((0 : Int), ((0 : Int), ((List.replicate 2 (0 : Int)), ((List.replicate 6 (0 : Int)), (List.replicate 6 [])))))))).1
    let x16 := ((a6.getD (a8).toNat (false, ((0 : Int), ((0 : Int), [])))).2.2.2.getD (s1).toNat ((0 : Int), (false, ((0 : Int), ((0 : Int), ((List.replicate 2 (0 : Int)), ((List.replicate 6 (0 : Int)), (List.replicate 6 [])))))))).2.1
    let x17 := ((a6.getD (a8).toNat (false, ((0 : Int), ((0 : Int), [])))).2.2.2.getD (s1).toNat ((0 : Int), (false, ((0 : Int), ((0 : Int), ((List.replicate 2 (0 : Int)), ((List.replicate 6 (0 : Int)), (List.replicate 6 [])))))))).2.2.1
    let x18 := ((a6.getD (a8).toNat (false, ((0 : Int), ((0 : Int), [])))).2.2.2.getD (s1).toNat ((0 : Int), (false, ((0 : Int), ((0 : Int), ((List.replicate 2 (0 : Int)), ((List.replicate 6 (0 : Int)), (List.replicate 6 [])))))))).2.2.2.1
    let x19 := ((a6.getD (a8).toNat (false, ((0 : Int), ((0 : Int), [])))).2.2.2.getD (s1).toNat ((0 : Int), (false, ((0 : Int), ((0 : Int), ((List.replicate 2 (0 : Int)), ((List.replicate 6 (0 : Int)), (List.replicate 6 [])))))))).2.2.2.2.1
    let x20 := ((a6.getD (a8).toNat (false, ((0 : Int), ((0 : Int), [])))).2.2.2.getD (s1).toNat ((0 : Int), (false, ((0 : Int), ((0 : Int), ((List.replicate 2 (0 : Int)), ((List.replicate 6 (0 : Int)), (List.replicate 6 [])))))))).2.2.2.2.2.1
    let x21 := ((a6.getD (a8).toNat (false, ((0 : Int), ((0 : Int), [])))).2.2.2.getD (s1).toNat ((0 : Int), (false, ((0 : Int), ((0 : Int), ((List.replicate 2 (0 : Int)), ((List.replicate 6 (0 : Int)), (List.replicate 6 [])))))))).2.2.2.2.2.2
    if (0 : Int) ≤ s1 ∧ s1 < ((a6.getD (a8).toNat (false, ((0 : Int), ((0 : Int), [])))).2.2.2.length : Int) then
      let c3 := (cellout_Right N a4 x15 x16 x17 x18 x19 x20 x21)
      if c3.isSome = true then
        bif (!(c3.getD default)) then
          some (.inr (Sum.inl ()))
        else
          if inK .i64 (s1 + 1) then
            some (.inl (s1 + 1))
          else none
      else none
    else none
  else
    some (.inr (Sum.inr ()))
def overspill_sound_sheet_row (N : Nat) (a1 : Int) (a2 : Int) (a3 : Int) (a4 : Bool) (a5 : Int) (a6 : (List (Bool × (Int × (Int × (List (Int × (Bool × (Int × (Int × ((List Int) × ((List Int) × (List (List (Bool × (Int × Int)))))))))))))))) (a7 : Int) (a8 : Int) : Option Bool :=
  let c1 := (formats_Cells N a3)
  if c1.isSome = true then
    let c2 := (formats_Rows N a3)
    if c2.isSome = true then
      if (0 : Int) ≤ a8 ∧ a8 < (a6.length : Int) then
        let x1 := (decide (((a6.getD (a8).toNat (false, ((0 : Int), ((0 : Int), [])))).2.2.2.length : Int) ≠ ((c1.getD default).1 * (c2.getD default).2)))
        if inK .i64 ((c1.getD default).1 * (c2.getD default).2) then
          bif x1 then
            some false
          else
            let x4 := (bif (!(a6.getD (a8).toNat (false, ((0 : Int), ((0 : Int), [])))).1) then (bif (decide ((a6.getD (a8).toNat (false, ((0 : Int), ((0 : Int), [])))).2.1 ≠ 0)) then true else (decide ((a6.getD (a8).toNat (false, ((0 : Int), ((0 : Int), [])))).2.2.1 ≠ 0))) else false)
            if ((!(a6.getD (a8).toNat (false, ((0 : Int), ((0 : Int), [])))).1) = true → ((decide ((a6.getD (a8).toNat (false, ((0 : Int), ((0 : Int), [])))).2.1 ≠ 0)) = false → ((!(a6.getD (a8).toNat (false, ((0 : Int), ((0 : Int), [])))).1) && (!(decide ((a6.getD (a8).toNat (false, ((0 : Int), ((0 : Int), [])))).2.1 ≠ 0)))) = true)) then
              bif x4 then
                some false
              else
                let x12 := (bif (a6.getD (a8).toNat (false, ((0 : Int), ((0 : Int), [])))).1 then (bif (bif (bif (bif (decide (a8 = 0)) then true else (decide ((a6.getD (a8).toNat (false, ((0 : Int), ((0 : Int), [])))).2.1 < 0))) then true else (decide ((3 : Int) < (a6.getD (a8).toNat (false, ((0 : Int), ((0 : Int), [])))).2.1))) then true else (decide ((a6.getD (a8).toNat (false, ((0 : Int), ((0 : Int), [])))).2.2.1 < 1))) then true else (decide ((31 : Int) < (a6.getD (a8).toNat (false, ((0 : Int), ((0 : Int), [])))).2.2.1))) else false)
                if ((a6.getD (a8).toNat (false, ((0 : Int), ((0 : Int), [])))).1 = true → ((decide (a8 = 0)) = false → ((a6.getD (a8).toNat (false, ((0 : Int), ((0 : Int), [])))).1 && (!(decide (a8 = 0)))) = true)) ∧ ((a6.getD (a8).toNat (false, ((0 : Int), ((0 : Int), [])))).1 = true → ((bif (decide (a8 = 0)) then true else (decide ((a6.getD (a8).toNat (false, ((0 : Int), ((0 : Int), [])))).2.1 < 0))) = false → ((a6.getD (a8).toNat (false, ((0 : Int), ((0 : Int), [])))).1 && (!(bif (decide (a8 = 0)) then true else (decide ((a6.getD (a8).toNat (false, ((0 : Int), ((0 : Int), [])))).2.1 < 0))))) = true)) ∧ ((a6.getD (a8).toNat (false, ((0 : Int), ((0 : Int), [])))).1 = true → ((bif (bif (decide (a8 = 0)) then true else (decide ((a6.getD (a8).toNat (false, ((0 : Int), ((0 : Int), [])))).2.1 < 0))) then true else (decide ((3 : Int) < (a6.getD (a8).toNat (false, ((0 : Int), ((0 : Int), [])))).2.1))) = false → ((a6.getD (a8).toNat (false, ((0 : Int), ((0 : Int), [])))).1 && (!(bif (bif (decide (a8 = 0)) then true else (decide ((a6.getD (a8).toNat (false, ((0 : Int), ((0 : Int), [])))).2.1 < 0))) then true else (decide ((3 : Int) < (a6.getD (a8).toNat (false, ((0 : Int), ((0 : Int), [])))).2.1))))) = true)) ∧ ((a6.getD (a8).toNat (false, ((0 : Int), ((0 : Int), [])))).1 = true → ((bif (bif (bif (decide (a8 = 0)) then true else (decide ((a6.getD (a8).toNat (false, ((0 : Int), ((0 : Int), [])))).2.1 < 0))) then true else (decide ((3 : Int) < (a6.getD (a8).toNat (false, ((0 : Int), ((0 : Int), [])))).2.1))) then true else (decide ((a6.getD (a8).toNat (false, ((0 : Int), ((0 : Int), [])))).2.2.1 < 1))) = false → ((a6.getD (a8).toNat (false, ((0 : Int), ((0 : Int), [])))).1 && (!(bif (bif (bif (decide (a8 = 0)) then true else (decide ((a6.getD (a8).toNat (false, ((0 : Int), ((0 : Int), [])))).2.1 < 0))) then true else (decide ((3 : Int) < (a6.getD (a8).toNat (false, ((0 : Int), ((0 : Int), [])))).2.1))) then true else (decide ((a6.getD (a8).toNat (false, ((0 : Int), ((0 : Int), [])))).2.2.1 < 1))))) = true)) then
                  bif x12 then
                    some false
                  else
                    (iter (overspill_sound_sheet_row_b1 N a4 a6 a8) N 0).bind fun w1 =>
                      (Sum.elim (fun v1 =>
                        some false
                      )
                        (fun v2 =>
                          some true
                        )
                      ) w1
                else none
            else none
        else none
      else none
    else none
  else none
def sp_overspill_sound_sheet_row (N : Nat) : X.Spec := fun args lk => match args with
  | [.v (.agg [.cs [.int .i64 a1, .int .i64 a2, .int .i64 a3, .bool a4, .int .i64 a5, .val (.slice none 0 0), .fz (.pair .bool (.pair (.int .i64) (.pair (.int .i64) (.sl (.pair (.int .i64) (.pair .bool (.pair (.int .i64) (.pair (.int .i64) (.pair (.arr 2 .i64) (.pair (.arr 6 .i64) (.arrS 6 (.pair .bool (.pair (.int .i64) (.int .i64)))))))))))))) a6, .int .i64 a7]]), .v (.c (.int .i64 a8))] => some ⟨(overspill_sound_sheet_row N a1 a2 a3 a4 a5 a6 a7 a8).isSome = true, .v (.c (.bool ((overspill_sound_sheet_row N a1 a2 a3 a4 a5 a6 a7 a8).getD default))), [], []⟩
  | _ => none
set_option maxRecDepth 100000 in
set_option maxHeartbeats 1000000 in
theorem ok_overspill_sound_sheet_row (N : Nat) : FnOK Tryd.prog gt0 38 (sp_overspill_sound_sheet_row N) := by
  refine fnOK_handed Tryd.func38 rfl (by kernel_rfl) tt_ok (ktCons (ok_cellout_Right N) (ktCons (ok_formats_Rows N) (ktCons (ok_formats_Cells N) (ktNil)))) ?_
  intro args lk r h hp
  unfold sp_overspill_sound_sheet_row at h
  split at h
  · rename_i a1 a2 a3 a4 a5 a6 a7 a8
    change (List (Bool × (Int × (Int × (List (Int × (Bool × (Int × (Int × ((List Int) × ((List Int) × (List (List (Bool × (Int × Int))))))))))))))) at a6
    cases h
    obtain ⟨x, hx⟩ := Option.isSome_iff_exists.1 hp
    simp only [hx, Option.getD_some]
    refine hand0 rfl rfl (fun w0 M ε0 hX => ?_)
    refine rCount (fun hε => ?_)
    have hT : overspill_sound_sheet_row N a1 a2 a3 a4 a5 a6 a7 a8 = some x := hx; clear hx hp; unfold overspill_sound_sheet_row at hT
    refine rSeq ?_
    refine zReg md0 hX rfl rfl rfl ?_
    refine rThen ?_
    refine rSeq ?_
    let c1 := (formats_Cells N a3)
    replace hT := sIf hT; obtain ⟨o1, hT⟩ := hT
    refine zReg md0 hX rfl rfl rfl ?_
    refine rThen ?_
    refine rSeq ?_
    let c2 := (formats_Rows N a3)
    replace hT := sIf hT; obtain ⟨o1, hT⟩ := hT
    refine zReg md0 hX rfl rfl rfl ?_
    refine rThen ?_
    refine rSeq ?_
    replace hT := sIf hT; obtain ⟨⟨o1, o2⟩, hT⟩ := hT
    refine zReg md0 hX rfl rfl rfl ?_
    refine rThen ?_
    refine rSeq ?_
    refine rBlock ?_
    refine rSeq ?_
    let x1 := (decide (((a6.getD (a8).toNat (false, ((0 : Int), ((0 : Int), [])))).2.2.2.length : Int) ≠ ((c1.getD default).1 * (c2.getD default).2)))
    replace hT := sIf hT; obtain ⟨o1, hT⟩ := hT
    refine zReg md0 hX rfl rfl rfl ?_
    refine rThen ?_
    refine zCond rfl rfl (fun hc => ?_) (fun hc => ?_)
    · replace hT := sT hc hT
      refine rSeq ?_
      refine zReg md0 hX rfl rfl rfl ?_
      refine rThen ?_
      refine rRet ?_
      refine rInRet ?_
      refine rThenRet ?_
      have hy := Option.some.inj hT; subst hy
      exact zEnd0 hX rfl
    · replace hT := sF hc hT
      refine rSeq ?_
      let x4 := (bif (!(a6.getD (a8).toNat (false, ((0 : Int), ((0 : Int), [])))).1) then (bif (decide ((a6.getD (a8).toNat (false, ((0 : Int), ((0 : Int), [])))).2.1 ≠ 0)) then true else (decide ((a6.getD (a8).toNat (false, ((0 : Int), ((0 : Int), [])))).2.2.1 ≠ 0))) else false)
      replace hT := sIf hT; obtain ⟨o1, hT⟩ := hT
      refine rRegC md0 hX rfl rfl rfl (by (repeat' first | exact True.intro | with_reducible assumption | (with_reducible apply And.intro) | intro _) <;> first | assumption | exact o1 (by assumption) (by assumption) | exact rfl | omega | exact Nat.le_of_ble_eq_true rfl | exact selF (by assumption) | exact selT (by assumption) | exact And.intro rfl rfl | exact And.intro (by assumption) rfl | exact And.intro (by omega) rfl | (simp only [inK] at *; omega) | (simp_all [sel] <;> fail) | fail) ?_
      refine rThen ?_
      refine zCond rfl rfl (fun hc => ?_) (fun hc => ?_)
      · replace hT := sT hc hT
        refine rSeq ?_
        refine zReg md0 hX rfl rfl rfl ?_
        refine rThen ?_
        refine rRet ?_
        refine rInRet ?_
        refine rThenRet ?_
        have hy := Option.some.inj hT; subst hy
        exact zEnd0 hX rfl
      · replace hT := sF hc hT
        refine rSeq ?_
        let x12 := (bif (a6.getD (a8).toNat (false, ((0 : Int), ((0 : Int), [])))).1 then (bif (bif (bif (bif (decide (a8 = 0)) then true else (decide ((a6.getD (a8).toNat (false, ((0 : Int), ((0 : Int), [])))).2.1 < 0))) then true else (decide ((3 : Int) < (a6.getD (a8).toNat (false, ((0 : Int), ((0 : Int), [])))).2.1))) then true else (decide ((a6.getD (a8).toNat (false, ((0 : Int), ((0 : Int), [])))).2.2.1 < 1))) then true else (decide ((31 : Int) < (a6.getD (a8).toNat (false, ((0 : Int), ((0 : Int), [])))).2.2.1))) else false)
        replace hT := sIf hT; obtain ⟨⟨o1, o2, o3, o4⟩, hT⟩ := hT
        refine rRegC md0 hX rfl rfl rfl (by (repeat' first | exact True.intro | with_reducible assumption | (with_reducible apply And.intro) | intro _) <;> first | assumption | exact o1 (by assumption) (by assumption) | exact o2 (by assumption) (by assumption) | exact o3 (by assumption) (by assumption) | exact o4 (by assumption) (by assumption) | exact rfl | omega | exact Nat.le_of_ble_eq_true rfl | exact selF (by assumption) | exact selT (by assumption) | exact And.intro rfl rfl | exact And.intro (by assumption) rfl | exact And.intro (by omega) rfl | (simp only [inK] at *; omega) | (simp_all [sel] <;> fail) | fail) ?_
        refine rThen ?_
        refine zCond rfl rfl (fun hc => ?_) (fun hc => ?_)
        · replace hT := sT hc hT
          refine rSeq ?_
          refine zReg md0 hX rfl rfl rfl ?_
          refine rThen ?_
          refine rRet ?_
          refine rInRet ?_
          refine rThenRet ?_
          have hy := Option.some.inj hT; subst hy
          exact zEnd0 hX rfl
        · replace hT := sF hc hT
          refine rSkip ?_
          refine rInNormal ?_
          refine rThen ?_
          refine rSeq ?_
          refine rSeq ?_
          refine zReg md0 hX rfl rfl rfl ?_
          refine rThen ?_
          refine rBlock ?_
          replace hT := sBind hT; obtain ⟨w1, hl, hT⟩ := hT
          refine rJoinA (fun v1 => (Sum.inl v1) = w1) (fun v1 => ⟨[(4, .v (.c (.bool false)))], [], 2⟩) .ret (fun v1 hv => ?_) (fun hxs10 => ?_)
          · subst hv; clear hl; replace hT := (sElimL hT)
            refine rInRet ?_
            refine rThenRet ?_
            have hy := Option.some.inj hT; subst hy
            exact zEnd0 hX rfl
          refine rJoinA (fun v2 => (Sum.inr v2) = w1) (fun v2 => ⟨[(4, .v (.c (.bool false)))], [], 2⟩) (.exit 1) (fun v2 hv => ?_) (fun hxs11 => ?_)
          · subst hv; clear hl; replace hT := (sElimR hT)
            refine rInHit ?_
            refine rThen ?_
            refine rSeq ?_
            refine zReg md0 hX rfl rfl rfl ?_
            refine rThen ?_
            refine rRet ?_
            have hy := Option.some.inj hT; subst hy
            exact zEnd0 hX rfl
          refine rLoopM (overspill_sound_sheet_row_b1 N a4 a6 a8) (fun s1 => ⟨[(2, .v (.c (.ptr 0 0 0 0 0 0))), (4, .v (.c (.bool false))), (79, .v (.c (.fz (.pair (.int .i64) (.pair .bool (.pair (.int .i64) (.pair (.int .i64) (.pair (.arr 2 .i64) (.pair (.arr 6 .i64) (.arrS 6 (.pair .bool (.pair (.int .i64) (.int .i64)))))))))) (a6.getD (a8).toNat (false, ((0 : Int), ((0 : Int), [])))).2.2.2))), (80, .v (.c (.int .i64 ((a6.getD (a8).toNat (false, ((0 : Int), ((0 : Int), [])))).2.2.2.length : Int)))), (81, .v (.c (.int .i64 s1)))], [(0, .mem true 67 none (.flat [.cs [.int .i64 a1, .int .i64 a2, .int .i64 a3, .bool a4, .int .i64 a5, .val (.slice none 0 0), .fz (.pair .bool (.pair (.int .i64) (.pair (.int .i64) (.sl (.pair (.int .i64) (.pair .bool (.pair (.int .i64) (.pair (.int .i64) (.pair (.arr 2 .i64) (.pair (.arr 6 .i64) (.arrS 6 (.pair .bool (.pair (.int .i64) (.int .i64)))))))))))))) a6, .int .i64 a7]]))], 2⟩) hl (To.mk' [] 0 hε rfl (by repeat' first | exact True.intro | exact rfl | apply And.intro) (by repeat' first | exact True.intro | exact rfl | apply And.intro)) (fun s1 zs1 NNs1 hz hnexts1 houts1 => ?_)
          clear hl hT
          have hT := hz; clear hz
          refine rSeq ?_
          let x13 := (decide (s1 < ((a6.getD (a8).toNat (false, ((0 : Int), ((0 : Int), [])))).2.2.2.length : Int)))
          refine zReg md0 hX rfl rfl rfl ?_
          refine rThen ?_
          refine rSeq ?_
          refine zCond rfl rfl (fun hc => ?_) (fun hc => ?_)
          · replace hT := sT hc hT
            refine rSkip ?_
            refine rThen ?_
            refine rSeq ?_
            refine rBlock ?_
            refine rSeq ?_
            let x15 := ((a6.getD (a8).toNat (false, ((0 : Int), ((0 : Int), [])))).2.2.2.getD (s1).toNat ((0 : Int), (false, ((0 : Int), ((0 : Int), ((List.replicate 2 (0 : Int)), ((List.replicate 6 (0 : Int)), (List.replicate 6 [])))))))).1
            let x16 := ((a6.getD (a8).toNat (false, ((0 : Int), ((0 : Int), [])))).2.2.2.getD (s1).toNat ((0 : Int), (false, ((0 : Int), ((0 : Int), ((List.replicate 2 (0 : Int)), ((List.replicate 6 (0 : Int)), (List.replicate 6 [])))))))).2.1
            let x17 := ((a6.getD (a8).toNat (false, ((0 : Int), ((0 : Int), [])))).2.2.2.getD (s1).toNat ((0 : Int), (false, ((0 : Int), ((0 : Int), ((List.replicate 2 (0 : Int)), ((List.replicate 6 (0 : Int)), (List.replicate 6 [])))))))).2.2.1
            let x18 := ((a6.getD (a8).toNat (false, ((0 : Int), ((0 : Int), [])))).2.2.2.getD (s1).toNat ((0 : Int), (false, ((0 : Int), ((0 : Int), ((List.replicate 2 (0 : Int)), ((List.replicate 6 (0 : Int)), (List.replicate 6 [])))))))).2.2.2.1
            let x19 := ((a6.getD (a8).toNat (false, ((0 : Int), ((0 : Int), [])))).2.2.2.getD (s1).toNat ((0 : Int), (false, ((0 : Int), ((0 : Int), ((List.replicate 2 (0 : Int)), ((List.replicate 6 (0 : Int)), (List.replicate 6 [])))))))).2.2.2.2.1
            let x20 := ((a6.getD (a8).toNat (false, ((0 : Int), ((0 : Int), [])))).2.2.2.getD (s1).toNat ((0 : Int), (false, ((0 : Int), ((0 : Int), ((List.replicate 2 (0 : Int)), ((List.replicate 6 (0 : Int)), (List.replicate 6 [])))))))).2.2.2.2.2.1
            let x21 := ((a6.getD (a8).toNat (false, ((0 : Int), ((0 : Int), [])))).2.2.2.getD (s1).toNat ((0 : Int), (false, ((0 : Int), ((0 : Int), ((List.replicate 2 (0 : Int)), ((List.replicate 6 (0 : Int)), (List.replicate 6 [])))))))).2.2.2.2.2.2
            replace hT := sIf hT; obtain ⟨⟨o1, o2⟩, hT⟩ := hT
            refine zReg md0 hX rfl rfl rfl ?_
            refine rThen ?_
            refine rSeq ?_
            let c3 := (cellout_Right N a4 x15 x16 x17 x18 x19 x20 x21)
            replace hT := sIf hT; obtain ⟨o1, hT⟩ := hT
            refine zReg md0 hX rfl rfl rfl ?_
            refine rThen ?_
            refine zCond rfl rfl (fun hc => ?_) (fun hc => ?_)
            · replace hT := sT hc hT
              refine rSeq ?_
              refine zReg md0 hX rfl rfl rfl ?_
              refine rThen ?_
              refine rRet ?_
              refine rInRet ?_
              refine rThenRet ?_
              refine rThenRet ?_
              exact zTo [] 0 hε (hxs10 _ (houts1 _ (Option.some.inj hT).symm))
            · replace hT := sF hc hT
              refine rSkip ?_
              refine rInNormal ?_
              refine rThen ?_
              replace hT := sIf hT; obtain ⟨o1, hT⟩ := hT
              refine zReg md0 hX rfl rfl rfl ?_
              exact hnexts1 _ (Option.some.inj hT).symm _ (To.mk' [] 0 hε rfl (by repeat' first | exact True.intro | exact rfl | apply And.intro) (by repeat' first | exact True.intro | exact rfl | apply And.intro))
          · replace hT := sF hc hT
            refine rExit ?_
            refine rThenExit ?_
            refine rThenExit ?_
            exact zTo [] 0 hε (hxs11 _ (houts1 _ (Option.some.inj hT).symm))
  · cases h
def sound_every_row_b1 (N : Nat) (a1 : Int) (a2 : Int) (a3 : Int) (a4 : Int) (a5 : Bool) (a6 : Int) (a7 : (List (Bool × (Int × (Int × (List (Int × (Bool × (Int × (Int × ((List Int) × ((List Int) × (List (List (Bool × (Int × Int)))))))))))))))) (a8 : Int) (s1 : Int) : Option (Int ⊕ (Unit ⊕ Unit)) :=
  bif (decide (s1 < a1)) then
    let c1 := (overspill_sound_sheet_row N a2 a3 a4 a5 a6 a7 a8 s1)
    if c1.isSome = true then
      bif (!(c1.getD default)) then
        some (.inr (Sum.inl ()))
      else
        if inK .i64 (s1 + 1) then
          some (.inl (s1 + 1))
        else none
    else none
  else
    some (.inr (Sum.inr ()))
def sound_every_row (N : Nat) (a1 : Int) (a2 : Int) (a3 : Int) (a4 : Int) (a5 : Bool) (a6 : Int) (a7 : (List (Bool × (Int × (Int × (List (Int × (Bool × (Int × (Int × ((List Int) × ((List Int) × (List (List (Bool × (Int × Int)))))))))))))))) (a8 : Int) : Option Bool :=
  (iter (sound_every_row_b1 N a1 a2 a3 a4 a5 a6 a7 a8) N 0).bind fun w1 =>
    (Sum.elim (fun v1 =>
      some false
    )
      (fun v2 =>
        some true
      )
    ) w1
def sp_sound_every_row (N : Nat) : X.Spec := fun args lk => match args with
  | [.v (.c (.int .i64 a1)), .fnv 38 [.agg [.cs [.int .i64 a2, .int .i64 a3, .int .i64 a4, .bool a5, .int .i64 a6, .val (.slice none 0 0), .fz (.pair .bool (.pair (.int .i64) (.pair (.int .i64) (.sl (.pair (.int .i64) (.pair .bool (.pair (.int .i64) (.pair (.int .i64) (.pair (.arr 2 .i64) (.pair (.arr 6 .i64) (.arrS 6 (.pair .bool (.pair (.int .i64) (.int .i64)))))))))))))) a7, .int .i64 a8]]] []] => some ⟨(sound_every_row N a1 a2 a3 a4 a5 a6 a7 a8).isSome = true, .v (.c (.bool ((sound_every_row N a1 a2 a3 a4 a5 a6 a7 a8).getD default))), [], []⟩
  | _ => none
set_option maxRecDepth 100000 in
set_option maxHeartbeats 1000000 in
theorem ok_sound_every_row (N : Nat) : FnOK Tryd.prog gt0 37 (sp_sound_every_row N) := by
  refine fnOK_handed Tryd.func37 rfl (by kernel_rfl) tt_ok (ktCons (ok_overspill_sound_sheet_row N) (ktNil)) ?_
  intro args lk r h hp
  unfold sp_sound_every_row at h
  split at h
  · rename_i a1 a2 a3 a4 a5 a6 a7 a8
    change (List (Bool × (Int × (Int × (List (Int × (Bool × (Int × (Int × ((List Int) × ((List Int) × (List (List (Bool × (Int × Int))))))))))))))) at a7
    cases h
    obtain ⟨x, hx⟩ := Option.isSome_iff_exists.1 hp
    simp only [hx, Option.getD_some]
    refine hand0 rfl rfl (fun w0 M ε0 hX => ?_)
    refine rCount (fun hε => ?_)
    have hT : sound_every_row N a1 a2 a3 a4 a5 a6 a7 a8 = some x := hx; clear hx hp; unfold sound_every_row at hT
    refine rSeq ?_
    refine zReg md0 hX rfl rfl rfl ?_
    refine rThen ?_
    refine rSeq ?_
    refine rSeq ?_
    refine zReg md0 hX rfl rfl rfl ?_
    refine rThen ?_
    refine rBlock ?_
    replace hT := sBind hT; obtain ⟨w1, hl, hT⟩ := hT
    refine rJoinA (fun v1 => (Sum.inl v1) = w1) (fun v1 => ⟨[(4, .v (.c (.bool false)))], [], 0⟩) .ret (fun v1 hv => ?_) (fun hxs10 => ?_)
    · subst hv; clear hl; replace hT := (sElimL hT)
      refine rInRet ?_
      refine rThenRet ?_
      have hy := Option.some.inj hT; subst hy
      exact zEnd0 hX rfl
    refine rJoinA (fun v2 => (Sum.inr v2) = w1) (fun v2 => ⟨[(4, .v (.c (.bool false)))], [], 0⟩) (.exit 0) (fun v2 hv => ?_) (fun hxs11 => ?_)
    · subst hv; clear hl; replace hT := (sElimR hT)
      refine rInHit ?_
      refine rThen ?_
      refine rSeq ?_
      refine zReg md0 hX rfl rfl rfl ?_
      refine rThen ?_
      refine rRet ?_
      have hy := Option.some.inj hT; subst hy
      exact zEnd0 hX rfl
    refine rLoopM (sound_every_row_b1 N a1 a2 a3 a4 a5 a6 a7 a8) (fun s1 => ⟨[(1, .fnv 38 [.agg [.cs [.int .i64 a2, .int .i64 a3, .int .i64 a4, .bool a5, .int .i64 a6, .val (.slice none 0 0), .fz (.pair .bool (.pair (.int .i64) (.pair (.int .i64) (.sl (.pair (.int .i64) (.pair .bool (.pair (.int .i64) (.pair (.int .i64) (.pair (.arr 2 .i64) (.pair (.arr 6 .i64) (.arrS 6 (.pair .bool (.pair (.int .i64) (.int .i64)))))))))))))) a7, .int .i64 a8]]] []), (4, .v (.c (.bool false))), (6, .v (.c (.int .i64 a1))), (7, .v (.c (.int .i64 s1)))], [], 0⟩) hl (To.mk' [] 0 hε rfl (by repeat' first | exact True.intro | exact rfl | apply And.intro) (by repeat' first | exact True.intro | exact rfl | apply And.intro)) (fun s1 zs1 NNs1 hz hnexts1 houts1 => ?_)
    clear hl hT
    have hT := hz; clear hz
    refine rSeq ?_
    refine zReg md0 hX rfl rfl rfl ?_
    refine rThen ?_
    refine rSeq ?_
    refine zCond rfl rfl (fun hc => ?_) (fun hc => ?_)
    · replace hT := sT hc hT
      refine rSkip ?_
      refine rThen ?_
      refine rSeq ?_
      refine rBlock ?_
      refine rSeq ?_
      refine zReg md0 hX rfl rfl rfl ?_
      refine rThen ?_
      refine rSeq ?_
      let c1 := (overspill_sound_sheet_row N a2 a3 a4 a5 a6 a7 a8 s1)
      replace hT := sIf hT; obtain ⟨o1, hT⟩ := hT
      refine zReg md0 hX rfl rfl rfl ?_
      refine rThen ?_
      refine zCond rfl rfl (fun hc => ?_) (fun hc => ?_)
      · replace hT := sT hc hT
        refine rSeq ?_
        refine zReg md0 hX rfl rfl rfl ?_
        refine rThen ?_
        refine rRet ?_
        refine rInRet ?_
        refine rThenRet ?_
        refine rThenRet ?_
        exact zTo [] 0 hε (hxs10 _ (houts1 _ (Option.some.inj hT).symm))
      · replace hT := sF hc hT
        refine rSkip ?_
        refine rInNormal ?_
        refine rThen ?_
        replace hT := sIf hT; obtain ⟨o1, hT⟩ := hT
        refine zReg md0 hX rfl rfl rfl ?_
        exact hnexts1 _ (Option.some.inj hT).symm _ (To.mk' [] 0 hε rfl (by repeat' first | exact True.intro | exact rfl | apply And.intro) (by repeat' first | exact True.intro | exact rfl | apply And.intro))
    · replace hT := sF hc hT
      refine rExit ?_
      refine rThenExit ?_
      refine rThenExit ?_
      exact zTo [] 0 hε (hxs11 _ (houts1 _ (Option.some.inj hT).symm))
  · cases h
def slices_Clone_overspill_api_Event_overspill_api_Event (N : Nat) (a1 : (List (Bool × (Int × Int)))) : Option (List (Bool × (Int × Int))) :=
  if ([] : List (Bool × (Int × Int))).length = 0 ∧ (0 + a1.length) * 24 ≤ 140737488355328 ∧ 0 + a1.length ≤ 9223372036854775807 then
    if (0 + a1.length) = (([] : List (Bool × (Int × Int))) ++ a1).length then
      some (([] : List (Bool × (Int × Int))) ++ a1)
    else none
  else none
def sp_slices_Clone_overspill_api_Event_overspill_api_Event (N : Nat) : X.Spec := fun args lk => match args with
  | [.v (.c (.fz (.pair .bool (.pair (.int .i64) (.int .i64))) a1))] => some ⟨(slices_Clone_overspill_api_Event_overspill_api_Event N a1).isSome = true, .v (.c (.fz (.pair .bool (.pair (.int .i64) (.int .i64))) ((slices_Clone_overspill_api_Event_overspill_api_Event N a1).getD default))), [], []⟩
  | _ => none
set_option maxRecDepth 100000 in
set_option maxHeartbeats 1000000 in
theorem ok_slices_Clone_overspill_api_Event_overspill_api_Event (N : Nat) : FnOK Tryd.prog gt0 74 (sp_slices_Clone_overspill_api_Event_overspill_api_Event N) := by
  refine fnOK_handed Tryd.func74 rfl (by kernel_rfl) tt_ok (ktNil) ?_
  intro args lk r h hp
  unfold sp_slices_Clone_overspill_api_Event_overspill_api_Event at h
  split at h
  · rename_i a1
    change (List (Bool × (Int × Int))) at a1
    cases h
    obtain ⟨x, hx⟩ := Option.isSome_iff_exists.1 hp
    simp only [hx, Option.getD_some]
    refine hand0 rfl rfl (fun w0 M ε0 hX => ?_)
    refine rCount (fun hε => ?_)
    have hT : slices_Clone_overspill_api_Event_overspill_api_Event N a1 = some x := hx; clear hx hp; unfold slices_Clone_overspill_api_Event_overspill_api_Event at hT
    refine rSeq ?_
    refine zReg md0 hX rfl rfl rfl ?_
    refine rThen ?_
    refine rSeq ?_
    refine rSeq ?_
    refine rRegSL ?_
    refine rSLStop md0 hX rfl rfl rfl (by (repeat' first | exact True.intro | with_reducible assumption | (with_reducible apply And.intro) | intro _) <;> first | assumption | exact rfl | omega | exact Nat.le_of_ble_eq_true rfl | exact selF (by assumption) | exact selT (by assumption) | exact And.intro rfl rfl | exact And.intro (by assumption) rfl | exact And.intro (by omega) rfl | (simp only [inK] at *; omega) | (simp_all [sel] <;> fail) | fail) ?_
    refine rSLNil hX rfl rfl rfl rfl rfl rfl (by first | trivial | assumption) rfl rfl rfl (fun hn => ?_) ?_
    · replace hT : (
        some []
        : Option (List (Bool × (Int × Int)))) = some x := by
        (try subst hn); (repeat (replace hT := (sIf hT).2)); exact hT
      refine rSLDone md0 hX rfl rfl rfl (by (repeat' first | exact True.intro | with_reducible assumption | (with_reducible apply And.intro) | intro _) <;> first | assumption | exact rfl | omega | exact Nat.le_of_ble_eq_true rfl | exact selF (by assumption) | exact selT (by assumption) | exact And.intro rfl rfl | exact And.intro (by assumption) rfl | exact And.intro (by omega) rfl | (simp only [inK] at *; omega) | (simp_all [sel] <;> fail) | fail) ?_
      refine rThen ?_
      refine rCondT rfl rfl (by (repeat' first | exact True.intro | with_reducible assumption | (with_reducible apply And.intro) | intro _) <;> first | assumption | exact rfl | omega | exact Nat.le_of_ble_eq_true rfl | exact selF (by assumption) | exact selT (by assumption) | exact And.intro rfl rfl | exact And.intro (by assumption) rfl | exact And.intro (by omega) rfl | (simp only [inK] at *; omega) | (simp_all [sel] <;> fail) | fail) rfl ?_
      refine rSeq ?_
      refine zReg md0 hX rfl rfl rfl ?_
      refine rThen ?_
      refine rRet ?_
      refine rThenRet ?_
      have hy := Option.some.inj hT; subst hy
      exact zEnd0 hX rfl
    · refine rSLDone md0 hX rfl rfl rfl (by (repeat' first | exact True.intro | with_reducible assumption | (with_reducible apply And.intro) | intro _) <;> first | assumption | exact rfl | omega | exact Nat.le_of_ble_eq_true rfl | exact selF (by assumption) | exact selT (by assumption) | exact And.intro rfl rfl | exact And.intro (by assumption) rfl | exact And.intro (by omega) rfl | (simp only [inK] at *; omega) | (simp_all [sel] <;> fail) | fail) ?_
      refine rThen ?_
      refine rCondF rfl rfl (by (repeat' first | exact True.intro | with_reducible assumption | (with_reducible apply And.intro) | intro _) <;> first | assumption | exact rfl | omega | exact Nat.le_of_ble_eq_true rfl | exact selF (by assumption) | exact selT (by assumption) | exact And.intro rfl rfl | exact And.intro (by assumption) rfl | exact And.intro (by omega) rfl | (simp only [inK] at *; omega) | (simp_all [sel] <;> fail) | fail) rfl ?_
      refine rSkip ?_
      refine rThen ?_
      refine rSeq ?_
      refine rRegSL ?_
      refine rSLCut md0 2 hX rfl rfl rfl (by (repeat' first | exact True.intro | with_reducible assumption | (with_reducible apply And.intro) | intro _) <;> first | assumption | exact rfl | omega | exact Nat.le_of_ble_eq_true rfl | exact selF (by assumption) | exact selT (by assumption) | exact And.intro rfl rfl | exact And.intro (by assumption) rfl | exact And.intro (by omega) rfl | (simp only [inK] at *; omega) | (simp_all [sel] <;> fail) | fail) ?_
      refine rLstL 0 (.pair .bool (.pair (.int .i64) (.int .i64))) [] rfl rfl rfl ?_
      replace hT := sIf hT; obtain ⟨⟨o1, o2, o3⟩, hT⟩ := hT
      refine rSLDone md0 hX rfl rfl rfl (by (repeat' first | exact True.intro | with_reducible assumption | (with_reducible apply And.intro) | intro _) <;> first | assumption | exact rfl | omega | exact Nat.le_of_ble_eq_true rfl | exact selF (by assumption) | exact selT (by assumption) | exact And.intro rfl rfl | exact And.intro (by assumption) rfl | exact And.intro (by omega) rfl | (simp only [inK] at *; omega) | (simp_all [sel] <;> fail) | fail) ?_
      refine rThen ?_
      refine rRet ?_
      replace hT := sIf hT; obtain ⟨p1, hT⟩ := hT
      refine rFreezeQ 1 (.pair .bool (.pair (.int .i64) (.int .i64))) (([] : List (Bool × (Int × Int))) ++ a1) [(2, .v (.c (.fz (.pair .bool (.pair (.int .i64) (.int .i64))) (([] : List (Bool × (Int × Int))) ++ a1))))] [] rfl rfl (by (repeat' first | exact True.intro | exact rfl | apply And.intro) <;> first | assumption | rfl) (by (repeat' first | exact True.intro | exact rfl | apply And.intro) <;> first | assumption | rfl) ?_
      have hy := Option.some.inj hT; subst hy
      exact zEnd0 hX rfl
  · cases h
def sound_own_b1 (N : Nat) (a7 : (List (List (Bool × (Int × Int))))) (s1 : (Int × (List (List (Bool × (Int × Int)))))) : Option ((Int × (List (List (Bool × (Int × Int))))) ⊕ (List (List (Bool × (Int × Int))))) :=
  bif (decide (s1.1 < 6)) then
    if (0 : Int) ≤ s1.1 ∧ s1.1 < 6 ∧ (s1.1).toNat < 6 then
      let c1 := (slices_Clone_overspill_api_Event_overspill_api_Event N (a7.getD (s1.1).toNat []))
      if c1.isSome = true ∧ (0 : Int) ≤ s1.1 ∧ s1.1 < 6 ∧ (s1.1).toNat < 6 then
        if inK .i64 (s1.1 + 1) then
          some (.inl ((s1.1 + 1), (s1.2.set (s1.1).toNat (c1.getD default))))
        else none
      else none
    else none
  else
    some (.inr s1.2)
def sound_own (N : Nat) (a1 : Int) (a2 : Bool) (a3 : Int) (a4 : Int) (a5 : (List Int)) (a6 : (List Int)) (a7 : (List (List (Bool × (Int × Int))))) : Option (Int × Bool × Int × Int × (List Int) × (List Int) × (List (List (Bool × (Int × Int))))) :=
  (iter (sound_own_b1 N a7) N (0, a7)).bind fun v1 =>
    some (a1, a2, a3, a4, a5, a6, v1)
def sp_sound_own (N : Nat) : X.Spec := fun args lk => match args with
  | [.v (.agg [.cs [.int .i64 a1, .bool a2, .int .i64 a3, .int .i64 a4], .ints 2 .i64 a5, .ints 6 .i64 a6, .fzs 6 (.pair .bool (.pair (.int .i64) (.int .i64))) a7])] => some ⟨(sound_own N a1 a2 a3 a4 a5 a6 a7).isSome = true, .v (.agg [.cs [.int .i64 ((sound_own N a1 a2 a3 a4 a5 a6 a7).getD default).1, .bool ((sound_own N a1 a2 a3 a4 a5 a6 a7).getD default).2.1, .int .i64 ((sound_own N a1 a2 a3 a4 a5 a6 a7).getD default).2.2.1, .int .i64 ((sound_own N a1 a2 a3 a4 a5 a6 a7).getD default).2.2.2.1], .ints 2 .i64 ((sound_own N a1 a2 a3 a4 a5 a6 a7).getD default).2.2.2.2.1, .ints 6 .i64 ((sound_own N a1 a2 a3 a4 a5 a6 a7).getD default).2.2.2.2.2.1, .fzs 6 (.pair .bool (.pair (.int .i64) (.int .i64))) ((sound_own N a1 a2 a3 a4 a5 a6 a7).getD default).2.2.2.2.2.2]), [], []⟩
  | _ => none
set_option maxRecDepth 100000 in
set_option maxHeartbeats 1000000 in
theorem ok_sound_own (N : Nat) : FnOK Tryd.prog gt0 45 (sp_sound_own N) := by
  refine fnOK_handed Tryd.func45 rfl (by kernel_rfl) tt_ok (ktCons (ok_slices_Clone_overspill_api_Event_overspill_api_Event N) (ktNil)) ?_
  intro args lk r h hp
  unfold sp_sound_own at h
  split at h
  · rename_i a1 a2 a3 a4 a5 a6 a7
    change (List Int) at a5
    change (List Int) at a6
    change (List (List (Bool × (Int × Int)))) at a7
    cases h
    obtain ⟨x, hx⟩ := Option.isSome_iff_exists.1 hp
    simp only [hx, Option.getD_some]
    refine hand0 rfl rfl (fun w0 M ε0 hX => ?_)
    refine rCount (fun hε => ?_)
    have hT : sound_own N a1 a2 a3 a4 a5 a6 a7 = some x := hx; clear hx hp; unfold sound_own at hT
    refine rSeq ?_
    refine zReg md0 hX rfl rfl rfl ?_
    refine rThen ?_
    refine rSeq ?_
    refine rSeq ?_
    refine zReg md0 hX rfl rfl rfl ?_
    refine rThen ?_
    refine rBlock ?_
    replace hT := sBind hT; obtain ⟨w1, hl, hT⟩ := hT
    refine rJoinA (fun v1 => v1 = w1) (fun v1 => ⟨[(1, .v (.c (.ptr 0 0 0 0 0 0))), (2, .v (.c (.ptr 1 0 0 0 0 0)))], [(0, .mem true 42 none (.flat [.cs [.int .i64 a1, .bool a2, .int .i64 a3, .int .i64 a4], .ints 2 .i64 a5, .ints 6 .i64 a6, .fzs 6 (.pair .bool (.pair (.int .i64) (.int .i64))) v1])), (1, .mem true 42 none (.flat [.cs [.int .i64 0, .bool false, .int .i64 0, .int .i64 0], .ints 2 .i64 (List.replicate 2 0), .ints 6 .i64 (List.replicate 6 0), .fzs 6 (.pair .bool (.pair (.int .i64) (.int .i64))) (List.replicate 6 [])]))], 2⟩) (.exit 0) (fun v1 hv => ?_) (fun hxs10 => ?_)
    · subst hv; clear hl
      refine rInHit ?_
      refine rThen ?_
      refine rSeq ?_
      refine zReg md0 hX rfl rfl rfl ?_
      refine rThen ?_
      refine rRet ?_
      have hy := Option.some.inj hT; subst hy
      exact zEnd0 hX rfl
    refine rLoopM (sound_own_b1 N a7) (fun s1 => ⟨[(1, .v (.c (.ptr 0 0 0 0 0 0))), (2, .v (.c (.ptr 1 0 0 0 0 0))), (6, .v (.agg [.fzs 6 (.pair .bool (.pair (.int .i64) (.int .i64))) a7])), (7, .v (.c (.int .i64 s1.1)))], [(0, .mem true 42 none (.flat [.cs [.int .i64 a1, .bool a2, .int .i64 a3, .int .i64 a4], .ints 2 .i64 a5, .ints 6 .i64 a6, .fzs 6 (.pair .bool (.pair (.int .i64) (.int .i64))) s1.2])), (1, .mem true 42 none (.flat [.cs [.int .i64 0, .bool false, .int .i64 0, .int .i64 0], .ints 2 .i64 (List.replicate 2 0), .ints 6 .i64 (List.replicate 6 0), .fzs 6 (.pair .bool (.pair (.int .i64) (.int .i64))) (List.replicate 6 [])]))], 2⟩) hl (To.mk' [] 0 hε rfl (by repeat' first | exact True.intro | exact rfl | apply And.intro) (by repeat' first | exact True.intro | exact rfl | apply And.intro)) (fun s1 zs1 NNs1 hz hnexts1 houts1 => ?_)
    clear hl hT
    have hT := hz; clear hz
    refine rSeq ?_
    refine zReg md0 hX rfl rfl rfl ?_
    refine rThen ?_
    refine rSeq ?_
    refine zCond rfl rfl (fun hc => ?_) (fun hc => ?_)
    · replace hT := sT hc hT
      refine rSkip ?_
      refine rThen ?_
      refine rSeq ?_
      refine rBlock ?_
      refine rSeq ?_
      replace hT := sIf hT; obtain ⟨⟨o1, o2, o3⟩, hT⟩ := hT
      refine zReg md0 hX rfl rfl rfl ?_
      refine rThen ?_
      let c1 := (slices_Clone_overspill_api_Event_overspill_api_Event N (a7.getD (s1.1).toNat []))
      replace hT := sIf hT; obtain ⟨⟨o1, o2, o3, o4⟩, hT⟩ := hT
      refine zReg md0 hX rfl rfl rfl ?_
      refine rInNormal ?_
      refine rThen ?_
      replace hT := sIf hT; obtain ⟨o1, hT⟩ := hT
      refine zReg md0 hX rfl rfl rfl ?_
      exact hnexts1 _ (Option.some.inj hT).symm _ (To.mk' [] 0 hε rfl (by repeat' first | exact True.intro | exact rfl | apply And.intro) (by repeat' first | exact True.intro | exact rfl | apply And.intro))
    · replace hT := sF hc hT
      refine rExit ?_
      refine rThenExit ?_
      refine rThenExit ?_
      exact zTo [] 0 hε (hxs10 _ (houts1 _ (Option.some.inj hT).symm))
  · cases h
def sound_Cells_b2 (N : Nat) (a6 : (List (Bool × (Int × (Int × (List (Int × (Bool × (Int × (Int × ((List Int) × ((List Int) × (List (List (Bool × (Int × Int)))))))))))))))) (s2 : (Nat × Int × (List (Int × (Bool × (Int × (Int × ((List Int) × ((List Int) × (List (List (Bool × (Int × Int))))))))))))) (s3 : (Nat × Int × (List (Int × (Bool × (Int × (Int × ((List Int) × ((List Int) × (List (List (Bool × (Int × Int))))))))))))) : Option ((Nat × Int × (List (Int × (Bool × (Int × (Int × ((List Int) × ((List Int) × (List (List (Bool × (Int × Int)))))))))))) ⊕ (Nat × Int × Bool × (List (Int × (Bool × (Int × (Int × ((List Int) × ((List Int) × (List (List (Bool × (Int × Int))))))))))))) :=
  let x1 := (decide (s3.2.1 < ((a6.getD (s2.2.1).toNat (false, ((0 : Int), ((0 : Int), [])))).2.2.2.length : Int)))
  bif x1 then
    let x3 := ((a6.getD (s2.2.1).toNat (false, ((0 : Int), ((0 : Int), [])))).2.2.2.getD (s3.2.1).toNat ((0 : Int), (false, ((0 : Int), ((0 : Int), ((List.replicate 2 (0 : Int)), ((List.replicate 6 (0 : Int)), (List.replicate 6 [])))))))).1
    let x4 := ((a6.getD (s2.2.1).toNat (false, ((0 : Int), ((0 : Int), [])))).2.2.2.getD (s3.2.1).toNat ((0 : Int), (false, ((0 : Int), ((0 : Int), ((List.replicate 2 (0 : Int)), ((List.replicate 6 (0 : Int)), (List.replicate 6 [])))))))).2.1
    let x5 := ((a6.getD (s2.2.1).toNat (false, ((0 : Int), ((0 : Int), [])))).2.2.2.getD (s3.2.1).toNat ((0 : Int), (false, ((0 : Int), ((0 : Int), ((List.replicate 2 (0 : Int)), ((List.replicate 6 (0 : Int)), (List.replicate 6 [])))))))).2.2.1
    let x6 := ((a6.getD (s2.2.1).toNat (false, ((0 : Int), ((0 : Int), [])))).2.2.2.getD (s3.2.1).toNat ((0 : Int), (false, ((0 : Int), ((0 : Int), ((List.replicate 2 (0 : Int)), ((List.replicate 6 (0 : Int)), (List.replicate 6 [])))))))).2.2.2.1
    let x7 := ((a6.getD (s2.2.1).toNat (false, ((0 : Int), ((0 : Int), [])))).2.2.2.getD (s3.2.1).toNat ((0 : Int), (false, ((0 : Int), ((0 : Int), ((List.replicate 2 (0 : Int)), ((List.replicate 6 (0 : Int)), (List.replicate 6 [])))))))).2.2.2.2.1
    let x8 := ((a6.getD (s2.2.1).toNat (false, ((0 : Int), ((0 : Int), [])))).2.2.2.getD (s3.2.1).toNat ((0 : Int), (false, ((0 : Int), ((0 : Int), ((List.replicate 2 (0 : Int)), ((List.replicate 6 (0 : Int)), (List.replicate 6 [])))))))).2.2.2.2.2.1
    let x9 := ((a6.getD (s2.2.1).toNat (false, ((0 : Int), ((0 : Int), [])))).2.2.2.getD (s3.2.1).toNat ((0 : Int), (false, ((0 : Int), ((0 : Int), ((List.replicate 2 (0 : Int)), ((List.replicate 6 (0 : Int)), (List.replicate 6 [])))))))).2.2.2.2.2.2
    if (0 : Int) ≤ s3.2.1 ∧ s3.2.1 < ((a6.getD (s2.2.1).toNat (false, ((0 : Int), ((0 : Int), [])))).2.2.2.length : Int) then
      let c1 := (sound_own N x3 x4 x5 x6 x7 x8 x9)
      if c1.isSome = true ∧ s3.2.2.length = s3.1 ∧ (s3.1 + 1) * 240 ≤ 140737488355328 ∧ s3.1 + 1 ≤ 9223372036854775807 then
        if inK .i64 (s3.2.1 + 1) then
          some (.inl ((s3.1 + 1), (s3.2.1 + 1), (s3.2.2 ++ [(c1.getD default)])))
        else none
      else none
    else none
  else
    some (.inr (s3.1, s3.2.1, x1, s3.2.2))
def sound_Cells_b1 (N : Nat) (a6 : (List (Bool × (Int × (Int × (List (Int × (Bool × (Int × (Int × ((List Int) × ((List Int) × (List (List (Bool × (Int × Int)))))))))))))))) (s2 : (Nat × Int × (List (Int × (Bool × (Int × (Int × ((List Int) × ((List Int) × (List (List (Bool × (Int × Int))))))))))))) : Option ((Nat × Int × (List (Int × (Bool × (Int × (Int × ((List Int) × ((List Int) × (List (List (Bool × (Int × Int)))))))))))) ⊕ (Nat × (List (Int × (Bool × (Int × (Int × ((List Int) × ((List Int) × (List (List (Bool × (Int × Int))))))))))))) :=
  bif (decide (s2.2.1 < (a6.length : Int))) then
    if (0 : Int) ≤ s2.2.1 ∧ s2.2.1 < (a6.length : Int) then
      (iter (sound_Cells_b2 N a6 s2) N (s2.1, 0, s2.2.2)).bind fun v2 =>
        if inK .i64 (s2.2.1 + 1) then
          some (.inl (v2.1, (s2.2.1 + 1), v2.2.2.2))
        else none
    else none
  else
    some (.inr (s2.1, s2.2.2))
def sound_Cells (N : Nat) (a1 : Int) (a2 : Int) (a3 : Int) (a4 : Bool) (a5 : Int) (a6 : (List (Bool × (Int × (Int × (List (Int × (Bool × (Int × (Int × ((List Int) × ((List Int) × (List (List (Bool × (Int × Int)))))))))))))))) (a7 : Int) : Option (List (Int × (Bool × (Int × (Int × ((List Int) × ((List Int) × (List (List (Bool × (Int × Int))))))))))) :=
  (iter (sound_Cells_b1 N a6) N (0, 0, [])).bind fun v1 =>
    if v1.1 = v1.2.length then
      some v1.2
    else none
def sp_sound_Cells (N : Nat) : X.Spec := fun args lk => match args with
  | [.v (.agg [.cs [.int .i64 a1, .int .i64 a2, .int .i64 a3, .bool a4, .int .i64 a5, .val (.slice none 0 0), .fz (.pair .bool (.pair (.int .i64) (.pair (.int .i64) (.sl (.pair (.int .i64) (.pair .bool (.pair (.int .i64) (.pair (.int .i64) (.pair (.arr 2 .i64) (.pair (.arr 6 .i64) (.arrS 6 (.pair .bool (.pair (.int .i64) (.int .i64)))))))))))))) a6, .int .i64 a7]])] => some ⟨(sound_Cells N a1 a2 a3 a4 a5 a6 a7).isSome = true, .v (.c (.fz (.pair (.int .i64) (.pair .bool (.pair (.int .i64) (.pair (.int .i64) (.pair (.arr 2 .i64) (.pair (.arr 6 .i64) (.arrS 6 (.pair .bool (.pair (.int .i64) (.int .i64)))))))))) ((sound_Cells N a1 a2 a3 a4 a5 a6 a7).getD default))), [], []⟩
  | _ => none
set_option maxRecDepth 100000 in
set_option maxHeartbeats 1000000 in
theorem ok_sound_Cells (N : Nat) : FnOK Tryd.prog gt0 13 (sp_sound_Cells N) := by
  refine fnOK_handed Tryd.func13 rfl (by kernel_rfl) tt_ok (ktCons (ok_sound_own N) (ktNil)) ?_
  intro args lk r h hp
  unfold sp_sound_Cells at h
  split at h
  · rename_i a1 a2 a3 a4 a5 a6 a7
    change (List (Bool × (Int × (Int × (List (Int × (Bool × (Int × (Int × ((List Int) × ((List Int) × (List (List (Bool × (Int × Int))))))))))))))) at a6
    cases h
    obtain ⟨x, hx⟩ := Option.isSome_iff_exists.1 hp
    simp only [hx, Option.getD_some]
    refine hand0 rfl rfl (fun w0 M ε0 hX => ?_)
    refine rCount (fun hε => ?_)
    have hT : sound_Cells N a1 a2 a3 a4 a5 a6 a7 = some x := hx; clear hx hp; unfold sound_Cells at hT
    refine rSeq ?_
    refine zReg md0 hX rfl rfl rfl ?_
    refine rThen ?_
    refine rSeq ?_
    refine zReg md0 hX rfl rfl rfl ?_
    refine rThen ?_
    refine rSeq ?_
    refine rSeq ?_
    refine zReg md0 hX rfl rfl rfl ?_
    refine rThen ?_
    refine rBlock ?_
    refine rNil 42 18 (.lst (.pair (.int .i64) (.pair .bool (.pair (.int .i64) (.pair (.int .i64) (.pair (.arr 2 .i64) (.pair (.arr 6 .i64) (.arrS 6 (.pair .bool (.pair (.int .i64) (.int .i64)))))))))) []) [(2, .v (.c (.val (.slice none 0 0)))), (3, .v (.c (.sl 1 0 0 18))), (9, .v (.c (.fz (.pair .bool (.pair (.int .i64) (.pair (.int .i64) (.sl (.pair (.int .i64) (.pair .bool (.pair (.int .i64) (.pair (.int .i64) (.pair (.arr 2 .i64) (.pair (.arr 6 .i64) (.arrS 6 (.pair .bool (.pair (.int .i64) (.int .i64)))))))))))))) a6))), (10, .v (.c (.int .i64 (a6.length : Int)))), (11, .v (.c (.int .i64 0)))] [] (nil_lst _) (by (repeat' first | exact True.intro | exact rfl | apply And.intro) <;> first | assumption | rfl) (by (repeat' first | exact True.intro | exact rfl | apply And.intro) <;> first | assumption | rfl) ?_
    replace hT := sBind hT; obtain ⟨w1, hl, hT⟩ := hT
    refine rJoinA (fun v1 => v1 = w1) (fun v1 => ⟨[(2, .v (.c (.val (.slice none 0 0)))), (3, .v (.c (.sl 1 0 v1.1 18)))], [(1, .mem true 42 (some 18) (.lst (.pair (.int .i64) (.pair .bool (.pair (.int .i64) (.pair (.int .i64) (.pair (.arr 2 .i64) (.pair (.arr 6 .i64) (.arrS 6 (.pair .bool (.pair (.int .i64) (.int .i64)))))))))) v1.2))], 2⟩) (.exit 0) (fun v1 hv => ?_) (fun hxs20 => ?_)
    · subst hv; clear hl
      refine rInHit ?_
      refine rThen ?_
      refine rSeq ?_
      refine zReg md0 hX rfl rfl rfl ?_
      refine rThen ?_
      refine rRet ?_
      replace hT := sIf hT; obtain ⟨p1, hT⟩ := hT
      refine rFreezeQ 1 (.pair (.int .i64) (.pair .bool (.pair (.int .i64) (.pair (.int .i64) (.pair (.arr 2 .i64) (.pair (.arr 6 .i64) (.arrS 6 (.pair .bool (.pair (.int .i64) (.int .i64)))))))))) v1.2 [(2, .v (.c (.fz (.pair (.int .i64) (.pair .bool (.pair (.int .i64) (.pair (.int .i64) (.pair (.arr 2 .i64) (.pair (.arr 6 .i64) (.arrS 6 (.pair .bool (.pair (.int .i64) (.int .i64)))))))))) v1.2)))] [] rfl rfl (by (repeat' first | exact True.intro | exact rfl | apply And.intro) <;> first | assumption | rfl) (by (repeat' first | exact True.intro | exact rfl | apply And.intro) <;> first | assumption | rfl) ?_
      have hy := Option.some.inj hT; subst hy
      exact zEnd0 hX rfl
    refine rLoopM (sound_Cells_b1 N a6) (fun s2 => ⟨[(2, .v (.c (.val (.slice none 0 0)))), (3, .v (.c (.sl 1 0 s2.1 18))), (9, .v (.c (.fz (.pair .bool (.pair (.int .i64) (.pair (.int .i64) (.sl (.pair (.int .i64) (.pair .bool (.pair (.int .i64) (.pair (.int .i64) (.pair (.arr 2 .i64) (.pair (.arr 6 .i64) (.arrS 6 (.pair .bool (.pair (.int .i64) (.int .i64)))))))))))))) a6))), (10, .v (.c (.int .i64 (a6.length : Int)))), (11, .v (.c (.int .i64 s2.2.1)))], [(1, .mem true 42 (some 18) (.lst (.pair (.int .i64) (.pair .bool (.pair (.int .i64) (.pair (.int .i64) (.pair (.arr 2 .i64) (.pair (.arr 6 .i64) (.arrS 6 (.pair .bool (.pair (.int .i64) (.int .i64)))))))))) s2.2.2))], 2⟩) hl (To.mk' [] 0 hε rfl (by repeat' first | exact True.intro | exact rfl | apply And.intro) (by repeat' first | exact True.intro | exact rfl | apply And.intro)) (fun s2 zs2 NNs2 hz hnexts2 houts2 => ?_)
    clear hl hT
    have hT := hz; clear hz
    refine rSeq ?_
    refine zReg md0 hX rfl rfl rfl ?_
    refine rThen ?_
    refine rSeq ?_
    refine zCond rfl rfl (fun hc => ?_) (fun hc => ?_)
    · replace hT := sT hc hT
      refine rSkip ?_
      refine rThen ?_
      refine rSeq ?_
      refine rBlock ?_
      refine rSeq ?_
      replace hT := sIf hT; obtain ⟨⟨o1, o2⟩, hT⟩ := hT
      refine zReg md0 hX rfl rfl rfl ?_
      refine rThen ?_
      refine rSeq ?_
      refine zReg md0 hX rfl rfl rfl ?_
      refine rThen ?_
      refine rBlock ?_
      replace hT := sBind hT; obtain ⟨w2, hl, hT⟩ := hT
      refine rJoinA (fun v2 => v2 = w2) (fun v2 => ⟨[(2, .v (.c (.val (.slice none 0 0)))), (3, .v (.c (.sl 1 0 v2.1 18))), (5, .v (.c (.ptr 2 0 0 0 0 0))), (9, .v (.c (.fz (.pair .bool (.pair (.int .i64) (.pair (.int .i64) (.sl (.pair (.int .i64) (.pair .bool (.pair (.int .i64) (.pair (.int .i64) (.pair (.arr 2 .i64) (.pair (.arr 6 .i64) (.arrS 6 (.pair .bool (.pair (.int .i64) (.int .i64)))))))))))))) a6))), (10, .v (.c (.int .i64 (a6.length : Int)))), (11, .v (.c (.int .i64 s2.2.1))), (12, .v (.c (.bool (decide (s2.2.1 < (a6.length : Int)))))), (13, .v (.c (.fp (.pair .bool (.pair (.int .i64) (.pair (.int .i64) (.sl (.pair (.int .i64) (.pair .bool (.pair (.int .i64) (.pair (.int .i64) (.pair (.arr 2 .i64) (.pair (.arr 6 .i64) (.arrS 6 (.pair .bool (.pair (.int .i64) (.int .i64)))))))))))))) (a6.getD (s2.2.1).toNat (false, ((0 : Int), ((0 : Int), [])))) 0 0 0))), (14, .v (.agg [.cs [.bool (a6.getD (s2.2.1).toNat (false, ((0 : Int), ((0 : Int), [])))).1, .int .i64 (a6.getD (s2.2.1).toNat (false, ((0 : Int), ((0 : Int), [])))).2.1, .int .i64 (a6.getD (s2.2.1).toNat (false, ((0 : Int), ((0 : Int), [])))).2.2.1, .fz (.pair (.int .i64) (.pair .bool (.pair (.int .i64) (.pair (.int .i64) (.pair (.arr 2 .i64) (.pair (.arr 6 .i64) (.arrS 6 (.pair .bool (.pair (.int .i64) (.int .i64)))))))))) (a6.getD (s2.2.1).toNat (false, ((0 : Int), ((0 : Int), [])))).2.2.2]])), (15, .v (.c (.ptr 2 0 0 3 0 0))), (16, .v (.c (.fz (.pair (.int .i64) (.pair .bool (.pair (.int .i64) (.pair (.int .i64) (.pair (.arr 2 .i64) (.pair (.arr 6 .i64) (.arrS 6 (.pair .bool (.pair (.int .i64) (.int .i64)))))))))) (a6.getD (s2.2.1).toNat (false, ((0 : Int), ((0 : Int), [])))).2.2.2))), (17, .v (.c (.int .i64 ((a6.getD (s2.2.1).toNat (false, ((0 : Int), ((0 : Int), [])))).2.2.2.length : Int)))), (18, .v (.c (.int .i64 v2.2.1))), (19, .v (.c (.bool v2.2.2.1)))], [(1, .mem true 42 (some 18) (.lst (.pair (.int .i64) (.pair .bool (.pair (.int .i64) (.pair (.int .i64) (.pair (.arr 2 .i64) (.pair (.arr 6 .i64) (.arrS 6 (.pair .bool (.pair (.int .i64) (.int .i64)))))))))) v2.2.2.2)), (2, .mem true 49 none (.flat [.cs [.bool (a6.getD (s2.2.1).toNat (false, ((0 : Int), ((0 : Int), [])))).1, .int .i64 (a6.getD (s2.2.1).toNat (false, ((0 : Int), ((0 : Int), [])))).2.1, .int .i64 (a6.getD (s2.2.1).toNat (false, ((0 : Int), ((0 : Int), [])))).2.2.1, .fz (.pair (.int .i64) (.pair .bool (.pair (.int .i64) (.pair (.int .i64) (.pair (.arr 2 .i64) (.pair (.arr 6 .i64) (.arrS 6 (.pair .bool (.pair (.int .i64) (.int .i64)))))))))) (a6.getD (s2.2.1).toNat (false, ((0 : Int), ((0 : Int), [])))).2.2.2]]))], 3⟩) (.exit 2) (fun v2 hv => ?_) (fun hxs30 => ?_)
      · subst hv; clear hl
        refine rInHit ?_
        refine rInNormal ?_
        refine rThen ?_
        replace hT := sIf hT; obtain ⟨o1, hT⟩ := hT
        refine zReg md0 hX rfl rfl rfl ?_
        exact hnexts2 _ (Option.some.inj hT).symm _ (To.mk' [] 0 hε rfl (by repeat' first | exact True.intro | exact rfl | apply And.intro) (by repeat' first | exact True.intro | exact rfl | apply And.intro))
      refine rLoopM (sound_Cells_b2 N a6 s2) (fun s3 => ⟨[(2, .v (.c (.val (.slice none 0 0)))), (3, .v (.c (.sl 1 0 s3.1 18))), (5, .v (.c (.ptr 2 0 0 0 0 0))), (9, .v (.c (.fz (.pair .bool (.pair (.int .i64) (.pair (.int .i64) (.sl (.pair (.int .i64) (.pair .bool (.pair (.int .i64) (.pair (.int .i64) (.pair (.arr 2 .i64) (.pair (.arr 6 .i64) (.arrS 6 (.pair .bool (.pair (.int .i64) (.int .i64)))))))))))))) a6))), (10, .v (.c (.int .i64 (a6.length : Int)))), (11, .v (.c (.int .i64 s2.2.1))), (12, .v (.c (.bool (decide (s2.2.1 < (a6.length : Int)))))), (13, .v (.c (.fp (.pair .bool (.pair (.int .i64) (.pair (.int .i64) (.sl (.pair (.int .i64) (.pair .bool (.pair (.int .i64) (.pair (.int .i64) (.pair (.arr 2 .i64) (.pair (.arr 6 .i64) (.arrS 6 (.pair .bool (.pair (.int .i64) (.int .i64)))))))))))))) (a6.getD (s2.2.1).toNat (false, ((0 : Int), ((0 : Int), [])))) 0 0 0))), (14, .v (.agg [.cs [.bool (a6.getD (s2.2.1).toNat (false, ((0 : Int), ((0 : Int), [])))).1, .int .i64 (a6.getD (s2.2.1).toNat (false, ((0 : Int), ((0 : Int), [])))).2.1, .int .i64 (a6.getD (s2.2.1).toNat (false, ((0 : Int), ((0 : Int), [])))).2.2.1, .fz (.pair (.int .i64) (.pair .bool (.pair (.int .i64) (.pair (.int .i64) (.pair (.arr 2 .i64) (.pair (.arr 6 .i64) (.arrS 6 (.pair .bool (.pair (.int .i64) (.int .i64)))))))))) (a6.getD (s2.2.1).toNat (false, ((0 : Int), ((0 : Int), [])))).2.2.2]])), (15, .v (.c (.ptr 2 0 0 3 0 0))), (16, .v (.c (.fz (.pair (.int .i64) (.pair .bool (.pair (.int .i64) (.pair (.int .i64) (.pair (.arr 2 .i64) (.pair (.arr 6 .i64) (.arrS 6 (.pair .bool (.pair (.int .i64) (.int .i64)))))))))) (a6.getD (s2.2.1).toNat (false, ((0 : Int), ((0 : Int), [])))).2.2.2))), (17, .v (.c (.int .i64 ((a6.getD (s2.2.1).toNat (false, ((0 : Int), ((0 : Int), [])))).2.2.2.length : Int)))), (18, .v (.c (.int .i64 s3.2.1)))], [(1, .mem true 42 (some 18) (.lst (.pair (.int .i64) (.pair .bool (.pair (.int .i64) (.pair (.int .i64) (.pair (.arr 2 .i64) (.pair (.arr 6 .i64) (.arrS 6 (.pair .bool (.pair (.int .i64) (.int .i64)))))))))) s3.2.2)), (2, .mem true 49 none (.flat [.cs [.bool (a6.getD (s2.2.1).toNat (false, ((0 : Int), ((0 : Int), [])))).1, .int .i64 (a6.getD (s2.2.1).toNat (false, ((0 : Int), ((0 : Int), [])))).2.1, .int .i64 (a6.getD (s2.2.1).toNat (false, ((0 : Int), ((0 : Int), [])))).2.2.1, .fz (.pair (.int .i64) (.pair .bool (.pair (.int .i64) (.pair (.int .i64) (.pair (.arr 2 .i64) (.pair (.arr 6 .i64) (.arrS 6 (.pair .bool (.pair (.int .i64) (.int .i64)))))))))) (a6.getD (s2.2.1).toNat (false, ((0 : Int), ((0 : Int), [])))).2.2.2]]))], 3⟩) hl (To.mk' [] 0 hε rfl (by repeat' first | exact True.intro | exact rfl | apply And.intro) (by repeat' first | exact True.intro | exact rfl | apply And.intro)) (fun s3 zs3 NNs3 hz hnexts3 houts3 => ?_)
      clear hl hT
      have hT := hz; clear hz
      refine rSeq ?_
      let x1 := (decide (s3.2.1 < ((a6.getD (s2.2.1).toNat (false, ((0 : Int), ((0 : Int), [])))).2.2.2.length : Int)))
      refine zReg md0 hX rfl rfl rfl ?_
      refine rThen ?_
      refine rSeq ?_
      refine zCond rfl rfl (fun hc => ?_) (fun hc => ?_)
      · replace hT := sT hc hT
        refine rSkip ?_
        refine rThen ?_
        refine rSeq ?_
        refine rBlock ?_
        refine rSeq ?_
        let x3 := ((a6.getD (s2.2.1).toNat (false, ((0 : Int), ((0 : Int), [])))).2.2.2.getD (s3.2.1).toNat ((0 : Int), (false, ((0 : Int), ((0 : Int), ((List.replicate 2 (0 : Int)), ((List.replicate 6 (0 : Int)), (List.replicate 6 [])))))))).1
        let x4 := ((a6.getD (s2.2.1).toNat (false, ((0 : Int), ((0 : Int), [])))).2.2.2.getD (s3.2.1).toNat ((0 : Int), (false, ((0 : Int), ((0 : Int), ((List.replicate 2 (0 : Int)), ((List.replicate 6 (0 : Int)), (List.replicate 6 [])))))))).2.1
        let x5 := ((a6.getD (s2.2.1).toNat (false, ((0 : Int), ((0 : Int), [])))).2.2.2.getD (s3.2.1).toNat ((0 : Int), (false, ((0 : Int), ((0 : Int), ((List.replicate 2 (0 : Int)), ((List.replicate 6 (0 : Int)), (List.replicate 6 [])))))))).2.2.1
        let x6 := ((a6.getD (s2.2.1).toNat (false, ((0 : Int), ((0 : Int), [])))).2.2.2.getD (s3.2.1).toNat ((0 : Int), (false, ((0 : Int), ((0 : Int), ((List.replicate 2 (0 : Int)), ((List.replicate 6 (0 : Int)), (List.replicate 6 [])))))))).2.2.2.1
        let x7 := ((a6.getD (s2.2.1).toNat (false, ((0 : Int), ((0 : Int), [])))).2.2.2.getD (s3.2.1).toNat ((0 : Int), (false, ((0 : Int), ((0 : Int), ((List.replicate 2 (0 : Int)), ((List.replicate 6 (0 : Int)), (List.replicate 6 [])))))))).2.2.2.2.1
        let x8 := ((a6.getD (s2.2.1).toNat (false, ((0 : Int), ((0 : Int), [])))).2.2.2.getD (s3.2.1).toNat ((0 : Int), (false, ((0 : Int), ((0 : Int), ((List.replicate 2 (0 : Int)), ((List.replicate 6 (0 : Int)), (List.replicate 6 [])))))))).2.2.2.2.2.1
        let x9 := ((a6.getD (s2.2.1).toNat (false, ((0 : Int), ((0 : Int), [])))).2.2.2.getD (s3.2.1).toNat ((0 : Int), (false, ((0 : Int), ((0 : Int), ((List.replicate 2 (0 : Int)), ((List.replicate 6 (0 : Int)), (List.replicate 6 [])))))))).2.2.2.2.2.2
        replace hT := sIf hT; obtain ⟨⟨o1, o2⟩, hT⟩ := hT
        refine zReg md0 hX rfl rfl rfl ?_
        refine rThen ?_
        let c1 := (sound_own N x3 x4 x5 x6 x7 x8 x9)
        replace hT := sIf hT; obtain ⟨⟨o1, o2, o3, o4⟩, hT⟩ := hT
        refine zReg md0 hX rfl rfl rfl ?_
        refine rLstQ 4 (.pair (.int .i64) (.pair .bool (.pair (.int .i64) (.pair (.int .i64) (.pair (.arr 2 .i64) (.pair (.arr 6 .i64) (.arrS 6 (.pair .bool (.pair (.int .i64) (.int .i64)))))))))) [(c1.getD default)] rfl rfl rfl ?_
        refine rInNormal ?_
        refine rThen ?_
        replace hT := sIf hT; obtain ⟨o1, hT⟩ := hT
        refine zReg md0 hX rfl rfl rfl ?_
        exact hnexts3 _ (Option.some.inj hT).symm _ (To.mk' [0, 5, 2] 0 hε rfl (by repeat' first | exact True.intro | exact rfl | apply And.intro) (by repeat' first | exact True.intro | exact rfl | apply And.intro))
      · replace hT := sF hc hT
        refine rExit ?_
        refine rThenExit ?_
        refine rThenExit ?_
        exact zTo [] 0 hε (hxs30 _ (houts3 _ (Option.some.inj hT).symm))
    · replace hT := sF hc hT
      refine rExit ?_
      refine rThenExit ?_
      refine rThenExit ?_
      exact zTo [] 0 hε (hxs20 _ (houts2 _ (Option.some.inj hT).symm))
  · cases h
def motion_within (N : Nat) (a1 : Int) (a2 : Int) (a3 : Int) : Option Bool :=
  if ((decide ((0 : Int) ≤ a1)) = true → inK .i64 (a1 + 1)) ∧ ((decide ((0 : Int) ≤ a1)) = true → (0 : Int) ≤ (a1 + 1)) ∧ ((decide ((0 : Int) ≤ a1)) = true → inK .i64 (((a1 + 1) / 2) + a2)) then
    some (bif (decide ((0 : Int) ≤ a1)) then (decide ((((a1 + 1) / 2) + a2) ≤ a3)) else false)
  else none
def sp_motion_within (N : Nat) : X.Spec := fun args lk => match args with
  | [.v (.c (.int .i64 a1)), .v (.c (.int .i64 a2)), .v (.c (.int .i64 a3))] => some ⟨(motion_within N a1 a2 a3).isSome = true, .v (.c (.bool ((motion_within N a1 a2 a3).getD default))), [], []⟩
  | _ => none
set_option maxRecDepth 100000 in
set_option maxHeartbeats 1000000 in
theorem ok_motion_within (N : Nat) : FnOK Tryd.prog gt0 70 (sp_motion_within N) := by
  refine fnOK_handed Tryd.func70 rfl (by kernel_rfl) tt_ok (ktNil) ?_
  intro args lk r h hp
  unfold sp_motion_within at h
  split at h
  · rename_i a1 a2 a3
    cases h
    obtain ⟨x, hx⟩ := Option.isSome_iff_exists.1 hp
    simp only [hx, Option.getD_some]
    refine hand0 rfl rfl (fun w0 M ε0 hX => ?_)
    refine rCount (fun hε => ?_)
    have hT : motion_within N a1 a2 a3 = some x := hx; clear hx hp; unfold motion_within at hT
    refine rSeq ?_
    refine zReg md0 hX rfl rfl rfl ?_
    refine rThen ?_
    refine rSeq ?_
    replace hT := sIf hT; obtain ⟨⟨o1, o2, o3⟩, hT⟩ := hT
    refine rRegC md0 hX rfl rfl rfl (by (repeat' first | exact True.intro | with_reducible assumption | (with_reducible apply And.intro) | intro _) <;> first | assumption | exact o1 (by assumption) | exact o2 (by assumption) | exact o3 (by assumption) | exact rfl | omega | exact Nat.le_of_ble_eq_true rfl | exact selF (by assumption) | exact selT (by assumption) | exact And.intro rfl rfl | exact And.intro (by assumption) rfl | exact And.intro (by omega) rfl | (simp only [inK] at *; omega) | (simp_all [sel] <;> fail) | fail) ?_
    refine rThen ?_
    refine rRet ?_
    have hy := Option.some.inj hT; subst hy
    exact zEnd0 hX rfl
  · cases h
def motion_May_b1 (N : Nat) (a3 : (List Int)) (s1 : Int) : Option (Int ⊕ (Unit ⊕ Unit)) :=
  bif (decide (s1 < 2)) then
    if (0 : Int) ≤ s1 ∧ s1 < 2 ∧ (s1).toNat < 2 then
      let x2 := (bif (decide ((a3.getD (s1).toNat 0) < (-32))) then true else (decide ((31 : Int) < (a3.getD (s1).toNat 0))))
      bif x2 then
        some (.inr (Sum.inl ()))
      else
        if inK .i64 (s1 + 1) then
          some (.inl (s1 + 1))
        else none
    else none
  else
    some (.inr (Sum.inr ()))
def motion_May (N : Nat) (a1 : Int) (a2 : Int) (a3 : (List Int)) : Option Bool :=
  let c1 := (formats_Cells N a1)
  if c1.isSome = true then
    let c2 := (formats_Size N a1)
    if c2.isSome = true then
      let x1 := (bif (bif (!(c2.getD default).2.2) then true else (decide (a2 < 0))) then true else (decide (((c1.getD default).1 * (c1.getD default).2) ≤ a2)))
      if ((!(bif (!(c2.getD default).2.2) then true else (decide (a2 < 0)))) = true → inK .i64 ((c1.getD default).1 * (c1.getD default).2)) then
        bif x1 then
          some false
        else
          (iter (motion_May_b1 N a3) N 0).bind fun w1 =>
            (Sum.elim (fun v1 =>
              some false
            )
              (fun v2 =>
                let c3 := (motion_within N (((32 : Int) * (a2 % (c1.getD default).1)) + (a3.getD 0 0)) 16 (c2.getD default).1)
                let c4 := (motion_within N (((32 : Int) * (a2 / (c1.getD default).1)) + (a3.getD 1 0)) 16 (c2.getD default).2.1)
                if (0 : Int) ≤ a2 ∧ (0 : Int) < (c1.getD default).1 ∧ inK .i64 ((32 : Int) * (a2 % (c1.getD default).1)) ∧ inK .i64 (((32 : Int) * (a2 % (c1.getD default).1)) + (a3.getD 0 0)) ∧ c3.isSome = true ∧ ((c3.getD default) = true → (0 : Int) ≤ a2) ∧ ((c3.getD default) = true → (0 : Int) < (c1.getD default).1) ∧ ((c3.getD default) = true → inK .i64 ((32 : Int) * (a2 / (c1.getD default).1))) ∧ ((c3.getD default) = true → inK .i64 (((32 : Int) * (a2 / (c1.getD default).1)) + (a3.getD 1 0))) ∧ ((c3.getD default) = true → c4.isSome = true) then
                  some (bif (c3.getD default) then (c4.getD default) else false)
                else none
              )
            ) w1
      else none
    else none
  else none
def sp_motion_May (N : Nat) : X.Spec := fun args lk => match args with
  | [.v (.c (.int .i64 a1)), .v (.c (.int .i64 a2)), .v (.agg [.ints 2 .i64 a3])] => some ⟨(motion_May N a1 a2 a3).isSome = true, .v (.c (.bool ((motion_May N a1 a2 a3).getD default))), [], []⟩
  | _ => none
set_option maxRecDepth 100000 in
set_option maxHeartbeats 1000000 in
theorem ok_motion_May (N : Nat) : FnOK Tryd.prog gt0 39 (sp_motion_May N) := by
  refine fnOK_handed Tryd.func39 rfl (by kernel_rfl) tt_ok (ktCons (ok_motion_within N) (ktCons (ok_formats_Size N) (ktCons (ok_formats_Cells N) (ktNil)))) ?_
  intro args lk r h hp
  unfold sp_motion_May at h
  split at h
  · rename_i a1 a2 a3
    change (List Int) at a3
    cases h
    obtain ⟨x, hx⟩ := Option.isSome_iff_exists.1 hp
    simp only [hx, Option.getD_some]
    refine hand0 rfl rfl (fun w0 M ε0 hX => ?_)
    refine rCount (fun hε => ?_)
    have hT : motion_May N a1 a2 a3 = some x := hx; clear hx hp; unfold motion_May at hT
    refine rSeq ?_
    refine zReg md0 hX rfl rfl rfl ?_
    refine rThen ?_
    refine rSeq ?_
    let c1 := (formats_Cells N a1)
    replace hT := sIf hT; obtain ⟨o1, hT⟩ := hT
    refine zReg md0 hX rfl rfl rfl ?_
    refine rThen ?_
    refine rSeq ?_
    let c2 := (formats_Size N a1)
    replace hT := sIf hT; obtain ⟨o1, hT⟩ := hT
    refine zReg md0 hX rfl rfl rfl ?_
    refine rThen ?_
    refine rSeq ?_
    refine rSeq ?_
    let x1 := (bif (bif (!(c2.getD default).2.2) then true else (decide (a2 < 0))) then true else (decide (((c1.getD default).1 * (c1.getD default).2) ≤ a2)))
    replace hT := sIf hT; obtain ⟨o1, hT⟩ := hT
    refine rRegC md0 hX rfl rfl rfl (by (repeat' first | exact True.intro | with_reducible assumption | (with_reducible apply And.intro) | intro _) <;> first | assumption | exact o1 (by assumption) | exact rfl | omega | exact Nat.le_of_ble_eq_true rfl | exact selF (by assumption) | exact selT (by assumption) | exact And.intro rfl rfl | exact And.intro (by assumption) rfl | exact And.intro (by omega) rfl | (simp only [inK] at *; omega) | (simp_all [sel] <;> fail) | fail) ?_
    refine rThen ?_
    refine zCond rfl rfl (fun hc => ?_) (fun hc => ?_)
    · replace hT := sT hc hT
      refine rSeq ?_
      refine zReg md0 hX rfl rfl rfl ?_
      refine rThen ?_
      refine rRet ?_
      refine rThenRet ?_
      have hy := Option.some.inj hT; subst hy
      exact zEnd0 hX rfl
    · replace hT := sF hc hT
      refine rSkip ?_
      refine rThen ?_
      refine rSeq ?_
      refine rSeq ?_
      refine zReg md0 hX rfl rfl rfl ?_
      refine rThen ?_
      refine rBlock ?_
      replace hT := sBind hT; obtain ⟨w1, hl, hT⟩ := hT
      refine rJoinA (fun v1 => (Sum.inl v1) = w1) (fun v1 => ⟨[(6, .v (.c (.bool false)))], [], 1⟩) .ret (fun v1 hv => ?_) (fun hxs10 => ?_)
      · subst hv; clear hl; replace hT := (sElimL hT)
        refine rInRet ?_
        refine rThenRet ?_
        have hy := Option.some.inj hT; subst hy
        exact zEnd0 hX rfl
      refine rJoinA (fun v2 => (Sum.inr v2) = w1) (fun v2 => ⟨[(1, .v (.c (.int .i64 a2))), (5, .v (.c (.ptr 0 0 0 0 0 0))), (6, .v (.c (.bool false))), (7, .v (.c (.int .i64 (c1.getD default).1))), (9, .v (.c (.int .i64 (c2.getD default).1))), (10, .v (.c (.int .i64 (c2.getD default).2.1)))], [(0, .mem true 37 none (.flat [.ints 2 .i64 a3]))], 1⟩) (.exit 0) (fun v2 hv => ?_) (fun hxs11 => ?_)
      · subst hv; clear hl; replace hT := (sElimR hT)
        refine rInHit ?_
        refine rThen ?_
        refine rSeq ?_
        let c3 := (motion_within N (((32 : Int) * (a2 % (c1.getD default).1)) + (a3.getD 0 0)) 16 (c2.getD default).1)
        let c4 := (motion_within N (((32 : Int) * (a2 / (c1.getD default).1)) + (a3.getD 1 0)) 16 (c2.getD default).2.1)
        replace hT := sIf hT; obtain ⟨⟨o1, o2, o3, o4, o5, o6, o7, o8, o9, o10⟩, hT⟩ := hT
        refine rDrawM md0 0 [] hX mixed rfl rfl rfl rfl rfl (by (repeat' first | exact True.intro | with_reducible assumption | (with_reducible apply And.intro) | intro _) <;> first | assumption | exact o6 (by assumption) | exact o7 (by assumption) | exact o8 (by assumption) | exact o9 (by assumption) | exact o10 (by assumption) | exact rfl | omega | exact Nat.le_of_ble_eq_true rfl | exact selF (by assumption) | exact selT (by assumption) | exact And.intro rfl rfl | exact And.intro (by assumption) rfl | exact And.intro (by omega) rfl | (simp only [inK] at *; omega) | (simp_all [sel] <;> fail) | fail) ?_
        refine rThen ?_
        refine rRet ?_
        have hy := Option.some.inj hT; subst hy
        exact zEnd0 hX rfl
      refine rLoopM (motion_May_b1 N a3) (fun s1 => ⟨[(1, .v (.c (.int .i64 a2))), (5, .v (.c (.ptr 0 0 0 0 0 0))), (6, .v (.c (.bool false))), (7, .v (.c (.int .i64 (c1.getD default).1))), (9, .v (.c (.int .i64 (c2.getD default).1))), (10, .v (.c (.int .i64 (c2.getD default).2.1))), (38, .v (.agg [.ints 2 .i64 a3])), (39, .v (.c (.int .i64 s1)))], [(0, .mem true 37 none (.flat [.ints 2 .i64 a3]))], 1⟩) hl (To.mk' [] 0 hε rfl (by repeat' first | exact True.intro | exact rfl | apply And.intro) (by repeat' first | exact True.intro | exact rfl | apply And.intro)) (fun s1 zs1 NNs1 hz hnexts1 houts1 => ?_)
      clear hl hT
      have hT := hz; clear hz
      refine rSeq ?_
      refine zReg md0 hX rfl rfl rfl ?_
      refine rThen ?_
      refine rSeq ?_
      refine zCond rfl rfl (fun hc => ?_) (fun hc => ?_)
      · replace hT := sT hc hT
        refine rSkip ?_
        refine rThen ?_
        refine rSeq ?_
        refine rBlock ?_
        refine rSeq ?_
        replace hT := sIf hT; obtain ⟨⟨o1, o2, o3⟩, hT⟩ := hT
        refine zReg md0 hX rfl rfl rfl ?_
        refine rThen ?_
        refine rSeq ?_
        let x2 := (bif (decide ((a3.getD (s1).toNat 0) < (-32))) then true else (decide ((31 : Int) < (a3.getD (s1).toNat 0))))
        refine zReg md0 hX rfl rfl rfl ?_
        refine rThen ?_
        refine zCond rfl rfl (fun hc => ?_) (fun hc => ?_)
        · replace hT := sT hc hT
          refine rSeq ?_
          refine zReg md0 hX rfl rfl rfl ?_
          refine rThen ?_
          refine rRet ?_
          refine rInRet ?_
          refine rThenRet ?_
          refine rThenRet ?_
          exact zTo [] 0 hε (hxs10 _ (houts1 _ (Option.some.inj hT).symm))
        · replace hT := sF hc hT
          refine rSkip ?_
          refine rInNormal ?_
          refine rThen ?_
          replace hT := sIf hT; obtain ⟨o1, hT⟩ := hT
          refine zReg md0 hX rfl rfl rfl ?_
          exact hnexts1 _ (Option.some.inj hT).symm _ (To.mk' [] 0 hε rfl (by repeat' first | exact True.intro | exact rfl | apply And.intro) (by repeat' first | exact True.intro | exact rfl | apply And.intro))
      · replace hT := sF hc hT
        refine rExit ?_
        refine rThenExit ?_
        refine rThenExit ?_
        exact zTo [] 0 hε (hxs11 _ (houts1 _ (Option.some.inj hT).symm))
  · cases h
def sound_Check_b1 (N : Nat) (a3 : Int) (c5 : (Option (List (Int × (Bool × (Int × (Int × ((List Int) × ((List Int) × (List (List (Bool × (Int × Int))))))))))))) (s1 : Int) : Option (Int ⊕ (Unit ⊕ Unit)) :=
  bif (decide (s1 < ((c5.getD default).length : Int))) then
    let x9 := ((c5.getD default).getD (s1).toNat ((0 : Int), (false, ((0 : Int), ((0 : Int), ((List.replicate 2 (0 : Int)), ((List.replicate 6 (0 : Int)), (List.replicate 6 [])))))))).2.2.1
    let x11 := ((c5.getD default).getD (s1).toNat ((0 : Int), (false, ((0 : Int), ((0 : Int), ((List.replicate 2 (0 : Int)), ((List.replicate 6 (0 : Int)), (List.replicate 6 [])))))))).2.2.2.2.1
    if (0 : Int) ≤ s1 ∧ s1 < ((c5.getD default).length : Int) then
      let c6 := (motion_May N a3 s1 x11)
      let x14 := (bif (bif (decide (x9 ≠ 3)) then (decide (x9 ≠ 4)) else false) then (!(c6.getD default)) else false)
      if ((bif (decide (x9 ≠ 3)) then (decide (x9 ≠ 4)) else false) = true → c6.isSome = true) then
        bif x14 then
          some (.inr (Sum.inl ()))
        else
          if inK .i64 (s1 + 1) then
            some (.inl (s1 + 1))
          else none
      else none
    else none
  else
    some (.inr (Sum.inr ()))
def sound_Check (N : Nat) (a1 : Int) (a2 : Int) (a3 : Int) (a4 : Bool) (a5 : Int) (a6 : (List (Bool × (Int × (Int × (List (Int × (Bool × (Int × (Int × ((List Int) × ((List Int) × (List (List (Bool × (Int × Int)))))))))))))))) (a7 : Int) : Option Int :=
  let c1 := (formats_Rows N a3)
  if c1.isSome = true then
    let c2 := (outbits_New N)
    let c3 := (sheethead_Put N a1 a2 a3 a4 a5 a6 a7 (c2.getD default))
    let c4 := (sound_every_row N (c1.getD default).1 a1 a2 a3 a4 a5 a6 a7)
    let x5 := (bif (bif (bif (bif (decide ((c3.getD default).1 ≠ 0)) then true else (decide (a7 < 0))) then true else (decide ((262144 : Int) < a7))) then true else (decide ((a6.length : Int) ≠ (c1.getD default).1))) then true else (!(c4.getD default)))
    if c2.isSome = true ∧ c3.isSome = true ∧ ((!(bif (bif (bif (decide ((c3.getD default).1 ≠ 0)) then true else (decide (a7 < 0))) then true else (decide ((262144 : Int) < a7))) then true else (decide ((a6.length : Int) ≠ (c1.getD default).1)))) = true → c4.isSome = true) then
      bif x5 then
        some 12
      else
        let c5 := (sound_Cells N a1 a2 a3 a4 a5 a6 a7)
        if c5.isSome = true then
          (iter (sound_Check_b1 N a3 c5) N 0).bind fun w1 =>
            (Sum.elim (fun v1 =>
              some 8
            )
              (fun v2 =>
                some 0
              )
            ) w1
        else none
    else none
  else none
def sp_sound_Check (N : Nat) : X.Spec := fun args lk => match args with
  | [.v (.agg [.cs [.int .i64 a1, .int .i64 a2, .int .i64 a3, .bool a4, .int .i64 a5, .val (.slice none 0 0), .fz (.pair .bool (.pair (.int .i64) (.pair (.int .i64) (.sl (.pair (.int .i64) (.pair .bool (.pair (.int .i64) (.pair (.int .i64) (.pair (.arr 2 .i64) (.pair (.arr 6 .i64) (.arrS 6 (.pair .bool (.pair (.int .i64) (.int .i64)))))))))))))) a6, .int .i64 a7]])] => some ⟨(sound_Check N a1 a2 a3 a4 a5 a6 a7).isSome = true, .v (.c (.int .i64 ((sound_Check N a1 a2 a3 a4 a5 a6 a7).getD default))), [], []⟩
  | _ => none
set_option maxRecDepth 100000 in
set_option maxHeartbeats 1000000 in
theorem ok_sound_Check (N : Nat) : FnOK Tryd.prog gt0 11 (sp_sound_Check N) := by
  refine fnOK_handed Tryd.func11 rfl (by kernel_rfl) tt_ok (ktCons (ok_motion_May N) (ktCons (ok_sound_Cells N) (ktCons (ok_sound_every_row N) (ktCons (ok_sheethead_Put N) (ktCons (ok_outbits_New N) (ktCons (ok_formats_Rows N) (ktNil))))))) ?_
  intro args lk r h hp
  unfold sp_sound_Check at h
  split at h
  · rename_i a1 a2 a3 a4 a5 a6 a7
    change (List (Bool × (Int × (Int × (List (Int × (Bool × (Int × (Int × ((List Int) × ((List Int) × (List (List (Bool × (Int × Int))))))))))))))) at a6
    cases h
    obtain ⟨x, hx⟩ := Option.isSome_iff_exists.1 hp
    simp only [hx, Option.getD_some]
    refine hand0 rfl rfl (fun w0 M ε0 hX => ?_)
    refine rCount (fun hε => ?_)
    have hT : sound_Check N a1 a2 a3 a4 a5 a6 a7 = some x := hx; clear hx hp; unfold sound_Check at hT
    refine rSeq ?_
    refine zReg md0 hX rfl rfl rfl ?_
    refine rThen ?_
    refine rSeq ?_
    let c1 := (formats_Rows N a3)
    replace hT := sIf hT; obtain ⟨o1, hT⟩ := hT
    refine zReg md0 hX rfl rfl rfl ?_
    refine rThen ?_
    refine rSeq ?_
    refine rSeq ?_
    let c2 := (outbits_New N)
    let c3 := (sheethead_Put N a1 a2 a3 a4 a5 a6 a7 (c2.getD default))
    let c4 := (sound_every_row N (c1.getD default).1 a1 a2 a3 a4 a5 a6 a7)
    let x5 := (bif (bif (bif (bif (decide ((c3.getD default).1 ≠ 0)) then true else (decide (a7 < 0))) then true else (decide ((262144 : Int) < a7))) then true else (decide ((a6.length : Int) ≠ (c1.getD default).1))) then true else (!(c4.getD default)))
    replace hT := sIf hT; obtain ⟨⟨o1, o2, o3⟩, hT⟩ := hT
    refine rDrawA md0 0 0 2 [] hX mixed rfl rfl rfl rfl rfl rfl rfl rfl rfl rfl rfl rfl rfl rfl rfl (by repeat' first | exact True.intro | exact rfl | apply And.intro) rfl rfl (by (repeat' first | exact True.intro | with_reducible assumption | (with_reducible apply And.intro) | intro _) <;> first | assumption | exact o3 (by assumption) | exact rfl | omega | exact Nat.le_of_ble_eq_true rfl | exact selF (by assumption) | exact selT (by assumption) | exact And.intro rfl rfl | exact And.intro (by assumption) rfl | exact And.intro (by omega) rfl | (simp only [inK] at *; omega) | (simp_all [sel] <;> fail) | fail) ?_
    refine rThen ?_
    refine zCond rfl rfl (fun hc => ?_) (fun hc => ?_)
    · replace hT := sT hc hT
      refine rSeq ?_
      refine zReg md0 hX rfl rfl rfl ?_
      refine rThen ?_
      refine rRet ?_
      refine rThenRet ?_
      have hy := Option.some.inj hT; subst hy
      exact zEnd0 hX rfl
    · replace hT := sF hc hT
      refine rSkip ?_
      refine rThen ?_
      refine rSeq ?_
      refine rSeq ?_
      let c5 := (sound_Cells N a1 a2 a3 a4 a5 a6 a7)
      replace hT := sIf hT; obtain ⟨o1, hT⟩ := hT
      refine zReg md0 hX rfl rfl rfl ?_
      refine rThen ?_
      refine rBlock ?_
      replace hT := sBind hT; obtain ⟨w1, hl, hT⟩ := hT
      refine rJoinA (fun v1 => (Sum.inl v1) = w1) (fun v1 => ⟨[(2, .v (.c (.int .i64 8)))], [], 2⟩) .ret (fun v1 hv => ?_) (fun hxs10 => ?_)
      · subst hv; clear hl; replace hT := (sElimL hT)
        refine rInRet ?_
        refine rThenRet ?_
        have hy := Option.some.inj hT; subst hy
        exact zEnd0 hX rfl
      refine rJoinA (fun v2 => (Sum.inr v2) = w1) (fun v2 => ⟨[(2, .v (.c (.int .i64 0)))], [], 2⟩) (.exit 0) (fun v2 hv => ?_) (fun hxs11 => ?_)
      · subst hv; clear hl; replace hT := (sElimR hT)
        refine rInHit ?_
        refine rThen ?_
        refine rSeq ?_
        refine zReg md0 hX rfl rfl rfl ?_
        refine rThen ?_
        refine rRet ?_
        have hy := Option.some.inj hT; subst hy
        exact zEnd0 hX rfl
      refine rLoopM (sound_Check_b1 N a3 c5) (fun s1 => ⟨[(1, .v (.c (.ptr 0 0 0 0 0 0))), (2, .v (.c (.int .i64 0))), (42, .v (.c (.fz (.pair (.int .i64) (.pair .bool (.pair (.int .i64) (.pair (.int .i64) (.pair (.arr 2 .i64) (.pair (.arr 6 .i64) (.arrS 6 (.pair .bool (.pair (.int .i64) (.int .i64)))))))))) (c5.getD default)))), (43, .v (.c (.int .i64 ((c5.getD default).length : Int)))), (44, .v (.c (.int .i64 s1)))], [(0, .mem true 25 none (.flat [.cs [.int .i64 a1, .int .i64 a2, .int .i64 a3, .bool a4, .int .i64 a5, .val (.slice none 0 0), .fz (.pair .bool (.pair (.int .i64) (.pair (.int .i64) (.sl (.pair (.int .i64) (.pair .bool (.pair (.int .i64) (.pair (.int .i64) (.pair (.arr 2 .i64) (.pair (.arr 6 .i64) (.arrS 6 (.pair .bool (.pair (.int .i64) (.int .i64)))))))))))))) a6, .int .i64 a7]]))], 2⟩) hl (To.mk' [] 0 hε rfl (by repeat' first | exact True.intro | exact rfl | apply And.intro) (by repeat' first | exact True.intro | exact rfl | apply And.intro)) (fun s1 zs1 NNs1 hz hnexts1 houts1 => ?_)
      clear hl hT
      have hT := hz; clear hz
      refine rSeq ?_
      refine zReg md0 hX rfl rfl rfl ?_
      refine rThen ?_
      refine rSeq ?_
      refine zCond rfl rfl (fun hc => ?_) (fun hc => ?_)
      · replace hT := sT hc hT
        refine rSkip ?_
        refine rThen ?_
        refine rSeq ?_
        refine rBlock ?_
        refine rSeq ?_
        let x9 := ((c5.getD default).getD (s1).toNat ((0 : Int), (false, ((0 : Int), ((0 : Int), ((List.replicate 2 (0 : Int)), ((List.replicate 6 (0 : Int)), (List.replicate 6 [])))))))).2.2.1
        let x11 := ((c5.getD default).getD (s1).toNat ((0 : Int), (false, ((0 : Int), ((0 : Int), ((List.replicate 2 (0 : Int)), ((List.replicate 6 (0 : Int)), (List.replicate 6 [])))))))).2.2.2.2.1
        replace hT := sIf hT; obtain ⟨⟨o1, o2⟩, hT⟩ := hT
        refine zReg md0 hX rfl rfl rfl ?_
        refine rThen ?_
        refine rSeq ?_
        let c6 := (motion_May N a3 s1 x11)
        let x14 := (bif (bif (decide (x9 ≠ 3)) then (decide (x9 ≠ 4)) else false) then (!(c6.getD default)) else false)
        replace hT := sIf hT; obtain ⟨o1, hT⟩ := hT
        refine rRegC md0 hX rfl rfl rfl (by (repeat' first | exact True.intro | with_reducible assumption | (with_reducible apply And.intro) | intro _) <;> first | assumption | exact o1 (by assumption) | exact rfl | omega | exact Nat.le_of_ble_eq_true rfl | exact selF (by assumption) | exact selT (by assumption) | exact And.intro rfl rfl | exact And.intro (by assumption) rfl | exact And.intro (by omega) rfl | (simp only [inK] at *; omega) | (simp_all [sel] <;> fail) | fail) ?_
        refine rThen ?_
        refine zCond rfl rfl (fun hc => ?_) (fun hc => ?_)
        · replace hT := sT hc hT
          refine rSeq ?_
          refine zReg md0 hX rfl rfl rfl ?_
          refine rThen ?_
          refine rRet ?_
          refine rInRet ?_
          refine rThenRet ?_
          refine rThenRet ?_
          exact zTo [] 0 hε (hxs10 _ (houts1 _ (Option.some.inj hT).symm))
        · replace hT := sF hc hT
          refine rSkip ?_
          refine rInNormal ?_
          refine rThen ?_
          replace hT := sIf hT; obtain ⟨o1, hT⟩ := hT
          refine zReg md0 hX rfl rfl rfl ?_
          exact hnexts1 _ (Option.some.inj hT).symm _ (To.mk' [] 0 hε rfl (by repeat' first | exact True.intro | exact rfl | apply And.intro) (by repeat' first | exact True.intro | exact rfl | apply And.intro))
      · replace hT := sF hc hT
        refine rExit ?_
        refine rThenExit ?_
        refine rThenExit ?_
        exact zTo [] 0 hε (hxs11 _ (houts1 _ (Option.some.inj hT).symm))
  · cases h
def sheethead_may_v1_b1 (N : Nat) (s1 : Unit) : Option (Unit ⊕ Unit) :=
  some (.inr ())
def sheethead_may_v1 (N : Nat) (a1 : Int) (a2 : Int) (a3 : Int) (a4 : Bool) (a5 : Int) (a6 : Int) : Option Bool :=
  let c1 := (formats_Size N a3)
  if c1.isSome = true then
    let x1 := (bif (bif (bif (bif (bif (bif (bif (c1.getD default).2.2 then (decide ((0 : Int) ≤ a1)) else false) then (decide (a1 ≤ 255)) else false) then (decide ((0 : Int) ≤ a2)) else false) then (decide (a2 ≤ 7)) else false) then (decide ((1 : Int) ≤ a5)) else false) then (decide (a5 ≤ 31)) else false) then true else false)
    (iter (sheethead_may_v1_b1 N) N ()).bind fun v1 =>
      some x1
  else none
def sp_sheethead_may_v1 (N : Nat) : X.Spec := fun args lk => match args with
  | [.v (.agg [.cs [.int .i64 a1, .int .i64 a2, .int .i64 a3, .bool a4, .int .i64 a5, .val (.slice none 0 0), .val (.slice none 0 0), .int .i64 a6]])] => some ⟨(sheethead_may_v1 N a1 a2 a3 a4 a5 a6).isSome = true, .v (.c (.bool ((sheethead_may_v1 N a1 a2 a3 a4 a5 a6).getD default))), [], []⟩
  | _ => none
set_option maxRecDepth 100000 in
set_option maxHeartbeats 1000000 in
theorem ok_sheethead_may_v1 (N : Nat) : FnOK Tryd.prog gt0 65 (sp_sheethead_may_v1 N) := by
  refine fnOK_handed Tryd.func65 rfl (by kernel_rfl) tt_ok (ktCons (ok_formats_Size N) (ktNil)) ?_
  intro args lk r h hp
  unfold sp_sheethead_may_v1 at h
  split at h
  · rename_i a1 a2 a3 a4 a5 a6
    cases h
    obtain ⟨x, hx⟩ := Option.isSome_iff_exists.1 hp
    simp only [hx, Option.getD_some]
    refine hand0 rfl rfl (fun w0 M ε0 hX => ?_)
    refine rCount (fun hε => ?_)
    have hT : sheethead_may_v1 N a1 a2 a3 a4 a5 a6 = some x := hx; clear hx hp; unfold sheethead_may_v1 at hT
    refine rSeq ?_
    refine zReg md0 hX rfl rfl rfl ?_
    refine rThen ?_
    refine rSeq ?_
    let c1 := (formats_Size N a3)
    replace hT := sIf hT; obtain ⟨o1, hT⟩ := hT
    refine zReg md0 hX rfl rfl rfl ?_
    refine rThen ?_
    refine rSeq ?_
    let x1 := (bif (bif (bif (bif (bif (bif (bif (c1.getD default).2.2 then (decide ((0 : Int) ≤ a1)) else false) then (decide (a1 ≤ 255)) else false) then (decide ((0 : Int) ≤ a2)) else false) then (decide (a2 ≤ 7)) else false) then (decide ((1 : Int) ≤ a5)) else false) then (decide (a5 ≤ 31)) else false) then true else false)
    refine zReg md0 hX rfl rfl rfl ?_
    refine rThen ?_
    refine rSeq ?_
    refine rSeq ?_
    refine zReg md0 hX rfl rfl rfl ?_
    refine rThen ?_
    refine rBlock ?_
    replace hT := sBind hT; obtain ⟨w1, hl, hT⟩ := hT
    refine rJoinA (fun v1 => v1 = w1) (fun v1 => ⟨[(2, .v (.c (.bool false))), (5, .v (.c (.bool x1)))], [], 1⟩) (.exit 0) (fun v1 hv => ?_) (fun hxs10 => ?_)
    · subst hv; clear hl
      refine rInHit ?_
      refine rThen ?_
      refine rSeq ?_
      refine zReg md0 hX rfl rfl rfl ?_
      refine rThen ?_
      refine rRet ?_
      have hy := Option.some.inj hT; subst hy
      exact zEnd0 hX rfl
    refine rLoopM (sheethead_may_v1_b1 N) (fun s1 => ⟨[(2, .v (.c (.bool false))), (5, .v (.c (.bool x1))), (53, .v (.c (.val (.slice none 0 0)))), (54, .v (.c (.int .i64 0))), (55, .v (.c (.int .i64 0)))], [], 1⟩) hl (To.mk' [] 0 hε rfl (by repeat' first | exact True.intro | exact rfl | apply And.intro) (by repeat' first | exact True.intro | exact rfl | apply And.intro)) (fun s1 zs1 NNs1 hz hnexts1 houts1 => ?_)
    clear hl hT
    have hT := hz; clear hz
    refine rSeq ?_
    refine zReg md0 hX rfl rfl rfl ?_
    refine rThen ?_
    refine rSeq ?_
    refine rCondF rfl rfl (by (repeat' first | exact True.intro | with_reducible assumption | (with_reducible apply And.intro) | intro _) <;> first | assumption | exact rfl | omega | exact Nat.le_of_ble_eq_true rfl | exact selF (by assumption) | exact selT (by assumption) | exact And.intro rfl rfl | exact And.intro (by assumption) rfl | exact And.intro (by omega) rfl | (simp only [inK] at *; omega) | (simp_all [sel] <;> fail) | fail) rfl ?_
    refine rExit ?_
    refine rThenExit ?_
    refine rThenExit ?_
    exact zTo [] 0 hε (hxs10 _ (houts1 _ (Option.some.inj hT).symm))
  · cases h
def sheethead_Put_v1_b1 (N : Nat) (s1 : Unit) : Option (Unit ⊕ Unit) :=
  some (.inr ())
def sheethead_Put_v1 (N : Nat) (a1 : Int) (a2 : Int) (a3 : Int) (a4 : Bool) (a5 : Int) (a6 : Int) (a7 : (List Bool)) : Option (Int × (List Bool)) :=
  let c1 := (sheethead_may_v1 N a1 a2 a3 a4 a5 a6)
  if c1.isSome = true then
    bif (!(c1.getD default)) then
      some (12, a7)
    else
      let c2 := (marks_Put N 0 a7)
      if c2.isSome = true then
        let c3 := (overspill_outbits_Writer_Put N a1 8 (c2.getD default).2)
        if c3.isSome = true then
          let c4 := (overspill_outbits_Writer_Put N 2 2 (c3.getD default).2)
          if c4.isSome = true then
            let c5 := (overspill_outbits_Writer_Put N a2 3 (c4.getD default).2)
            if c5.isSome = true then
              let c6 := (overspill_outbits_Writer_Put N a3 3 (c5.getD default).2)
              if c6.isSome = true then
                let c7 := (overspill_outbits_Writer_Put N (bif a4 then (1 : Int) else 0) 1 (c6.getD default).2)
                if c7.isSome = true then
                  let c8 := (overspill_outbits_Writer_Put N 0 4 (c7.getD default).2)
                  if c8.isSome = true then
                    let c9 := (overspill_outbits_Writer_Put N a5 5 (c8.getD default).2)
                    if c9.isSome = true then
                      let c10 := (overspill_outbits_Writer_Put N 0 1 (c9.getD default).2)
                      if c10.isSome = true then
                        (iter (sheethead_Put_v1_b1 N) N ()).bind fun v1 =>
                          let c11 := (overspill_outbits_Writer_Put N 0 1 (c10.getD default).2)
                          if c11.isSome = true then
                            some ((c11.getD default).1, (c11.getD default).2)
                          else none
                      else none
                    else none
                  else none
                else none
              else none
            else none
          else none
        else none
      else none
  else none
def sp_sheethead_Put_v1 (N : Nat) : X.Spec := fun args lk => match args with
  | [.v (.c (.ptr i0 0 0 0 0 0)), .v (.agg [.cs [.int .i64 a1, .int .i64 a2, .int .i64 a3, .bool a4, .int .i64 a5, .val (.slice none 0 0), .val (.slice none 0 0), .int .i64 a6]])] => (match lk i0 with
    | some (.obj 5 a7) => some ⟨(sheethead_Put_v1 N a1 a2 a3 a4 a5 a6 a7).isSome = true, .v (.c (.int .i64 ((sheethead_Put_v1 N a1 a2 a3 a4 a5 a6 a7).getD default).1)), [], [(i0, .obj 5 ((sheethead_Put_v1 N a1 a2 a3 a4 a5 a6 a7).getD default).2)]⟩
    | _ => none)
  | _ => none
set_option maxRecDepth 100000 in
set_option maxHeartbeats 1000000 in
theorem ok_sheethead_Put_v1 (N : Nat) : FnOK Tryd.prog gt0 35 (sp_sheethead_Put_v1 N) := by
  refine fnOK_handed Tryd.func35 rfl (by kernel_rfl) tt_ok (ktCons (ok_overspill_outbits_Writer_Put N) (ktCons (ok_marks_Put N) (ktCons (ok_sheethead_may_v1 N) (ktNil)))) ?_
  intro args lk r h hp
  unfold sp_sheethead_Put_v1 at h
  split at h
  · rename_i i0 a1 a2 a3 a4 a5 a6
    split at h
    · rename_i a7 hl0
      cases h
      obtain ⟨x, hx⟩ := Option.isSome_iff_exists.1 hp
      simp only [hx, Option.getD_some]
      refine handL [i0] 1 [(0, .obj 5 a7)] [.v (.c (.ptr 0 0 0 0 0 0)), .v (.agg [.cs [.int .i64 a1, .int .i64 a2, .int .i64 a3, .bool a4, .int .i64 a5, .val (.slice none 0 0), .val (.slice none 0 0), .int .i64 a6]])] rfl rfl rfl ⟨isSome_of hl0, trivial⟩ ⟨⟨rfl, (by repeat' first | exact True.intro | exact rfl | exact ⟨_, rfl, rfl⟩ | apply And.intro | exact Or.inl rfl), _, hl0, .inl rfl⟩, trivial⟩ rfl (fun w0 M ε0 hX => ?_)
      refine rCount (fun hε => ?_)
      have hT : sheethead_Put_v1 N a1 a2 a3 a4 a5 a6 a7 = some x := hx; clear hx hp; unfold sheethead_Put_v1 at hT
      refine rSeq ?_
      refine zReg md0 hX rfl rfl rfl ?_
      refine rThen ?_
      refine rSeq ?_
      refine rBlock ?_
      refine rSeq ?_
      refine zReg md0 hX rfl rfl rfl ?_
      refine rThen ?_
      refine rCondF rfl rfl (by (repeat' first | exact True.intro | with_reducible assumption | (with_reducible apply And.intro) | intro _) <;> first | assumption | exact rfl | omega | exact Nat.le_of_ble_eq_true rfl | exact selF (by assumption) | exact selT (by assumption) | exact And.intro rfl rfl | exact And.intro (by assumption) rfl | exact And.intro (by omega) rfl | (simp only [inK] at *; omega) | (simp_all [sel] <;> fail) | fail) rfl ?_
      refine rSeq ?_
      let c1 := (sheethead_may_v1 N a1 a2 a3 a4 a5 a6)
      replace hT := sIf hT; obtain ⟨o1, hT⟩ := hT
      refine zReg md0 hX rfl rfl rfl ?_
      refine rThen ?_
      refine zCond rfl rfl (fun hc => ?_) (fun hc => ?_)
      · replace hT := sT hc hT
        refine rSeq ?_
        refine zReg md0 hX rfl rfl rfl ?_
        refine rThen ?_
        refine rRet ?_
        refine rInRet ?_
        refine rThenRet ?_
        have hy := Option.some.inj hT; subst hy
        exact rEndA [] [] [(0, .obj 5 a7)] (.v (.c (.int .i64 12))) hX rfl (by repeat' first | exact True.intro | exact rfl | apply And.intro | omega | exact Nat.le_of_ble_eq_true rfl) (by repeat' first | exact True.intro | exact rfl | apply And.intro) rfl rfl rfl (by repeat' first | exact True.intro | exact rfl | exact ⟨_, rfl, rfl⟩ | apply And.intro | exact Or.inl rfl) rfl rfl (by repeat' first | exact True.intro | exact rfl | exact ⟨_, rfl, rfl⟩ | apply And.intro | exact Or.inl rfl) rfl rfl
      · replace hT := sF hc hT
        refine rSkip ?_
        refine rInNormal ?_
        refine rThen ?_
        refine rSeq ?_
        refine zReg md0 hX rfl rfl rfl ?_
        refine rThen ?_
        refine rSeq ?_
        refine rSeq ?_
        refine zReg md0 hX rfl rfl rfl ?_
        refine rThen ?_
        refine rJoin ⟨[(0, .v (.c (.ptr 0 0 0 0 0 0))), (3, .v (.c (.ptr 1 0 0 0 0 0))), (4, .v (.c (.int .i64 0))), (5, .v (.c (.int .i64 (bif a4 then (1 : Int) else 0))))], [(0, .obj 5 a7), (1, .mem true 25 none (.flat [.cs [.int .i64 a1, .int .i64 a2, .int .i64 a3, .bool a4, .int .i64 a5, .val (.slice none 0 0), .val (.slice none 0 0), .int .i64 a6]]))], 2⟩ ?_ (fun hj => ?_)
        · skip
          refine rThen ?_
          refine rSeq ?_
          let c2 := (marks_Put N 0 a7)
          replace hT := sIf hT; obtain ⟨o1, hT⟩ := hT
          refine zReg md0 hX rfl rfl rfl ?_
          refine rThen ?_
          refine rSeq ?_
          let c3 := (overspill_outbits_Writer_Put N a1 8 (c2.getD default).2)
          replace hT := sIf hT; obtain ⟨o1, hT⟩ := hT
          refine zReg md0 hX rfl rfl rfl ?_
          refine rThen ?_
          refine rSeq ?_
          let c4 := (overspill_outbits_Writer_Put N 2 2 (c3.getD default).2)
          replace hT := sIf hT; obtain ⟨o1, hT⟩ := hT
          refine zReg md0 hX rfl rfl rfl ?_
          refine rThen ?_
          refine rSeq ?_
          let c5 := (overspill_outbits_Writer_Put N a2 3 (c4.getD default).2)
          replace hT := sIf hT; obtain ⟨o1, hT⟩ := hT
          refine zReg md0 hX rfl rfl rfl ?_
          refine rThen ?_
          refine rSeq ?_
          let c6 := (overspill_outbits_Writer_Put N a3 3 (c5.getD default).2)
          replace hT := sIf hT; obtain ⟨o1, hT⟩ := hT
          refine zReg md0 hX rfl rfl rfl ?_
          refine rThen ?_
          refine rSeq ?_
          let c7 := (overspill_outbits_Writer_Put N (bif a4 then (1 : Int) else 0) 1 (c6.getD default).2)
          replace hT := sIf hT; obtain ⟨o1, hT⟩ := hT
          refine zReg md0 hX rfl rfl rfl ?_
          refine rThen ?_
          refine rSeq ?_
          let c8 := (overspill_outbits_Writer_Put N 0 4 (c7.getD default).2)
          replace hT := sIf hT; obtain ⟨o1, hT⟩ := hT
          refine zReg md0 hX rfl rfl rfl ?_
          refine rThen ?_
          refine rSeq ?_
          let c9 := (overspill_outbits_Writer_Put N a5 5 (c8.getD default).2)
          replace hT := sIf hT; obtain ⟨o1, hT⟩ := hT
          refine zReg md0 hX rfl rfl rfl ?_
          refine rThen ?_
          refine rSeq ?_
          let c10 := (overspill_outbits_Writer_Put N 0 1 (c9.getD default).2)
          replace hT := sIf hT; obtain ⟨o1, hT⟩ := hT
          refine zReg md0 hX rfl rfl rfl ?_
          refine rThen ?_
          refine rSeq ?_
          refine rSeq ?_
          refine zReg md0 hX rfl rfl rfl ?_
          refine rThen ?_
          refine rBlock ?_
          replace hT := sBind hT; obtain ⟨w1, hl, hT⟩ := hT
          refine rJoinA (fun v1 => v1 = w1) (fun v1 => ⟨[(0, .v (.c (.ptr 0 0 0 0 0 0))), (4, .v (.c (.int .i64 0)))], [(0, .obj 5 (c10.getD default).2)], 2⟩) (.exit 1) (fun v1 hv => ?_) (fun hxs10 => ?_)
          · subst hv; clear hl
            refine rInHit ?_
            refine rThen ?_
            refine rSeq ?_
            let c11 := (overspill_outbits_Writer_Put N 0 1 (c10.getD default).2)
            replace hT := sIf hT; obtain ⟨o1, hT⟩ := hT
            refine zReg md0 hX rfl rfl rfl ?_
            refine rThen ?_
            refine rRet ?_
            have hy := Option.some.inj hT; subst hy
            exact rEndA [] [] [(0, .obj 5 (c11.getD default).2)] (.v (.c (.int .i64 (c11.getD default).1))) hX rfl (by repeat' first | exact True.intro | exact rfl | apply And.intro | omega | exact Nat.le_of_ble_eq_true rfl) (by repeat' first | exact True.intro | exact rfl | apply And.intro) rfl rfl rfl (by repeat' first | exact True.intro | exact rfl | exact ⟨_, rfl, rfl⟩ | apply And.intro | exact Or.inl rfl) rfl rfl (by repeat' first | exact True.intro | exact rfl | exact ⟨_, rfl, rfl⟩ | apply And.intro | exact Or.inl rfl) rfl rfl
          refine rLoopM (sheethead_Put_v1_b1 N) (fun s1 => ⟨[(0, .v (.c (.ptr 0 0 0 0 0 0))), (4, .v (.c (.int .i64 0))), (45, .v (.c (.val (.slice none 0 0)))), (46, .v (.c (.int .i64 0))), (47, .v (.c (.int .i64 0)))], [(0, .obj 5 (c10.getD default).2)], 2⟩) hl (To.mk' [] 1 hε rfl (by repeat' first | exact True.intro | exact rfl | apply And.intro) (by repeat' first | exact True.intro | exact rfl | apply And.intro)) (fun s1 zs1 NNs1 hz hnexts1 houts1 => ?_)
          clear hl hT
          have hT := hz; clear hz
          refine rSeq ?_
          refine zReg md0 hX rfl rfl rfl ?_
          refine rThen ?_
          refine rSeq ?_
          refine rCondF rfl rfl (by (repeat' first | exact True.intro | with_reducible assumption | (with_reducible apply And.intro) | intro _) <;> first | assumption | exact rfl | omega | exact Nat.le_of_ble_eq_true rfl | exact selF (by assumption) | exact selT (by assumption) | exact And.intro rfl rfl | exact And.intro (by assumption) rfl | exact And.intro (by omega) rfl | (simp only [inK] at *; omega) | (simp_all [sel] <;> fail) | fail) rfl ?_
          refine rExit ?_
          refine rThenExit ?_
          refine rThenExit ?_
          exact zTo [] 1 hε (hxs10 _ (houts1 _ (Option.some.inj hT).symm))
        · clear hT
          refine zCond rfl rfl (fun hc => ?_) (fun hc => ?_)
          · skip
            refine zReg md0 hX rfl rfl rfl ?_
            exact rTo (To.mk' [] 1 hε rfl (by (repeat' first | exact True.intro | exact rfl | apply And.intro) <;> (repeat' first | exact rfl | refine Eq.trans ?_ (cTr (by assumption)) | refine Eq.trans ?_ (cFr (by assumption)) | refine Eq.trans (cTl (by assumption)) ?_ | refine Eq.trans (cFl (by assumption)) ?_)) (by (repeat' first | exact True.intro | exact rfl | apply And.intro) <;> (repeat' first | exact rfl | refine Eq.trans ?_ (cTr (by assumption)) | refine Eq.trans ?_ (cFr (by assumption)) | refine Eq.trans (cTl (by assumption)) ?_ | refine Eq.trans (cFl (by assumption)) ?_))) hj
          · skip
            refine rSkip ?_
            exact rTo (To.mk' [] 1 hε rfl (by (repeat' first | exact True.intro | exact rfl | apply And.intro) <;> (repeat' first | exact rfl | refine Eq.trans ?_ (cTr (by assumption)) | refine Eq.trans ?_ (cFr (by assumption)) | refine Eq.trans (cTl (by assumption)) ?_ | refine Eq.trans (cFl (by assumption)) ?_)) (by (repeat' first | exact True.intro | exact rfl | apply And.intro) <;> (repeat' first | exact rfl | refine Eq.trans ?_ (cTr (by assumption)) | refine Eq.trans ?_ (cFr (by assumption)) | refine Eq.trans (cTl (by assumption)) ?_ | refine Eq.trans (cFl (by assumption)) ?_))) hj
    · cases h
  · cases h
def sound_every_row_v1_b1 (N : Nat) (a1 : Int) (s1 : Unit) : Option (Unit ⊕ Unit) :=
  bif (decide ((0 : Int) < a1)) then
    none
  else
    some (.inr ())
def sound_every_row_v1 (N : Nat) (a1 : Int) (a2 : Int) (a3 : Int) (a4 : Int) (a5 : Bool) (a6 : Int) (a7 : Int) : Option Bool :=
  (iter (sound_every_row_v1_b1 N a1) N ()).bind fun v1 =>
    some true
def sp_sound_every_row_v1 (N : Nat) : X.Spec := fun args lk => match args with
  | [.v (.c (.int .i64 a1)), .fnv 38 [.agg [.cs [.int .i64 a2, .int .i64 a3, .int .i64 a4, .bool a5, .int .i64 a6, .val (.slice none 0 0), .val (.slice none 0 0), .int .i64 a7]]] []] => some ⟨(sound_every_row_v1 N a1 a2 a3 a4 a5 a6 a7).isSome = true, .v (.c (.bool ((sound_every_row_v1 N a1 a2 a3 a4 a5 a6 a7).getD default))), [], []⟩
  | _ => none
set_option maxRecDepth 100000 in
set_option maxHeartbeats 1000000 in
theorem ok_sound_every_row_v1 (N : Nat) : FnOK Tryd.prog gt0 37 (sp_sound_every_row_v1 N) := by
  refine fnOK_handed Tryd.func37 rfl (by kernel_rfl) tt_ok (ktNil) ?_
  intro args lk r h hp
  unfold sp_sound_every_row_v1 at h
  split at h
  · rename_i a1 a2 a3 a4 a5 a6 a7
    cases h
    obtain ⟨x, hx⟩ := Option.isSome_iff_exists.1 hp
    simp only [hx, Option.getD_some]
    refine hand0 rfl rfl (fun w0 M ε0 hX => ?_)
    refine rCount (fun hε => ?_)
    have hT : sound_every_row_v1 N a1 a2 a3 a4 a5 a6 a7 = some x := hx; clear hx hp; unfold sound_every_row_v1 at hT
    refine rSeq ?_
    refine zReg md0 hX rfl rfl rfl ?_
    refine rThen ?_
    refine rSeq ?_
    refine rSeq ?_
    refine zReg md0 hX rfl rfl rfl ?_
    refine rThen ?_
    refine rBlock ?_
    replace hT := sBind hT; obtain ⟨w1, hl, hT⟩ := hT
    refine rJoinA (fun v1 => v1 = w1) (fun v1 => ⟨[(4, .v (.c (.bool false)))], [], 0⟩) (.exit 0) (fun v1 hv => ?_) (fun hxs10 => ?_)
    · subst hv; clear hl
      refine rInHit ?_
      refine rThen ?_
      refine rSeq ?_
      refine zReg md0 hX rfl rfl rfl ?_
      refine rThen ?_
      refine rRet ?_
      have hy := Option.some.inj hT; subst hy
      exact zEnd0 hX rfl
    refine rLoopM (sound_every_row_v1_b1 N a1) (fun s1 => ⟨[(1, .fnv 38 [.agg [.cs [.int .i64 a2, .int .i64 a3, .int .i64 a4, .bool a5, .int .i64 a6, .val (.slice none 0 0), .val (.slice none 0 0), .int .i64 a7]]] []), (4, .v (.c (.bool false))), (6, .v (.c (.int .i64 a1))), (7, .v (.c (.int .i64 0)))], [], 0⟩) hl (To.mk' [] 0 hε rfl (by repeat' first | exact True.intro | exact rfl | apply And.intro) (by repeat' first | exact True.intro | exact rfl | apply And.intro)) (fun s1 zs1 NNs1 hz hnexts1 houts1 => ?_)
    clear hl hT
    have hT := hz; clear hz
    refine rSeq ?_
    refine zReg md0 hX rfl rfl rfl ?_
    refine rThen ?_
    refine rSeq ?_
    refine zCond rfl rfl (fun hc => ?_) (fun hc => ?_)
    · replace hT := sT hc hT
      refine rSkip ?_
      refine rThen ?_
      refine rSeq ?_
      refine rBlock ?_
      refine rSeq ?_
      refine zReg md0 hX rfl rfl rfl ?_
      refine rThen ?_
      refine rSeq ?_
      cases hT
    · replace hT := sF hc hT
      refine rExit ?_
      refine rThenExit ?_
      refine rThenExit ?_
      exact zTo [] 0 hε (hxs10 _ (houts1 _ (Option.some.inj hT).symm))
  · cases h
def sound_Cells_v1_b1 (N : Nat) (s1 : Unit) : Option (Unit ⊕ Unit) :=
  some (.inr ())
def sound_Cells_v1 (N : Nat) (a1 : Int) (a2 : Int) (a3 : Int) (a4 : Bool) (a5 : Int) (a6 : Int) : Option Unit :=
  (iter (sound_Cells_v1_b1 N) N ()).bind fun v1 =>
    some ()
def sp_sound_Cells_v1 (N : Nat) : X.Spec := fun args lk => match args with
  | [.v (.agg [.cs [.int .i64 a1, .int .i64 a2, .int .i64 a3, .bool a4, .int .i64 a5, .val (.slice none 0 0), .val (.slice none 0 0), .int .i64 a6]])] => some ⟨(sound_Cells_v1 N a1 a2 a3 a4 a5 a6).isSome = true, .v (.c (.val (.slice none 0 0))), [], []⟩
  | _ => none
set_option maxRecDepth 100000 in
set_option maxHeartbeats 1000000 in
theorem ok_sound_Cells_v1 (N : Nat) : FnOK Tryd.prog gt0 13 (sp_sound_Cells_v1 N) := by
  refine fnOK_handed Tryd.func13 rfl (by kernel_rfl) tt_ok (ktNil) ?_
  intro args lk r h hp
  unfold sp_sound_Cells_v1 at h
  split at h
  · rename_i a1 a2 a3 a4 a5 a6
    cases h
    obtain ⟨x, hx⟩ := Option.isSome_iff_exists.1 hp
    simp only [hx, Option.getD_some]
    refine hand0 rfl rfl (fun w0 M ε0 hX => ?_)
    refine rCount (fun hε => ?_)
    have hT : sound_Cells_v1 N a1 a2 a3 a4 a5 a6 = some x := hx; clear hx hp; unfold sound_Cells_v1 at hT
    refine rSeq ?_
    refine zReg md0 hX rfl rfl rfl ?_
    refine rThen ?_
    refine rSeq ?_
    refine zReg md0 hX rfl rfl rfl ?_
    refine rThen ?_
    refine rSeq ?_
    refine rSeq ?_
    refine zReg md0 hX rfl rfl rfl ?_
    refine rThen ?_
    refine rBlock ?_
    replace hT := sBind hT; obtain ⟨w1, hl, hT⟩ := hT
    refine rJoinA (fun v1 => v1 = w1) (fun v1 => ⟨[(2, .v (.c (.val (.slice none 0 0)))), (3, .v (.c (.val (.slice none 0 0))))], [], 1⟩) (.exit 0) (fun v1 hv => ?_) (fun hxs10 => ?_)
    · subst hv; clear hl
      refine rInHit ?_
      refine rThen ?_
      refine rSeq ?_
      refine zReg md0 hX rfl rfl rfl ?_
      refine rThen ?_
      refine rRet ?_
      have hy := Option.some.inj hT; subst hy
      exact zEnd0 hX rfl
    refine rLoopM (sound_Cells_v1_b1 N) (fun s1 => ⟨[(2, .v (.c (.val (.slice none 0 0)))), (3, .v (.c (.val (.slice none 0 0)))), (9, .v (.c (.val (.slice none 0 0)))), (10, .v (.c (.int .i64 0))), (11, .v (.c (.int .i64 0)))], [], 1⟩) hl (To.mk' [] 0 hε rfl (by repeat' first | exact True.intro | exact rfl | apply And.intro) (by repeat' first | exact True.intro | exact rfl | apply And.intro)) (fun s1 zs1 NNs1 hz hnexts1 houts1 => ?_)
    clear hl hT
    have hT := hz; clear hz
    refine rSeq ?_
    refine zReg md0 hX rfl rfl rfl ?_
    refine rThen ?_
    refine rSeq ?_
    refine rCondF rfl rfl (by (repeat' first | exact True.intro | with_reducible assumption | (with_reducible apply And.intro) | intro _) <;> first | assumption | exact rfl | omega | exact Nat.le_of_ble_eq_true rfl | exact selF (by assumption) | exact selT (by assumption) | exact And.intro rfl rfl | exact And.intro (by assumption) rfl | exact And.intro (by omega) rfl | (simp only [inK] at *; omega) | (simp_all [sel] <;> fail) | fail) rfl ?_
    refine rExit ?_
    refine rThenExit ?_
    refine rThenExit ?_
    exact zTo [] 0 hε (hxs10 _ (houts1 _ (Option.some.inj hT).symm))
  · cases h
def sound_Check_v1_b1 (N : Nat) (s1 : Unit) : Option (Unit ⊕ Unit) :=
  some (.inr ())
def sound_Check_v1 (N : Nat) (a1 : Int) (a2 : Int) (a3 : Int) (a4 : Bool) (a5 : Int) (a6 : Int) : Option Int :=
  let c1 := (formats_Rows N a3)
  if c1.isSome = true then
    let c2 := (outbits_New N)
    let c3 := (sheethead_Put_v1 N a1 a2 a3 a4 a5 a6 (c2.getD default))
    let c4 := (sound_every_row_v1 N (c1.getD default).1 a1 a2 a3 a4 a5 a6)
    let x5 := (bif (bif (bif (bif (decide ((c3.getD default).1 ≠ 0)) then true else (decide (a6 < 0))) then true else (decide ((262144 : Int) < a6))) then true else (decide ((0 : Int) ≠ (c1.getD default).1))) then true else (!(c4.getD default)))
    if c2.isSome = true ∧ c3.isSome = true ∧ ((!(bif (bif (bif (decide ((c3.getD default).1 ≠ 0)) then true else (decide (a6 < 0))) then true else (decide ((262144 : Int) < a6))) then true else (decide ((0 : Int) ≠ (c1.getD default).1)))) = true → c4.isSome = true) then
      bif x5 then
        some 12
      else
        let c5 := (sound_Cells_v1 N a1 a2 a3 a4 a5 a6)
        if c5.isSome = true then
          (iter (sound_Check_v1_b1 N) N ()).bind fun v1 =>
            some 0
        else none
    else none
  else none
def sp_sound_Check_v1 (N : Nat) : X.Spec := fun args lk => match args with
  | [.v (.agg [.cs [.int .i64 a1, .int .i64 a2, .int .i64 a3, .bool a4, .int .i64 a5, .val (.slice none 0 0), .val (.slice none 0 0), .int .i64 a6]])] => some ⟨(sound_Check_v1 N a1 a2 a3 a4 a5 a6).isSome = true, .v (.c (.int .i64 ((sound_Check_v1 N a1 a2 a3 a4 a5 a6).getD default))), [], []⟩
  | _ => none
set_option maxRecDepth 100000 in
set_option maxHeartbeats 1000000 in
theorem ok_sound_Check_v1 (N : Nat) : FnOK Tryd.prog gt0 11 (sp_sound_Check_v1 N) := by
  refine fnOK_handed Tryd.func11 rfl (by kernel_rfl) tt_ok (ktCons (ok_sound_Cells_v1 N) (ktCons (ok_sound_every_row_v1 N) (ktCons (ok_sheethead_Put_v1 N) (ktCons (ok_outbits_New N) (ktCons (ok_formats_Rows N) (ktNil)))))) ?_
  intro args lk r h hp
  unfold sp_sound_Check_v1 at h
  split at h
  · rename_i a1 a2 a3 a4 a5 a6
    cases h
    obtain ⟨x, hx⟩ := Option.isSome_iff_exists.1 hp
    simp only [hx, Option.getD_some]
    refine hand0 rfl rfl (fun w0 M ε0 hX => ?_)
    refine rCount (fun hε => ?_)
    have hT : sound_Check_v1 N a1 a2 a3 a4 a5 a6 = some x := hx; clear hx hp; unfold sound_Check_v1 at hT
    refine rSeq ?_
    refine zReg md0 hX rfl rfl rfl ?_
    refine rThen ?_
    refine rSeq ?_
    let c1 := (formats_Rows N a3)
    replace hT := sIf hT; obtain ⟨o1, hT⟩ := hT
    refine zReg md0 hX rfl rfl rfl ?_
    refine rThen ?_
    refine rSeq ?_
    refine rSeq ?_
    let c2 := (outbits_New N)
    let c3 := (sheethead_Put_v1 N a1 a2 a3 a4 a5 a6 (c2.getD default))
    let c4 := (sound_every_row_v1 N (c1.getD default).1 a1 a2 a3 a4 a5 a6)
    let x5 := (bif (bif (bif (bif (decide ((c3.getD default).1 ≠ 0)) then true else (decide (a6 < 0))) then true else (decide ((262144 : Int) < a6))) then true else (decide ((0 : Int) ≠ (c1.getD default).1))) then true else (!(c4.getD default)))
    replace hT := sIf hT; obtain ⟨⟨o1, o2, o3⟩, hT⟩ := hT
    refine rDrawA md0 0 0 2 [] hX mixed rfl rfl rfl rfl rfl rfl rfl rfl rfl rfl rfl rfl rfl rfl rfl (by repeat' first | exact True.intro | exact rfl | apply And.intro) rfl rfl (by (repeat' first | exact True.intro | with_reducible assumption | (with_reducible apply And.intro) | intro _) <;> first | assumption | exact o3 (by assumption) | exact rfl | omega | exact Nat.le_of_ble_eq_true rfl | exact selF (by assumption) | exact selT (by assumption) | exact And.intro rfl rfl | exact And.intro (by assumption) rfl | exact And.intro (by omega) rfl | (simp only [inK] at *; omega) | (simp_all [sel] <;> fail) | fail) ?_
    refine rThen ?_
    refine zCond rfl rfl (fun hc => ?_) (fun hc => ?_)
    · replace hT := sT hc hT
      refine rSeq ?_
      refine zReg md0 hX rfl rfl rfl ?_
      refine rThen ?_
      refine rRet ?_
      refine rThenRet ?_
      have hy := Option.some.inj hT; subst hy
      exact zEnd0 hX rfl
    · replace hT := sF hc hT
      refine rSkip ?_
      refine rThen ?_
      refine rSeq ?_
      refine rSeq ?_
      let c5 := (sound_Cells_v1 N a1 a2 a3 a4 a5 a6)
      replace hT := sIf hT; obtain ⟨o1, hT⟩ := hT
      refine zReg md0 hX rfl rfl rfl ?_
      refine rThen ?_
      refine rBlock ?_
      replace hT := sBind hT; obtain ⟨w1, hl, hT⟩ := hT
      refine rJoinA (fun v1 => v1 = w1) (fun v1 => ⟨[(2, .v (.c (.int .i64 0)))], [], 2⟩) (.exit 0) (fun v1 hv => ?_) (fun hxs10 => ?_)
      · subst hv; clear hl
        refine rInHit ?_
        refine rThen ?_
        refine rSeq ?_
        refine zReg md0 hX rfl rfl rfl ?_
        refine rThen ?_
        refine rRet ?_
        have hy := Option.some.inj hT; subst hy
        exact zEnd0 hX rfl
      refine rLoopM (sound_Check_v1_b1 N) (fun s1 => ⟨[(1, .v (.c (.ptr 0 0 0 0 0 0))), (2, .v (.c (.int .i64 0))), (42, .v (.c (.val (.slice none 0 0)))), (43, .v (.c (.int .i64 0))), (44, .v (.c (.int .i64 0)))], [(0, .mem true 25 none (.flat [.cs [.int .i64 a1, .int .i64 a2, .int .i64 a3, .bool a4, .int .i64 a5, .val (.slice none 0 0), .val (.slice none 0 0), .int .i64 a6]]))], 2⟩) hl (To.mk' [] 0 hε rfl (by repeat' first | exact True.intro | exact rfl | apply And.intro) (by repeat' first | exact True.intro | exact rfl | apply And.intro)) (fun s1 zs1 NNs1 hz hnexts1 houts1 => ?_)
      clear hl hT
      have hT := hz; clear hz
      refine rSeq ?_
      refine zReg md0 hX rfl rfl rfl ?_
      refine rThen ?_
      refine rSeq ?_
      refine rCondF rfl rfl (by (repeat' first | exact True.intro | with_reducible assumption | (with_reducible apply And.intro) | intro _) <;> first | assumption | exact rfl | omega | exact Nat.le_of_ble_eq_true rfl | exact selF (by assumption) | exact selT (by assumption) | exact And.intro rfl rfl | exact And.intro (by assumption) rfl | exact And.intro (by omega) rfl | (simp only [inK] at *; omega) | (simp_all [sel] <;> fail) | fail) rfl ?_
      refine rExit ?_
      refine rThenExit ?_
      refine rThenExit ?_
      exact zTo [] 0 hε (hxs10 _ (houts1 _ (Option.some.inj hT).symm))
  · cases h
def law25_lives (N : Nat) : Option Bool :=
  let x1 := ([((0 : Int), (false, ((3 : Int), ((0 : Int), ((List.replicate 2 0), ((((((((List.replicate 6 0).set 0 9).set 1 9).set 2 9).set 3 9).set 4 9).set 5 9), (List.replicate 6 []))))))), ((0 : Int), (false, ((3 : Int), ((0 : Int), ((List.replicate 2 0), ((((((((List.replicate 6 0).set 0 9).set 1 9).set 2 9).set 3 9).set 4 9).set 5 9), (List.replicate 6 [])))))))] : List (Int × (Bool × (Int × (Int × ((List Int) × ((List Int) × (List (List (Bool × (Int × Int)))))))))))
  if 2 = x1.length then
    if 2 = x1.length then
      if 2 = ([((0 : Int), (false, ((0 : Int), ((0 : Int), ((((List.replicate 2 0).set 0 (-1)).set 1 0), ((List.replicate 6 0), (List.replicate 6 []))))))), ((0 : Int), (false, ((3 : Int), ((0 : Int), ((List.replicate 2 0), ((((((((List.replicate 6 0).set 0 9).set 1 9).set 2 9).set 3 9).set 4 9).set 5 9), (List.replicate 6 [])))))))] : List (Int × (Bool × (Int × (Int × ((List Int) × ((List Int) × (List (List (Bool × (Int × Int))))))))))).length then
        if 2 = ([((0 : Int), (false, ((3 : Int), ((0 : Int), ((List.replicate 2 0), ((((((((List.replicate 6 0).set 0 9).set 1 9).set 2 9).set 3 9).set 4 9).set 5 9), (List.replicate 6 []))))))), ((0 : Int), (false, ((3 : Int), ((0 : Int), ((List.replicate 2 0), ((((((((List.replicate 6 0).set 0 9).set 1 9).set 2 9).set 3 9).set 4 9).set 5 9), (List.replicate 6 [])))))))] : List (Int × (Bool × (Int × (Int × ((List Int) × ((List Int) × (List (List (Bool × (Int × Int))))))))))).length then
          let c1 := (sound_Check N 0 0 6 false 5 [(false, ((0 : Int), ((0 : Int), x1))), (false, ((0 : Int), ((0 : Int), x1)))] 0)
          let c2 := (sound_Check N 0 0 6 true 5 ([(false, ((0 : Int), ((0 : Int), ([((0 : Int), (false, ((0 : Int), ((0 : Int), ((((List.replicate 2 0).set 0 (-1)).set 1 0), ((List.replicate 6 0), (List.replicate 6 []))))))), ((0 : Int), (false, ((3 : Int), ((0 : Int), ((List.replicate 2 0), ((((((((List.replicate 6 0).set 0 9).set 1 9).set 2 9).set 3 9).set 4 9).set 5 9), (List.replicate 6 [])))))))] : List (Int × (Bool × (Int × (Int × ((List Int) × ((List Int) × (List (List (Bool × (Int × Int)))))))))))))), (false, ((0 : Int), ((0 : Int), ([((0 : Int), (false, ((3 : Int), ((0 : Int), ((List.replicate 2 0), ((((((((List.replicate 6 0).set 0 9).set 1 9).set 2 9).set 3 9).set 4 9).set 5 9), (List.replicate 6 []))))))), ((0 : Int), (false, ((3 : Int), ((0 : Int), ((List.replicate 2 0), ((((((((List.replicate 6 0).set 0 9).set 1 9).set 2 9).set 3 9).set 4 9).set 5 9), (List.replicate 6 [])))))))] : List (Int × (Bool × (Int × (Int × ((List Int) × ((List Int) × (List (List (Bool × (Int × Int))))))))))))))] : List (Bool × (Int × (Int × (List (Int × (Bool × (Int × (Int × ((List Int) × ((List Int) × (List (List (Bool × (Int × Int))))))))))))))) 0)
          let c3 := (sound_Check_v1 N 0 0 0 false 0 0)
          let c4 := (sound_Cells N 0 0 6 false 5 [(false, ((0 : Int), ((0 : Int), x1))), (false, ((0 : Int), ((0 : Int), x1)))] 0)
          let x2 := (bif (bif (bif (decide ((c1.getD default) = 0)) then (decide ((c2.getD default) = 8)) else false) then (decide ((c3.getD default) = 12)) else false) then (decide (((c4.getD default).length : Int) = 4)) else false)
          if c1.isSome = true ∧ ((decide ((c1.getD default) = 0)) = true → c2.isSome = true) ∧ ((bif (decide ((c1.getD default) = 0)) then (decide ((c2.getD default) = 8)) else false) = true → c3.isSome = true) ∧ ((bif (bif (decide ((c1.getD default) = 0)) then (decide ((c2.getD default) = 8)) else false) then (decide ((c3.getD default) = 12)) else false) = true → c4.isSome = true) then
            some x2
          else none
        else none
      else none
    else none
  else none
def sp_law25_lives (N : Nat) : X.Spec := fun args lk => match args with
  | [] => some ⟨(law25_lives N).isSome = true, .v (.c (.bool ((law25_lives N).getD default))), [], []⟩
  | _ => none
set_option maxRecDepth 100000 in
set_option maxHeartbeats 1000000 in
theorem ok_law25_lives (N : Nat) : FnOK Tryd.prog gt0 10 (sp_law25_lives N) := by
  refine fnOK_handed Tryd.func10 rfl (by kernel_rfl) tt_ok (ktCons (ok_sound_Cells N) (ktCons (FnOK.or (ok_sound_Check N) (ok_sound_Check_v1 N)) (ktNil))) ?_
  intro args lk r h hp
  unfold sp_law25_lives at h
  split at h
  · skip
    cases h
    obtain ⟨x, hx⟩ := Option.isSome_iff_exists.1 hp
    simp only [hx, Option.getD_some]
    refine hand0 rfl rfl (fun w0 M ε0 hX => ?_)
    refine rCount (fun hε => ?_)
    have hT : law25_lives N = some x := hx; clear hx hp; unfold law25_lives at hT
    refine rSeq ?_
    refine zReg md0 hX rfl rfl rfl ?_
    refine rThen ?_
    refine rSeq ?_
    refine zReg md0 hX rfl rfl rfl ?_
    refine rThen ?_
    refine rSeq ?_
    refine zReg md0 hX rfl rfl rfl ?_
    refine rLstQ 1 (.pair (.int .i64) (.pair .bool (.pair (.int .i64) (.pair (.int .i64) (.pair (.arr 2 .i64) (.pair (.arr 6 .i64) (.arrS 6 (.pair .bool (.pair (.int .i64) (.int .i64)))))))))) [((0 : Int), (false, ((3 : Int), ((0 : Int), ((List.replicate 2 0), ((((((((List.replicate 6 0).set 0 9).set 1 9).set 2 9).set 3 9).set 4 9).set 5 9), (List.replicate 6 []))))))), ((0 : Int), (false, ((3 : Int), ((0 : Int), ((List.replicate 2 0), ((((((((List.replicate 6 0).set 0 9).set 1 9).set 2 9).set 3 9).set 4 9).set 5 9), (List.replicate 6 [])))))))] rfl rfl rfl ?_
    refine rLstQ 2 (.pair (.int .i64) (.pair .bool (.pair (.int .i64) (.pair (.int .i64) (.pair (.arr 2 .i64) (.pair (.arr 6 .i64) (.arrS 6 (.pair .bool (.pair (.int .i64) (.int .i64)))))))))) [((0 : Int), (false, ((3 : Int), ((0 : Int), ((List.replicate 2 0), ((((((((List.replicate 6 0).set 0 9).set 1 9).set 2 9).set 3 9).set 4 9).set 5 9), (List.replicate 6 []))))))), ((0 : Int), (false, ((3 : Int), ((0 : Int), ((List.replicate 2 0), ((((((((List.replicate 6 0).set 0 9).set 1 9).set 2 9).set 3 9).set 4 9).set 5 9), (List.replicate 6 [])))))))] rfl rfl rfl ?_
    refine rThen ?_
    refine rSeq ?_
    let x1 := ([((0 : Int), (false, ((3 : Int), ((0 : Int), ((List.replicate 2 0), ((((((((List.replicate 6 0).set 0 9).set 1 9).set 2 9).set 3 9).set 4 9).set 5 9), (List.replicate 6 []))))))), ((0 : Int), (false, ((3 : Int), ((0 : Int), ((List.replicate 2 0), ((((((((List.replicate 6 0).set 0 9).set 1 9).set 2 9).set 3 9).set 4 9).set 5 9), (List.replicate 6 [])))))))] : List (Int × (Bool × (Int × (Int × ((List Int) × ((List Int) × (List (List (Bool × (Int × Int)))))))))))
    refine zReg md0 hX rfl rfl rfl ?_
    refine rThen ?_
    refine rSeq ?_
    refine zReg md0 hX rfl rfl rfl ?_
    refine rLstQ 5 (.pair (.int .i64) (.pair .bool (.pair (.int .i64) (.pair (.int .i64) (.pair (.arr 2 .i64) (.pair (.arr 6 .i64) (.arrS 6 (.pair .bool (.pair (.int .i64) (.int .i64)))))))))) [((0 : Int), (false, ((0 : Int), ((0 : Int), ((((List.replicate 2 0).set 0 (-1)).set 1 0), ((List.replicate 6 0), (List.replicate 6 []))))))), ((0 : Int), (false, ((3 : Int), ((0 : Int), ((List.replicate 2 0), ((((((((List.replicate 6 0).set 0 9).set 1 9).set 2 9).set 3 9).set 4 9).set 5 9), (List.replicate 6 [])))))))] rfl rfl rfl ?_
    refine rLstQ 6 (.pair (.int .i64) (.pair .bool (.pair (.int .i64) (.pair (.int .i64) (.pair (.arr 2 .i64) (.pair (.arr 6 .i64) (.arrS 6 (.pair .bool (.pair (.int .i64) (.int .i64)))))))))) [((0 : Int), (false, ((3 : Int), ((0 : Int), ((List.replicate 2 0), ((((((((List.replicate 6 0).set 0 9).set 1 9).set 2 9).set 3 9).set 4 9).set 5 9), (List.replicate 6 []))))))), ((0 : Int), (false, ((3 : Int), ((0 : Int), ((List.replicate 2 0), ((((((((List.replicate 6 0).set 0 9).set 1 9).set 2 9).set 3 9).set 4 9).set 5 9), (List.replicate 6 [])))))))] rfl rfl rfl ?_
    refine rThen ?_
    refine rSeq ?_
    replace hT := sIf hT; obtain ⟨f1, hT⟩ := hT
    refine rFreeze 1 (.pair (.int .i64) (.pair .bool (.pair (.int .i64) (.pair (.int .i64) (.pair (.arr 2 .i64) (.pair (.arr 6 .i64) (.arrS 6 (.pair .bool (.pair (.int .i64) (.int .i64)))))))))) x1 [(0, .v (.c (.bool false))), (3, .v (.c (.ptr 4 0 0 0 0 0))), (4, .v (.c (.ptr 8 0 0 0 0 0)))] [(2, .mem true 42 (some 18) (.lst (.pair (.int .i64) (.pair .bool (.pair (.int .i64) (.pair (.int .i64) (.pair (.arr 2 .i64) (.pair (.arr 6 .i64) (.arrS 6 (.pair .bool (.pair (.int .i64) (.int .i64)))))))))) x1)), (3, .mem true 49 (some 4) (.rows 2 4 (Go.X.rowAt [[.cs [.bool false, .int .i64 0, .int .i64 0, .fz (.pair (.int .i64) (.pair .bool (.pair (.int .i64) (.pair (.int .i64) (.pair (.arr 2 .i64) (.pair (.arr 6 .i64) (.arrS 6 (.pair .bool (.pair (.int .i64) (.int .i64)))))))))) x1]], [.cs [.bool false, .int .i64 0, .int .i64 0, .sl 2 0 2 18]]]))), (4, .mem true 25 none (.flat [.cs [.int .i64 0, .int .i64 0, .int .i64 6, .bool false, .int .i64 5, .val (.slice none 0 0), .sl 3 0 2 4, .int .i64 0]])), (5, .mem true 42 (some 18) (.lst (.pair (.int .i64) (.pair .bool (.pair (.int .i64) (.pair (.int .i64) (.pair (.arr 2 .i64) (.pair (.arr 6 .i64) (.arrS 6 (.pair .bool (.pair (.int .i64) (.int .i64)))))))))) ([((0 : Int), (false, ((0 : Int), ((0 : Int), ((((List.replicate 2 0).set 0 (-1)).set 1 0), ((List.replicate 6 0), (List.replicate 6 []))))))), ((0 : Int), (false, ((3 : Int), ((0 : Int), ((List.replicate 2 0), ((((((((List.replicate 6 0).set 0 9).set 1 9).set 2 9).set 3 9).set 4 9).set 5 9), (List.replicate 6 [])))))))] : List (Int × (Bool × (Int × (Int × ((List Int) × ((List Int) × (List (List (Bool × (Int × Int))))))))))))), (6, .mem true 42 (some 18) (.lst (.pair (.int .i64) (.pair .bool (.pair (.int .i64) (.pair (.int .i64) (.pair (.arr 2 .i64) (.pair (.arr 6 .i64) (.arrS 6 (.pair .bool (.pair (.int .i64) (.int .i64)))))))))) ([((0 : Int), (false, ((3 : Int), ((0 : Int), ((List.replicate 2 0), ((((((((List.replicate 6 0).set 0 9).set 1 9).set 2 9).set 3 9).set 4 9).set 5 9), (List.replicate 6 []))))))), ((0 : Int), (false, ((3 : Int), ((0 : Int), ((List.replicate 2 0), ((((((((List.replicate 6 0).set 0 9).set 1 9).set 2 9).set 3 9).set 4 9).set 5 9), (List.replicate 6 [])))))))] : List (Int × (Bool × (Int × (Int × ((List Int) × ((List Int) × (List (List (Bool × (Int × Int))))))))))))), (7, .mem true 49 (some 4) (.rows 2 4 (Go.X.rowAt [[.cs [.bool false, .int .i64 0, .int .i64 0, .sl 5 0 2 18]], [.cs [.bool false, .int .i64 0, .int .i64 0, .sl 6 0 2 18]]]))), (8, .mem true 25 none (.flat [.cs [.int .i64 0, .int .i64 0, .int .i64 6, .bool true, .int .i64 5, .val (.slice none 0 0), .sl 7 0 2 4, .int .i64 0]]))] rfl rfl (by (repeat' first | exact True.intro | exact rfl | apply And.intro) <;> first | assumption | rfl) (by (repeat' first | exact True.intro | exact rfl | apply And.intro) <;> first | assumption | rfl) ?_
    replace hT := sIf hT; obtain ⟨f1, hT⟩ := hT
    refine rFreeze 2 (.pair (.int .i64) (.pair .bool (.pair (.int .i64) (.pair (.int .i64) (.pair (.arr 2 .i64) (.pair (.arr 6 .i64) (.arrS 6 (.pair .bool (.pair (.int .i64) (.int .i64)))))))))) x1 [(0, .v (.c (.bool false))), (3, .v (.c (.ptr 4 0 0 0 0 0))), (4, .v (.c (.ptr 8 0 0 0 0 0)))] [(3, .mem true 49 (some 4) (.rows 2 4 (Go.X.rowAt [[.cs [.bool false, .int .i64 0, .int .i64 0, .fz (.pair (.int .i64) (.pair .bool (.pair (.int .i64) (.pair (.int .i64) (.pair (.arr 2 .i64) (.pair (.arr 6 .i64) (.arrS 6 (.pair .bool (.pair (.int .i64) (.int .i64)))))))))) x1]], [.cs [.bool false, .int .i64 0, .int .i64 0, .fz (.pair (.int .i64) (.pair .bool (.pair (.int .i64) (.pair (.int .i64) (.pair (.arr 2 .i64) (.pair (.arr 6 .i64) (.arrS 6 (.pair .bool (.pair (.int .i64) (.int .i64)))))))))) x1]]]))), (4, .mem true 25 none (.flat [.cs [.int .i64 0, .int .i64 0, .int .i64 6, .bool false, .int .i64 5, .val (.slice none 0 0), .sl 3 0 2 4, .int .i64 0]])), (5, .mem true 42 (some 18) (.lst (.pair (.int .i64) (.pair .bool (.pair (.int .i64) (.pair (.int .i64) (.pair (.arr 2 .i64) (.pair (.arr 6 .i64) (.arrS 6 (.pair .bool (.pair (.int .i64) (.int .i64)))))))))) ([((0 : Int), (false, ((0 : Int), ((0 : Int), ((((List.replicate 2 0).set 0 (-1)).set 1 0), ((List.replicate 6 0), (List.replicate 6 []))))))), ((0 : Int), (false, ((3 : Int), ((0 : Int), ((List.replicate 2 0), ((((((((List.replicate 6 0).set 0 9).set 1 9).set 2 9).set 3 9).set 4 9).set 5 9), (List.replicate 6 [])))))))] : List (Int × (Bool × (Int × (Int × ((List Int) × ((List Int) × (List (List (Bool × (Int × Int))))))))))))), (6, .mem true 42 (some 18) (.lst (.pair (.int .i64) (.pair .bool (.pair (.int .i64) (.pair (.int .i64) (.pair (.arr 2 .i64) (.pair (.arr 6 .i64) (.arrS 6 (.pair .bool (.pair (.int .i64) (.int .i64)))))))))) ([((0 : Int), (false, ((3 : Int), ((0 : Int), ((List.replicate 2 0), ((((((((List.replicate 6 0).set 0 9).set 1 9).set 2 9).set 3 9).set 4 9).set 5 9), (List.replicate 6 []))))))), ((0 : Int), (false, ((3 : Int), ((0 : Int), ((List.replicate 2 0), ((((((((List.replicate 6 0).set 0 9).set 1 9).set 2 9).set 3 9).set 4 9).set 5 9), (List.replicate 6 [])))))))] : List (Int × (Bool × (Int × (Int × ((List Int) × ((List Int) × (List (List (Bool × (Int × Int))))))))))))), (7, .mem true 49 (some 4) (.rows 2 4 (Go.X.rowAt [[.cs [.bool false, .int .i64 0, .int .i64 0, .sl 5 0 2 18]], [.cs [.bool false, .int .i64 0, .int .i64 0, .sl 6 0 2 18]]]))), (8, .mem true 25 none (.flat [.cs [.int .i64 0, .int .i64 0, .int .i64 6, .bool true, .int .i64 5, .val (.slice none 0 0), .sl 7 0 2 4, .int .i64 0]]))] rfl rfl (by (repeat' first | exact True.intro | exact rfl | apply And.intro) <;> first | assumption | rfl) (by (repeat' first | exact True.intro | exact rfl | apply And.intro) <;> first | assumption | rfl) ?_
    refine rFreeze 3 (.pair .bool (.pair (.int .i64) (.pair (.int .i64) (.sl (.pair (.int .i64) (.pair .bool (.pair (.int .i64) (.pair (.int .i64) (.pair (.arr 2 .i64) (.pair (.arr 6 .i64) (.arrS 6 (.pair .bool (.pair (.int .i64) (.int .i64)))))))))))))) [(false, ((0 : Int), ((0 : Int), x1))), (false, ((0 : Int), ((0 : Int), x1)))] [(0, .v (.c (.bool false))), (3, .v (.c (.ptr 4 0 0 0 0 0))), (4, .v (.c (.ptr 8 0 0 0 0 0)))] [(4, .mem true 25 none (.flat [.cs [.int .i64 0, .int .i64 0, .int .i64 6, .bool false, .int .i64 5, .val (.slice none 0 0), .fz (.pair .bool (.pair (.int .i64) (.pair (.int .i64) (.sl (.pair (.int .i64) (.pair .bool (.pair (.int .i64) (.pair (.int .i64) (.pair (.arr 2 .i64) (.pair (.arr 6 .i64) (.arrS 6 (.pair .bool (.pair (.int .i64) (.int .i64)))))))))))))) [(false, ((0 : Int), ((0 : Int), x1))), (false, ((0 : Int), ((0 : Int), x1)))], .int .i64 0]])), (5, .mem true 42 (some 18) (.lst (.pair (.int .i64) (.pair .bool (.pair (.int .i64) (.pair (.int .i64) (.pair (.arr 2 .i64) (.pair (.arr 6 .i64) (.arrS 6 (.pair .bool (.pair (.int .i64) (.int .i64)))))))))) ([((0 : Int), (false, ((0 : Int), ((0 : Int), ((((List.replicate 2 0).set 0 (-1)).set 1 0), ((List.replicate 6 0), (List.replicate 6 []))))))), ((0 : Int), (false, ((3 : Int), ((0 : Int), ((List.replicate 2 0), ((((((((List.replicate 6 0).set 0 9).set 1 9).set 2 9).set 3 9).set 4 9).set 5 9), (List.replicate 6 [])))))))] : List (Int × (Bool × (Int × (Int × ((List Int) × ((List Int) × (List (List (Bool × (Int × Int))))))))))))), (6, .mem true 42 (some 18) (.lst (.pair (.int .i64) (.pair .bool (.pair (.int .i64) (.pair (.int .i64) (.pair (.arr 2 .i64) (.pair (.arr 6 .i64) (.arrS 6 (.pair .bool (.pair (.int .i64) (.int .i64)))))))))) ([((0 : Int), (false, ((3 : Int), ((0 : Int), ((List.replicate 2 0), ((((((((List.replicate 6 0).set 0 9).set 1 9).set 2 9).set 3 9).set 4 9).set 5 9), (List.replicate 6 []))))))), ((0 : Int), (false, ((3 : Int), ((0 : Int), ((List.replicate 2 0), ((((((((List.replicate 6 0).set 0 9).set 1 9).set 2 9).set 3 9).set 4 9).set 5 9), (List.replicate 6 [])))))))] : List (Int × (Bool × (Int × (Int × ((List Int) × ((List Int) × (List (List (Bool × (Int × Int))))))))))))), (7, .mem true 49 (some 4) (.rows 2 4 (Go.X.rowAt [[.cs [.bool false, .int .i64 0, .int .i64 0, .sl 5 0 2 18]], [.cs [.bool false, .int .i64 0, .int .i64 0, .sl 6 0 2 18]]]))), (8, .mem true 25 none (.flat [.cs [.int .i64 0, .int .i64 0, .int .i64 6, .bool true, .int .i64 5, .val (.slice none 0 0), .sl 7 0 2 4, .int .i64 0]]))] rfl rfl (by (repeat' first | exact True.intro | exact rfl | apply And.intro) <;> first | assumption | rfl) (by (repeat' first | exact True.intro | exact rfl | apply And.intro) <;> first | assumption | rfl) ?_
    replace hT := sIf hT; obtain ⟨f1, hT⟩ := hT
    refine rFreeze 5 (.pair (.int .i64) (.pair .bool (.pair (.int .i64) (.pair (.int .i64) (.pair (.arr 2 .i64) (.pair (.arr 6 .i64) (.arrS 6 (.pair .bool (.pair (.int .i64) (.int .i64)))))))))) ([((0 : Int), (false, ((0 : Int), ((0 : Int), ((((List.replicate 2 0).set 0 (-1)).set 1 0), ((List.replicate 6 0), (List.replicate 6 []))))))), ((0 : Int), (false, ((3 : Int), ((0 : Int), ((List.replicate 2 0), ((((((((List.replicate 6 0).set 0 9).set 1 9).set 2 9).set 3 9).set 4 9).set 5 9), (List.replicate 6 [])))))))] : List (Int × (Bool × (Int × (Int × ((List Int) × ((List Int) × (List (List (Bool × (Int × Int))))))))))) [(0, .v (.c (.bool false))), (3, .v (.c (.ptr 4 0 0 0 0 0))), (4, .v (.c (.ptr 8 0 0 0 0 0)))] [(4, .mem true 25 none (.flat [.cs [.int .i64 0, .int .i64 0, .int .i64 6, .bool false, .int .i64 5, .val (.slice none 0 0), .fz (.pair .bool (.pair (.int .i64) (.pair (.int .i64) (.sl (.pair (.int .i64) (.pair .bool (.pair (.int .i64) (.pair (.int .i64) (.pair (.arr 2 .i64) (.pair (.arr 6 .i64) (.arrS 6 (.pair .bool (.pair (.int .i64) (.int .i64)))))))))))))) [(false, ((0 : Int), ((0 : Int), x1))), (false, ((0 : Int), ((0 : Int), x1)))], .int .i64 0]])), (6, .mem true 42 (some 18) (.lst (.pair (.int .i64) (.pair .bool (.pair (.int .i64) (.pair (.int .i64) (.pair (.arr 2 .i64) (.pair (.arr 6 .i64) (.arrS 6 (.pair .bool (.pair (.int .i64) (.int .i64)))))))))) ([((0 : Int), (false, ((3 : Int), ((0 : Int), ((List.replicate 2 0), ((((((((List.replicate 6 0).set 0 9).set 1 9).set 2 9).set 3 9).set 4 9).set 5 9), (List.replicate 6 []))))))), ((0 : Int), (false, ((3 : Int), ((0 : Int), ((List.replicate 2 0), ((((((((List.replicate 6 0).set 0 9).set 1 9).set 2 9).set 3 9).set 4 9).set 5 9), (List.replicate 6 [])))))))] : List (Int × (Bool × (Int × (Int × ((List Int) × ((List Int) × (List (List (Bool × (Int × Int))))))))))))), (7, .mem true 49 (some 4) (.rows 2 4 (Go.X.rowAt [[.cs [.bool false, .int .i64 0, .int .i64 0, .fz (.pair (.int .i64) (.pair .bool (.pair (.int .i64) (.pair (.int .i64) (.pair (.arr 2 .i64) (.pair (.arr 6 .i64) (.arrS 6 (.pair .bool (.pair (.int .i64) (.int .i64)))))))))) ([((0 : Int), (false, ((0 : Int), ((0 : Int), ((((List.replicate 2 0).set 0 (-1)).set 1 0), ((List.replicate 6 0), (List.replicate 6 []))))))), ((0 : Int), (false, ((3 : Int), ((0 : Int), ((List.replicate 2 0), ((((((((List.replicate 6 0).set 0 9).set 1 9).set 2 9).set 3 9).set 4 9).set 5 9), (List.replicate 6 [])))))))] : List (Int × (Bool × (Int × (Int × ((List Int) × ((List Int) × (List (List (Bool × (Int × Int)))))))))))]], [.cs [.bool false, .int .i64 0, .int .i64 0, .sl 6 0 2 18]]]))), (8, .mem true 25 none (.flat [.cs [.int .i64 0, .int .i64 0, .int .i64 6, .bool true, .int .i64 5, .val (.slice none 0 0), .sl 7 0 2 4, .int .i64 0]]))] rfl rfl (by (repeat' first | exact True.intro | exact rfl | apply And.intro) <;> first | assumption | rfl) (by (repeat' first | exact True.intro | exact rfl | apply And.intro) <;> first | assumption | rfl) ?_
    replace hT := sIf hT; obtain ⟨f1, hT⟩ := hT
    refine rFreeze 6 (.pair (.int .i64) (.pair .bool (.pair (.int .i64) (.pair (.int .i64) (.pair (.arr 2 .i64) (.pair (.arr 6 .i64) (.arrS 6 (.pair .bool (.pair (.int .i64) (.int .i64)))))))))) ([((0 : Int), (false, ((3 : Int), ((0 : Int), ((List.replicate 2 0), ((((((((List.replicate 6 0).set 0 9).set 1 9).set 2 9).set 3 9).set 4 9).set 5 9), (List.replicate 6 []))))))), ((0 : Int), (false, ((3 : Int), ((0 : Int), ((List.replicate 2 0), ((((((((List.replicate 6 0).set 0 9).set 1 9).set 2 9).set 3 9).set 4 9).set 5 9), (List.replicate 6 [])))))))] : List (Int × (Bool × (Int × (Int × ((List Int) × ((List Int) × (List (List (Bool × (Int × Int))))))))))) [(0, .v (.c (.bool false))), (3, .v (.c (.ptr 4 0 0 0 0 0))), (4, .v (.c (.ptr 8 0 0 0 0 0)))] [(4, .mem true 25 none (.flat [.cs [.int .i64 0, .int .i64 0, .int .i64 6, .bool false, .int .i64 5, .val (.slice none 0 0), .fz (.pair .bool (.pair (.int .i64) (.pair (.int .i64) (.sl (.pair (.int .i64) (.pair .bool (.pair (.int .i64) (.pair (.int .i64) (.pair (.arr 2 .i64) (.pair (.arr 6 .i64) (.arrS 6 (.pair .bool (.pair (.int .i64) (.int .i64)))))))))))))) [(false, ((0 : Int), ((0 : Int), x1))), (false, ((0 : Int), ((0 : Int), x1)))], .int .i64 0]])), (7, .mem true 49 (some 4) (.rows 2 4 (Go.X.rowAt [[.cs [.bool false, .int .i64 0, .int .i64 0, .fz (.pair (.int .i64) (.pair .bool (.pair (.int .i64) (.pair (.int .i64) (.pair (.arr 2 .i64) (.pair (.arr 6 .i64) (.arrS 6 (.pair .bool (.pair (.int .i64) (.int .i64)))))))))) ([((0 : Int), (false, ((0 : Int), ((0 : Int), ((((List.replicate 2 0).set 0 (-1)).set 1 0), ((List.replicate 6 0), (List.replicate 6 []))))))), ((0 : Int), (false, ((3 : Int), ((0 : Int), ((List.replicate 2 0), ((((((((List.replicate 6 0).set 0 9).set 1 9).set 2 9).set 3 9).set 4 9).set 5 9), (List.replicate 6 [])))))))] : List (Int × (Bool × (Int × (Int × ((List Int) × ((List Int) × (List (List (Bool × (Int × Int)))))))))))]], [.cs [.bool false, .int .i64 0, .int .i64 0, .fz (.pair (.int .i64) (.pair .bool (.pair (.int .i64) (.pair (.int .i64) (.pair (.arr 2 .i64) (.pair (.arr 6 .i64) (.arrS 6 (.pair .bool (.pair (.int .i64) (.int .i64)))))))))) ([((0 : Int), (false, ((3 : Int), ((0 : Int), ((List.replicate 2 0), ((((((((List.replicate 6 0).set 0 9).set 1 9).set 2 9).set 3 9).set 4 9).set 5 9), (List.replicate 6 []))))))), ((0 : Int), (false, ((3 : Int), ((0 : Int), ((List.replicate 2 0), ((((((((List.replicate 6 0).set 0 9).set 1 9).set 2 9).set 3 9).set 4 9).set 5 9), (List.replicate 6 [])))))))] : List (Int × (Bool × (Int × (Int × ((List Int) × ((List Int) × (List (List (Bool × (Int × Int)))))))))))]]]))), (8, .mem true 25 none (.flat [.cs [.int .i64 0, .int .i64 0, .int .i64 6, .bool true, .int .i64 5, .val (.slice none 0 0), .sl 7 0 2 4, .int .i64 0]]))] rfl rfl (by (repeat' first | exact True.intro | exact rfl | apply And.intro) <;> first | assumption | rfl) (by (repeat' first | exact True.intro | exact rfl | apply And.intro) <;> first | assumption | rfl) ?_
    refine rFreeze 7 (.pair .bool (.pair (.int .i64) (.pair (.int .i64) (.sl (.pair (.int .i64) (.pair .bool (.pair (.int .i64) (.pair (.int .i64) (.pair (.arr 2 .i64) (.pair (.arr 6 .i64) (.arrS 6 (.pair .bool (.pair (.int .i64) (.int .i64)))))))))))))) ([(false, ((0 : Int), ((0 : Int), ([((0 : Int), (false, ((0 : Int), ((0 : Int), ((((List.replicate 2 0).set 0 (-1)).set 1 0), ((List.replicate 6 0), (List.replicate 6 []))))))), ((0 : Int), (false, ((3 : Int), ((0 : Int), ((List.replicate 2 0), ((((((((List.replicate 6 0).set 0 9).set 1 9).set 2 9).set 3 9).set 4 9).set 5 9), (List.replicate 6 [])))))))] : List (Int × (Bool × (Int × (Int × ((List Int) × ((List Int) × (List (List (Bool × (Int × Int)))))))))))))), (false, ((0 : Int), ((0 : Int), ([((0 : Int), (false, ((3 : Int), ((0 : Int), ((List.replicate 2 0), ((((((((List.replicate 6 0).set 0 9).set 1 9).set 2 9).set 3 9).set 4 9).set 5 9), (List.replicate 6 []))))))), ((0 : Int), (false, ((3 : Int), ((0 : Int), ((List.replicate 2 0), ((((((((List.replicate 6 0).set 0 9).set 1 9).set 2 9).set 3 9).set 4 9).set 5 9), (List.replicate 6 [])))))))] : List (Int × (Bool × (Int × (Int × ((List Int) × ((List Int) × (List (List (Bool × (Int × Int))))))))))))))] : List (Bool × (Int × (Int × (List (Int × (Bool × (Int × (Int × ((List Int) × ((List Int) × (List (List (Bool × (Int × Int))))))))))))))) [(0, .v (.c (.bool false))), (3, .v (.c (.ptr 4 0 0 0 0 0))), (4, .v (.c (.ptr 8 0 0 0 0 0)))] [(4, .mem true 25 none (.flat [.cs [.int .i64 0, .int .i64 0, .int .i64 6, .bool false, .int .i64 5, .val (.slice none 0 0), .fz (.pair .bool (.pair (.int .i64) (.pair (.int .i64) (.sl (.pair (.int .i64) (.pair .bool (.pair (.int .i64) (.pair (.int .i64) (.pair (.arr 2 .i64) (.pair (.arr 6 .i64) (.arrS 6 (.pair .bool (.pair (.int .i64) (.int .i64)))))))))))))) [(false, ((0 : Int), ((0 : Int), x1))), (false, ((0 : Int), ((0 : Int), x1)))], .int .i64 0]])), (8, .mem true 25 none (.flat [.cs [.int .i64 0, .int .i64 0, .int .i64 6, .bool true, .int .i64 5, .val (.slice none 0 0), .fz (.pair .bool (.pair (.int .i64) (.pair (.int .i64) (.sl (.pair (.int .i64) (.pair .bool (.pair (.int .i64) (.pair (.int .i64) (.pair (.arr 2 .i64) (.pair (.arr 6 .i64) (.arrS 6 (.pair .bool (.pair (.int .i64) (.int .i64)))))))))))))) ([(false, ((0 : Int), ((0 : Int), ([((0 : Int), (false, ((0 : Int), ((0 : Int), ((((List.replicate 2 0).set 0 (-1)).set 1 0), ((List.replicate 6 0), (List.replicate 6 []))))))), ((0 : Int), (false, ((3 : Int), ((0 : Int), ((List.replicate 2 0), ((((((((List.replicate 6 0).set 0 9).set 1 9).set 2 9).set 3 9).set 4 9).set 5 9), (List.replicate 6 [])))))))] : List (Int × (Bool × (Int × (Int × ((List Int) × ((List Int) × (List (List (Bool × (Int × Int)))))))))))))), (false, ((0 : Int), ((0 : Int), ([((0 : Int), (false, ((3 : Int), ((0 : Int), ((List.replicate 2 0), ((((((((List.replicate 6 0).set 0 9).set 1 9).set 2 9).set 3 9).set 4 9).set 5 9), (List.replicate 6 []))))))), ((0 : Int), (false, ((3 : Int), ((0 : Int), ((List.replicate 2 0), ((((((((List.replicate 6 0).set 0 9).set 1 9).set 2 9).set 3 9).set 4 9).set 5 9), (List.replicate 6 [])))))))] : List (Int × (Bool × (Int × (Int × ((List Int) × ((List Int) × (List (List (Bool × (Int × Int))))))))))))))] : List (Bool × (Int × (Int × (List (Int × (Bool × (Int × (Int × ((List Int) × ((List Int) × (List (List (Bool × (Int × Int))))))))))))))), .int .i64 0]]))] rfl rfl (by (repeat' first | exact True.intro | exact rfl | apply And.intro) <;> first | assumption | rfl) (by (repeat' first | exact True.intro | exact rfl | apply And.intro) <;> first | assumption | rfl) ?_
    let c1 := (sound_Check N 0 0 6 false 5 [(false, ((0 : Int), ((0 : Int), x1))), (false, ((0 : Int), ((0 : Int), x1)))] 0)
    let c2 := (sound_Check N 0 0 6 true 5 ([(false, ((0 : Int), ((0 : Int), ([((0 : Int), (false, ((0 : Int), ((0 : Int), ((((List.replicate 2 0).set 0 (-1)).set 1 0), ((List.replicate 6 0), (List.replicate 6 []))))))), ((0 : Int), (false, ((3 : Int), ((0 : Int), ((List.replicate 2 0), ((((((((List.replicate 6 0).set 0 9).set 1 9).set 2 9).set 3 9).set 4 9).set 5 9), (List.replicate 6 [])))))))] : List (Int × (Bool × (Int × (Int × ((List Int) × ((List Int) × (List (List (Bool × (Int × Int)))))))))))))), (false, ((0 : Int), ((0 : Int), ([((0 : Int), (false, ((3 : Int), ((0 : Int), ((List.replicate 2 0), ((((((((List.replicate 6 0).set 0 9).set 1 9).set 2 9).set 3 9).set 4 9).set 5 9), (List.replicate 6 []))))))), ((0 : Int), (false, ((3 : Int), ((0 : Int), ((List.replicate 2 0), ((((((((List.replicate 6 0).set 0 9).set 1 9).set 2 9).set 3 9).set 4 9).set 5 9), (List.replicate 6 [])))))))] : List (Int × (Bool × (Int × (Int × ((List Int) × ((List Int) × (List (List (Bool × (Int × Int))))))))))))))] : List (Bool × (Int × (Int × (List (Int × (Bool × (Int × (Int × ((List Int) × ((List Int) × (List (List (Bool × (Int × Int))))))))))))))) 0)
    let c3 := (sound_Check_v1 N 0 0 0 false 0 0)
    let c4 := (sound_Cells N 0 0 6 false 5 [(false, ((0 : Int), ((0 : Int), x1))), (false, ((0 : Int), ((0 : Int), x1)))] 0)
    let x2 := (bif (bif (bif (decide ((c1.getD default) = 0)) then (decide ((c2.getD default) = 8)) else false) then (decide ((c3.getD default) = 12)) else false) then (decide (((c4.getD default).length : Int) = 4)) else false)
    replace hT := sIf hT; obtain ⟨⟨o1, o2, o3, o4⟩, hT⟩ := hT
    refine rRegC md0 hX rfl rfl rfl (by (repeat' first | exact True.intro | with_reducible assumption | (with_reducible apply And.intro) | intro _) <;> first | assumption | exact o2 (by assumption) | exact o3 (by assumption) | exact o4 (by assumption) | exact rfl | omega | exact Nat.le_of_ble_eq_true rfl | exact selF (by assumption) | exact selT (by assumption) | exact And.intro rfl rfl | exact And.intro (by assumption) rfl | exact And.intro (by omega) rfl | (simp only [inK] at *; omega) | (simp_all [sel] <;> fail) | fail) ?_
    refine rThen ?_
    refine rRet ?_
    have hy := Option.some.inj hT; subst hy
    exact zEnd0 hX rfl
  · cases h
def sheethead_may_v2_b1 (N : Nat) (a6 : (List Int)) (s1 : (Bool × Int)) : Option ((Bool × Int) ⊕ Bool) :=
  bif (decide (s1.2 < (a6.length : Int))) then
    if (0 : Int) ≤ s1.2 ∧ s1.2 < (a6.length : Int) then
      let x7 := (bif (bif s1.1 then (decide ((0 : Int) ≤ (a6.getD (s1.2).toNat 0))) else false) then (decide ((a6.getD (s1.2).toNat 0) ≤ 255)) else false)
      if inK .i64 (s1.2 + 1) then
        some (.inl (x7, (s1.2 + 1)))
      else none
    else none
  else
    some (.inr s1.1)
def sheethead_may_v2 (N : Nat) (a1 : Int) (a2 : Int) (a3 : Int) (a4 : Bool) (a5 : Int) (a6 : (List Int)) (a7 : (List (Bool × (Int × (Int × (List (Int × (Bool × (Int × (Int × ((List Int) × ((List Int) × (List (List (Bool × (Int × Int)))))))))))))))) (a8 : Int) : Option Bool :=
  let c1 := (formats_Size N a3)
  if c1.isSome = true then
    let x1 := (bif (bif (bif (bif (bif (bif (bif (c1.getD default).2.2 then (decide ((0 : Int) ≤ a1)) else false) then (decide (a1 ≤ 255)) else false) then (decide ((0 : Int) ≤ a2)) else false) then (decide (a2 ≤ 7)) else false) then (decide ((1 : Int) ≤ a5)) else false) then (decide (a5 ≤ 31)) else false) then (decide ((a6.length : Int) ≤ 8)) else false)
    (iter (sheethead_may_v2_b1 N a6) N (x1, 0)).bind fun v1 =>
      some v1
  else none
def sp_sheethead_may_v2 (N : Nat) : X.Spec := fun args lk => match args with
  | [.v (.agg [.cs [.int .i64 a1, .int .i64 a2, .int .i64 a3, .bool a4, .int .i64 a5, .fz (.int .i64) a6, .fz (.pair .bool (.pair (.int .i64) (.pair (.int .i64) (.sl (.pair (.int .i64) (.pair .bool (.pair (.int .i64) (.pair (.int .i64) (.pair (.arr 2 .i64) (.pair (.arr 6 .i64) (.arrS 6 (.pair .bool (.pair (.int .i64) (.int .i64)))))))))))))) a7, .int .i64 a8]])] => some ⟨(sheethead_may_v2 N a1 a2 a3 a4 a5 a6 a7 a8).isSome = true, .v (.c (.bool ((sheethead_may_v2 N a1 a2 a3 a4 a5 a6 a7 a8).getD default))), [], []⟩
  | _ => none
set_option maxRecDepth 100000 in
set_option maxHeartbeats 1000000 in
theorem ok_sheethead_may_v2 (N : Nat) : FnOK Tryd.prog gt0 65 (sp_sheethead_may_v2 N) := by
  refine fnOK_handed Tryd.func65 rfl (by kernel_rfl) tt_ok (ktCons (ok_formats_Size N) (ktNil)) ?_
  intro args lk r h hp
  unfold sp_sheethead_may_v2 at h
  split at h
  · rename_i a1 a2 a3 a4 a5 a6 a7 a8
    change (List Int) at a6
    change (List (Bool × (Int × (Int × (List (Int × (Bool × (Int × (Int × ((List Int) × ((List Int) × (List (List (Bool × (Int × Int))))))))))))))) at a7
    cases h
    obtain ⟨x, hx⟩ := Option.isSome_iff_exists.1 hp
    simp only [hx, Option.getD_some]
    refine hand0 rfl rfl (fun w0 M ε0 hX => ?_)
    refine rCount (fun hε => ?_)
    have hT : sheethead_may_v2 N a1 a2 a3 a4 a5 a6 a7 a8 = some x := hx; clear hx hp; unfold sheethead_may_v2 at hT
    refine rSeq ?_
    refine zReg md0 hX rfl rfl rfl ?_
    refine rThen ?_
    refine rSeq ?_
    let c1 := (formats_Size N a3)
    replace hT := sIf hT; obtain ⟨o1, hT⟩ := hT
    refine zReg md0 hX rfl rfl rfl ?_
    refine rThen ?_
    refine rSeq ?_
    let x1 := (bif (bif (bif (bif (bif (bif (bif (c1.getD default).2.2 then (decide ((0 : Int) ≤ a1)) else false) then (decide (a1 ≤ 255)) else false) then (decide ((0 : Int) ≤ a2)) else false) then (decide (a2 ≤ 7)) else false) then (decide ((1 : Int) ≤ a5)) else false) then (decide (a5 ≤ 31)) else false) then (decide ((a6.length : Int) ≤ 8)) else false)
    refine zReg md0 hX rfl rfl rfl ?_
    refine rThen ?_
    refine rSeq ?_
    refine rSeq ?_
    refine zReg md0 hX rfl rfl rfl ?_
    refine rThen ?_
    refine rBlock ?_
    replace hT := sBind hT; obtain ⟨w1, hl, hT⟩ := hT
    refine rJoinA (fun v1 => v1 = w1) (fun v1 => ⟨[(2, .v (.c (.bool false))), (5, .v (.c (.bool v1)))], [], 1⟩) (.exit 0) (fun v1 hv => ?_) (fun hxs10 => ?_)
    · subst hv; clear hl
      refine rInHit ?_
      refine rThen ?_
      refine rSeq ?_
      refine zReg md0 hX rfl rfl rfl ?_
      refine rThen ?_
      refine rRet ?_
      have hy := Option.some.inj hT; subst hy
      exact zEnd0 hX rfl
    refine rLoopM (sheethead_may_v2_b1 N a6) (fun s1 => ⟨[(2, .v (.c (.bool false))), (5, .v (.c (.bool s1.1))), (53, .v (.c (.fz (.int .i64) a6))), (54, .v (.c (.int .i64 (a6.length : Int)))), (55, .v (.c (.int .i64 s1.2)))], [], 1⟩) hl (To.mk' [] 0 hε rfl (by repeat' first | exact True.intro | exact rfl | apply And.intro) (by repeat' first | exact True.intro | exact rfl | apply And.intro)) (fun s1 zs1 NNs1 hz hnexts1 houts1 => ?_)
    clear hl hT
    have hT := hz; clear hz
    refine rSeq ?_
    refine zReg md0 hX rfl rfl rfl ?_
    refine rThen ?_
    refine rSeq ?_
    refine zCond rfl rfl (fun hc => ?_) (fun hc => ?_)
    · replace hT := sT hc hT
      refine rSkip ?_
      refine rThen ?_
      refine rSeq ?_
      refine rBlock ?_
      refine rSeq ?_
      replace hT := sIf hT; obtain ⟨⟨o1, o2⟩, hT⟩ := hT
      refine zReg md0 hX rfl rfl rfl ?_
      refine rThen ?_
      let x7 := (bif (bif s1.1 then (decide ((0 : Int) ≤ (a6.getD (s1.2).toNat 0))) else false) then (decide ((a6.getD (s1.2).toNat 0) ≤ 255)) else false)
      refine zReg md0 hX rfl rfl rfl ?_
      refine rInNormal ?_
      refine rThen ?_
      replace hT := sIf hT; obtain ⟨o1, hT⟩ := hT
      refine zReg md0 hX rfl rfl rfl ?_
      exact hnexts1 _ (Option.some.inj hT).symm _ (To.mk' [] 0 hε rfl (by repeat' first | exact True.intro | exact rfl | apply And.intro) (by repeat' first | exact True.intro | exact rfl | apply And.intro))
    · replace hT := sF hc hT
      refine rExit ?_
      refine rThenExit ?_
      refine rThenExit ?_
      exact zTo [] 0 hε (hxs10 _ (houts1 _ (Option.some.inj hT).symm))
  · cases h
def sheethead_Put_v2_b1 (N : Nat) (a6 : (List Int)) (s1 : (Int × (List Bool))) : Option ((Int × (List Bool)) ⊕ (List Bool)) :=
  bif (decide (s1.1 < (a6.length : Int))) then
    if (0 : Int) ≤ s1.1 ∧ s1.1 < (a6.length : Int) then
      let c12 := (overspill_outbits_Writer_Put N (orI (256 : Int) (a6.getD (s1.1).toNat 0)) 9 s1.2)
      if (0 : Int) ≤ (a6.getD (s1.1).toNat 0) ∧ c12.isSome = true then
        if inK .i64 (s1.1 + 1) then
          some (.inl ((s1.1 + 1), (c12.getD default).2))
        else none
      else none
    else none
  else
    some (.inr s1.2)
def sheethead_Put_v2 (N : Nat) (a1 : Int) (a2 : Int) (a3 : Int) (a4 : Bool) (a5 : Int) (a6 : (List Int)) (a7 : (List (Bool × (Int × (Int × (List (Int × (Bool × (Int × (Int × ((List Int) × ((List Int) × (List (List (Bool × (Int × Int)))))))))))))))) (a8 : Int) (a9 : (List Bool)) : Option (Int × (List Bool)) :=
  let c1 := (sheethead_may_v2 N a1 a2 a3 a4 a5 a6 a7 a8)
  if c1.isSome = true then
    bif (!(c1.getD default)) then
      some (12, a9)
    else
      let c2 := (marks_Put N 0 a9)
      if c2.isSome = true then
        let c3 := (overspill_outbits_Writer_Put N a1 8 (c2.getD default).2)
        if c3.isSome = true then
          let c4 := (overspill_outbits_Writer_Put N 2 2 (c3.getD default).2)
          if c4.isSome = true then
            let c5 := (overspill_outbits_Writer_Put N a2 3 (c4.getD default).2)
            if c5.isSome = true then
              let c6 := (overspill_outbits_Writer_Put N a3 3 (c5.getD default).2)
              if c6.isSome = true then
                let c7 := (overspill_outbits_Writer_Put N (bif a4 then (1 : Int) else 0) 1 (c6.getD default).2)
                if c7.isSome = true then
                  let c8 := (overspill_outbits_Writer_Put N 0 4 (c7.getD default).2)
                  if c8.isSome = true then
                    let c9 := (overspill_outbits_Writer_Put N a5 5 (c8.getD default).2)
                    if c9.isSome = true then
                      let c10 := (overspill_outbits_Writer_Put N 0 1 (c9.getD default).2)
                      if c10.isSome = true then
                        (iter (sheethead_Put_v2_b1 N a6) N (0, (c10.getD default).2)).bind fun v1 =>
                          let c11 := (overspill_outbits_Writer_Put N 0 1 v1)
                          if c11.isSome = true then
                            some ((c11.getD default).1, (c11.getD default).2)
                          else none
                      else none
                    else none
                  else none
                else none
              else none
            else none
          else none
        else none
      else none
  else none
def sp_sheethead_Put_v2 (N : Nat) : X.Spec := fun args lk => match args with
  | [.v (.c (.ptr i0 0 0 0 0 0)), .v (.agg [.cs [.int .i64 a1, .int .i64 a2, .int .i64 a3, .bool a4, .int .i64 a5, .fz (.int .i64) a6, .fz (.pair .bool (.pair (.int .i64) (.pair (.int .i64) (.sl (.pair (.int .i64) (.pair .bool (.pair (.int .i64) (.pair (.int .i64) (.pair (.arr 2 .i64) (.pair (.arr 6 .i64) (.arrS 6 (.pair .bool (.pair (.int .i64) (.int .i64)))))))))))))) a7, .int .i64 a8]])] => (match lk i0 with
    | some (.obj 5 a9) => some ⟨(sheethead_Put_v2 N a1 a2 a3 a4 a5 a6 a7 a8 a9).isSome = true, .v (.c (.int .i64 ((sheethead_Put_v2 N a1 a2 a3 a4 a5 a6 a7 a8 a9).getD default).1)), [], [(i0, .obj 5 ((sheethead_Put_v2 N a1 a2 a3 a4 a5 a6 a7 a8 a9).getD default).2)]⟩
    | _ => none)
  | _ => none
set_option maxRecDepth 100000 in
set_option maxHeartbeats 1000000 in
theorem ok_sheethead_Put_v2 (N : Nat) : FnOK Tryd.prog gt0 35 (sp_sheethead_Put_v2 N) := by
  refine fnOK_handed Tryd.func35 rfl (by kernel_rfl) tt_ok (ktCons (ok_overspill_outbits_Writer_Put N) (ktCons (ok_marks_Put N) (ktCons (ok_sheethead_may_v2 N) (ktNil)))) ?_
  intro args lk r h hp
  unfold sp_sheethead_Put_v2 at h
  split at h
  · rename_i i0 a1 a2 a3 a4 a5 a6 a7 a8
    split at h
    · rename_i a9 hl0
      change (List Int) at a6
      change (List (Bool × (Int × (Int × (List (Int × (Bool × (Int × (Int × ((List Int) × ((List Int) × (List (List (Bool × (Int × Int))))))))))))))) at a7
      cases h
      obtain ⟨x, hx⟩ := Option.isSome_iff_exists.1 hp
      simp only [hx, Option.getD_some]
      refine handL [i0] 1 [(0, .obj 5 a9)] [.v (.c (.ptr 0 0 0 0 0 0)), .v (.agg [.cs [.int .i64 a1, .int .i64 a2, .int .i64 a3, .bool a4, .int .i64 a5, .fz (.int .i64) a6, .fz (.pair .bool (.pair (.int .i64) (.pair (.int .i64) (.sl (.pair (.int .i64) (.pair .bool (.pair (.int .i64) (.pair (.int .i64) (.pair (.arr 2 .i64) (.pair (.arr 6 .i64) (.arrS 6 (.pair .bool (.pair (.int .i64) (.int .i64)))))))))))))) a7, .int .i64 a8]])] rfl rfl rfl ⟨isSome_of hl0, trivial⟩ ⟨⟨rfl, (by repeat' first | exact True.intro | exact rfl | exact ⟨_, rfl, rfl⟩ | apply And.intro | exact Or.inl rfl), _, hl0, .inl rfl⟩, trivial⟩ rfl (fun w0 M ε0 hX => ?_)
      refine rCount (fun hε => ?_)
      have hT : sheethead_Put_v2 N a1 a2 a3 a4 a5 a6 a7 a8 a9 = some x := hx; clear hx hp; unfold sheethead_Put_v2 at hT
      refine rSeq ?_
      refine zReg md0 hX rfl rfl rfl ?_
      refine rThen ?_
      refine rSeq ?_
      refine rBlock ?_
      refine rSeq ?_
      refine zReg md0 hX rfl rfl rfl ?_
      refine rThen ?_
      refine rCondF rfl rfl (by (repeat' first | exact True.intro | with_reducible assumption | (with_reducible apply And.intro) | intro _) <;> first | assumption | exact rfl | omega | exact Nat.le_of_ble_eq_true rfl | exact selF (by assumption) | exact selT (by assumption) | exact And.intro rfl rfl | exact And.intro (by assumption) rfl | exact And.intro (by omega) rfl | (simp only [inK] at *; omega) | (simp_all [sel] <;> fail) | fail) rfl ?_
      refine rSeq ?_
      let c1 := (sheethead_may_v2 N a1 a2 a3 a4 a5 a6 a7 a8)
      replace hT := sIf hT; obtain ⟨o1, hT⟩ := hT
      refine zReg md0 hX rfl rfl rfl ?_
      refine rThen ?_
      refine zCond rfl rfl (fun hc => ?_) (fun hc => ?_)
      · replace hT := sT hc hT
        refine rSeq ?_
        refine zReg md0 hX rfl rfl rfl ?_
        refine rThen ?_
        refine rRet ?_
        refine rInRet ?_
        refine rThenRet ?_
        have hy := Option.some.inj hT; subst hy
        exact rEndA [] [] [(0, .obj 5 a9)] (.v (.c (.int .i64 12))) hX rfl (by repeat' first | exact True.intro | exact rfl | apply And.intro | omega | exact Nat.le_of_ble_eq_true rfl) (by repeat' first | exact True.intro | exact rfl | apply And.intro) rfl rfl rfl (by repeat' first | exact True.intro | exact rfl | exact ⟨_, rfl, rfl⟩ | apply And.intro | exact Or.inl rfl) rfl rfl (by repeat' first | exact True.intro | exact rfl | exact ⟨_, rfl, rfl⟩ | apply And.intro | exact Or.inl rfl) rfl rfl
      · replace hT := sF hc hT
        refine rSkip ?_
        refine rInNormal ?_
        refine rThen ?_
        refine rSeq ?_
        refine zReg md0 hX rfl rfl rfl ?_
        refine rThen ?_
        refine rSeq ?_
        refine rSeq ?_
        refine zReg md0 hX rfl rfl rfl ?_
        refine rThen ?_
        refine rJoin ⟨[(0, .v (.c (.ptr 0 0 0 0 0 0))), (3, .v (.c (.ptr 1 0 0 0 0 0))), (4, .v (.c (.int .i64 0))), (5, .v (.c (.int .i64 (bif a4 then (1 : Int) else 0))))], [(0, .obj 5 a9), (1, .mem true 25 none (.flat [.cs [.int .i64 a1, .int .i64 a2, .int .i64 a3, .bool a4, .int .i64 a5, .fz (.int .i64) a6, .fz (.pair .bool (.pair (.int .i64) (.pair (.int .i64) (.sl (.pair (.int .i64) (.pair .bool (.pair (.int .i64) (.pair (.int .i64) (.pair (.arr 2 .i64) (.pair (.arr 6 .i64) (.arrS 6 (.pair .bool (.pair (.int .i64) (.int .i64)))))))))))))) a7, .int .i64 a8]]))], 2⟩ ?_ (fun hj => ?_)
        · skip
          refine rThen ?_
          refine rSeq ?_
          let c2 := (marks_Put N 0 a9)
          replace hT := sIf hT; obtain ⟨o1, hT⟩ := hT
          refine zReg md0 hX rfl rfl rfl ?_
          refine rThen ?_
          refine rSeq ?_
          let c3 := (overspill_outbits_Writer_Put N a1 8 (c2.getD default).2)
          replace hT := sIf hT; obtain ⟨o1, hT⟩ := hT
          refine zReg md0 hX rfl rfl rfl ?_
          refine rThen ?_
          refine rSeq ?_
          let c4 := (overspill_outbits_Writer_Put N 2 2 (c3.getD default).2)
          replace hT := sIf hT; obtain ⟨o1, hT⟩ := hT
          refine zReg md0 hX rfl rfl rfl ?_
          refine rThen ?_
          refine rSeq ?_
          let c5 := (overspill_outbits_Writer_Put N a2 3 (c4.getD default).2)
          replace hT := sIf hT; obtain ⟨o1, hT⟩ := hT
          refine zReg md0 hX rfl rfl rfl ?_
          refine rThen ?_
          refine rSeq ?_
          let c6 := (overspill_outbits_Writer_Put N a3 3 (c5.getD default).2)
          replace hT := sIf hT; obtain ⟨o1, hT⟩ := hT
          refine zReg md0 hX rfl rfl rfl ?_
          refine rThen ?_
          refine rSeq ?_
          let c7 := (overspill_outbits_Writer_Put N (bif a4 then (1 : Int) else 0) 1 (c6.getD default).2)
          replace hT := sIf hT; obtain ⟨o1, hT⟩ := hT
          refine zReg md0 hX rfl rfl rfl ?_
          refine rThen ?_
          refine rSeq ?_
          let c8 := (overspill_outbits_Writer_Put N 0 4 (c7.getD default).2)
          replace hT := sIf hT; obtain ⟨o1, hT⟩ := hT
          refine zReg md0 hX rfl rfl rfl ?_
          refine rThen ?_
          refine rSeq ?_
          let c9 := (overspill_outbits_Writer_Put N a5 5 (c8.getD default).2)
          replace hT := sIf hT; obtain ⟨o1, hT⟩ := hT
          refine zReg md0 hX rfl rfl rfl ?_
          refine rThen ?_
          refine rSeq ?_
          let c10 := (overspill_outbits_Writer_Put N 0 1 (c9.getD default).2)
          replace hT := sIf hT; obtain ⟨o1, hT⟩ := hT
          refine zReg md0 hX rfl rfl rfl ?_
          refine rThen ?_
          refine rSeq ?_
          refine rSeq ?_
          refine zReg md0 hX rfl rfl rfl ?_
          refine rThen ?_
          refine rBlock ?_
          replace hT := sBind hT; obtain ⟨w1, hl, hT⟩ := hT
          refine rJoinA (fun v1 => v1 = w1) (fun v1 => ⟨[(0, .v (.c (.ptr 0 0 0 0 0 0))), (4, .v (.c (.int .i64 0)))], [(0, .obj 5 v1)], 2⟩) (.exit 1) (fun v1 hv => ?_) (fun hxs10 => ?_)
          · subst hv; clear hl
            refine rInHit ?_
            refine rThen ?_
            refine rSeq ?_
            let c11 := (overspill_outbits_Writer_Put N 0 1 v1)
            replace hT := sIf hT; obtain ⟨o1, hT⟩ := hT
            refine zReg md0 hX rfl rfl rfl ?_
            refine rThen ?_
            refine rRet ?_
            have hy := Option.some.inj hT; subst hy
            exact rEndA [] [] [(0, .obj 5 (c11.getD default).2)] (.v (.c (.int .i64 (c11.getD default).1))) hX rfl (by repeat' first | exact True.intro | exact rfl | apply And.intro | omega | exact Nat.le_of_ble_eq_true rfl) (by repeat' first | exact True.intro | exact rfl | apply And.intro) rfl rfl rfl (by repeat' first | exact True.intro | exact rfl | exact ⟨_, rfl, rfl⟩ | apply And.intro | exact Or.inl rfl) rfl rfl (by repeat' first | exact True.intro | exact rfl | exact ⟨_, rfl, rfl⟩ | apply And.intro | exact Or.inl rfl) rfl rfl
          refine rLoopM (sheethead_Put_v2_b1 N a6) (fun s1 => ⟨[(0, .v (.c (.ptr 0 0 0 0 0 0))), (4, .v (.c (.int .i64 0))), (45, .v (.c (.fz (.int .i64) a6))), (46, .v (.c (.int .i64 (a6.length : Int)))), (47, .v (.c (.int .i64 s1.1)))], [(0, .obj 5 s1.2)], 2⟩) hl (To.mk' [] 1 hε rfl (by repeat' first | exact True.intro | exact rfl | apply And.intro) (by repeat' first | exact True.intro | exact rfl | apply And.intro)) (fun s1 zs1 NNs1 hz hnexts1 houts1 => ?_)
          clear hl hT
          have hT := hz; clear hz
          refine rSeq ?_
          refine zReg md0 hX rfl rfl rfl ?_
          refine rThen ?_
          refine rSeq ?_
          refine zCond rfl rfl (fun hc => ?_) (fun hc => ?_)
          · replace hT := sT hc hT
            refine rSkip ?_
            refine rThen ?_
            refine rSeq ?_
            refine rBlock ?_
            refine rSeq ?_
            replace hT := sIf hT; obtain ⟨⟨o1, o2⟩, hT⟩ := hT
            refine zReg md0 hX rfl rfl rfl ?_
            refine rThen ?_
            let c12 := (overspill_outbits_Writer_Put N (orI (256 : Int) (a6.getD (s1.1).toNat 0)) 9 s1.2)
            replace hT := sIf hT; obtain ⟨⟨o1, o2⟩, hT⟩ := hT
            refine zReg md0 hX rfl rfl rfl ?_
            refine rInNormal ?_
            refine rThen ?_
            replace hT := sIf hT; obtain ⟨o1, hT⟩ := hT
            refine zReg md0 hX rfl rfl rfl ?_
            exact hnexts1 _ (Option.some.inj hT).symm _ (To.mk' [] 1 hε rfl (by repeat' first | exact True.intro | exact rfl | apply And.intro) (by repeat' first | exact True.intro | exact rfl | apply And.intro))
          · replace hT := sF hc hT
            refine rExit ?_
            refine rThenExit ?_
            refine rThenExit ?_
            exact zTo [] 1 hε (hxs10 _ (houts1 _ (Option.some.inj hT).symm))
        · clear hT
          refine zCond rfl rfl (fun hc => ?_) (fun hc => ?_)
          · skip
            refine zReg md0 hX rfl rfl rfl ?_
            exact rTo (To.mk' [] 1 hε rfl (by (repeat' first | exact True.intro | exact rfl | apply And.intro) <;> (repeat' first | exact rfl | refine Eq.trans ?_ (cTr (by assumption)) | refine Eq.trans ?_ (cFr (by assumption)) | refine Eq.trans (cTl (by assumption)) ?_ | refine Eq.trans (cFl (by assumption)) ?_)) (by (repeat' first | exact True.intro | exact rfl | apply And.intro) <;> (repeat' first | exact rfl | refine Eq.trans ?_ (cTr (by assumption)) | refine Eq.trans ?_ (cFr (by assumption)) | refine Eq.trans (cTl (by assumption)) ?_ | refine Eq.trans (cFl (by assumption)) ?_))) hj
          · skip
            refine rSkip ?_
            exact rTo (To.mk' [] 1 hε rfl (by (repeat' first | exact True.intro | exact rfl | apply And.intro) <;> (repeat' first | exact rfl | refine Eq.trans ?_ (cTr (by assumption)) | refine Eq.trans ?_ (cFr (by assumption)) | refine Eq.trans (cTl (by assumption)) ?_ | refine Eq.trans (cFl (by assumption)) ?_)) (by (repeat' first | exact True.intro | exact rfl | apply And.intro) <;> (repeat' first | exact rfl | refine Eq.trans ?_ (cTr (by assumption)) | refine Eq.trans ?_ (cFr (by assumption)) | refine Eq.trans (cTl (by assumption)) ?_ | refine Eq.trans (cFl (by assumption)) ?_))) hj
    · cases h
  · cases h
def overspill_sound_sheet_row_v1_b1 (N : Nat) (a4 : Bool) (a7 : (List (Bool × (Int × (Int × (List (Int × (Bool × (Int × (Int × ((List Int) × ((List Int) × (List (List (Bool × (Int × Int)))))))))))))))) (a9 : Int) (s1 : Int) : Option (Int ⊕ (Unit ⊕ Unit)) :=
  let x13 := (decide (s1 < ((a7.getD (a9).toNat (false, ((0 : Int), ((0 : Int), [])))).2.2.2.length : Int)))
  bif x13 then
    let x15 := ((a7.getD (a9).toNat (false, ((0 : Int), ((0 : Int), [])))).2.2.2.getD (s1).toNat ((0 : Int), (false, ((0 : Int), ((0 : Int), ((List.replicate 2 (0 : Int)), ((List.replicate 6 (0 : Int)), (List.replicate 6 [])))))))).1
    let x16 := ((a7.getD (a9).toNat (false, ((0 : Int), ((0 : Int), [])))).2.2.2.getD (s1).toNat ((0 : Int), (false, ((0 : Int), ((0 : Int), ((List.replicate 2 (0 : Int)), ((List.replicate 6 (0 : Int)), (List.replicate 6 [])))))))).2.1
    let x17 := ((a7.getD (a9).toNat (false, ((0 : Int), ((0 : Int), [])))).2.2.2.getD (s1).toNat ((0 : Int), (false, ((0 : Int), ((0 : Int), ((List.replicate 2 (0 : Int)), ((List.replicate 6 (0 : Int)), (List.replicate 6 [])))))))).2.2.1
    let x18 := ((a7.getD (a9).toNat (false, ((0 : Int), ((0 : Int), [])))).2.2.2.getD (s1).toNat ((0 : Int), (false, ((0 : Int), ((0 : Int), ((List.replicate 2 (0 : Int)), ((List.replicate 6 (0 : Int)), (List.replicate 6 [])))))))).2.2.2.1
    let x19 := ((a7.getD (a9).toNat (false, ((0 : Int), ((0 : Int), [])))).2.2.2.getD (s1).toNat ((0 : Int), (false, ((0 : Int), ((0 : Int), ((List.replicate 2 (0 : Int)), ((List.replicate 6 (0 : Int)), (List.replicate 6 [])))))))).2.2.2.2.1
    let x20 := ((a7.getD (a9).toNat (false, ((0 : Int), ((0 : Int), [])))).2.2.2.getD (s1).toNat ((0 : Int), (false, ((0 : Int), ((0 : Int), ((List.replicate 2 (0 : Int)), ((List.replicate 6 (0 : Int)), (List.replicate 6 [])))))))).2.2.2.2.2.1
    let x21 := ((a7.getD (a9).toNat (false, ((0 : Int), ((0 : Int), [])))).2.2.2.getD (s1).toNat ((0 : Int), (false, ((0 : Int), ((0 : Int), ((List.replicate 2 (0 : Int)), ((List.replicate 6 (0 : Int)), (List.replicate 6 [])))))))).2.2.2.2.2.2
    if (0 : Int) ≤ s1 ∧ s1 < ((a7.getD (a9).toNat (false, ((0 : Int), ((0 : Int), [])))).2.2.2.length : Int) then
      let c3 := (cellout_Right N a4 x15 x16 x17 x18 x19 x20 x21)
      if c3.isSome = true then
        bif (!(c3.getD default)) then
          some (.inr (Sum.inl ()))
        else
          if inK .i64 (s1 + 1) then
            some (.inl (s1 + 1))
          else none
      else none
    else none
  else
    some (.inr (Sum.inr ()))
def overspill_sound_sheet_row_v1 (N : Nat) (a1 : Int) (a2 : Int) (a3 : Int) (a4 : Bool) (a5 : Int) (a6 : (List Int)) (a7 : (List (Bool × (Int × (Int × (List (Int × (Bool × (Int × (Int × ((List Int) × ((List Int) × (List (List (Bool × (Int × Int)))))))))))))))) (a8 : Int) (a9 : Int) : Option Bool :=
  let c1 := (formats_Cells N a3)
  if c1.isSome = true then
    let c2 := (formats_Rows N a3)
    if c2.isSome = true then
      if (0 : Int) ≤ a9 ∧ a9 < (a7.length : Int) then
        let x1 := (decide (((a7.getD (a9).toNat (false, ((0 : Int), ((0 : Int), [])))).2.2.2.length : Int) ≠ ((c1.getD default).1 * (c2.getD default).2)))
        if inK .i64 ((c1.getD default).1 * (c2.getD default).2) then
          bif x1 then
            some false
          else
            let x4 := (bif (!(a7.getD (a9).toNat (false, ((0 : Int), ((0 : Int), [])))).1) then (bif (decide ((a7.getD (a9).toNat (false, ((0 : Int), ((0 : Int), [])))).2.1 ≠ 0)) then true else (decide ((a7.getD (a9).toNat (false, ((0 : Int), ((0 : Int), [])))).2.2.1 ≠ 0))) else false)
            if ((!(a7.getD (a9).toNat (false, ((0 : Int), ((0 : Int), [])))).1) = true → ((decide ((a7.getD (a9).toNat (false, ((0 : Int), ((0 : Int), [])))).2.1 ≠ 0)) = false → ((!(a7.getD (a9).toNat (false, ((0 : Int), ((0 : Int), [])))).1) && (!(decide ((a7.getD (a9).toNat (false, ((0 : Int), ((0 : Int), [])))).2.1 ≠ 0)))) = true)) then
              bif x4 then
                some false
              else
                let x12 := (bif (a7.getD (a9).toNat (false, ((0 : Int), ((0 : Int), [])))).1 then (bif (bif (bif (bif (decide (a9 = 0)) then true else (decide ((a7.getD (a9).toNat (false, ((0 : Int), ((0 : Int), [])))).2.1 < 0))) then true else (decide ((3 : Int) < (a7.getD (a9).toNat (false, ((0 : Int), ((0 : Int), [])))).2.1))) then true else (decide ((a7.getD (a9).toNat (false, ((0 : Int), ((0 : Int), [])))).2.2.1 < 1))) then true else (decide ((31 : Int) < (a7.getD (a9).toNat (false, ((0 : Int), ((0 : Int), [])))).2.2.1))) else false)
                if ((a7.getD (a9).toNat (false, ((0 : Int), ((0 : Int), [])))).1 = true → ((decide (a9 = 0)) = false → ((a7.getD (a9).toNat (false, ((0 : Int), ((0 : Int), [])))).1 && (!(decide (a9 = 0)))) = true)) ∧ ((a7.getD (a9).toNat (false, ((0 : Int), ((0 : Int), [])))).1 = true → ((bif (decide (a9 = 0)) then true else (decide ((a7.getD (a9).toNat (false, ((0 : Int), ((0 : Int), [])))).2.1 < 0))) = false → ((a7.getD (a9).toNat (false, ((0 : Int), ((0 : Int), [])))).1 && (!(bif (decide (a9 = 0)) then true else (decide ((a7.getD (a9).toNat (false, ((0 : Int), ((0 : Int), [])))).2.1 < 0))))) = true)) ∧ ((a7.getD (a9).toNat (false, ((0 : Int), ((0 : Int), [])))).1 = true → ((bif (bif (decide (a9 = 0)) then true else (decide ((a7.getD (a9).toNat (false, ((0 : Int), ((0 : Int), [])))).2.1 < 0))) then true else (decide ((3 : Int) < (a7.getD (a9).toNat (false, ((0 : Int), ((0 : Int), [])))).2.1))) = false → ((a7.getD (a9).toNat (false, ((0 : Int), ((0 : Int), [])))).1 && (!(bif (bif (decide (a9 = 0)) then true else (decide ((a7.getD (a9).toNat (false, ((0 : Int), ((0 : Int), [])))).2.1 < 0))) then true else (decide ((3 : Int) < (a7.getD (a9).toNat (false, ((0 : Int), ((0 : Int), [])))).2.1))))) = true)) ∧ ((a7.getD (a9).toNat (false, ((0 : Int), ((0 : Int), [])))).1 = true → ((bif (bif (bif (decide (a9 = 0)) then true else (decide ((a7.getD (a9).toNat (false, ((0 : Int), ((0 : Int), [])))).2.1 < 0))) then true else (decide ((3 : Int) < (a7.getD (a9).toNat (false, ((0 : Int), ((0 : Int), [])))).2.1))) then true else (decide ((a7.getD (a9).toNat (false, ((0 : Int), ((0 : Int), [])))).2.2.1 < 1))) = false → ((a7.getD (a9).toNat (false, ((0 : Int), ((0 : Int), [])))).1 && (!(bif (bif (bif (decide (a9 = 0)) then true else (decide ((a7.getD (a9).toNat (false, ((0 : Int), ((0 : Int), [])))).2.1 < 0))) then true else (decide ((3 : Int) < (a7.getD (a9).toNat (false, ((0 : Int), ((0 : Int), [])))).2.1))) then true else (decide ((a7.getD (a9).toNat (false, ((0 : Int), ((0 : Int), [])))).2.2.1 < 1))))) = true)) then
                  bif x12 then
                    some false
                  else
                    (iter (overspill_sound_sheet_row_v1_b1 N a4 a7 a9) N 0).bind fun w1 =>
                      (Sum.elim (fun v1 =>
                        some false
                      )
                        (fun v2 =>
                          some true
                        )
                      ) w1
                else none
            else none
        else none
      else none
    else none
  else none
def sp_overspill_sound_sheet_row_v1 (N : Nat) : X.Spec := fun args lk => match args with
  | [.v (.agg [.cs [.int .i64 a1, .int .i64 a2, .int .i64 a3, .bool a4, .int .i64 a5, .fz (.int .i64) a6, .fz (.pair .bool (.pair (.int .i64) (.pair (.int .i64) (.sl (.pair (.int .i64) (.pair .bool (.pair (.int .i64) (.pair (.int .i64) (.pair (.arr 2 .i64) (.pair (.arr 6 .i64) (.arrS 6 (.pair .bool (.pair (.int .i64) (.int .i64)))))))))))))) a7, .int .i64 a8]]), .v (.c (.int .i64 a9))] => some ⟨(overspill_sound_sheet_row_v1 N a1 a2 a3 a4 a5 a6 a7 a8 a9).isSome = true, .v (.c (.bool ((overspill_sound_sheet_row_v1 N a1 a2 a3 a4 a5 a6 a7 a8 a9).getD default))), [], []⟩
  | _ => none
set_option maxRecDepth 100000 in
set_option maxHeartbeats 1000000 in
theorem ok_overspill_sound_sheet_row_v1 (N : Nat) : FnOK Tryd.prog gt0 38 (sp_overspill_sound_sheet_row_v1 N) := by
  refine fnOK_handed Tryd.func38 rfl (by kernel_rfl) tt_ok (ktCons (ok_cellout_Right N) (ktCons (ok_formats_Rows N) (ktCons (ok_formats_Cells N) (ktNil)))) ?_
  intro args lk r h hp
  unfold sp_overspill_sound_sheet_row_v1 at h
  split at h
  · rename_i a1 a2 a3 a4 a5 a6 a7 a8 a9
    change (List Int) at a6
    change (List (Bool × (Int × (Int × (List (Int × (Bool × (Int × (Int × ((List Int) × ((List Int) × (List (List (Bool × (Int × Int))))))))))))))) at a7
    cases h
    obtain ⟨x, hx⟩ := Option.isSome_iff_exists.1 hp
    simp only [hx, Option.getD_some]
    refine hand0 rfl rfl (fun w0 M ε0 hX => ?_)
    refine rCount (fun hε => ?_)
    have hT : overspill_sound_sheet_row_v1 N a1 a2 a3 a4 a5 a6 a7 a8 a9 = some x := hx; clear hx hp; unfold overspill_sound_sheet_row_v1 at hT
    refine rSeq ?_
    refine zReg md0 hX rfl rfl rfl ?_
    refine rThen ?_
    refine rSeq ?_
    let c1 := (formats_Cells N a3)
    replace hT := sIf hT; obtain ⟨o1, hT⟩ := hT
    refine zReg md0 hX rfl rfl rfl ?_
    refine rThen ?_
    refine rSeq ?_
    let c2 := (formats_Rows N a3)
    replace hT := sIf hT; obtain ⟨o1, hT⟩ := hT
    refine zReg md0 hX rfl rfl rfl ?_
    refine rThen ?_
    refine rSeq ?_
    replace hT := sIf hT; obtain ⟨⟨o1, o2⟩, hT⟩ := hT
    refine zReg md0 hX rfl rfl rfl ?_
    refine rThen ?_
    refine rSeq ?_
    refine rBlock ?_
    refine rSeq ?_
    let x1 := (decide (((a7.getD (a9).toNat (false, ((0 : Int), ((0 : Int), [])))).2.2.2.length : Int) ≠ ((c1.getD default).1 * (c2.getD default).2)))
    replace hT := sIf hT; obtain ⟨o1, hT⟩ := hT
    refine zReg md0 hX rfl rfl rfl ?_
    refine rThen ?_
    refine zCond rfl rfl (fun hc => ?_) (fun hc => ?_)
    · replace hT := sT hc hT
      refine rSeq ?_
      refine zReg md0 hX rfl rfl rfl ?_
      refine rThen ?_
      refine rRet ?_
      refine rInRet ?_
      refine rThenRet ?_
      have hy := Option.some.inj hT; subst hy
      exact zEnd0 hX rfl
    · replace hT := sF hc hT
      refine rSeq ?_
      let x4 := (bif (!(a7.getD (a9).toNat (false, ((0 : Int), ((0 : Int), [])))).1) then (bif (decide ((a7.getD (a9).toNat (false, ((0 : Int), ((0 : Int), [])))).2.1 ≠ 0)) then true else (decide ((a7.getD (a9).toNat (false, ((0 : Int), ((0 : Int), [])))).2.2.1 ≠ 0))) else false)
      replace hT := sIf hT; obtain ⟨o1, hT⟩ := hT
      refine rRegC md0 hX rfl rfl rfl (by (repeat' first | exact True.intro | with_reducible assumption | (with_reducible apply And.intro) | intro _) <;> first | assumption | exact o1 (by assumption) (by assumption) | exact rfl | omega | exact Nat.le_of_ble_eq_true rfl | exact selF (by assumption) | exact selT (by assumption) | exact And.intro rfl rfl | exact And.intro (by assumption) rfl | exact And.intro (by omega) rfl | (simp only [inK] at *; omega) | (simp_all [sel] <;> fail) | fail) ?_
      refine rThen ?_
      refine zCond rfl rfl (fun hc => ?_) (fun hc => ?_)
      · replace hT := sT hc hT
        refine rSeq ?_
        refine zReg md0 hX rfl rfl rfl ?_
        refine rThen ?_
        refine rRet ?_
        refine rInRet ?_
        refine rThenRet ?_
        have hy := Option.some.inj hT; subst hy
        exact zEnd0 hX rfl
      · replace hT := sF hc hT
        refine rSeq ?_
        let x12 := (bif (a7.getD (a9).toNat (false, ((0 : Int), ((0 : Int), [])))).1 then (bif (bif (bif (bif (decide (a9 = 0)) then true else (decide ((a7.getD (a9).toNat (false, ((0 : Int), ((0 : Int), [])))).2.1 < 0))) then true else (decide ((3 : Int) < (a7.getD (a9).toNat (false, ((0 : Int), ((0 : Int), [])))).2.1))) then true else (decide ((a7.getD (a9).toNat (false, ((0 : Int), ((0 : Int), [])))).2.2.1 < 1))) then true else (decide ((31 : Int) < (a7.getD (a9).toNat (false, ((0 : Int), ((0 : Int), [])))).2.2.1))) else false)
        replace hT := sIf hT; obtain ⟨⟨o1, o2, o3, o4⟩, hT⟩ := hT
        refine rRegC md0 hX rfl rfl rfl (by (repeat' first | exact True.intro | with_reducible assumption | (with_reducible apply And.intro) | intro _) <;> first | assumption | exact o1 (by assumption) (by assumption) | exact o2 (by assumption) (by assumption) | exact o3 (by assumption) (by assumption) | exact o4 (by assumption) (by assumption) | exact rfl | omega | exact Nat.le_of_ble_eq_true rfl | exact selF (by assumption) | exact selT (by assumption) | exact And.intro rfl rfl | exact And.intro (by assumption) rfl | exact And.intro (by omega) rfl | (simp only [inK] at *; omega) | (simp_all [sel] <;> fail) | fail) ?_
        refine rThen ?_
        refine zCond rfl rfl (fun hc => ?_) (fun hc => ?_)
        · replace hT := sT hc hT
          refine rSeq ?_
          refine zReg md0 hX rfl rfl rfl ?_
          refine rThen ?_
          refine rRet ?_
          refine rInRet ?_
          refine rThenRet ?_
          have hy := Option.some.inj hT; subst hy
          exact zEnd0 hX rfl
        · replace hT := sF hc hT
          refine rSkip ?_
          refine rInNormal ?_
          refine rThen ?_
          refine rSeq ?_
          refine rSeq ?_
          refine zReg md0 hX rfl rfl rfl ?_
          refine rThen ?_
          refine rBlock ?_
          replace hT := sBind hT; obtain ⟨w1, hl, hT⟩ := hT
          refine rJoinA (fun v1 => (Sum.inl v1) = w1) (fun v1 => ⟨[(4, .v (.c (.bool false)))], [], 2⟩) .ret (fun v1 hv => ?_) (fun hxs10 => ?_)
          · subst hv; clear hl; replace hT := (sElimL hT)
            refine rInRet ?_
            refine rThenRet ?_
            have hy := Option.some.inj hT; subst hy
            exact zEnd0 hX rfl
          refine rJoinA (fun v2 => (Sum.inr v2) = w1) (fun v2 => ⟨[(4, .v (.c (.bool false)))], [], 2⟩) (.exit 1) (fun v2 hv => ?_) (fun hxs11 => ?_)
          · subst hv; clear hl; replace hT := (sElimR hT)
            refine rInHit ?_
            refine rThen ?_
            refine rSeq ?_
            refine zReg md0 hX rfl rfl rfl ?_
            refine rThen ?_
            refine rRet ?_
            have hy := Option.some.inj hT; subst hy
            exact zEnd0 hX rfl
          refine rLoopM (overspill_sound_sheet_row_v1_b1 N a4 a7 a9) (fun s1 => ⟨[(2, .v (.c (.ptr 0 0 0 0 0 0))), (4, .v (.c (.bool false))), (79, .v (.c (.fz (.pair (.int .i64) (.pair .bool (.pair (.int .i64) (.pair (.int .i64) (.pair (.arr 2 .i64) (.pair (.arr 6 .i64) (.arrS 6 (.pair .bool (.pair (.int .i64) (.int .i64)))))))))) (a7.getD (a9).toNat (false, ((0 : Int), ((0 : Int), [])))).2.2.2))), (80, .v (.c (.int .i64 ((a7.getD (a9).toNat (false, ((0 : Int), ((0 : Int), [])))).2.2.2.length : Int)))), (81, .v (.c (.int .i64 s1)))], [(0, .mem true 67 none (.flat [.cs [.int .i64 a1, .int .i64 a2, .int .i64 a3, .bool a4, .int .i64 a5, .fz (.int .i64) a6, .fz (.pair .bool (.pair (.int .i64) (.pair (.int .i64) (.sl (.pair (.int .i64) (.pair .bool (.pair (.int .i64) (.pair (.int .i64) (.pair (.arr 2 .i64) (.pair (.arr 6 .i64) (.arrS 6 (.pair .bool (.pair (.int .i64) (.int .i64)))))))))))))) a7, .int .i64 a8]]))], 2⟩) hl (To.mk' [] 0 hε rfl (by repeat' first | exact True.intro | exact rfl | apply And.intro) (by repeat' first | exact True.intro | exact rfl | apply And.intro)) (fun s1 zs1 NNs1 hz hnexts1 houts1 => ?_)
          clear hl hT
          have hT := hz; clear hz
          refine rSeq ?_
          let x13 := (decide (s1 < ((a7.getD (a9).toNat (false, ((0 : Int), ((0 : Int), [])))).2.2.2.length : Int)))
          refine zReg md0 hX rfl rfl rfl ?_
          refine rThen ?_
          refine rSeq ?_
          refine zCond rfl rfl (fun hc => ?_) (fun hc => ?_)
          · replace hT := sT hc hT
            refine rSkip ?_
            refine rThen ?_
            refine rSeq ?_
            refine rBlock ?_
            refine rSeq ?_
            let x15 := ((a7.getD (a9).toNat (false, ((0 : Int), ((0 : Int), [])))).2.2.2.getD (s1).toNat ((0 : Int), (false, ((0 : Int), ((0 : Int), ((List.replicate 2 (0 : Int)), ((List.replicate 6 (0 : Int)), (List.replicate 6 [])))))))).1
            let x16 := ((a7.getD (a9).toNat (false, ((0 : Int), ((0 : Int), [])))).2.2.2.getD (s1).toNat ((0 : Int), (false, ((0 : Int), ((0 : Int), ((List.replicate 2 (0 : Int)), ((List.replicate 6 (0 : Int)), (List.replicate 6 [])))))))).2.1
            let x17 := ((a7.getD (a9).toNat (false, ((0 : Int), ((0 : Int), [])))).2.2.2.getD (s1).toNat ((0 : Int), (false, ((0 : Int), ((0 : Int), ((List.replicate 2 (0 : Int)), ((List.replicate 6 (0 : Int)), (List.replicate 6 [])))))))).2.2.1
            let x18 := ((a7.getD (a9).toNat (false, ((0 : Int), ((0 : Int), [])))).2.2.2.getD (s1).toNat ((0 : Int), (false, ((0 : Int), ((0 : Int), ((List.replicate 2 (0 : Int)), ((List.replicate 6 (0 : Int)), (List.replicate 6 [])))))))).2.2.2.1
            let x19 := ((a7.getD (a9).toNat (false, ((0 : Int), ((0 : Int), [])))).2.2.2.getD (s1).toNat ((0 : Int), (false, ((0 : Int), ((0 : Int), ((List.replicate 2 (0 : Int)), ((List.replicate 6 (0 : Int)), (List.replicate 6 [])))))))).2.2.2.2.1
            let x20 := ((a7.getD (a9).toNat (false, ((0 : Int), ((0 : Int), [])))).2.2.2.getD (s1).toNat ((0 : Int), (false, ((0 : Int), ((0 : Int), ((List.replicate 2 (0 : Int)), ((List.replicate 6 (0 : Int)), (List.replicate 6 [])))))))).2.2.2.2.2.1
            let x21 := ((a7.getD (a9).toNat (false, ((0 : Int), ((0 : Int), [])))).2.2.2.getD (s1).toNat ((0 : Int), (false, ((0 : Int), ((0 : Int), ((List.replicate 2 (0 : Int)), ((List.replicate 6 (0 : Int)), (List.replicate 6 [])))))))).2.2.2.2.2.2
            replace hT := sIf hT; obtain ⟨⟨o1, o2⟩, hT⟩ := hT
            refine zReg md0 hX rfl rfl rfl ?_
            refine rThen ?_
            refine rSeq ?_
            let c3 := (cellout_Right N a4 x15 x16 x17 x18 x19 x20 x21)
            replace hT := sIf hT; obtain ⟨o1, hT⟩ := hT
            refine zReg md0 hX rfl rfl rfl ?_
            refine rThen ?_
            refine zCond rfl rfl (fun hc => ?_) (fun hc => ?_)
            · replace hT := sT hc hT
              refine rSeq ?_
              refine zReg md0 hX rfl rfl rfl ?_
              refine rThen ?_
              refine rRet ?_
              refine rInRet ?_
              refine rThenRet ?_
              refine rThenRet ?_
              exact zTo [] 0 hε (hxs10 _ (houts1 _ (Option.some.inj hT).symm))
            · replace hT := sF hc hT
              refine rSkip ?_
              refine rInNormal ?_
              refine rThen ?_
              replace hT := sIf hT; obtain ⟨o1, hT⟩ := hT
              refine zReg md0 hX rfl rfl rfl ?_
              exact hnexts1 _ (Option.some.inj hT).symm _ (To.mk' [] 0 hε rfl (by repeat' first | exact True.intro | exact rfl | apply And.intro) (by repeat' first | exact True.intro | exact rfl | apply And.intro))
          · replace hT := sF hc hT
            refine rExit ?_
            refine rThenExit ?_
            refine rThenExit ?_
            exact zTo [] 0 hε (hxs11 _ (houts1 _ (Option.some.inj hT).symm))
  · cases h
def sound_every_row_v2_b1 (N : Nat) (a1 : Int) (a2 : Int) (a3 : Int) (a4 : Int) (a5 : Bool) (a6 : Int) (a7 : (List Int)) (a8 : (List (Bool × (Int × (Int × (List (Int × (Bool × (Int × (Int × ((List Int) × ((List Int) × (List (List (Bool × (Int × Int)))))))))))))))) (a9 : Int) (s1 : Int) : Option (Int ⊕ (Unit ⊕ Unit)) :=
  bif (decide (s1 < a1)) then
    let c1 := (overspill_sound_sheet_row_v1 N a2 a3 a4 a5 a6 a7 a8 a9 s1)
    if c1.isSome = true then
      bif (!(c1.getD default)) then
        some (.inr (Sum.inl ()))
      else
        if inK .i64 (s1 + 1) then
          some (.inl (s1 + 1))
        else none
    else none
  else
    some (.inr (Sum.inr ()))
def sound_every_row_v2 (N : Nat) (a1 : Int) (a2 : Int) (a3 : Int) (a4 : Int) (a5 : Bool) (a6 : Int) (a7 : (List Int)) (a8 : (List (Bool × (Int × (Int × (List (Int × (Bool × (Int × (Int × ((List Int) × ((List Int) × (List (List (Bool × (Int × Int)))))))))))))))) (a9 : Int) : Option Bool :=
  (iter (sound_every_row_v2_b1 N a1 a2 a3 a4 a5 a6 a7 a8 a9) N 0).bind fun w1 =>
    (Sum.elim (fun v1 =>
      some false
    )
      (fun v2 =>
        some true
      )
    ) w1
def sp_sound_every_row_v2 (N : Nat) : X.Spec := fun args lk => match args with
  | [.v (.c (.int .i64 a1)), .fnv 38 [.agg [.cs [.int .i64 a2, .int .i64 a3, .int .i64 a4, .bool a5, .int .i64 a6, .fz (.int .i64) a7, .fz (.pair .bool (.pair (.int .i64) (.pair (.int .i64) (.sl (.pair (.int .i64) (.pair .bool (.pair (.int .i64) (.pair (.int .i64) (.pair (.arr 2 .i64) (.pair (.arr 6 .i64) (.arrS 6 (.pair .bool (.pair (.int .i64) (.int .i64)))))))))))))) a8, .int .i64 a9]]] []] => some ⟨(sound_every_row_v2 N a1 a2 a3 a4 a5 a6 a7 a8 a9).isSome = true, .v (.c (.bool ((sound_every_row_v2 N a1 a2 a3 a4 a5 a6 a7 a8 a9).getD default))), [], []⟩
  | _ => none
set_option maxRecDepth 100000 in
set_option maxHeartbeats 1000000 in
theorem ok_sound_every_row_v2 (N : Nat) : FnOK Tryd.prog gt0 37 (sp_sound_every_row_v2 N) := by
  refine fnOK_handed Tryd.func37 rfl (by kernel_rfl) tt_ok (ktCons (ok_overspill_sound_sheet_row_v1 N) (ktNil)) ?_
  intro args lk r h hp
  unfold sp_sound_every_row_v2 at h
  split at h
  · rename_i a1 a2 a3 a4 a5 a6 a7 a8 a9
    change (List Int) at a7
    change (List (Bool × (Int × (Int × (List (Int × (Bool × (Int × (Int × ((List Int) × ((List Int) × (List (List (Bool × (Int × Int))))))))))))))) at a8
    cases h
    obtain ⟨x, hx⟩ := Option.isSome_iff_exists.1 hp
    simp only [hx, Option.getD_some]
    refine hand0 rfl rfl (fun w0 M ε0 hX => ?_)
    refine rCount (fun hε => ?_)
    have hT : sound_every_row_v2 N a1 a2 a3 a4 a5 a6 a7 a8 a9 = some x := hx; clear hx hp; unfold sound_every_row_v2 at hT
    refine rSeq ?_
    refine zReg md0 hX rfl rfl rfl ?_
    refine rThen ?_
    refine rSeq ?_
    refine rSeq ?_
    refine zReg md0 hX rfl rfl rfl ?_
    refine rThen ?_
    refine rBlock ?_
    replace hT := sBind hT; obtain ⟨w1, hl, hT⟩ := hT
    refine rJoinA (fun v1 => (Sum.inl v1) = w1) (fun v1 => ⟨[(4, .v (.c (.bool false)))], [], 0⟩) .ret (fun v1 hv => ?_) (fun hxs10 => ?_)
    · subst hv; clear hl; replace hT := (sElimL hT)
      refine rInRet ?_
      refine rThenRet ?_
      have hy := Option.some.inj hT; subst hy
      exact zEnd0 hX rfl
    refine rJoinA (fun v2 => (Sum.inr v2) = w1) (fun v2 => ⟨[(4, .v (.c (.bool false)))], [], 0⟩) (.exit 0) (fun v2 hv => ?_) (fun hxs11 => ?_)
    · subst hv; clear hl; replace hT := (sElimR hT)
      refine rInHit ?_
      refine rThen ?_
      refine rSeq ?_
      refine zReg md0 hX rfl rfl rfl ?_
      refine rThen ?_
      refine rRet ?_
      have hy := Option.some.inj hT; subst hy
      exact zEnd0 hX rfl
    refine rLoopM (sound_every_row_v2_b1 N a1 a2 a3 a4 a5 a6 a7 a8 a9) (fun s1 => ⟨[(1, .fnv 38 [.agg [.cs [.int .i64 a2, .int .i64 a3, .int .i64 a4, .bool a5, .int .i64 a6, .fz (.int .i64) a7, .fz (.pair .bool (.pair (.int .i64) (.pair (.int .i64) (.sl (.pair (.int .i64) (.pair .bool (.pair (.int .i64) (.pair (.int .i64) (.pair (.arr 2 .i64) (.pair (.arr 6 .i64) (.arrS 6 (.pair .bool (.pair (.int .i64) (.int .i64)))))))))))))) a8, .int .i64 a9]]] []), (4, .v (.c (.bool false))), (6, .v (.c (.int .i64 a1))), (7, .v (.c (.int .i64 s1)))], [], 0⟩) hl (To.mk' [] 0 hε rfl (by repeat' first | exact True.intro | exact rfl | apply And.intro) (by repeat' first | exact True.intro | exact rfl | apply And.intro)) (fun s1 zs1 NNs1 hz hnexts1 houts1 => ?_)
    clear hl hT
    have hT := hz; clear hz
    refine rSeq ?_
    refine zReg md0 hX rfl rfl rfl ?_
    refine rThen ?_
    refine rSeq ?_
    refine zCond rfl rfl (fun hc => ?_) (fun hc => ?_)
    · replace hT := sT hc hT
      refine rSkip ?_
      refine rThen ?_
      refine rSeq ?_
      refine rBlock ?_
      refine rSeq ?_
      refine zReg md0 hX rfl rfl rfl ?_
      refine rThen ?_
      refine rSeq ?_
      let c1 := (overspill_sound_sheet_row_v1 N a2 a3 a4 a5 a6 a7 a8 a9 s1)
      replace hT := sIf hT; obtain ⟨o1, hT⟩ := hT
      refine zReg md0 hX rfl rfl rfl ?_
      refine rThen ?_
      refine zCond rfl rfl (fun hc => ?_) (fun hc => ?_)
      · replace hT := sT hc hT
        refine rSeq ?_
        refine zReg md0 hX rfl rfl rfl ?_
        refine rThen ?_
        refine rRet ?_
        refine rInRet ?_
        refine rThenRet ?_
        refine rThenRet ?_
        exact zTo [] 0 hε (hxs10 _ (houts1 _ (Option.some.inj hT).symm))
      · replace hT := sF hc hT
        refine rSkip ?_
        refine rInNormal ?_
        refine rThen ?_
        replace hT := sIf hT; obtain ⟨o1, hT⟩ := hT
        refine zReg md0 hX rfl rfl rfl ?_
        exact hnexts1 _ (Option.some.inj hT).symm _ (To.mk' [] 0 hε rfl (by repeat' first | exact True.intro | exact rfl | apply And.intro) (by repeat' first | exact True.intro | exact rfl | apply And.intro))
    · replace hT := sF hc hT
      refine rExit ?_
      refine rThenExit ?_
      refine rThenExit ?_
      exact zTo [] 0 hε (hxs11 _ (houts1 _ (Option.some.inj hT).symm))
  · cases h

end Go.Proofs.YtlcjjaglbcfbbaaDoor
