/- Models of functions, and that the program does what they tell. -/
import Derived.Test.YtkfaebbbjahcpaaDoorK2
set_option linter.unusedVariables false
set_option linter.unusedSimpArgs false
namespace Go.Proofs.YtkfaebbbjahcpaaDoor
open Go.X

def law36_PatternCells (N : Nat) (a1 : Int) (a2 : Bool) (a3 : Int) (a4 : Int) (a5 : (List Int)) (a6 : (List Int)) (a7 : (List (List (Bool × (Int × Int))))) (a8 : (List Int)) (a9 : Int) : Option Bool :=
  let c1 := (law36_few N a1 a2 a3 a4 a5 a6 a7)
  if c1.isSome = true then
    bif (!(c1.getD default)) then
      let c2 := (law36_lives N)
      if c2.isSome = true then
        some (c2.getD default)
      else none
    else
      let c3 := (pattern_Cell N a1 a2 a3 a4 a5 a6 a7 a8 a9)
      if c3.isSome = true then
        let c4 := (pattern_Empty N a8)
        let c5 := (ref36_Empty N a8)
        if c4.isSome = true ∧ c5.isSome = true then
          bif (!((c4.getD default) == (c5.getD default))) then
            some false
          else
            let c6 := (ref22_Right N true a1 a2 a3 a4 a5 a6 a7)
            if c6.isSome = true then
              bif (!(c6.getD default)) then
                let c7 := (ref21_Same N (c3.getD default).1 (c3.getD default).2.1 (c3.getD default).2.2.1 (c3.getD default).2.2.2.1 (c3.getD default).2.2.2.2.1 (c3.getD default).2.2.2.2.2.1 (c3.getD default).2.2.2.2.2.2.1 0 false 0 0 (List.replicate 2 0) (List.replicate 6 0) (List.replicate 6 []))
                let c8 := (law36_lives N)
                let x1 := (bif (bif (c7.getD default) then (decide ((c3.getD default).2.2.2.2.2.2.2 = 12)) else false) then (c8.getD default) else false)
                if c7.isSome = true ∧ ((bif (c7.getD default) then (decide ((c3.getD default).2.2.2.2.2.2.2 = 12)) else false) = true → c8.isSome = true) then
                  some x1
                else none
              else
                let c9 := (ref36_Cell N a1 a2 a3 a4 a5 a6 a7 a8 a9)
                if c9.isSome = true then
                  let c10 := (ref21_Same N (c3.getD default).1 (c3.getD default).2.1 (c3.getD default).2.2.1 (c3.getD default).2.2.2.1 (c3.getD default).2.2.2.2.1 (c3.getD default).2.2.2.2.2.1 (c3.getD default).2.2.2.2.2.2.1 (c9.getD default).1 (c9.getD default).2.1 (c9.getD default).2.2.1 (c9.getD default).2.2.2.1 (c9.getD default).2.2.2.2.1 (c9.getD default).2.2.2.2.2.1 (c9.getD default).2.2.2.2.2.2.1)
                  let c11 := (law36_lives N)
                  let x2 := (bif (bif (c10.getD default) then (decide ((c3.getD default).2.2.2.2.2.2.2 = (c9.getD default).2.2.2.2.2.2.2)) else false) then (c11.getD default) else false)
                  if c10.isSome = true ∧ ((bif (c10.getD default) then (decide ((c3.getD default).2.2.2.2.2.2.2 = (c9.getD default).2.2.2.2.2.2.2)) else false) = true → c11.isSome = true) then
                    some x2
                  else none
                else none
            else none
        else none
      else none
  else none
def sp_law36_PatternCells (N : Nat) : X.Spec := fun args lk => match args with
  | [.v (.agg [.cs [.int .i64 a1, .bool a2, .int .i64 a3, .int .i64 a4], .ints 2 .i64 a5, .ints 6 .i64 a6, .fzs 6 (.pair .bool (.pair (.int .i64) (.int .i64))) a7]), .v (.agg [.ints 384 .i64 a8]), .v (.c (.int .i64 a9))] => some ⟨(law36_PatternCells N a1 a2 a3 a4 a5 a6 a7 a8 a9).isSome = true, .v (.c (.bool ((law36_PatternCells N a1 a2 a3 a4 a5 a6 a7 a8 a9).getD default))), [], []⟩
  | _ => none
set_option maxRecDepth 100000 in
set_option maxHeartbeats 1000000 in
theorem ok_law36_PatternCells (N : Nat) : FnOK Tryd.prog gt0 5 (sp_law36_PatternCells N) := by
  refine fnOK_handed Tryd.func5 rfl (by kernel_rfl) tt_ok (ktCons (ok_ref36_Cell N) (ktCons (ok_ref21_Same N) (ktCons (ok_ref22_Right N) (ktCons (ok_ref36_Empty N) (ktCons (ok_pattern_Empty N) (ktCons (ok_pattern_Cell N) (ktCons (ok_law36_lives N) (ktCons (ok_law36_few N) (ktNil))))))))) ?_
  intro args lk r h hp
  unfold sp_law36_PatternCells at h
  split at h
  · rename_i a1 a2 a3 a4 a5 a6 a7 a8 a9
    change (List Int) at a5
    change (List Int) at a6
    change (List (List (Bool × (Int × Int)))) at a7
    change (List Int) at a8
    cases h
    obtain ⟨x, hx⟩ := Option.isSome_iff_exists.1 hp
    simp only [hx, Option.getD_some]
    refine hand0 rfl rfl (fun w0 M ε0 hX => ?_)
    refine rCount (fun hε => ?_)
    have hT : law36_PatternCells N a1 a2 a3 a4 a5 a6 a7 a8 a9 = some x := hx; clear hx hp; unfold law36_PatternCells at hT
    refine rSeq ?_
    refine zReg md0 hX rfl rfl rfl ?_
    refine rThen ?_
    refine rSeq ?_
    refine rSeq ?_
    let c1 := (law36_few N a1 a2 a3 a4 a5 a6 a7)
    replace hT := sIf hT; obtain ⟨o1, hT⟩ := hT
    refine zReg md0 hX rfl rfl rfl ?_
    refine rThen ?_
    refine zCond rfl rfl (fun hc => ?_) (fun hc => ?_)
    · replace hT := sT hc hT
      refine rSeq ?_
      let c2 := (law36_lives N)
      replace hT := sIf hT; obtain ⟨o1, hT⟩ := hT
      refine zReg md0 hX rfl rfl rfl ?_
      refine rThen ?_
      refine rRet ?_
      refine rThenRet ?_
      have hy := Option.some.inj hT; subst hy
      exact zEnd0 hX rfl
    · replace hT := sF hc hT
      refine rSkip ?_
      refine rThen ?_
      refine rSeq ?_
      let c3 := (pattern_Cell N a1 a2 a3 a4 a5 a6 a7 a8 a9)
      replace hT := sIf hT; obtain ⟨o1, hT⟩ := hT
      refine zReg md0 hX rfl rfl rfl ?_
      refine rThen ?_
      refine rSeq ?_
      refine rSeq ?_
      let c4 := (pattern_Empty N a8)
      let c5 := (ref36_Empty N a8)
      replace hT := sIf hT; obtain ⟨⟨o1, o2⟩, hT⟩ := hT
      refine zDraw md0 0 [] hX mixed rfl rfl rfl rfl rfl ?_
      refine rThen ?_
      refine zCond rfl rfl (fun hc => ?_) (fun hc => ?_)
      · replace hT := sT hc hT
        refine rSeq ?_
        refine zReg md0 hX rfl rfl rfl ?_
        refine rThen ?_
        refine rRet ?_
        refine rThenRet ?_
        have hy := Option.some.inj hT; subst hy
        exact zEnd0 hX rfl
      · replace hT := sF hc hT
        refine rSkip ?_
        refine rThen ?_
        refine rSeq ?_
        refine rSeq ?_
        let c6 := (ref22_Right N true a1 a2 a3 a4 a5 a6 a7)
        replace hT := sIf hT; obtain ⟨o1, hT⟩ := hT
        refine zReg md0 hX rfl rfl rfl ?_
        refine rThen ?_
        refine zCond rfl rfl (fun hc => ?_) (fun hc => ?_)
        · replace hT := sT hc hT
          refine rSeq ?_
          let c7 := (ref21_Same N (c3.getD default).1 (c3.getD default).2.1 (c3.getD default).2.2.1 (c3.getD default).2.2.2.1 (c3.getD default).2.2.2.2.1 (c3.getD default).2.2.2.2.2.1 (c3.getD default).2.2.2.2.2.2.1 0 false 0 0 (List.replicate 2 0) (List.replicate 6 0) (List.replicate 6 []))
          let c8 := (law36_lives N)
          let x1 := (bif (bif (c7.getD default) then (decide ((c3.getD default).2.2.2.2.2.2.2 = 12)) else false) then (c8.getD default) else false)
          replace hT := sIf hT; obtain ⟨⟨o1, o2⟩, hT⟩ := hT
          refine rRegC md0 hX rfl rfl rfl (by (repeat' first | exact True.intro | with_reducible assumption | (with_reducible apply And.intro) | intro _) <;> first | assumption | exact o2 (by assumption) | exact rfl | omega | exact Nat.le_of_ble_eq_true rfl | exact selF (by assumption) | exact selT (by assumption) | exact And.intro rfl rfl | exact And.intro (by assumption) rfl | exact And.intro (by omega) rfl | (simp only [inK] at *; omega) | (simp_all [sel] <;> fail) | fail) ?_
          refine rThen ?_
          refine rRet ?_
          refine rThenRet ?_
          have hy := Option.some.inj hT; subst hy
          exact zEnd0 hX rfl
        · replace hT := sF hc hT
          refine rSkip ?_
          refine rThen ?_
          refine rSeq ?_
          let c9 := (ref36_Cell N a1 a2 a3 a4 a5 a6 a7 a8 a9)
          replace hT := sIf hT; obtain ⟨o1, hT⟩ := hT
          refine zReg md0 hX rfl rfl rfl ?_
          refine rThen ?_
          refine rSeq ?_
          let c10 := (ref21_Same N (c3.getD default).1 (c3.getD default).2.1 (c3.getD default).2.2.1 (c3.getD default).2.2.2.1 (c3.getD default).2.2.2.2.1 (c3.getD default).2.2.2.2.2.1 (c3.getD default).2.2.2.2.2.2.1 (c9.getD default).1 (c9.getD default).2.1 (c9.getD default).2.2.1 (c9.getD default).2.2.2.1 (c9.getD default).2.2.2.2.1 (c9.getD default).2.2.2.2.2.1 (c9.getD default).2.2.2.2.2.2.1)
          let c11 := (law36_lives N)
          let x2 := (bif (bif (c10.getD default) then (decide ((c3.getD default).2.2.2.2.2.2.2 = (c9.getD default).2.2.2.2.2.2.2)) else false) then (c11.getD default) else false)
          replace hT := sIf hT; obtain ⟨⟨o1, o2⟩, hT⟩ := hT
          refine rRegC md0 hX rfl rfl rfl (by (repeat' first | exact True.intro | with_reducible assumption | (with_reducible apply And.intro) | intro _) <;> first | assumption | exact o2 (by assumption) | exact rfl | omega | exact Nat.le_of_ble_eq_true rfl | exact selF (by assumption) | exact selT (by assumption) | exact And.intro rfl rfl | exact And.intro (by assumption) rfl | exact And.intro (by omega) rfl | (simp only [inK] at *; omega) | (simp_all [sel] <;> fail) | fail) ?_
          refine rThen ?_
          refine rRet ?_
          have hy := Option.some.inj hT; subst hy
          exact zEnd0 hX rfl
  · cases h
def overspill_residue_cell_intra (N : Nat) (a1 : Int) (a2 : Bool) (a3 : Int) (a4 : Int) (a5 : (List Int)) (a6 : (List Int)) (a7 : (List (List (Bool × (Int × Int))))) (a8 : Int) : Option Bool :=
  some (bif (decide (a3 = 3)) then true else (decide (a3 = 4)))
def sp_overspill_residue_cell_intra (N : Nat) : X.Spec := fun args lk => match args with
  | [.v (.agg [.cs [.int .i64 a1, .bool a2, .int .i64 a3, .int .i64 a4], .ints 2 .i64 a5, .ints 6 .i64 a6, .fzs 6 (.pair .bool (.pair (.int .i64) (.int .i64))) a7, .cs [.int .i64 a8]])] => some ⟨(overspill_residue_cell_intra N a1 a2 a3 a4 a5 a6 a7 a8).isSome = true, .v (.c (.bool ((overspill_residue_cell_intra N a1 a2 a3 a4 a5 a6 a7 a8).getD default))), [], []⟩
  | _ => none
set_option maxRecDepth 100000 in
set_option maxHeartbeats 1000000 in
theorem ok_overspill_residue_cell_intra (N : Nat) : FnOK Tryd.prog gt0 118 (sp_overspill_residue_cell_intra N) := by
  refine fnOK_handed Tryd.func118 rfl (by kernel_rfl) tt_ok (ktNil) ?_
  intro args lk r h hp
  unfold sp_overspill_residue_cell_intra at h
  split at h
  · rename_i a1 a2 a3 a4 a5 a6 a7 a8
    change (List Int) at a5
    change (List Int) at a6
    change (List (List (Bool × (Int × Int)))) at a7
    cases h
    obtain ⟨x, hx⟩ := Option.isSome_iff_exists.1 hp
    simp only [hx, Option.getD_some]
    refine hand0 rfl rfl (fun w0 M ε0 hX => ?_)
    refine rCount (fun hε => ?_)
    have hT : overspill_residue_cell_intra N a1 a2 a3 a4 a5 a6 a7 a8 = some x := hx; clear hx hp; unfold overspill_residue_cell_intra at hT
    refine rSeq ?_
    refine zReg md0 hX rfl rfl rfl ?_
    refine rThen ?_
    refine rSeq ?_
    refine zReg md0 hX rfl rfl rfl ?_
    refine rThen ?_
    refine rRet ?_
    have hy := Option.some.inj hT; subst hy
    exact zEnd0 hX rfl
  · cases h
def scan_Raster_b1 (N : Nat) (a1 : (List Int)) (s1 : (Int × (List Int))) : Option ((Int × (List Int)) ⊕ (List Int)) :=
  bif (decide (s1.1 < 64)) then
    if (0 : Int) ≤ s1.1 ∧ s1.1 < 64 ∧ (s1.1).toNat < 64 ∧ (0 : Int) ≤ (placesL.getD (s1.1).toNat 0) ∧ (placesL.getD (s1.1).toNat 0) < 64 ∧ (placesL.getD (s1.1).toNat 0).toNat < 64 then
      if inK .i64 (s1.1 + 1) then
        some (.inl ((s1.1 + 1), (s1.2.set (placesL.getD (s1.1).toNat 0).toNat (a1.getD (s1.1).toNat 0))))
      else none
    else none
  else
    some (.inr s1.2)
def scan_Raster (N : Nat) (a1 : (List Int)) : Option (List Int) :=
  (iter (scan_Raster_b1 N a1) N (0, (List.replicate 64 0))).bind fun v1 =>
    some v1
def sp_scan_Raster (N : Nat) : X.Spec := fun args lk => match args with
  | [.v (.agg [.ints 64 .i64 a1])] => some ⟨(scan_Raster N a1).isSome = true, .v (.agg [.ints 64 .i64 ((scan_Raster N a1).getD default)]), [], []⟩
  | _ => none
set_option maxRecDepth 100000 in
set_option maxHeartbeats 1000000 in
theorem ok_scan_Raster (N : Nat) : FnOK Tryd.prog gt0 120 (sp_scan_Raster N) := by
  refine fnOK_handed Tryd.func120 rfl (by kernel_rfl) tt_ok (ktNil) ?_
  intro args lk r h hp
  unfold sp_scan_Raster at h
  split at h
  · rename_i a1
    change (List Int) at a1
    cases h
    obtain ⟨x, hx⟩ := Option.isSome_iff_exists.1 hp
    simp only [hx, Option.getD_some]
    refine hand0 rfl rfl (fun w0 M ε0 hX => ?_)
    refine rCount (fun hε => ?_)
    have hT : scan_Raster N a1 = some x := hx; clear hx hp; unfold scan_Raster at hT
    refine rSeq ?_
    refine zReg md0 hX rfl rfl rfl ?_
    refine rThen ?_
    refine rSeq ?_
    refine zReg md0 hX rfl rfl rfl ?_
    refine rThen ?_
    refine rSeq ?_
    refine rSeq ?_
    refine zReg md0 hX rfl rfl rfl ?_
    refine rThen ?_
    refine rBlock ?_
    replace hT := sBind hT; obtain ⟨w1, hl, hT⟩ := hT
    refine rJoinA (fun v1 => v1 = w1) (fun v1 => ⟨[(2, .v (.c (.ptr 1 0 0 0 0 0))), (3, .v (.c (.ptr 2 0 0 0 0 0)))], [(1, .mem true 22 none (.flat [.ints 64 .i64 (List.replicate 64 0)])), (2, .mem true 22 none (.flat [.ints 64 .i64 v1]))], 3⟩) (.exit 0) (fun v1 hv => ?_) (fun hxs10 => ?_)
    · subst hv; clear hl
      refine rInHit ?_
      refine rThen ?_
      refine rSeq ?_
      refine zReg md0 hX rfl rfl rfl ?_
      refine rThen ?_
      refine rRet ?_
      have hy := Option.some.inj hT; subst hy
      exact zEnd0 hX rfl
    refine rLoopM (scan_Raster_b1 N a1) (fun s1 => ⟨[(1, .v (.c (.ptr 0 0 0 0 0 0))), (2, .v (.c (.ptr 1 0 0 0 0 0))), (3, .v (.c (.ptr 2 0 0 0 0 0))), (5, .v (.c (.int .i64 s1.1)))], [(0, .mem true 22 none (.flat [.ints 64 .i64 a1])), (1, .mem true 22 none (.flat [.ints 64 .i64 (List.replicate 64 0)])), (2, .mem true 22 none (.flat [.ints 64 .i64 s1.2]))], 3⟩) hl (To.mk' [] 0 hε rfl (by repeat' first | exact True.intro | exact rfl | apply And.intro) (by repeat' first | exact True.intro | exact rfl | apply And.intro)) (fun s1 zs1 NNs1 hz hnexts1 houts1 => ?_)
    clear hl hT
    have hT := hz; clear hz
    refine rSeq ?_
    refine zReg md0 hX rfl rfl rfl ?_
    refine rThen ?_
    refine rSeq ?_
    refine zCond rfl rfl (fun hc => ?_) (fun hc => ?_)
    · replace hT := sT hc hT
      refine rSkip ?_
      refine rThen ?_
      refine rSeq ?_
      refine rBlock ?_
      refine rSeq ?_
      refine zReg md0 hX rfl rfl rfl ?_
      refine rThen ?_
      replace hT := sIf hT; obtain ⟨⟨o1, o2, o3, o4, o5, o6⟩, hT⟩ := hT
      refine zDraw md0 1 [7] hX mixed rfl rfl rfl rfl rfl ?_
      refine rInNormal ?_
      refine rThen ?_
      replace hT := sIf hT; obtain ⟨o1, hT⟩ := hT
      refine zReg md0 hX rfl rfl rfl ?_
      exact hnexts1 _ (Option.some.inj hT).symm _ (To.mk' [] 0 hε rfl (by repeat' first | exact True.intro | exact rfl | apply And.intro) (by repeat' first | exact True.intro | exact rfl | apply And.intro))
    · replace hT := sF hc hT
      refine rExit ?_
      refine rThenExit ?_
      refine rThenExit ?_
      exact zTo [] 0 hε (hxs10 _ (houts1 _ (Option.some.inj hT).symm))
  · cases h
def overspill_residue_cell_levels (N : Nat) (a1 : Int) (a2 : Bool) (a3 : Int) (a4 : Int) (a5 : (List Int)) (a6 : (List Int)) (a7 : (List (List (Bool × (Int × Int))))) (a8 : Int) (a9 : Int) : Option (List Int) :=
  let c1 := (overspill_residue_cell_intra N a1 a2 a3 a4 a5 a6 a7 a8)
  if c1.isSome = true then
    let c2 := (runs_Levels N (a7.getD (a9).toNat []) (bif (c1.getD default) then (1 : Int) else 0))
    if (0 : Int) ≤ a9 ∧ a9 < 6 ∧ (a9).toNat < 6 ∧ c2.isSome = true then
      let c3 := (scan_Raster N (c2.getD default).1)
      if c3.isSome = true then
        some (c3.getD default)
      else none
    else none
  else none
def sp_overspill_residue_cell_levels (N : Nat) : X.Spec := fun args lk => match args with
  | [.v (.agg [.cs [.int .i64 a1, .bool a2, .int .i64 a3, .int .i64 a4], .ints 2 .i64 a5, .ints 6 .i64 a6, .fzs 6 (.pair .bool (.pair (.int .i64) (.int .i64))) a7, .cs [.int .i64 a8]]), .v (.c (.int .i64 a9))] => some ⟨(overspill_residue_cell_levels N a1 a2 a3 a4 a5 a6 a7 a8 a9).isSome = true, .v (.agg [.ints 64 .i64 ((overspill_residue_cell_levels N a1 a2 a3 a4 a5 a6 a7 a8 a9).getD default)]), [], []⟩
  | _ => none
set_option maxRecDepth 100000 in
set_option maxHeartbeats 1000000 in
theorem ok_overspill_residue_cell_levels (N : Nat) : FnOK Tryd.prog gt0 69 (sp_overspill_residue_cell_levels N) := by
  refine fnOK_handed Tryd.func69 rfl (by kernel_rfl) tt_ok (ktCons (ok_scan_Raster N) (ktCons (ok_runs_Levels N) (ktCons (ok_overspill_residue_cell_intra N) (ktNil)))) ?_
  intro args lk r h hp
  unfold sp_overspill_residue_cell_levels at h
  split at h
  · rename_i a1 a2 a3 a4 a5 a6 a7 a8 a9
    change (List Int) at a5
    change (List Int) at a6
    change (List (List (Bool × (Int × Int)))) at a7
    cases h
    obtain ⟨x, hx⟩ := Option.isSome_iff_exists.1 hp
    simp only [hx, Option.getD_some]
    refine hand0 rfl rfl (fun w0 M ε0 hX => ?_)
    refine rCount (fun hε => ?_)
    have hT : overspill_residue_cell_levels N a1 a2 a3 a4 a5 a6 a7 a8 a9 = some x := hx; clear hx hp; unfold overspill_residue_cell_levels at hT
    refine rSeq ?_
    refine zReg md0 hX rfl rfl rfl ?_
    refine rThen ?_
    refine rSeq ?_
    refine zReg md0 hX rfl rfl rfl ?_
    refine rThen ?_
    refine rSeq ?_
    refine rSeq ?_
    let c1 := (overspill_residue_cell_intra N a1 a2 a3 a4 a5 a6 a7 a8)
    replace hT := sIf hT; obtain ⟨o1, hT⟩ := hT
    refine zReg md0 hX rfl rfl rfl ?_
    refine rThen ?_
    refine rJoin ⟨[(1, .v (.c (.int .i64 a9))), (2, .v (.c (.ptr 0 0 0 0 0 0))), (4, .v (.c (.ptr 1 0 0 0 0 0))), (5, .v (.c (.int .i64 (bif (c1.getD default) then (1 : Int) else 0))))], [(0, .mem true 104 none (.flat [.cs [.int .i64 a1, .bool a2, .int .i64 a3, .int .i64 a4], .ints 2 .i64 a5, .ints 6 .i64 a6, .fzs 6 (.pair .bool (.pair (.int .i64) (.int .i64))) a7, .cs [.int .i64 a8]])), (1, .mem true 22 none (.flat [.ints 64 .i64 (List.replicate 64 0)]))], 2⟩ ?_ (fun hj => ?_)
    · skip
      refine rThen ?_
      refine rSeq ?_
      let c2 := (runs_Levels N (a7.getD (a9).toNat []) (bif (c1.getD default) then (1 : Int) else 0))
      replace hT := sIf hT; obtain ⟨⟨o1, o2, o3, o4⟩, hT⟩ := hT
      refine zReg md0 hX rfl rfl rfl ?_
      refine rThen ?_
      refine rSeq ?_
      let c3 := (scan_Raster N (c2.getD default).1)
      replace hT := sIf hT; obtain ⟨o1, hT⟩ := hT
      refine zReg md0 hX rfl rfl rfl ?_
      refine rThen ?_
      refine rRet ?_
      have hy := Option.some.inj hT; subst hy
      exact zEnd0 hX rfl
    · clear hT
      refine zCond rfl rfl (fun hc => ?_) (fun hc => ?_)
      · skip
        refine zReg md0 hX rfl rfl rfl ?_
        exact rTo (To.mk' [] 0 hε rfl (by (repeat' first | exact True.intro | exact rfl | apply And.intro) <;> (repeat' first | exact rfl | refine Eq.trans ?_ (cTr (by assumption)) | refine Eq.trans ?_ (cFr (by assumption)) | refine Eq.trans (cTl (by assumption)) ?_ | refine Eq.trans (cFl (by assumption)) ?_)) (by (repeat' first | exact True.intro | exact rfl | apply And.intro) <;> (repeat' first | exact rfl | refine Eq.trans ?_ (cTr (by assumption)) | refine Eq.trans ?_ (cFr (by assumption)) | refine Eq.trans (cTl (by assumption)) ?_ | refine Eq.trans (cFl (by assumption)) ?_))) hj
      · skip
        refine rSkip ?_
        exact rTo (To.mk' [] 0 hε rfl (by (repeat' first | exact True.intro | exact rfl | apply And.intro) <;> (repeat' first | exact rfl | refine Eq.trans ?_ (cTr (by assumption)) | refine Eq.trans ?_ (cFr (by assumption)) | refine Eq.trans (cTl (by assumption)) ?_ | refine Eq.trans (cFl (by assumption)) ?_)) (by (repeat' first | exact True.intro | exact rfl | apply And.intro) <;> (repeat' first | exact rfl | refine Eq.trans ?_ (cTr (by assumption)) | refine Eq.trans ?_ (cFr (by assumption)) | refine Eq.trans (cTl (by assumption)) ?_ | refine Eq.trans (cFl (by assumption)) ?_))) hj
  · cases h
def residue_every_b1 (N : Nat) (a8 : Int) (a9 : Bool) (a10 : Int) (a11 : Int) (a12 : (List Int)) (a13 : (List Int)) (a14 : (List (List (Bool × (Int × Int))))) (a15 : Int) (s1 : (Int × (List Int))) : Option ((Int × (List Int)) ⊕ (List Int)) :=
  bif (decide (s1.1 < 6)) then
    let c2 := (overspill_residue_cell_levels N a8 a9 a10 a11 a12 a13 a14 a15 s1.1)
    if c2.isSome = true ∧ (0 : Int) ≤ s1.1 ∧ s1.1 < 6 ∧ (64 * (s1.1).toNat) + 64 ≤ 384 then
      if inK .i64 (s1.1 + 1) then
        some (.inl ((s1.1 + 1), (layL s1.2 (64 * (s1.1).toNat) (c2.getD default) 64)))
      else none
    else none
  else
    some (.inr s1.2)
def residue_every (N : Nat) (a1 : Int) (a2 : Bool) (a3 : Int) (a4 : Int) (a5 : (List Int)) (a6 : (List Int)) (a7 : (List (List (Bool × (Int × Int))))) (a8 : Int) (a9 : Bool) (a10 : Int) (a11 : Int) (a12 : (List Int)) (a13 : (List Int)) (a14 : (List (List (Bool × (Int × Int))))) (a15 : Int) : Option ((List Int) × Int) :=
  let c1 := (cellout_Right N true a1 a2 a3 a4 a5 a6 a7)
  if c1.isSome = true then
    bif (!(c1.getD default)) then
      some ((List.replicate 384 0), 12)
    else
      (iter (residue_every_b1 N a8 a9 a10 a11 a12 a13 a14 a15) N (0, (List.replicate 384 0))).bind fun v1 =>
        some (v1, 0)
  else none
def sp_residue_every (N : Nat) : X.Spec := fun args lk => match args with
  | [.v (.agg [.cs [.int .i64 a1, .bool a2, .int .i64 a3, .int .i64 a4], .ints 2 .i64 a5, .ints 6 .i64 a6, .fzs 6 (.pair .bool (.pair (.int .i64) (.int .i64))) a7]), .fnv 69 [.agg [.cs [.int .i64 a8, .bool a9, .int .i64 a10, .int .i64 a11], .ints 2 .i64 a12, .ints 6 .i64 a13, .fzs 6 (.pair .bool (.pair (.int .i64) (.int .i64))) a14, .cs [.int .i64 a15]]] []] => some ⟨(residue_every N a1 a2 a3 a4 a5 a6 a7 a8 a9 a10 a11 a12 a13 a14 a15).isSome = true, .tup [.agg [.ints 384 .i64 ((residue_every N a1 a2 a3 a4 a5 a6 a7 a8 a9 a10 a11 a12 a13 a14 a15).getD default).1], .c (.int .i64 ((residue_every N a1 a2 a3 a4 a5 a6 a7 a8 a9 a10 a11 a12 a13 a14 a15).getD default).2)], [], []⟩
  | _ => none
set_option maxRecDepth 100000 in
set_option maxHeartbeats 1000000 in
theorem ok_residue_every (N : Nat) : FnOK Tryd.prog gt0 68 (sp_residue_every N) := by
  refine fnOK_handed Tryd.func68 rfl (by kernel_rfl) tt_ok (ktCons (ok_overspill_residue_cell_levels N) (ktCons (ok_cellout_Right N) (ktNil))) ?_
  intro args lk r h hp
  unfold sp_residue_every at h
  split at h
  · rename_i a1 a2 a3 a4 a5 a6 a7 a8 a9 a10 a11 a12 a13 a14 a15
    change (List Int) at a5
    change (List Int) at a6
    change (List (List (Bool × (Int × Int)))) at a7
    change (List Int) at a12
    change (List Int) at a13
    change (List (List (Bool × (Int × Int)))) at a14
    cases h
    obtain ⟨x, hx⟩ := Option.isSome_iff_exists.1 hp
    simp only [hx, Option.getD_some]
    refine hand0 rfl rfl (fun w0 M ε0 hX => ?_)
    refine rCount (fun hε => ?_)
    have hT : residue_every N a1 a2 a3 a4 a5 a6 a7 a8 a9 a10 a11 a12 a13 a14 a15 = some x := hx; clear hx hp; unfold residue_every at hT
    refine rSeq ?_
    refine zReg md0 hX rfl rfl rfl ?_
    refine rThen ?_
    refine rSeq ?_
    refine rSeq ?_
    let c1 := (cellout_Right N true a1 a2 a3 a4 a5 a6 a7)
    replace hT := sIf hT; obtain ⟨o1, hT⟩ := hT
    refine zReg md0 hX rfl rfl rfl ?_
    refine rThen ?_
    refine zCond rfl rfl (fun hc => ?_) (fun hc => ?_)
    · replace hT := sT hc hT
      refine rSeq ?_
      refine zReg md0 hX rfl rfl rfl ?_
      refine rThen ?_
      refine rRet ?_
      refine rThenRet ?_
      have hy := Option.some.inj hT; subst hy
      exact zEnd0 hX rfl
    · replace hT := sF hc hT
      refine rSkip ?_
      refine rThen ?_
      refine rSeq ?_
      refine zReg md0 hX rfl rfl rfl ?_
      refine rThen ?_
      refine rSeq ?_
      refine rSeq ?_
      refine zReg md0 hX rfl rfl rfl ?_
      refine rThen ?_
      refine rBlock ?_
      replace hT := sBind hT; obtain ⟨w1, hl, hT⟩ := hT
      refine rJoinA (fun v1 => v1 = w1) (fun v1 => ⟨[(4, .v (.c (.ptr 1 0 0 0 0 0))), (5, .v (.c (.int .i64 0))), (6, .v (.c (.ptr 2 0 0 0 0 0)))], [(1, .mem true 39 none (.flat [.ints 384 .i64 (List.replicate 384 0)])), (2, .mem true 39 none (.flat [.ints 384 .i64 v1]))], 3⟩) (.exit 0) (fun v1 hv => ?_) (fun hxs10 => ?_)
      · subst hv; clear hl
        refine rInHit ?_
        refine rThen ?_
        refine rSeq ?_
        refine zReg md0 hX rfl rfl rfl ?_
        refine rThen ?_
        refine rRet ?_
        have hy := Option.some.inj hT; subst hy
        exact zEnd0 hX rfl
      refine rLoopM (residue_every_b1 N a8 a9 a10 a11 a12 a13 a14 a15) (fun s1 => ⟨[(1, .fnv 69 [.agg [.cs [.int .i64 a8, .bool a9, .int .i64 a10, .int .i64 a11], .ints 2 .i64 a12, .ints 6 .i64 a13, .fzs 6 (.pair .bool (.pair (.int .i64) (.int .i64))) a14, .cs [.int .i64 a15]]] []), (4, .v (.c (.ptr 1 0 0 0 0 0))), (5, .v (.c (.int .i64 0))), (6, .v (.c (.ptr 2 0 0 0 0 0))), (12, .v (.c (.int .i64 s1.1)))], [(1, .mem true 39 none (.flat [.ints 384 .i64 (List.replicate 384 0)])), (2, .mem true 39 none (.flat [.ints 384 .i64 s1.2]))], 3⟩) hl (To.mk' [] 0 hε rfl (by repeat' first | exact True.intro | exact rfl | apply And.intro) (by repeat' first | exact True.intro | exact rfl | apply And.intro)) (fun s1 zs1 NNs1 hz hnexts1 houts1 => ?_)
      clear hl hT
      have hT := hz; clear hz
      refine rSeq ?_
      refine zReg md0 hX rfl rfl rfl ?_
      refine rThen ?_
      refine rSeq ?_
      refine zCond rfl rfl (fun hc => ?_) (fun hc => ?_)
      · replace hT := sT hc hT
        refine rSkip ?_
        refine rThen ?_
        refine rSeq ?_
        refine rBlock ?_
        refine rSeq ?_
        refine zReg md0 hX rfl rfl rfl ?_
        refine rThen ?_
        let c2 := (overspill_residue_cell_levels N a8 a9 a10 a11 a12 a13 a14 a15 s1.1)
        replace hT := sIf hT; obtain ⟨⟨o1, o2, o3, o4⟩, hT⟩ := hT
        refine zReg md0 hX rfl rfl rfl ?_
        refine rInNormal ?_
        refine rThen ?_
        replace hT := sIf hT; obtain ⟨o1, hT⟩ := hT
        refine zReg md0 hX rfl rfl rfl ?_
        exact hnexts1 _ (Option.some.inj hT).symm _ (To.mk' [] 0 hε rfl (by repeat' first | exact True.intro | exact rfl | apply And.intro) (by repeat' first | exact True.intro | exact rfl | apply And.intro))
      · replace hT := sF hc hT
        refine rExit ?_
        refine rThenExit ?_
        refine rThenExit ?_
        exact zTo [] 0 hε (hxs10 _ (houts1 _ (Option.some.inj hT).symm))
  · cases h
def residue_Levels (N : Nat) (a1 : Int) (a2 : Bool) (a3 : Int) (a4 : Int) (a5 : (List Int)) (a6 : (List Int)) (a7 : (List (List (Bool × (Int × Int))))) : Option ((List Int) × Int) :=
  let c1 := (residue_every N a1 a2 a3 a4 a5 a6 a7 a1 a2 a3 a4 a5 a6 a7 0)
  if c1.isSome = true then
    some ((c1.getD default).1, (c1.getD default).2)
  else none
def sp_residue_Levels (N : Nat) : X.Spec := fun args lk => match args with
  | [.v (.agg [.cs [.int .i64 a1, .bool a2, .int .i64 a3, .int .i64 a4], .ints 2 .i64 a5, .ints 6 .i64 a6, .fzs 6 (.pair .bool (.pair (.int .i64) (.int .i64))) a7])] => some ⟨(residue_Levels N a1 a2 a3 a4 a5 a6 a7).isSome = true, .tup [.agg [.ints 384 .i64 ((residue_Levels N a1 a2 a3 a4 a5 a6 a7).getD default).1], .c (.int .i64 ((residue_Levels N a1 a2 a3 a4 a5 a6 a7).getD default).2)], [], []⟩
  | _ => none
set_option maxRecDepth 100000 in
set_option maxHeartbeats 1000000 in
theorem ok_residue_Levels (N : Nat) : FnOK Tryd.prog gt0 24 (sp_residue_Levels N) := by
  refine fnOK_handed Tryd.func24 rfl (by kernel_rfl) tt_ok (ktCons (ok_residue_every N) (ktNil)) ?_
  intro args lk r h hp
  unfold sp_residue_Levels at h
  split at h
  · rename_i a1 a2 a3 a4 a5 a6 a7
    change (List Int) at a5
    change (List Int) at a6
    change (List (List (Bool × (Int × Int)))) at a7
    cases h
    obtain ⟨x, hx⟩ := Option.isSome_iff_exists.1 hp
    simp only [hx, Option.getD_some]
    refine hand0 rfl rfl (fun w0 M ε0 hX => ?_)
    refine rCount (fun hε => ?_)
    have hT : residue_Levels N a1 a2 a3 a4 a5 a6 a7 = some x := hx; clear hx hp; unfold residue_Levels at hT
    refine rSeq ?_
    refine zReg md0 hX rfl rfl rfl ?_
    refine rThen ?_
    refine rSeq ?_
    let c1 := (residue_every N a1 a2 a3 a4 a5 a6 a7 a1 a2 a3 a4 a5 a6 a7 0)
    replace hT := sIf hT; obtain ⟨o1, hT⟩ := hT
    refine zReg md0 hX rfl rfl rfl ?_
    refine rThen ?_
    refine rRet ?_
    have hy := Option.some.inj hT; subst hy
    exact zEnd0 hX rfl
  · cases h
def law36_PatternMay (N : Nat) (a1 : Int) (a2 : Bool) (a3 : Int) (a4 : Int) (a5 : (List Int)) (a6 : (List Int)) (a7 : (List (List (Bool × (Int × Int))))) (a8 : (List Int)) (a9 : Int) : Option Bool :=
  let c1 := (law36_few N a1 a2 a3 a4 a5 a6 a7)
  if c1.isSome = true then
    bif (!(c1.getD default)) then
      let c2 := (law36_lives N)
      if c2.isSome = true then
        some (c2.getD default)
      else none
    else
      let c3 := (pattern_Cell N a1 a2 a3 a4 a5 a6 a7 a8 a9)
      if c3.isSome = true then
        bif (decide ((c3.getD default).2.2.2.2.2.2.2 ≠ 0)) then
          let c4 := (law36_lives N)
          let x1 := (bif (bif (!(c3.getD default).2.1) then (decide ((c3.getD default).2.2.1 = 0)) else false) then (c4.getD default) else false)
          if ((bif (!(c3.getD default).2.1) then (decide ((c3.getD default).2.2.1 = 0)) else false) = true → c4.isSome = true) then
            some x1
          else none
        else
          let c5 := (residue_Levels N (c3.getD default).1 (c3.getD default).2.1 (c3.getD default).2.2.1 (c3.getD default).2.2.2.1 (c3.getD default).2.2.2.2.1 (c3.getD default).2.2.2.2.2.1 (c3.getD default).2.2.2.2.2.2.1)
          if c5.isSome = true then
            let c6 := (cellout_Right N true (c3.getD default).1 (c3.getD default).2.1 (c3.getD default).2.2.1 (c3.getD default).2.2.2.1 (c3.getD default).2.2.2.2.1 (c3.getD default).2.2.2.2.2.1 (c3.getD default).2.2.2.2.2.2.1)
            let x8 := (bif (bif (bif (bif (bif (!(c6.getD default)) then true else (decide ((c5.getD default).2 ≠ 0))) then true else (!(decide ((c5.getD default).1 = a8)))) then true else (!(decide ((c3.getD default).2.2.2.2.1 = a5)))) then true else (decide ((c3.getD default).2.2.2.1 ≠ a9))) then true else (decide ((c3.getD default).1 ≠ 0)))
            if c6.isSome = true then
              bif x8 then
                some false
              else
                let x14 := (bif (c3.getD default).2.1 then (bif (bif (bif (!(decide (a8 = (List.replicate 384 0)))) then true else (!(decide (a5 = (List.replicate 2 0))))) then true else (decide (a9 ≠ 0))) then true else (bif (decide (a3 = 3)) then true else (decide (a3 = 4)))) else false)
                if ((c3.getD default).2.1 = true → ((!(decide (a8 = (List.replicate 384 0)))) = false → ((c3.getD default).2.1 && (!(!(decide (a8 = (List.replicate 384 0)))))) = true)) ∧ ((c3.getD default).2.1 = true → ((bif (!(decide (a8 = (List.replicate 384 0)))) then true else (!(decide (a5 = (List.replicate 2 0))))) = false → ((c3.getD default).2.1 && (!(bif (!(decide (a8 = (List.replicate 384 0)))) then true else (!(decide (a5 = (List.replicate 2 0))))))) = true)) ∧ ((c3.getD default).2.1 = true → ((bif (bif (!(decide (a8 = (List.replicate 384 0)))) then true else (!(decide (a5 = (List.replicate 2 0))))) then true else (decide (a9 ≠ 0))) = false → ((c3.getD default).2.1 && (!(bif (bif (!(decide (a8 = (List.replicate 384 0)))) then true else (!(decide (a5 = (List.replicate 2 0))))) then true else (decide (a9 ≠ 0))))) = true)) then
                  bif x14 then
                    some false
                  else
                    let c7 := (law36_lives N)
                    let x15 := (bif ((bif (decide ((c3.getD default).2.2.1 = 3)) then true else (decide ((c3.getD default).2.2.1 = 4))) == (bif (decide (a3 = 3)) then true else (decide (a3 = 4)))) then (c7.getD default) else false)
                    if (((bif (decide ((c3.getD default).2.2.1 = 3)) then true else (decide ((c3.getD default).2.2.1 = 4))) == (bif (decide (a3 = 3)) then true else (decide (a3 = 4)))) = true → c7.isSome = true) then
                      some x15
                    else none
                else none
            else none
          else none
      else none
  else none
def sp_law36_PatternMay (N : Nat) : X.Spec := fun args lk => match args with
  | [.v (.agg [.cs [.int .i64 a1, .bool a2, .int .i64 a3, .int .i64 a4], .ints 2 .i64 a5, .ints 6 .i64 a6, .fzs 6 (.pair .bool (.pair (.int .i64) (.int .i64))) a7]), .v (.agg [.ints 384 .i64 a8]), .v (.c (.int .i64 a9))] => some ⟨(law36_PatternMay N a1 a2 a3 a4 a5 a6 a7 a8 a9).isSome = true, .v (.c (.bool ((law36_PatternMay N a1 a2 a3 a4 a5 a6 a7 a8 a9).getD default))), [], []⟩
  | _ => none
set_option maxRecDepth 100000 in
set_option maxHeartbeats 1000000 in
theorem ok_law36_PatternMay (N : Nat) : FnOK Tryd.prog gt0 6 (sp_law36_PatternMay N) := by
  refine fnOK_handed Tryd.func6 rfl (by kernel_rfl) tt_ok (ktCons (ok_cellout_Right N) (ktCons (ok_residue_Levels N) (ktCons (ok_pattern_Cell N) (ktCons (ok_law36_lives N) (ktCons (ok_law36_few N) (ktNil)))))) ?_
  intro args lk r h hp
  unfold sp_law36_PatternMay at h
  split at h
  · rename_i a1 a2 a3 a4 a5 a6 a7 a8 a9
    change (List Int) at a5
    change (List Int) at a6
    change (List (List (Bool × (Int × Int)))) at a7
    change (List Int) at a8
    cases h
    obtain ⟨x, hx⟩ := Option.isSome_iff_exists.1 hp
    simp only [hx, Option.getD_some]
    refine hand0 rfl rfl (fun w0 M ε0 hX => ?_)
    refine rCount (fun hε => ?_)
    have hT : law36_PatternMay N a1 a2 a3 a4 a5 a6 a7 a8 a9 = some x := hx; clear hx hp; unfold law36_PatternMay at hT
    refine rSeq ?_
    refine zReg md0 hX rfl rfl rfl ?_
    refine rThen ?_
    refine rSeq ?_
    refine rSeq ?_
    let c1 := (law36_few N a1 a2 a3 a4 a5 a6 a7)
    replace hT := sIf hT; obtain ⟨o1, hT⟩ := hT
    refine zReg md0 hX rfl rfl rfl ?_
    refine rThen ?_
    refine zCond rfl rfl (fun hc => ?_) (fun hc => ?_)
    · replace hT := sT hc hT
      refine rSeq ?_
      let c2 := (law36_lives N)
      replace hT := sIf hT; obtain ⟨o1, hT⟩ := hT
      refine zReg md0 hX rfl rfl rfl ?_
      refine rThen ?_
      refine rRet ?_
      refine rThenRet ?_
      have hy := Option.some.inj hT; subst hy
      exact zEnd0 hX rfl
    · replace hT := sF hc hT
      refine rSkip ?_
      refine rThen ?_
      refine rSeq ?_
      let c3 := (pattern_Cell N a1 a2 a3 a4 a5 a6 a7 a8 a9)
      replace hT := sIf hT; obtain ⟨o1, hT⟩ := hT
      refine zReg md0 hX rfl rfl rfl ?_
      refine rThen ?_
      refine rSeq ?_
      refine rSeq ?_
      refine zReg md0 hX rfl rfl rfl ?_
      refine rThen ?_
      refine zCond rfl rfl (fun hc => ?_) (fun hc => ?_)
      · replace hT := sT hc hT
        refine rSeq ?_
        let c4 := (law36_lives N)
        let x1 := (bif (bif (!(c3.getD default).2.1) then (decide ((c3.getD default).2.2.1 = 0)) else false) then (c4.getD default) else false)
        replace hT := sIf hT; obtain ⟨o1, hT⟩ := hT
        refine rRegC md0 hX rfl rfl rfl (by (repeat' first | exact True.intro | with_reducible assumption | (with_reducible apply And.intro) | intro _) <;> first | assumption | exact o1 (by assumption) | exact rfl | omega | exact Nat.le_of_ble_eq_true rfl | exact selF (by assumption) | exact selT (by assumption) | exact And.intro rfl rfl | exact And.intro (by assumption) rfl | exact And.intro (by omega) rfl | (simp only [inK] at *; omega) | (simp_all [sel] <;> fail) | fail) ?_
        refine rThen ?_
        refine rRet ?_
        refine rThenRet ?_
        have hy := Option.some.inj hT; subst hy
        exact zEnd0 hX rfl
      · replace hT := sF hc hT
        refine rSkip ?_
        refine rThen ?_
        refine rSeq ?_
        let c5 := (residue_Levels N (c3.getD default).1 (c3.getD default).2.1 (c3.getD default).2.2.1 (c3.getD default).2.2.2.1 (c3.getD default).2.2.2.2.1 (c3.getD default).2.2.2.2.2.1 (c3.getD default).2.2.2.2.2.2.1)
        replace hT := sIf hT; obtain ⟨o1, hT⟩ := hT
        refine zReg md0 hX rfl rfl rfl ?_
        refine rThen ?_
        refine rSeq ?_
        refine zReg md0 hX rfl rfl rfl ?_
        refine rThen ?_
        refine rSeq ?_
        refine rSeq ?_
        let c6 := (cellout_Right N true (c3.getD default).1 (c3.getD default).2.1 (c3.getD default).2.2.1 (c3.getD default).2.2.2.1 (c3.getD default).2.2.2.2.1 (c3.getD default).2.2.2.2.2.1 (c3.getD default).2.2.2.2.2.2.1)
        let x8 := (bif (bif (bif (bif (bif (!(c6.getD default)) then true else (decide ((c5.getD default).2 ≠ 0))) then true else (!(decide ((c5.getD default).1 = a8)))) then true else (!(decide ((c3.getD default).2.2.2.2.1 = a5)))) then true else (decide ((c3.getD default).2.2.2.1 ≠ a9))) then true else (decide ((c3.getD default).1 ≠ 0)))
        replace hT := sIf hT; obtain ⟨o1, hT⟩ := hT
        refine zReg md0 hX rfl rfl rfl ?_
        refine rThen ?_
        refine zCond rfl rfl (fun hc => ?_) (fun hc => ?_)
        · replace hT := sT hc hT
          refine rSeq ?_
          refine zReg md0 hX rfl rfl rfl ?_
          refine rThen ?_
          refine rRet ?_
          refine rThenRet ?_
          have hy := Option.some.inj hT; subst hy
          exact zEnd0 hX rfl
        · replace hT := sF hc hT
          refine rSkip ?_
          refine rThen ?_
          refine rSeq ?_
          refine rSeq ?_
          let x14 := (bif (c3.getD default).2.1 then (bif (bif (bif (!(decide (a8 = (List.replicate 384 0)))) then true else (!(decide (a5 = (List.replicate 2 0))))) then true else (decide (a9 ≠ 0))) then true else (bif (decide (a3 = 3)) then true else (decide (a3 = 4)))) else false)
          replace hT := sIf hT; obtain ⟨⟨o1, o2, o3⟩, hT⟩ := hT
          refine rRegC md0 hX rfl rfl rfl (by (repeat' first | exact True.intro | with_reducible assumption | (with_reducible apply And.intro) | intro _) <;> first | assumption | exact o1 (by assumption) | exact o2 (by assumption) | exact o3 (by assumption) | exact rfl | omega | exact Nat.le_of_ble_eq_true rfl | exact selF (by assumption) | exact selT (by assumption) | exact And.intro rfl rfl | exact And.intro (by assumption) rfl | exact And.intro (by omega) rfl | (simp only [inK] at *; omega) | (simp_all [sel] <;> fail) | fail) ?_
          refine rThen ?_
          refine zCond rfl rfl (fun hc => ?_) (fun hc => ?_)
          · replace hT := sT hc hT
            refine rSeq ?_
            refine zReg md0 hX rfl rfl rfl ?_
            refine rThen ?_
            refine rRet ?_
            refine rThenRet ?_
            have hy := Option.some.inj hT; subst hy
            exact zEnd0 hX rfl
          · replace hT := sF hc hT
            refine rSkip ?_
            refine rThen ?_
            refine rSeq ?_
            let c7 := (law36_lives N)
            let x15 := (bif ((bif (decide ((c3.getD default).2.2.1 = 3)) then true else (decide ((c3.getD default).2.2.1 = 4))) == (bif (decide (a3 = 3)) then true else (decide (a3 = 4)))) then (c7.getD default) else false)
            replace hT := sIf hT; obtain ⟨o1, hT⟩ := hT
            refine rRegC md0 hX rfl rfl rfl (by (repeat' first | exact True.intro | with_reducible assumption | (with_reducible apply And.intro) | intro _) <;> first | assumption | exact o1 (by assumption) | exact rfl | omega | exact Nat.le_of_ble_eq_true rfl | exact selF (by assumption) | exact selT (by assumption) | exact And.intro rfl rfl | exact And.intro (by assumption) rfl | exact And.intro (by omega) rfl | (simp only [inK] at *; omega) | (simp_all [sel] <;> fail) | fail) ?_
            refine rThen ?_
            refine rRet ?_
            have hy := Option.some.inj hT; subst hy
            exact zEnd0 hX rfl
  · cases h

end Go.Proofs.YtkfaebbbjahcpaaDoor
