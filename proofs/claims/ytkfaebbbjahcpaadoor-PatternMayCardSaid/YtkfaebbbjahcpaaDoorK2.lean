/- Models of functions, and that the program does what they tell. -/
import Derived.Test.YtkfaebbbjahcpaaDoorK1
set_option linter.unusedVariables false
set_option linter.unusedSimpArgs false
namespace Go.Proofs.YtkfaebbbjahcpaaDoor
open Go.X

def pattern_events_b1 (N : Nat) (a8 : (List Int)) (c1 : (Option Bool)) (s1 : (Int × (List (List (Bool × (Int × Int)))))) : Option ((Int × (List (List (Bool × (Int × Int))))) ⊕ ((List (List (Bool × (Int × Int)))) ⊕ (List (List (Bool × (Int × Int)))))) :=
  bif (decide (s1.1 < 6)) then
    if (0 : Int) ≤ s1.1 ∧ s1.1 < 6 ∧ (64 * (s1.1).toNat) + 64 ≤ 384 then
      let c2 := (scan_Told N ((a8.drop (64 * (s1.1).toNat)).take 64))
      let c3 := (runs_Events N (c2.getD default) (bif (c1.getD default) then (1 : Int) else 0))
      if c2.isSome = true ∧ c3.isSome = true then
        let x3 := (bif (decide ((c3.getD default).2 ≠ 0)) then true else (bif (decide ((bif (c1.getD default) then (1 : Int) else 0) = 1)) then (decide ((((a8.drop (64 * (s1.1).toNat)).take 64).getD 0 0) ≠ 0)) else false))
        if ((!(decide ((c3.getD default).2 ≠ 0))) = true → ((decide ((bif (c1.getD default) then (1 : Int) else 0) = 1)) = true → ((!(decide ((c3.getD default).2 ≠ 0))) && (decide ((bif (c1.getD default) then (1 : Int) else 0) = 1))) = true)) then
          bif x3 then
            some (.inr (Sum.inl s1.2))
          else
            if (0 : Int) ≤ s1.1 ∧ s1.1 < 6 ∧ (s1.1).toNat < 6 then
              if inK .i64 (s1.1 + 1) then
                some (.inl ((s1.1 + 1), (s1.2.set (s1.1).toNat (c3.getD default).1)))
              else none
            else none
        else none
      else none
    else none
  else
    some (.inr (Sum.inr s1.2))
def pattern_events (N : Nat) (a1 : Int) (a2 : Bool) (a3 : Int) (a4 : Int) (a5 : (List Int)) (a6 : (List Int)) (a7 : (List (List (Bool × (Int × Int))))) (a8 : (List Int)) : Option ((List (List (Bool × (Int × Int)))) × Bool) :=
  let c1 := (pattern_intra N a1 a2 a3 a4 a5 a6 a7)
  if c1.isSome = true then
    (iter (pattern_events_b1 N a8 c1) N (0, (List.replicate 6 []))).bind fun w1 =>
      (Sum.elim (fun v1 =>
        some (v1, false)
      )
        (fun v2 =>
          some (v2, true)
        )
      ) w1
  else none
def sp_pattern_events (N : Nat) : X.Spec := fun args lk => match args with
  | [.v (.agg [.cs [.int .i64 a1, .bool a2, .int .i64 a3, .int .i64 a4], .ints 2 .i64 a5, .ints 6 .i64 a6, .fzs 6 (.pair .bool (.pair (.int .i64) (.int .i64))) a7]), .v (.agg [.ints 384 .i64 a8])] => some ⟨(pattern_events N a1 a2 a3 a4 a5 a6 a7 a8).isSome = true, .tup [.agg [.fzs 6 (.pair .bool (.pair (.int .i64) (.int .i64))) ((pattern_events N a1 a2 a3 a4 a5 a6 a7 a8).getD default).1], .c (.bool ((pattern_events N a1 a2 a3 a4 a5 a6 a7 a8).getD default).2)], [], []⟩
  | _ => none
set_option maxRecDepth 100000 in
set_option maxHeartbeats 1000000 in
theorem ok_pattern_events (N : Nat) : FnOK Tryd.prog gt0 59 (sp_pattern_events N) := by
  refine fnOK_handed Tryd.func59 rfl (by kernel_rfl) tt_ok (ktCons (ok_runs_Events N) (ktCons (ok_scan_Told N) (ktCons (ok_pattern_intra N) (ktNil)))) ?_
  intro args lk r h hp
  unfold sp_pattern_events at h
  split at h
  · rename_i a1 a2 a3 a4 a5 a6 a7 a8
    change (List Int) at a5
    change (List Int) at a6
    change (List (List (Bool × (Int × Int)))) at a7
    change (List Int) at a8
    cases h
    obtain ⟨x, hx⟩ := Option.isSome_iff_exists.1 hp
    simp only [hx, Option.getD_some]
    refine hand0 rfl rfl (fun w0 M ε0 hX => ?_)
    refine rCount (fun hε => ?_)
    have hT : pattern_events N a1 a2 a3 a4 a5 a6 a7 a8 = some x := hx; clear hx hp; unfold pattern_events at hT
    refine rSeq ?_
    refine zReg md0 hX rfl rfl rfl ?_
    refine rThen ?_
    refine rSeq ?_
    refine zReg md0 hX rfl rfl rfl ?_
    refine rThen ?_
    refine rSeq ?_
    refine zReg md0 hX rfl rfl rfl ?_
    refine rThen ?_
    refine rSeq ?_
    refine rSeq ?_
    let c1 := (pattern_intra N a1 a2 a3 a4 a5 a6 a7)
    replace hT := sIf hT; obtain ⟨o1, hT⟩ := hT
    refine zReg md0 hX rfl rfl rfl ?_
    refine rThen ?_
    refine rJoin ⟨[(3, .v (.c (.ptr 1 0 0 0 0 0))), (4, .v (.c (.ptr 2 0 0 0 0 0))), (5, .v (.c (.bool false))), (6, .v (.c (.ptr 3 0 0 0 0 0))), (7, .v (.c (.int .i64 (bif (c1.getD default) then (1 : Int) else 0))))], [(1, .mem true 39 none (.flat [.ints 384 .i64 a8])), (2, .mem true 35 none (.flat [.fzs 6 (.pair .bool (.pair (.int .i64) (.int .i64))) (List.replicate 6 [])])), (3, .mem true 35 none (.flat [.fzs 6 (.pair .bool (.pair (.int .i64) (.int .i64))) (List.replicate 6 [])]))], 4⟩ ?_ (fun hj => ?_)
    · skip
      refine rThen ?_
      refine rSeq ?_
      refine rSeq ?_
      refine zReg md0 hX rfl rfl rfl ?_
      refine rThen ?_
      refine rBlock ?_
      replace hT := sBind hT; obtain ⟨w1, hl, hT⟩ := hT
      refine rJoinA (fun v1 => (Sum.inl v1) = w1) (fun v1 => ⟨[(4, .v (.c (.ptr 2 0 0 0 0 0))), (5, .v (.c (.bool false)))], [(2, .mem true 35 none (.flat [.fzs 6 (.pair .bool (.pair (.int .i64) (.int .i64))) v1]))], 4⟩) .ret (fun v1 hv => ?_) (fun hxs10 => ?_)
      · subst hv; clear hl; replace hT := (sElimL hT)
        refine rInRet ?_
        refine rThenRet ?_
        have hy := Option.some.inj hT; subst hy
        exact zEnd0 hX rfl
      refine rJoinA (fun v2 => (Sum.inr v2) = w1) (fun v2 => ⟨[(4, .v (.c (.ptr 2 0 0 0 0 0))), (5, .v (.c (.bool false))), (6, .v (.c (.ptr 3 0 0 0 0 0)))], [(2, .mem true 35 none (.flat [.fzs 6 (.pair .bool (.pair (.int .i64) (.int .i64))) (List.replicate 6 [])])), (3, .mem true 35 none (.flat [.fzs 6 (.pair .bool (.pair (.int .i64) (.int .i64))) v2]))], 4⟩) (.exit 0) (fun v2 hv => ?_) (fun hxs11 => ?_)
      · subst hv; clear hl; replace hT := (sElimR hT)
        refine rInHit ?_
        refine rThen ?_
        refine rSeq ?_
        refine zReg md0 hX rfl rfl rfl ?_
        refine rThen ?_
        refine rRet ?_
        have hy := Option.some.inj hT; subst hy
        exact zEnd0 hX rfl
      refine rLoopM (pattern_events_b1 N a8 c1) (fun s1 => ⟨[(4, .v (.c (.ptr 2 0 0 0 0 0))), (5, .v (.c (.bool false))), (6, .v (.c (.ptr 3 0 0 0 0 0))), (7, .v (.c (.int .i64 (bif (c1.getD default) then (1 : Int) else 0)))), (14, .v (.agg [.ints 384 .i64 a8])), (15, .v (.c (.int .i64 s1.1)))], [(2, .mem true 35 none (.flat [.fzs 6 (.pair .bool (.pair (.int .i64) (.int .i64))) (List.replicate 6 [])])), (3, .mem true 35 none (.flat [.fzs 6 (.pair .bool (.pair (.int .i64) (.int .i64))) s1.2]))], 4⟩) hl (To.mk' [] 0 hε rfl (by repeat' first | exact True.intro | exact rfl | apply And.intro) (by repeat' first | exact True.intro | exact rfl | apply And.intro)) (fun s1 zs1 NNs1 hz hnexts1 houts1 => ?_)
      clear hl hT
      have hT := hz; clear hz
      refine rSeq ?_
      refine zReg md0 hX rfl rfl rfl ?_
      refine rThen ?_
      refine rSeq ?_
      refine zCond rfl rfl (fun hc => ?_) (fun hc => ?_)
      · replace hT := sT hc hT
        refine rSkip ?_
        refine rThen ?_
        refine rSeq ?_
        refine rBlock ?_
        refine rSeq ?_
        replace hT := sIf hT; obtain ⟨⟨o1, o2, o3⟩, hT⟩ := hT
        refine zReg md0 hX rfl rfl rfl ?_
        refine rThen ?_
        refine rSeq ?_
        let c2 := (scan_Told N ((a8.drop (64 * (s1.1).toNat)).take 64))
        let c3 := (runs_Events N (c2.getD default) (bif (c1.getD default) then (1 : Int) else 0))
        replace hT := sIf hT; obtain ⟨⟨o1, o2⟩, hT⟩ := hT
        refine zReg md0 hX rfl rfl rfl ?_
        refine rThen ?_
        refine rSeq ?_
        refine rSeq ?_
        let x3 := (bif (decide ((c3.getD default).2 ≠ 0)) then true else (bif (decide ((bif (c1.getD default) then (1 : Int) else 0) = 1)) then (decide ((((a8.drop (64 * (s1.1).toNat)).take 64).getD 0 0) ≠ 0)) else false))
        replace hT := sIf hT; obtain ⟨o1, hT⟩ := hT
        refine rRegC md0 hX rfl rfl rfl (by (repeat' first | exact True.intro | with_reducible assumption | (with_reducible apply And.intro) | intro _) <;> first | assumption | exact o1 (by assumption) | exact rfl | omega | exact Nat.le_of_ble_eq_true rfl | exact selF (by assumption) | exact selT (by assumption) | exact And.intro rfl rfl | exact And.intro (by assumption) rfl | exact And.intro (by omega) rfl | (simp only [inK] at *; omega) | (simp_all [sel] <;> fail) | fail) ?_
        refine rThen ?_
        refine zCond rfl rfl (fun hc => ?_) (fun hc => ?_)
        · replace hT := sT hc hT
          refine rSeq ?_
          refine zReg md0 hX rfl rfl rfl ?_
          refine rThen ?_
          refine rRet ?_
          refine rThenRet ?_
          refine rInRet ?_
          refine rThenRet ?_
          refine rThenRet ?_
          exact zTo [] 0 hε (hxs10 _ (houts1 _ (Option.some.inj hT).symm))
        · replace hT := sF hc hT
          refine rSkip ?_
          refine rThen ?_
          replace hT := sIf hT; obtain ⟨⟨o1, o2, o3⟩, hT⟩ := hT
          refine zReg md0 hX rfl rfl rfl ?_
          refine rInNormal ?_
          refine rThen ?_
          replace hT := sIf hT; obtain ⟨o1, hT⟩ := hT
          refine zReg md0 hX rfl rfl rfl ?_
          exact hnexts1 _ (Option.some.inj hT).symm _ (To.mk' [] 0 hε rfl (by repeat' first | exact True.intro | exact rfl | apply And.intro) (by repeat' first | exact True.intro | exact rfl | apply And.intro))
      · replace hT := sF hc hT
        refine rExit ?_
        refine rThenExit ?_
        refine rThenExit ?_
        exact zTo [] 0 hε (hxs11 _ (houts1 _ (Option.some.inj hT).symm))
    · clear hT
      refine zCond rfl rfl (fun hc => ?_) (fun hc => ?_)
      · skip
        refine zReg md0 hX rfl rfl rfl ?_
        exact rTo (To.mk' [] 0 hε rfl (by (repeat' first | exact True.intro | exact rfl | apply And.intro) <;> (repeat' first | exact rfl | refine Eq.trans ?_ (cTr (by assumption)) | refine Eq.trans ?_ (cFr (by assumption)) | refine Eq.trans (cTl (by assumption)) ?_ | refine Eq.trans (cFl (by assumption)) ?_)) (by (repeat' first | exact True.intro | exact rfl | apply And.intro) <;> (repeat' first | exact rfl | refine Eq.trans ?_ (cTr (by assumption)) | refine Eq.trans ?_ (cFr (by assumption)) | refine Eq.trans (cTl (by assumption)) ?_ | refine Eq.trans (cFl (by assumption)) ?_))) hj
      · skip
        refine rSkip ?_
        exact rTo (To.mk' [] 0 hε rfl (by (repeat' first | exact True.intro | exact rfl | apply And.intro) <;> (repeat' first | exact rfl | refine Eq.trans ?_ (cTr (by assumption)) | refine Eq.trans ?_ (cFr (by assumption)) | refine Eq.trans (cTl (by assumption)) ?_ | refine Eq.trans (cFl (by assumption)) ?_)) (by (repeat' first | exact True.intro | exact rfl | apply And.intro) <;> (repeat' first | exact rfl | refine Eq.trans ?_ (cTr (by assumption)) | refine Eq.trans ?_ (cFr (by assumption)) | refine Eq.trans (cTl (by assumption)) ?_ | refine Eq.trans (cFl (by assumption)) ?_))) hj
  · cases h
def pattern_Empty (N : Nat) (a1 : (List Int)) : Option Bool :=
  some (decide (a1 = (List.replicate 384 0)))
def sp_pattern_Empty (N : Nat) : X.Spec := fun args lk => match args with
  | [.v (.agg [.ints 384 .i64 a1])] => some ⟨(pattern_Empty N a1).isSome = true, .v (.c (.bool ((pattern_Empty N a1).getD default))), [], []⟩
  | _ => none
set_option maxRecDepth 100000 in
set_option maxHeartbeats 1000000 in
theorem ok_pattern_Empty (N : Nat) : FnOK Tryd.prog gt0 19 (sp_pattern_Empty N) := by
  refine fnOK_handed Tryd.func19 rfl (by kernel_rfl) tt_ok (ktNil) ?_
  intro args lk r h hp
  unfold sp_pattern_Empty at h
  split at h
  · rename_i a1
    change (List Int) at a1
    cases h
    obtain ⟨x, hx⟩ := Option.isSome_iff_exists.1 hp
    simp only [hx, Option.getD_some]
    refine hand0 rfl rfl (fun w0 M ε0 hX => ?_)
    refine rCount (fun hε => ?_)
    have hT : pattern_Empty N a1 = some x := hx; clear hx hp; unfold pattern_Empty at hT
    refine rSeq ?_
    refine zReg md0 hX rfl rfl rfl ?_
    refine rThen ?_
    refine rSeq ?_
    refine zReg md0 hX rfl rfl rfl ?_
    refine rThen ?_
    refine rRet ?_
    have hy := Option.some.inj hT; subst hy
    exact zEnd0 hX rfl
  · cases h
def pattern_kind (N : Nat) (a1 : Int) (a2 : Bool) (a3 : Int) (a4 : Int) (a5 : (List Int)) (a6 : (List Int)) (a7 : (List (List (Bool × (Int × Int))))) (a8 : Int) : Option Int :=
  let c1 := (pattern_intra N a1 a2 a3 a4 a5 a6 a7)
  if c1.isSome = true then
    bif (bif (c1.getD default) then (decide (a8 ≠ 0)) else false) then
      some 4
    else
      let c2 := (pattern_intra N a1 a2 a3 a4 a5 a6 a7)
      if c2.isSome = true then
        bif (c2.getD default) then
          some 3
        else
          bif (decide (a8 ≠ 0)) then
            some 1
          else
            some 0
      else none
  else none
def sp_pattern_kind (N : Nat) : X.Spec := fun args lk => match args with
  | [.v (.agg [.cs [.int .i64 a1, .bool a2, .int .i64 a3, .int .i64 a4], .ints 2 .i64 a5, .ints 6 .i64 a6, .fzs 6 (.pair .bool (.pair (.int .i64) (.int .i64))) a7]), .v (.c (.int .i64 a8))] => some ⟨(pattern_kind N a1 a2 a3 a4 a5 a6 a7 a8).isSome = true, .v (.c (.int .i64 ((pattern_kind N a1 a2 a3 a4 a5 a6 a7 a8).getD default))), [], []⟩
  | _ => none
set_option maxRecDepth 100000 in
set_option maxHeartbeats 1000000 in
theorem ok_pattern_kind (N : Nat) : FnOK Tryd.prog gt0 61 (sp_pattern_kind N) := by
  refine fnOK_handed Tryd.func61 rfl (by kernel_rfl) tt_ok (ktCons (ok_pattern_intra N) (ktNil)) ?_
  intro args lk r h hp
  unfold sp_pattern_kind at h
  split at h
  · rename_i a1 a2 a3 a4 a5 a6 a7 a8
    change (List Int) at a5
    change (List Int) at a6
    change (List (List (Bool × (Int × Int)))) at a7
    cases h
    obtain ⟨x, hx⟩ := Option.isSome_iff_exists.1 hp
    simp only [hx, Option.getD_some]
    refine hand0 rfl rfl (fun w0 M ε0 hX => ?_)
    refine rCount (fun hε => ?_)
    have hT : pattern_kind N a1 a2 a3 a4 a5 a6 a7 a8 = some x := hx; clear hx hp; unfold pattern_kind at hT
    refine rSeq ?_
    refine zReg md0 hX rfl rfl rfl ?_
    refine rThen ?_
    refine rSeq ?_
    refine rBlock ?_
    refine rSeq ?_
    let c1 := (pattern_intra N a1 a2 a3 a4 a5 a6 a7)
    replace hT := sIf hT; obtain ⟨o1, hT⟩ := hT
    refine zReg md0 hX rfl rfl rfl ?_
    refine rThen ?_
    refine zCond rfl rfl (fun hc => ?_) (fun hc => ?_)
    · replace hT := sT hc hT
      refine rSeq ?_
      refine zReg md0 hX rfl rfl rfl ?_
      refine rThen ?_
      refine rRet ?_
      refine rInRet ?_
      refine rThenRet ?_
      have hy := Option.some.inj hT; subst hy
      exact zEnd0 hX rfl
    · replace hT := sF hc hT
      refine rSeq ?_
      let c2 := (pattern_intra N a1 a2 a3 a4 a5 a6 a7)
      replace hT := sIf hT; obtain ⟨o1, hT⟩ := hT
      refine zReg md0 hX rfl rfl rfl ?_
      refine rThen ?_
      refine zCond rfl rfl (fun hc => ?_) (fun hc => ?_)
      · replace hT := sT hc hT
        refine rSeq ?_
        refine zReg md0 hX rfl rfl rfl ?_
        refine rThen ?_
        refine rRet ?_
        refine rInRet ?_
        refine rThenRet ?_
        have hy := Option.some.inj hT; subst hy
        exact zEnd0 hX rfl
      · replace hT := sF hc hT
        refine rSeq ?_
        refine zReg md0 hX rfl rfl rfl ?_
        refine rThen ?_
        refine zCond rfl rfl (fun hc => ?_) (fun hc => ?_)
        · replace hT := sT hc hT
          refine rSeq ?_
          refine zReg md0 hX rfl rfl rfl ?_
          refine rThen ?_
          refine rRet ?_
          refine rInRet ?_
          refine rThenRet ?_
          have hy := Option.some.inj hT; subst hy
          exact zEnd0 hX rfl
        · replace hT := sF hc hT
          refine rSkip ?_
          refine rInNormal ?_
          refine rThen ?_
          refine rSeq ?_
          refine zReg md0 hX rfl rfl rfl ?_
          refine rThen ?_
          refine rRet ?_
          have hy := Option.some.inj hT; subst hy
          exact zEnd0 hX rfl
  · cases h
def pattern_Cell (N : Nat) (a1 : Int) (a2 : Bool) (a3 : Int) (a4 : Int) (a5 : (List Int)) (a6 : (List Int)) (a7 : (List (List (Bool × (Int × Int))))) (a8 : (List Int)) (a9 : Int) : Option (Int × Bool × Int × Int × (List Int) × (List Int) × (List (List (Bool × (Int × Int)))) × Int) :=
  let c1 := (cellout_Right N true a1 a2 a3 a4 a5 a6 a7)
  if c1.isSome = true then
    bif (!(c1.getD default)) then
      some (0, false, 0, 0, (List.replicate 2 0), (List.replicate 6 0), (List.replicate 6 []), 12)
    else
      let c2 := (steps_Row N a9)
      if c2.isSome = true then
        bif (bif (!(c2.getD default).2) then (decide (a9 ≠ 0)) else false) then
          some (0, false, 0, 0, (List.replicate 2 0), (List.replicate 6 0), (List.replicate 6 []), 9)
        else
          let c3 := (pattern_events N a1 a2 a3 a4 a5 a6 a7 a8)
          if c3.isSome = true then
            bif (!(c3.getD default).2) then
              some (0, false, 0, 0, (List.replicate 2 0), (List.replicate 6 0), (List.replicate 6 []), 7)
            else
              let c4 := (pattern_intra N a1 a2 a3 a4 a5 a6 a7)
              let c5 := (pattern_Empty N a8)
              let x2 := (bif (bif (bif (!(c4.getD default)) then (c5.getD default) else false) then (decide (a5 = (List.replicate 2 0))) else false) then (decide (a9 = 0)) else false)
              if c4.isSome = true ∧ ((!(c4.getD default)) = true → c5.isSome = true) then
                bif x2 then
                  some (0, true, 0, 0, (List.replicate 2 0), (List.replicate 6 0), (List.replicate 6 []), 0)
                else
                  let c6 := (pattern_kind N a1 a2 a3 a4 a5 a6 a7 a9)
                  if c6.isSome = true then
                    some (0, false, (c6.getD default), a9, a5, a6, (c3.getD default).1, 0)
                  else none
              else none
          else none
      else none
  else none
def sp_pattern_Cell (N : Nat) : X.Spec := fun args lk => match args with
  | [.v (.agg [.cs [.int .i64 a1, .bool a2, .int .i64 a3, .int .i64 a4], .ints 2 .i64 a5, .ints 6 .i64 a6, .fzs 6 (.pair .bool (.pair (.int .i64) (.int .i64))) a7]), .v (.agg [.ints 384 .i64 a8]), .v (.c (.int .i64 a9))] => some ⟨(pattern_Cell N a1 a2 a3 a4 a5 a6 a7 a8 a9).isSome = true, .tup [.agg [.cs [.int .i64 ((pattern_Cell N a1 a2 a3 a4 a5 a6 a7 a8 a9).getD default).1, .bool ((pattern_Cell N a1 a2 a3 a4 a5 a6 a7 a8 a9).getD default).2.1, .int .i64 ((pattern_Cell N a1 a2 a3 a4 a5 a6 a7 a8 a9).getD default).2.2.1, .int .i64 ((pattern_Cell N a1 a2 a3 a4 a5 a6 a7 a8 a9).getD default).2.2.2.1], .ints 2 .i64 ((pattern_Cell N a1 a2 a3 a4 a5 a6 a7 a8 a9).getD default).2.2.2.2.1, .ints 6 .i64 ((pattern_Cell N a1 a2 a3 a4 a5 a6 a7 a8 a9).getD default).2.2.2.2.2.1, .fzs 6 (.pair .bool (.pair (.int .i64) (.int .i64))) ((pattern_Cell N a1 a2 a3 a4 a5 a6 a7 a8 a9).getD default).2.2.2.2.2.2.1], .c (.int .i64 ((pattern_Cell N a1 a2 a3 a4 a5 a6 a7 a8 a9).getD default).2.2.2.2.2.2.2)], [], []⟩
  | _ => none
set_option maxRecDepth 100000 in
set_option maxHeartbeats 1000000 in
theorem ok_pattern_Cell (N : Nat) : FnOK Tryd.prog gt0 18 (sp_pattern_Cell N) := by
  refine fnOK_handed Tryd.func18 rfl (by kernel_rfl) tt_ok (ktCons (ok_pattern_kind N) (ktCons (ok_pattern_Empty N) (ktCons (ok_pattern_intra N) (ktCons (ok_pattern_events N) (ktCons (ok_steps_Row N) (ktCons (ok_cellout_Right N) (ktNil))))))) ?_
  intro args lk r h hp
  unfold sp_pattern_Cell at h
  split at h
  · rename_i a1 a2 a3 a4 a5 a6 a7 a8 a9
    change (List Int) at a5
    change (List Int) at a6
    change (List (List (Bool × (Int × Int)))) at a7
    change (List Int) at a8
    cases h
    obtain ⟨x, hx⟩ := Option.isSome_iff_exists.1 hp
    simp only [hx, Option.getD_some]
    refine hand0 rfl rfl (fun w0 M ε0 hX => ?_)
    refine rCount (fun hε => ?_)
    have hT : pattern_Cell N a1 a2 a3 a4 a5 a6 a7 a8 a9 = some x := hx; clear hx hp; unfold pattern_Cell at hT
    refine rSeq ?_
    refine zReg md0 hX rfl rfl rfl ?_
    refine rThen ?_
    refine rSeq ?_
    refine rSeq ?_
    let c1 := (cellout_Right N true a1 a2 a3 a4 a5 a6 a7)
    replace hT := sIf hT; obtain ⟨o1, hT⟩ := hT
    refine zReg md0 hX rfl rfl rfl ?_
    refine rThen ?_
    refine zCond rfl rfl (fun hc => ?_) (fun hc => ?_)
    · replace hT := sT hc hT
      refine rSeq ?_
      refine zReg md0 hX rfl rfl rfl ?_
      refine rThen ?_
      refine rRet ?_
      refine rThenRet ?_
      have hy := Option.some.inj hT; subst hy
      exact zEnd0 hX rfl
    · replace hT := sF hc hT
      refine rSkip ?_
      refine rThen ?_
      refine rSeq ?_
      refine rSeq ?_
      let c2 := (steps_Row N a9)
      replace hT := sIf hT; obtain ⟨o1, hT⟩ := hT
      refine zReg md0 hX rfl rfl rfl ?_
      refine rThen ?_
      refine rSeq ?_
      refine zReg md0 hX rfl rfl rfl ?_
      refine rThen ?_
      refine zCond rfl rfl (fun hc => ?_) (fun hc => ?_)
      · replace hT := sT hc hT
        refine rSeq ?_
        refine zReg md0 hX rfl rfl rfl ?_
        refine rThen ?_
        refine rRet ?_
        refine rThenRet ?_
        have hy := Option.some.inj hT; subst hy
        exact zEnd0 hX rfl
      · replace hT := sF hc hT
        refine rSkip ?_
        refine rThen ?_
        refine rSeq ?_
        let c3 := (pattern_events N a1 a2 a3 a4 a5 a6 a7 a8)
        replace hT := sIf hT; obtain ⟨o1, hT⟩ := hT
        refine zReg md0 hX rfl rfl rfl ?_
        refine rThen ?_
        refine rSeq ?_
        refine rBlock ?_
        refine rSeq ?_
        refine zReg md0 hX rfl rfl rfl ?_
        refine rThen ?_
        refine zCond rfl rfl (fun hc => ?_) (fun hc => ?_)
        · replace hT := sT hc hT
          refine rSeq ?_
          refine zReg md0 hX rfl rfl rfl ?_
          refine rThen ?_
          refine rRet ?_
          refine rInRet ?_
          refine rThenRet ?_
          have hy := Option.some.inj hT; subst hy
          exact zEnd0 hX rfl
        · replace hT := sF hc hT
          refine rSeq ?_
          let c4 := (pattern_intra N a1 a2 a3 a4 a5 a6 a7)
          let c5 := (pattern_Empty N a8)
          let x2 := (bif (bif (bif (!(c4.getD default)) then (c5.getD default) else false) then (decide (a5 = (List.replicate 2 0))) else false) then (decide (a9 = 0)) else false)
          replace hT := sIf hT; obtain ⟨⟨o1, o2⟩, hT⟩ := hT
          refine rRegC md0 hX rfl rfl rfl (by (repeat' first | exact True.intro | with_reducible assumption | (with_reducible apply And.intro) | intro _) <;> first | assumption | exact o2 (by assumption) | exact rfl | omega | exact Nat.le_of_ble_eq_true rfl | exact selF (by assumption) | exact selT (by assumption) | exact And.intro rfl rfl | exact And.intro (by assumption) rfl | exact And.intro (by omega) rfl | (simp only [inK] at *; omega) | (simp_all [sel] <;> fail) | fail) ?_
          refine rThen ?_
          refine zCond rfl rfl (fun hc => ?_) (fun hc => ?_)
          · replace hT := sT hc hT
            refine rSeq ?_
            refine zReg md0 hX rfl rfl rfl ?_
            refine rThen ?_
            refine rRet ?_
            refine rInRet ?_
            refine rThenRet ?_
            have hy := Option.some.inj hT; subst hy
            exact zEnd0 hX rfl
          · replace hT := sF hc hT
            refine rSkip ?_
            refine rInNormal ?_
            refine rThen ?_
            refine rSeq ?_
            let c6 := (pattern_kind N a1 a2 a3 a4 a5 a6 a7 a9)
            replace hT := sIf hT; obtain ⟨o1, hT⟩ := hT
            refine zDraw md0 1 [10] hX mixed rfl rfl rfl rfl rfl ?_
            refine rThen ?_
            refine rRet ?_
            have hy := Option.some.inj hT; subst hy
            exact zEnd0 hX rfl
  · cases h
def law36_lives (N : Nat) : Option Bool :=
  let c1 := (pattern_Cell N 0 true 0 0 (List.replicate 2 0) (List.replicate 6 0) (List.replicate 6 []) (List.replicate 384 0) 0)
  if c1.isSome = true then
    let c2 := (pattern_Cell N 0 true 0 0 (List.replicate 2 0) (List.replicate 6 0) (List.replicate 6 []) (List.replicate 384 0) 1)
    if c2.isSome = true then
      let c3 := (pattern_Empty N (List.replicate 384 0))
      let x1 := (bif (bif (bif (bif (bif (bif (c1.getD default).2.1 then (decide ((c1.getD default).2.2.2.2.2.2.2 = 0)) else false) then (decide ((c2.getD default).2.2.1 = 1)) else false) then (decide ((c2.getD default).2.2.2.1 = 1)) else false) then (!(c2.getD default).2.1) else false) then (decide ((c2.getD default).2.2.2.2.2.2.2 = 0)) else false) then (c3.getD default) else false)
      if ((bif (bif (bif (bif (bif (c1.getD default).2.1 then (decide ((c1.getD default).2.2.2.2.2.2.2 = 0)) else false) then (decide ((c2.getD default).2.2.1 = 1)) else false) then (decide ((c2.getD default).2.2.2.1 = 1)) else false) then (!(c2.getD default).2.1) else false) then (decide ((c2.getD default).2.2.2.2.2.2.2 = 0)) else false) = true → c3.isSome = true) then
        some x1
      else none
    else none
  else none
def sp_law36_lives (N : Nat) : X.Spec := fun args lk => match args with
  | [] => some ⟨(law36_lives N).isSome = true, .v (.c (.bool ((law36_lives N).getD default))), [], []⟩
  | _ => none
set_option maxRecDepth 100000 in
set_option maxHeartbeats 1000000 in
theorem ok_law36_lives (N : Nat) : FnOK Tryd.prog gt0 17 (sp_law36_lives N) := by
  refine fnOK_handed Tryd.func17 rfl (by kernel_rfl) tt_ok (ktCons (ok_pattern_Empty N) (ktCons (ok_pattern_Cell N) (ktNil))) ?_
  intro args lk r h hp
  unfold sp_law36_lives at h
  split at h
  · skip
    cases h
    obtain ⟨x, hx⟩ := Option.isSome_iff_exists.1 hp
    simp only [hx, Option.getD_some]
    refine hand0 rfl rfl (fun w0 M ε0 hX => ?_)
    refine rCount (fun hε => ?_)
    have hT : law36_lives N = some x := hx; clear hx hp; unfold law36_lives at hT
    refine rSeq ?_
    refine zReg md0 hX rfl rfl rfl ?_
    refine rThen ?_
    refine rSeq ?_
    let c1 := (pattern_Cell N 0 true 0 0 (List.replicate 2 0) (List.replicate 6 0) (List.replicate 6 []) (List.replicate 384 0) 0)
    replace hT := sIf hT; obtain ⟨o1, hT⟩ := hT
    refine zReg md0 hX rfl rfl rfl ?_
    refine rThen ?_
    refine rSeq ?_
    let c2 := (pattern_Cell N 0 true 0 0 (List.replicate 2 0) (List.replicate 6 0) (List.replicate 6 []) (List.replicate 384 0) 1)
    replace hT := sIf hT; obtain ⟨o1, hT⟩ := hT
    refine zReg md0 hX rfl rfl rfl ?_
    refine rThen ?_
    refine rSeq ?_
    let c3 := (pattern_Empty N (List.replicate 384 0))
    let x1 := (bif (bif (bif (bif (bif (bif (c1.getD default).2.1 then (decide ((c1.getD default).2.2.2.2.2.2.2 = 0)) else false) then (decide ((c2.getD default).2.2.1 = 1)) else false) then (decide ((c2.getD default).2.2.2.1 = 1)) else false) then (!(c2.getD default).2.1) else false) then (decide ((c2.getD default).2.2.2.2.2.2.2 = 0)) else false) then (c3.getD default) else false)
    replace hT := sIf hT; obtain ⟨o1, hT⟩ := hT
    refine rRegC md0 hX rfl rfl rfl (by (repeat' first | exact True.intro | with_reducible assumption | (with_reducible apply And.intro) | intro _) <;> first | assumption | exact o1 (by assumption) | exact rfl | omega | exact Nat.le_of_ble_eq_true rfl | exact selF (by assumption) | exact selT (by assumption) | exact And.intro rfl rfl | exact And.intro (by assumption) rfl | exact And.intro (by omega) rfl | (simp only [inK] at *; omega) | (simp_all [sel] <;> fail) | fail) ?_
    refine rThen ?_
    refine rRet ?_
    have hy := Option.some.inj hT; subst hy
    exact zEnd0 hX rfl
  · cases h
def ref36_Empty_b2 (N : Nat) (a1 : (List Int)) (s1 : Int) (s2 : Int) : Option (Int ⊕ (Unit ⊕ (Int × Int × Bool))) :=
  bif (decide (s2 < 64)) then
    if (0 : Int) ≤ s1 ∧ s1 < 6 ∧ (0 : Int) ≤ s2 ∧ s2 < 64 ∧ ((s1).toNat * 64 + (s2).toNat) < 384 then
      bif (decide ((a1.getD ((s1).toNat * 64 + (s2).toNat) 0) ≠ 0)) then
        some (.inr (Sum.inl ()))
      else
        if inK .i64 (s2 + 1) then
          some (.inl (s2 + 1))
        else none
    else none
  else
    some (.inr (Sum.inr (s2, s2, (decide (s2 < 64)))))
def ref36_Empty_b1 (N : Nat) (a1 : (List Int)) (s1 : Int) : Option (Int ⊕ (Unit ⊕ Unit)) :=
  bif (decide (s1 < 6)) then
    (iter (ref36_Empty_b2 N a1 s1) N 0).bind fun w2 =>
      (Sum.elim (fun v3 =>
        some (.inr (Sum.inl ()))
      )
        (fun v4 =>
          if inK .i64 (s1 + 1) then
            some (.inl (s1 + 1))
          else none
        )
      ) w2
  else
    some (.inr (Sum.inr ()))
def ref36_Empty (N : Nat) (a1 : (List Int)) : Option Bool :=
  (iter (ref36_Empty_b1 N a1) N 0).bind fun w1 =>
    (Sum.elim (fun v1 =>
      some false
    )
      (fun v2 =>
        some true
      )
    ) w1
def sp_ref36_Empty (N : Nat) : X.Spec := fun args lk => match args with
  | [.v (.agg [.ints 384 .i64 a1])] => some ⟨(ref36_Empty N a1).isSome = true, .v (.c (.bool ((ref36_Empty N a1).getD default))), [], []⟩
  | _ => none
set_option maxRecDepth 100000 in
set_option maxHeartbeats 1000000 in
theorem ok_ref36_Empty (N : Nat) : FnOK Tryd.prog gt0 20 (sp_ref36_Empty N) := by
  refine fnOK_handed Tryd.func20 rfl (by kernel_rfl) tt_ok (ktNil) ?_
  intro args lk r h hp
  unfold sp_ref36_Empty at h
  split at h
  · rename_i a1
    change (List Int) at a1
    cases h
    obtain ⟨x, hx⟩ := Option.isSome_iff_exists.1 hp
    simp only [hx, Option.getD_some]
    refine hand0 rfl rfl (fun w0 M ε0 hX => ?_)
    refine rCount (fun hε => ?_)
    have hT : ref36_Empty N a1 = some x := hx; clear hx hp; unfold ref36_Empty at hT
    refine rSeq ?_
    refine zReg md0 hX rfl rfl rfl ?_
    refine rThen ?_
    refine rSeq ?_
    refine rSeq ?_
    refine zReg md0 hX rfl rfl rfl ?_
    refine rThen ?_
    refine rBlock ?_
    replace hT := sBind hT; obtain ⟨w1, hl, hT⟩ := hT
    refine rJoinA (fun v1 => (Sum.inl v1) = w1) (fun v1 => ⟨[(2, .v (.c (.bool false)))], [], 1⟩) .ret (fun v1 hv => ?_) (fun hxs10 => ?_)
    · subst hv; clear hl; replace hT := (sElimL hT)
      refine rInRet ?_
      refine rThenRet ?_
      have hy := Option.some.inj hT; subst hy
      exact zEnd0 hX rfl
    refine rJoinA (fun v2 => (Sum.inr v2) = w1) (fun v2 => ⟨[(2, .v (.c (.bool false)))], [], 1⟩) (.exit 0) (fun v2 hv => ?_) (fun hxs11 => ?_)
    · subst hv; clear hl; replace hT := (sElimR hT)
      refine rInHit ?_
      refine rThen ?_
      refine rSeq ?_
      refine zReg md0 hX rfl rfl rfl ?_
      refine rThen ?_
      refine rRet ?_
      have hy := Option.some.inj hT; subst hy
      exact zEnd0 hX rfl
    refine rLoopM (ref36_Empty_b1 N a1) (fun s1 => ⟨[(1, .v (.c (.ptr 0 0 0 0 0 0))), (2, .v (.c (.bool false))), (3, .v (.c (.int .i64 s1)))], [(0, .mem true 39 none (.flat [.ints 384 .i64 a1]))], 1⟩) hl (To.mk' [] 0 hε rfl (by repeat' first | exact True.intro | exact rfl | apply And.intro) (by repeat' first | exact True.intro | exact rfl | apply And.intro)) (fun s1 zs1 NNs1 hz hnexts1 houts1 => ?_)
    clear hl hT
    have hT := hz; clear hz
    refine rSeq ?_
    refine rSeq ?_
    refine zReg md0 hX rfl rfl rfl ?_
    refine rThen ?_
    refine zCond rfl rfl (fun hc => ?_) (fun hc => ?_)
    · replace hT := sT hc hT
      refine rSkip ?_
      refine rThen ?_
      refine rSeq ?_
      refine rBlock ?_
      refine rSeq ?_
      refine zReg md0 hX rfl rfl rfl ?_
      refine rThen ?_
      refine rBlock ?_
      replace hT := sBind hT; obtain ⟨w2, hl, hT⟩ := hT
      refine rJoinA (fun v3 => (Sum.inl v3) = w2) (fun v3 => ⟨[(2, .v (.c (.bool false)))], [], 1⟩) .ret (fun v3 hv => ?_) (fun hxs20 => ?_)
      · subst hv; clear hl; replace hT := (sElimL hT)
        refine rInRet ?_
        refine rInRet ?_
        refine rThenRet ?_
        refine rThenRet ?_
        exact zTo [] 0 hε (hxs10 _ (houts1 _ (Option.some.inj hT).symm))
      refine rJoinA (fun v4 => (Sum.inr v4) = w2) (fun v4 => ⟨[(1, .v (.c (.ptr 0 0 0 0 0 0))), (2, .v (.c (.bool false))), (3, .v (.c (.int .i64 s1))), (4, .v (.c (.int .i64 v4.1))), (5, .v (.c (.int .i64 s1))), (6, .v (.c (.bool (decide (s1 < 6))))), (9, .v (.c (.int .i64 v4.2.1))), (10, .v (.c (.bool v4.2.2)))], [(0, .mem true 39 none (.flat [.ints 384 .i64 a1]))], 1⟩) (.exit 2) (fun v4 hv => ?_) (fun hxs21 => ?_)
      · subst hv; clear hl; replace hT := (sElimR hT)
        refine rInHit ?_
        refine rInNormal ?_
        refine rThen ?_
        replace hT := sIf hT; obtain ⟨o1, hT⟩ := hT
        refine zReg md0 hX rfl rfl rfl ?_
        exact hnexts1 _ (Option.some.inj hT).symm _ (To.mk' [] 0 hε rfl (by repeat' first | exact True.intro | exact rfl | apply And.intro) (by repeat' first | exact True.intro | exact rfl | apply And.intro))
      refine rLoopM (ref36_Empty_b2 N a1 s1) (fun s2 => ⟨[(1, .v (.c (.ptr 0 0 0 0 0 0))), (2, .v (.c (.bool false))), (3, .v (.c (.int .i64 s1))), (4, .v (.c (.int .i64 s2))), (5, .v (.c (.int .i64 s1))), (6, .v (.c (.bool (decide (s1 < 6)))))], [(0, .mem true 39 none (.flat [.ints 384 .i64 a1]))], 1⟩) hl (To.mk' [] 0 hε rfl (by repeat' first | exact True.intro | exact rfl | apply And.intro) (by repeat' first | exact True.intro | exact rfl | apply And.intro)) (fun s2 zs2 NNs2 hz hnexts2 houts2 => ?_)
      clear hl hT
      have hT := hz; clear hz
      refine rSeq ?_
      refine rSeq ?_
      refine zReg md0 hX rfl rfl rfl ?_
      refine rThen ?_
      refine zCond rfl rfl (fun hc => ?_) (fun hc => ?_)
      · replace hT := sT hc hT
        refine rSkip ?_
        refine rThen ?_
        refine rSeq ?_
        refine rBlock ?_
        refine rSeq ?_
        replace hT := sIf hT; obtain ⟨⟨o1, o2, o3, o4, o5⟩, hT⟩ := hT
        refine zReg md0 hX rfl rfl rfl ?_
        refine rThen ?_
        refine zCond rfl rfl (fun hc => ?_) (fun hc => ?_)
        · replace hT := sT hc hT
          refine rSeq ?_
          refine zReg md0 hX rfl rfl rfl ?_
          refine rThen ?_
          refine rRet ?_
          refine rInRet ?_
          refine rThenRet ?_
          refine rThenRet ?_
          exact zTo [] 0 hε (hxs20 _ (houts2 _ (Option.some.inj hT).symm))
        · replace hT := sF hc hT
          refine rSkip ?_
          refine rInNormal ?_
          refine rThen ?_
          replace hT := sIf hT; obtain ⟨o1, hT⟩ := hT
          refine zReg md0 hX rfl rfl rfl ?_
          exact hnexts2 _ (Option.some.inj hT).symm _ (To.mk' [] 0 hε rfl (by repeat' first | exact True.intro | exact rfl | apply And.intro) (by repeat' first | exact True.intro | exact rfl | apply And.intro))
      · replace hT := sF hc hT
        refine rExit ?_
        refine rThenExit ?_
        refine rThenExit ?_
        exact zTo [] 0 hε (hxs21 _ (houts2 _ (Option.some.inj hT).symm))
    · replace hT := sF hc hT
      refine rExit ?_
      refine rThenExit ?_
      refine rThenExit ?_
      exact zTo [] 0 hε (hxs11 _ (houts1 _ (Option.some.inj hT).symm))
  · cases h
def ref22_zero_b1 (N : Nat) (a6 : (List Int)) (a7 : (List (List (Bool × (Int × Int))))) (s1 : Int) : Option (Int ⊕ (Unit ⊕ Unit)) :=
  bif (decide (s1 < 6)) then
    let x3 := (bif (decide ((0 : Int) < ((a7.getD (s1).toNat []).length : Int))) then true else (decide ((a6.getD (s1).toNat 0) ≠ 0)))
    if (0 : Int) ≤ s1 ∧ s1 < 6 ∧ (s1).toNat < 6 ∧ ((!(decide ((0 : Int) < ((a7.getD (s1).toNat []).length : Int)))) = true → (0 : Int) ≤ s1) ∧ ((!(decide ((0 : Int) < ((a7.getD (s1).toNat []).length : Int)))) = true → s1 < 6) ∧ ((!(decide ((0 : Int) < ((a7.getD (s1).toNat []).length : Int)))) = true → (s1).toNat < 6) then
      bif x3 then
        some (.inr (Sum.inl ()))
      else
        if inK .i64 (s1 + 1) then
          some (.inl (s1 + 1))
        else none
    else none
  else
    some (.inr (Sum.inr ()))
def ref22_zero (N : Nat) (a1 : Int) (a2 : Bool) (a3 : Int) (a4 : Int) (a5 : (List Int)) (a6 : (List Int)) (a7 : (List (List (Bool × (Int × Int))))) : Option Bool :=
  (iter (ref22_zero_b1 N a6 a7) N 0).bind fun w1 =>
    (Sum.elim (fun v1 =>
      some false
    )
      (fun v2 =>
        let x1 := (bif (bif (bif (decide (a3 = 0)) then (decide (a4 = 0)) else false) then (decide ((a5.getD 0 0) = 0)) else false) then (decide ((a5.getD 1 0) = 0)) else false)
        some x1
      )
    ) w1
def sp_ref22_zero (N : Nat) : X.Spec := fun args lk => match args with
  | [.v (.agg [.cs [.int .i64 a1, .bool a2, .int .i64 a3, .int .i64 a4], .ints 2 .i64 a5, .ints 6 .i64 a6, .fzs 6 (.pair .bool (.pair (.int .i64) (.int .i64))) a7])] => some ⟨(ref22_zero N a1 a2 a3 a4 a5 a6 a7).isSome = true, .v (.c (.bool ((ref22_zero N a1 a2 a3 a4 a5 a6 a7).getD default))), [], []⟩
  | _ => none
set_option maxRecDepth 100000 in
set_option maxHeartbeats 1000000 in
theorem ok_ref22_zero (N : Nat) : FnOK Tryd.prog gt0 62 (sp_ref22_zero N) := by
  refine fnOK_handed Tryd.func62 rfl (by kernel_rfl) tt_ok (ktNil) ?_
  intro args lk r h hp
  unfold sp_ref22_zero at h
  split at h
  · rename_i a1 a2 a3 a4 a5 a6 a7
    change (List Int) at a5
    change (List Int) at a6
    change (List (List (Bool × (Int × Int)))) at a7
    cases h
    obtain ⟨x, hx⟩ := Option.isSome_iff_exists.1 hp
    simp only [hx, Option.getD_some]
    refine hand0 rfl rfl (fun w0 M ε0 hX => ?_)
    refine rCount (fun hε => ?_)
    have hT : ref22_zero N a1 a2 a3 a4 a5 a6 a7 = some x := hx; clear hx hp; unfold ref22_zero at hT
    refine rSeq ?_
    refine zReg md0 hX rfl rfl rfl ?_
    refine rThen ?_
    refine rSeq ?_
    refine rSeq ?_
    refine zReg md0 hX rfl rfl rfl ?_
    refine rThen ?_
    refine rBlock ?_
    replace hT := sBind hT; obtain ⟨w1, hl, hT⟩ := hT
    refine rJoinA (fun v1 => (Sum.inl v1) = w1) (fun v1 => ⟨[(2, .v (.c (.bool false)))], [], 1⟩) .ret (fun v1 hv => ?_) (fun hxs10 => ?_)
    · subst hv; clear hl; replace hT := (sElimL hT)
      refine rInRet ?_
      refine rThenRet ?_
      have hy := Option.some.inj hT; subst hy
      exact zEnd0 hX rfl
    refine rJoinA (fun v2 => (Sum.inr v2) = w1) (fun v2 => ⟨[(1, .v (.c (.ptr 0 0 0 0 0 0))), (2, .v (.c (.bool false)))], [(0, .mem true 37 none (.flat [.cs [.int .i64 a1, .bool a2, .int .i64 a3, .int .i64 a4], .ints 2 .i64 a5, .ints 6 .i64 a6, .fzs 6 (.pair .bool (.pair (.int .i64) (.int .i64))) a7]))], 1⟩) (.exit 0) (fun v2 hv => ?_) (fun hxs11 => ?_)
    · subst hv; clear hl; replace hT := (sElimR hT)
      refine rInHit ?_
      refine rThen ?_
      refine rSeq ?_
      let x1 := (bif (bif (bif (decide (a3 = 0)) then (decide (a4 = 0)) else false) then (decide ((a5.getD 0 0) = 0)) else false) then (decide ((a5.getD 1 0) = 0)) else false)
      refine zReg md0 hX rfl rfl rfl ?_
      refine rThen ?_
      refine rRet ?_
      have hy := Option.some.inj hT; subst hy
      exact zEnd0 hX rfl
    refine rLoopM (ref22_zero_b1 N a6 a7) (fun s1 => ⟨[(1, .v (.c (.ptr 0 0 0 0 0 0))), (2, .v (.c (.bool false))), (3, .v (.c (.int .i64 s1)))], [(0, .mem true 37 none (.flat [.cs [.int .i64 a1, .bool a2, .int .i64 a3, .int .i64 a4], .ints 2 .i64 a5, .ints 6 .i64 a6, .fzs 6 (.pair .bool (.pair (.int .i64) (.int .i64))) a7]))], 1⟩) hl (To.mk' [] 0 hε rfl (by repeat' first | exact True.intro | exact rfl | apply And.intro) (by repeat' first | exact True.intro | exact rfl | apply And.intro)) (fun s1 zs1 NNs1 hz hnexts1 houts1 => ?_)
    clear hl hT
    have hT := hz; clear hz
    refine rSeq ?_
    refine rSeq ?_
    refine zReg md0 hX rfl rfl rfl ?_
    refine rThen ?_
    refine zCond rfl rfl (fun hc => ?_) (fun hc => ?_)
    · replace hT := sT hc hT
      refine rSkip ?_
      refine rThen ?_
      refine rSeq ?_
      refine rBlock ?_
      refine rSeq ?_
      let x3 := (bif (decide ((0 : Int) < ((a7.getD (s1).toNat []).length : Int))) then true else (decide ((a6.getD (s1).toNat 0) ≠ 0)))
      replace hT := sIf hT; obtain ⟨⟨o1, o2, o3, o4, o5, o6⟩, hT⟩ := hT
      refine rRegC md0 hX rfl rfl rfl (by (repeat' first | exact True.intro | with_reducible assumption | (with_reducible apply And.intro) | intro _) <;> first | assumption | exact o4 (by assumption) | exact o5 (by assumption) | exact o6 (by assumption) | exact rfl | omega | exact Nat.le_of_ble_eq_true rfl | exact selF (by assumption) | exact selT (by assumption) | exact And.intro rfl rfl | exact And.intro (by assumption) rfl | exact And.intro (by omega) rfl | (simp only [inK] at *; omega) | (simp_all [sel] <;> fail) | fail) ?_
      refine rThen ?_
      refine zCond rfl rfl (fun hc => ?_) (fun hc => ?_)
      · replace hT := sT hc hT
        refine rSeq ?_
        refine zReg md0 hX rfl rfl rfl ?_
        refine rThen ?_
        refine rRet ?_
        refine rInRet ?_
        refine rThenRet ?_
        refine rThenRet ?_
        exact zTo [] 0 hε (hxs10 _ (houts1 _ (Option.some.inj hT).symm))
      · replace hT := sF hc hT
        refine rSkip ?_
        refine rInNormal ?_
        refine rThen ?_
        replace hT := sIf hT; obtain ⟨o1, hT⟩ := hT
        refine zReg md0 hX rfl rfl rfl ?_
        exact hnexts1 _ (Option.some.inj hT).symm _ (To.mk' [] 0 hε rfl (by repeat' first | exact True.intro | exact rfl | apply And.intro) (by repeat' first | exact True.intro | exact rfl | apply And.intro))
    · replace hT := sF hc hT
      refine rExit ?_
      refine rThenExit ?_
      refine rThenExit ?_
      exact zTo [] 0 hε (hxs11 _ (houts1 _ (Option.some.inj hT).symm))
  · cases h
def ref20_Row (N : Nat) (a1 : Int) : Option ByteArray :=
  let x1 := (bif (bif (decide (a1 < (-2))) then true else (decide ((2 : Int) < a1))) then true else (decide (a1 = 0)))
  bif x1 then
    some ⟨#[]⟩
  else
    if inK .i64 (a1 + 2) ∧ (0 : Int) ≤ (a1 + 2) ∧ (a1 + 2) < 5 then
      if (a1 + 2).toNat < ([⟨#[48, 49]⟩, ⟨#[48, 48]⟩, ⟨#[]⟩, ⟨#[49, 48]⟩, ⟨#[49, 49]⟩] : List ByteArray).length then
        let x2 := (([⟨#[48, 49]⟩, ⟨#[48, 48]⟩, ⟨#[]⟩, ⟨#[49, 48]⟩, ⟨#[49, 49]⟩] : List ByteArray).getD (a1 + 2).toNat ⟨#[]⟩)
        some x2
      else none
    else none
def sp_ref20_Row (N : Nat) : X.Spec := fun args lk => match args with
  | [.v (.c (.int .i64 a1))] => some ⟨(ref20_Row N a1).isSome = true, .v (.c (.str ((ref20_Row N a1).getD default))), [], []⟩
  | _ => none
set_option maxRecDepth 100000 in
set_option maxHeartbeats 1000000 in
theorem ok_ref20_Row (N : Nat) : FnOK Tryd.prog gt0 63 (sp_ref20_Row N) := by
  refine fnOK_handed Tryd.func63 rfl (by kernel_rfl) tt_ok (ktNil) ?_
  intro args lk r h hp
  unfold sp_ref20_Row at h
  split at h
  · rename_i a1
    cases h
    obtain ⟨x, hx⟩ := Option.isSome_iff_exists.1 hp
    simp only [hx, Option.getD_some]
    refine hand0 rfl rfl (fun w0 M ε0 hX => ?_)
    refine rCount (fun hε => ?_)
    have hT : ref20_Row N a1 = some x := hx; clear hx hp; unfold ref20_Row at hT
    refine rSeq ?_
    refine zReg md0 hX rfl rfl rfl ?_
    refine rThen ?_
    refine rSeq ?_
    refine rSeq ?_
    let x1 := (bif (bif (decide (a1 < (-2))) then true else (decide ((2 : Int) < a1))) then true else (decide (a1 = 0)))
    refine zReg md0 hX rfl rfl rfl ?_
    refine rThen ?_
    refine zCond rfl rfl (fun hc => ?_) (fun hc => ?_)
    · replace hT := sT hc hT
      refine rSeq ?_
      refine zReg md0 hX rfl rfl rfl ?_
      refine rThen ?_
      refine rRet ?_
      refine rThenRet ?_
      have hy := Option.some.inj hT; subst hy
      exact zEnd0 hX rfl
    · replace hT := sF hc hT
      refine rSkip ?_
      refine rThen ?_
      refine rSeq ?_
      refine rRegSL ?_
      replace hT := sIf hT; obtain ⟨⟨o1, o2, o3⟩, hT⟩ := hT
      refine rSLCut md0 4 hX rfl rfl rfl (by (repeat' first | exact True.intro | with_reducible assumption | (with_reducible apply And.intro) | intro _) <;> first | assumption | exact rfl | omega | exact Nat.le_of_ble_eq_true rfl | exact selF (by assumption) | exact selT (by assumption) | exact And.intro rfl rfl | exact And.intro (by assumption) rfl | exact And.intro (by omega) rfl | (simp only [inK] at *; omega) | (simp_all [sel] <;> fail) | fail) ?_
      refine rLstL 0 .str [⟨#[48, 49]⟩, ⟨#[48, 48]⟩, ⟨#[]⟩, ⟨#[49, 48]⟩, ⟨#[49, 49]⟩] rfl rfl rfl ?_
      replace hT := sIf hT; obtain ⟨o1, hT⟩ := hT
      let x2 := (([⟨#[48, 49]⟩, ⟨#[48, 48]⟩, ⟨#[]⟩, ⟨#[49, 48]⟩, ⟨#[49, 49]⟩] : List ByteArray).getD (a1 + 2).toNat ⟨#[]⟩)
      refine rSLDone md0 hX rfl rfl rfl (by (repeat' first | exact True.intro | with_reducible assumption | (with_reducible apply And.intro) | intro _) <;> first | assumption | exact rfl | omega | exact Nat.le_of_ble_eq_true rfl | exact selF (by assumption) | exact selT (by assumption) | exact And.intro rfl rfl | exact And.intro (by assumption) rfl | exact And.intro (by omega) rfl | (simp only [inK] at *; omega) | (simp_all [sel] <;> fail) | fail) ?_
      refine rThen ?_
      refine rRet ?_
      have hy := Option.some.inj hT; subst hy
      exact zEnd0 hX rfl
  · cases h
def ref21_Intra (N : Nat) (a1 : Int) : Option Bool :=
  some (bif (decide (a1 = 3)) then true else (decide (a1 = 4)))
def sp_ref21_Intra (N : Nat) : X.Spec := fun args lk => match args with
  | [.v (.c (.int .i64 a1))] => some ⟨(ref21_Intra N a1).isSome = true, .v (.c (.bool ((ref21_Intra N a1).getD default))), [], []⟩
  | _ => none
set_option maxRecDepth 100000 in
set_option maxHeartbeats 1000000 in
theorem ok_ref21_Intra (N : Nat) : FnOK Tryd.prog gt0 38 (sp_ref21_Intra N) := by
  refine fnOK_handed Tryd.func38 rfl (by kernel_rfl) tt_ok (ktNil) ?_
  intro args lk r h hp
  unfold sp_ref21_Intra at h
  split at h
  · rename_i a1
    cases h
    obtain ⟨x, hx⟩ := Option.isSome_iff_exists.1 hp
    simp only [hx, Option.getD_some]
    refine hand0 rfl rfl (fun w0 M ε0 hX => ?_)
    refine rCount (fun hε => ?_)
    have hT : ref21_Intra N a1 = some x := hx; clear hx hp; unfold ref21_Intra at hT
    refine rSeq ?_
    refine zReg md0 hX rfl rfl rfl ?_
    refine rThen ?_
    refine rSeq ?_
    refine zReg md0 hX rfl rfl rfl ?_
    refine rThen ?_
    refine rRet ?_
    have hy := Option.some.inj hT; subst hy
    exact zEnd0 hX rfl
  · cases h
def ref15_from (N : Nat) (a1 : Bool) : Option Int :=
  bif a1 then
    some 1
  else
    some 0
def sp_ref15_from (N : Nat) : X.Spec := fun args lk => match args with
  | [.v (.c (.bool a1))] => some ⟨(ref15_from N a1).isSome = true, .v (.c (.int .i64 ((ref15_from N a1).getD default))), [], []⟩
  | _ => none
set_option maxRecDepth 100000 in
set_option maxHeartbeats 1000000 in
theorem ok_ref15_from (N : Nat) : FnOK Tryd.prog gt0 116 (sp_ref15_from N) := by
  refine fnOK_handed Tryd.func116 rfl (by kernel_rfl) tt_ok (ktNil) ?_
  intro args lk r h hp
  unfold sp_ref15_from at h
  split at h
  · rename_i a1
    cases h
    obtain ⟨x, hx⟩ := Option.isSome_iff_exists.1 hp
    simp only [hx, Option.getD_some]
    refine hand0 rfl rfl (fun w0 M ε0 hX => ?_)
    refine rCount (fun hε => ?_)
    have hT : ref15_from N a1 = some x := hx; clear hx hp; unfold ref15_from at hT
    refine rSeq ?_
    refine zReg md0 hX rfl rfl rfl ?_
    refine rThen ?_
    refine rSeq ?_
    refine rSeq ?_
    refine zReg md0 hX rfl rfl rfl ?_
    refine rThen ?_
    refine zCond rfl rfl (fun hc => ?_) (fun hc => ?_)
    · replace hT := sT hc hT
      refine rSeq ?_
      refine zReg md0 hX rfl rfl rfl ?_
      refine rThen ?_
      refine rRet ?_
      refine rThenRet ?_
      have hy := Option.some.inj hT; subst hy
      exact zEnd0 hX rfl
    · replace hT := sF hc hT
      refine rSkip ?_
      refine rThen ?_
      refine rSeq ?_
      refine zReg md0 hX rfl rfl rfl ?_
      refine rThen ?_
      refine rRet ?_
      have hy := Option.some.inj hT; subst hy
      exact zEnd0 hX rfl
  · cases h
def ref09_Right (N : Nat) (a1 : Bool) (a2 : Int) (a3 : Int) : Option Bool :=
  let x1 := (bif (bif (bif (bif (decide ((0 : Int) ≤ a2)) then (decide (a2 ≤ 63)) else false) then (decide (((-127) : Int) ≤ a3)) else false) then (decide (a3 ≤ 127)) else false) then (decide (a3 ≠ 0)) else false)
  some x1
def sp_ref09_Right (N : Nat) : X.Spec := fun args lk => match args with
  | [.v (.agg [.cs [.bool a1, .int .i64 a2, .int .i64 a3]])] => some ⟨(ref09_Right N a1 a2 a3).isSome = true, .v (.c (.bool ((ref09_Right N a1 a2 a3).getD default))), [], []⟩
  | _ => none
set_option maxRecDepth 100000 in
set_option maxHeartbeats 1000000 in
theorem ok_ref09_Right (N : Nat) : FnOK Tryd.prog gt0 127 (sp_ref09_Right N) := by
  refine fnOK_handed Tryd.func127 rfl (by kernel_rfl) tt_ok (ktNil) ?_
  intro args lk r h hp
  unfold sp_ref09_Right at h
  split at h
  · rename_i a1 a2 a3
    cases h
    obtain ⟨x, hx⟩ := Option.isSome_iff_exists.1 hp
    simp only [hx, Option.getD_some]
    refine hand0 rfl rfl (fun w0 M ε0 hX => ?_)
    refine rCount (fun hε => ?_)
    have hT : ref09_Right N a1 a2 a3 = some x := hx; clear hx hp; unfold ref09_Right at hT
    refine rSeq ?_
    refine zReg md0 hX rfl rfl rfl ?_
    refine rThen ?_
    refine rSeq ?_
    let x1 := (bif (bif (bif (bif (decide ((0 : Int) ≤ a2)) then (decide (a2 ≤ 63)) else false) then (decide (((-127) : Int) ≤ a3)) else false) then (decide (a3 ≤ 127)) else false) then (decide (a3 ≠ 0)) else false)
    refine zReg md0 hX rfl rfl rfl ?_
    refine rThen ?_
    refine rRet ?_
    have hy := Option.some.inj hT; subst hy
    exact zEnd0 hX rfl
  · cases h
def ref10_Levels_b1 (N : Nat) (a1 : (List (Bool × (Int × Int)))) (s1 : (Int × Int × (List Int))) : Option ((Int × Int × (List Int)) ⊕ (Unit ⊕ (List Int))) :=
  bif (decide (s1.2.1 < (a1.length : Int))) then
    let c1 := (ref09_Right N (a1.getD (s1.2.1).toNat (false, ((0 : Int), (0 : Int)))).1 (a1.getD (s1.2.1).toNat (false, ((0 : Int), (0 : Int)))).2.1 (a1.getD (s1.2.1).toNat (false, ((0 : Int), (0 : Int)))).2.2)
    let x2 := (bif (!(c1.getD default)) then true else (!((a1.getD (s1.2.1).toNat (false, ((0 : Int), (0 : Int)))).1 == (decide ((s1.2.1 + 1) = (a1.length : Int))))))
    if (0 : Int) ≤ s1.2.1 ∧ s1.2.1 < (a1.length : Int) ∧ c1.isSome = true ∧ ((!(!(c1.getD default))) = true → (0 : Int) ≤ s1.2.1) ∧ ((!(!(c1.getD default))) = true → s1.2.1 < (a1.length : Int)) ∧ ((!(!(c1.getD default))) = true → inK .i64 (s1.2.1 + 1)) then
      bif x2 then
        some (.inr (Sum.inl ()))
      else
        if (0 : Int) ≤ s1.2.1 ∧ s1.2.1 < (a1.length : Int) ∧ inK .i64 (s1.1 + (a1.getD (s1.2.1).toNat (false, ((0 : Int), (0 : Int)))).2.1) ∧ inK .i64 ((s1.1 + (a1.getD (s1.2.1).toNat (false, ((0 : Int), (0 : Int)))).2.1) + 1) then
          let x3 := (decide ((63 : Int) < ((s1.1 + (a1.getD (s1.2.1).toNat (false, ((0 : Int), (0 : Int)))).2.1) + 1)))
          bif x3 then
            some (.inr (Sum.inl ()))
          else
            let x4 := (s1.2.2.set ((s1.1 + (a1.getD (s1.2.1).toNat (false, ((0 : Int), (0 : Int)))).2.1) + 1).toNat (a1.getD (s1.2.1).toNat (false, ((0 : Int), (0 : Int)))).2.2)
            if (0 : Int) ≤ s1.2.1 ∧ s1.2.1 < (a1.length : Int) ∧ (0 : Int) ≤ ((s1.1 + (a1.getD (s1.2.1).toNat (false, ((0 : Int), (0 : Int)))).2.1) + 1) ∧ ((s1.1 + (a1.getD (s1.2.1).toNat (false, ((0 : Int), (0 : Int)))).2.1) + 1) < 64 ∧ ((s1.1 + (a1.getD (s1.2.1).toNat (false, ((0 : Int), (0 : Int)))).2.1) + 1).toNat < 64 then
              if inK .i64 (s1.2.1 + 1) then
                some (.inl (((s1.1 + (a1.getD (s1.2.1).toNat (false, ((0 : Int), (0 : Int)))).2.1) + 1), (s1.2.1 + 1), x4))
              else none
            else none
        else none
    else none
  else
    some (.inr (Sum.inr s1.2.2))
def ref10_Levels (N : Nat) (a1 : (List (Bool × (Int × Int)))) (a2 : Int) : Option ((List Int) × Int) :=
  bif (bif (decide (a2 < 0)) then true else (decide ((1 : Int) < a2))) then
    some ((List.replicate 64 0), 1)
  else
    if inK .i64 (a2 - 1) then
      (iter (ref10_Levels_b1 N a1) N ((a2 - 1), 0, (List.replicate 64 0))).bind fun w1 =>
        (Sum.elim (fun v1 =>
          some ((List.replicate 64 0), 7)
        )
          (fun v2 =>
            some (v2, 0)
          )
        ) w1
    else none
def sp_ref10_Levels (N : Nat) : X.Spec := fun args lk => match args with
  | [.v (.c (.fz (.pair .bool (.pair (.int .i64) (.int .i64))) a1)), .v (.c (.int .i64 a2))] => some ⟨(ref10_Levels N a1 a2).isSome = true, .tup [.agg [.ints 64 .i64 ((ref10_Levels N a1 a2).getD default).1], .c (.int .i64 ((ref10_Levels N a1 a2).getD default).2)], [], []⟩
  | _ => none
set_option maxRecDepth 100000 in
set_option maxHeartbeats 1000000 in
theorem ok_ref10_Levels (N : Nat) : FnOK Tryd.prog gt0 79 (sp_ref10_Levels N) := by
  refine fnOK_handed Tryd.func79 rfl (by kernel_rfl) tt_ok (ktCons (ok_ref09_Right N) (ktNil)) ?_
  intro args lk r h hp
  unfold sp_ref10_Levels at h
  split at h
  · rename_i a1 a2
    change (List (Bool × (Int × Int))) at a1
    cases h
    obtain ⟨x, hx⟩ := Option.isSome_iff_exists.1 hp
    simp only [hx, Option.getD_some]
    refine hand0 rfl rfl (fun w0 M ε0 hX => ?_)
    refine rCount (fun hε => ?_)
    have hT : ref10_Levels N a1 a2 = some x := hx; clear hx hp; unfold ref10_Levels at hT
    refine rSeq ?_
    refine zReg md0 hX rfl rfl rfl ?_
    refine rThen ?_
    refine rSeq ?_
    refine zReg md0 hX rfl rfl rfl ?_
    refine rThen ?_
    refine rSeq ?_
    refine rSeq ?_
    refine zReg md0 hX rfl rfl rfl ?_
    refine rThen ?_
    refine zCond rfl rfl (fun hc => ?_) (fun hc => ?_)
    · replace hT := sT hc hT
      refine rSeq ?_
      refine zReg md0 hX rfl rfl rfl ?_
      refine rThen ?_
      refine rRet ?_
      refine rThenRet ?_
      have hy := Option.some.inj hT; subst hy
      exact zEnd0 hX rfl
    · replace hT := sF hc hT
      refine rSkip ?_
      refine rThen ?_
      refine rSeq ?_
      replace hT := sIf hT; obtain ⟨o1, hT⟩ := hT
      refine zReg md0 hX rfl rfl rfl ?_
      refine rThen ?_
      refine rSeq ?_
      refine rSeq ?_
      refine zReg md0 hX rfl rfl rfl ?_
      refine rThen ?_
      refine rBlock ?_
      replace hT := sBind hT; obtain ⟨w1, hl, hT⟩ := hT
      refine rJoinA (fun v1 => (Sum.inl v1) = w1) (fun v1 => ⟨[(4, .v (.c (.ptr 0 0 0 0 0 0))), (5, .v (.c (.int .i64 7)))], [(0, .mem true 22 none (.flat [.ints 64 .i64 (List.replicate 64 0)]))], 2⟩) .ret (fun v1 hv => ?_) (fun hxs10 => ?_)
      · subst hv; clear hl; replace hT := (sElimL hT)
        refine rInRet ?_
        refine rThenRet ?_
        have hy := Option.some.inj hT; subst hy
        exact zEnd0 hX rfl
      refine rJoinA (fun v2 => (Sum.inr v2) = w1) (fun v2 => ⟨[(4, .v (.c (.ptr 0 0 0 0 0 0))), (5, .v (.c (.int .i64 0))), (6, .v (.c (.ptr 1 0 0 0 0 0)))], [(0, .mem true 22 none (.flat [.ints 64 .i64 (List.replicate 64 0)])), (1, .mem true 22 none (.flat [.ints 64 .i64 v2]))], 2⟩) (.exit 0) (fun v2 hv => ?_) (fun hxs11 => ?_)
      · subst hv; clear hl; replace hT := (sElimR hT)
        refine rInHit ?_
        refine rThen ?_
        refine rSeq ?_
        refine zReg md0 hX rfl rfl rfl ?_
        refine rThen ?_
        refine rRet ?_
        have hy := Option.some.inj hT; subst hy
        exact zEnd0 hX rfl
      refine rLoopM (ref10_Levels_b1 N a1) (fun s1 => ⟨[(0, .v (.c (.fz (.pair .bool (.pair (.int .i64) (.int .i64))) a1))), (4, .v (.c (.ptr 0 0 0 0 0 0))), (5, .v (.c (.int .i64 0))), (6, .v (.c (.ptr 1 0 0 0 0 0))), (7, .v (.c (.int .i64 s1.1))), (8, .v (.c (.int .i64 s1.2.1)))], [(0, .mem true 22 none (.flat [.ints 64 .i64 (List.replicate 64 0)])), (1, .mem true 22 none (.flat [.ints 64 .i64 s1.2.2]))], 2⟩) hl (To.mk' [] 0 hε rfl (by repeat' first | exact True.intro | exact rfl | apply And.intro) (by repeat' first | exact True.intro | exact rfl | apply And.intro)) (fun s1 zs1 NNs1 hz hnexts1 houts1 => ?_)
      clear hl hT
      have hT := hz; clear hz
      refine rSeq ?_
      refine rSeq ?_
      refine zReg md0 hX rfl rfl rfl ?_
      refine rThen ?_
      refine zCond rfl rfl (fun hc => ?_) (fun hc => ?_)
      · replace hT := sT hc hT
        refine rSkip ?_
        refine rThen ?_
        refine rSeq ?_
        refine rBlock ?_
        refine rSeq ?_
        refine rSeq ?_
        let c1 := (ref09_Right N (a1.getD (s1.2.1).toNat (false, ((0 : Int), (0 : Int)))).1 (a1.getD (s1.2.1).toNat (false, ((0 : Int), (0 : Int)))).2.1 (a1.getD (s1.2.1).toNat (false, ((0 : Int), (0 : Int)))).2.2)
        let x2 := (bif (!(c1.getD default)) then true else (!((a1.getD (s1.2.1).toNat (false, ((0 : Int), (0 : Int)))).1 == (decide ((s1.2.1 + 1) = (a1.length : Int))))))
        replace hT := sIf hT; obtain ⟨⟨o1, o2, o3, o4, o5, o6⟩, hT⟩ := hT
        refine rRegC md0 hX rfl rfl rfl (by (repeat' first | exact True.intro | with_reducible assumption | (with_reducible apply And.intro) | intro _) <;> first | assumption | exact o4 (by assumption) | exact o5 (by assumption) | exact o6 (by assumption) | exact rfl | omega | exact Nat.le_of_ble_eq_true rfl | exact selF (by assumption) | exact selT (by assumption) | exact And.intro rfl rfl | exact And.intro (by assumption) rfl | exact And.intro (by omega) rfl | (simp only [inK] at *; omega) | (simp_all [sel] <;> fail) | fail) ?_
        refine rThen ?_
        refine zCond rfl rfl (fun hc => ?_) (fun hc => ?_)
        · replace hT := sT hc hT
          refine rSeq ?_
          refine zReg md0 hX rfl rfl rfl ?_
          refine rThen ?_
          refine rRet ?_
          refine rThenRet ?_
          refine rInRet ?_
          refine rThenRet ?_
          refine rThenRet ?_
          exact zTo [] 0 hε (hxs10 _ (houts1 _ (Option.some.inj hT).symm))
        · replace hT := sF hc hT
          refine rSkip ?_
          refine rThen ?_
          refine rSeq ?_
          replace hT := sIf hT; obtain ⟨⟨o1, o2, o3, o4⟩, hT⟩ := hT
          refine zReg md0 hX rfl rfl rfl ?_
          refine rThen ?_
          refine rSeq ?_
          refine rSeq ?_
          let x3 := (decide ((63 : Int) < ((s1.1 + (a1.getD (s1.2.1).toNat (false, ((0 : Int), (0 : Int)))).2.1) + 1)))
          refine zReg md0 hX rfl rfl rfl ?_
          refine rThen ?_
          refine zCond rfl rfl (fun hc => ?_) (fun hc => ?_)
          · replace hT := sT hc hT
            refine rSeq ?_
            refine zReg md0 hX rfl rfl rfl ?_
            refine rThen ?_
            refine rRet ?_
            refine rThenRet ?_
            refine rInRet ?_
            refine rThenRet ?_
            refine rThenRet ?_
            exact zTo [] 0 hε (hxs10 _ (houts1 _ (Option.some.inj hT).symm))
          · replace hT := sF hc hT
            refine rSkip ?_
            refine rThen ?_
            let x4 := (s1.2.2.set ((s1.1 + (a1.getD (s1.2.1).toNat (false, ((0 : Int), (0 : Int)))).2.1) + 1).toNat (a1.getD (s1.2.1).toNat (false, ((0 : Int), (0 : Int)))).2.2)
            replace hT := sIf hT; obtain ⟨⟨o1, o2, o3, o4, o5⟩, hT⟩ := hT
            refine zReg md0 hX rfl rfl rfl ?_
            refine rInNormal ?_
            refine rThen ?_
            replace hT := sIf hT; obtain ⟨o1, hT⟩ := hT
            refine zReg md0 hX rfl rfl rfl ?_
            exact hnexts1 _ (Option.some.inj hT).symm _ (To.mk' [] 0 hε rfl (by repeat' first | exact True.intro | exact rfl | apply And.intro) (by repeat' first | exact True.intro | exact rfl | apply And.intro))
      · replace hT := sF hc hT
        refine rExit ?_
        refine rThenExit ?_
        refine rThenExit ?_
        exact zTo [] 0 hε (hxs11 _ (houts1 _ (Option.some.inj hT).symm))
  · cases h
def ref15_May (N : Nat) (a1 : Bool) (a2 : Int) (a3 : (List (Bool × (Int × Int)))) : Option Bool :=
  let c1 := (ref15_from N a1)
  let c2 := (ref10_Levels N a3 (c1.getD default))
  if c1.isSome = true ∧ c2.isSome = true then
    bif a1 then
      let x1 := (bif (bif (decide ((c2.getD default).2 = 0)) then (decide ((1 : Int) ≤ a2)) else false) then (decide (a2 ≤ 254)) else false)
      some x1
    else
      some (bif (decide ((c2.getD default).2 = 0)) then (decide (a2 = 0)) else false)
  else none
def sp_ref15_May (N : Nat) : X.Spec := fun args lk => match args with
  | [.v (.c (.bool a1)), .v (.c (.int .i64 a2)), .v (.c (.fz (.pair .bool (.pair (.int .i64) (.int .i64))) a3))] => some ⟨(ref15_May N a1 a2 a3).isSome = true, .v (.c (.bool ((ref15_May N a1 a2 a3).getD default))), [], []⟩
  | _ => none
set_option maxRecDepth 100000 in
set_option maxHeartbeats 1000000 in
theorem ok_ref15_May (N : Nat) : FnOK Tryd.prog gt0 64 (sp_ref15_May N) := by
  refine fnOK_handed Tryd.func64 rfl (by kernel_rfl) tt_ok (ktCons (ok_ref10_Levels N) (ktCons (ok_ref15_from N) (ktNil))) ?_
  intro args lk r h hp
  unfold sp_ref15_May at h
  split at h
  · rename_i a1 a2 a3
    change (List (Bool × (Int × Int))) at a3
    cases h
    obtain ⟨x, hx⟩ := Option.isSome_iff_exists.1 hp
    simp only [hx, Option.getD_some]
    refine hand0 rfl rfl (fun w0 M ε0 hX => ?_)
    refine rCount (fun hε => ?_)
    have hT : ref15_May N a1 a2 a3 = some x := hx; clear hx hp; unfold ref15_May at hT
    refine rSeq ?_
    refine zReg md0 hX rfl rfl rfl ?_
    refine rThen ?_
    refine rSeq ?_
    let c1 := (ref15_from N a1)
    let c2 := (ref10_Levels N a3 (c1.getD default))
    replace hT := sIf hT; obtain ⟨⟨o1, o2⟩, hT⟩ := hT
    refine zReg md0 hX rfl rfl rfl ?_
    refine rThen ?_
    refine rSeq ?_
    refine rSeq ?_
    refine zReg md0 hX rfl rfl rfl ?_
    refine rThen ?_
    refine zCond rfl rfl (fun hc => ?_) (fun hc => ?_)
    · replace hT := sT hc hT
      refine rSeq ?_
      let x1 := (bif (bif (decide ((c2.getD default).2 = 0)) then (decide ((1 : Int) ≤ a2)) else false) then (decide (a2 ≤ 254)) else false)
      refine zReg md0 hX rfl rfl rfl ?_
      refine rThen ?_
      refine rRet ?_
      refine rThenRet ?_
      have hy := Option.some.inj hT; subst hy
      exact zEnd0 hX rfl
    · replace hT := sF hc hT
      refine rSkip ?_
      refine rThen ?_
      refine rSeq ?_
      refine zReg md0 hX rfl rfl rfl ?_
      refine rThen ?_
      refine rRet ?_
      have hy := Option.some.inj hT; subst hy
      exact zEnd0 hX rfl
  · cases h
def ref22_Right_b1 (N : Nat) (a4 : Int) (a7 : (List Int)) (a8 : (List (List (Bool × (Int × Int))))) (s2 : Int) : Option (Int ⊕ (Unit ⊕ Unit)) :=
  bif (decide (s2 < 6)) then
    let c2 := (ref21_Intra N a4)
    let c3 := (ref15_May N (c2.getD default) (a7.getD (s2).toNat 0) (a8.getD (s2).toNat []))
    if c2.isSome = true ∧ (0 : Int) ≤ s2 ∧ s2 < 6 ∧ (s2).toNat < 6 ∧ c3.isSome = true then
      bif (!(c3.getD default)) then
        some (.inr (Sum.inl ()))
      else
        if inK .i64 (s2 + 1) then
          some (.inl (s2 + 1))
        else none
    else none
  else
    some (.inr (Sum.inr ()))
def ref22_Right_b2 (N : Nat) (a4 : Int) (a6 : (List Int)) (s1 : Int) : Option (Int ⊕ (Unit ⊕ Unit)) :=
  bif (decide (s1 < 2)) then
    let x8 := (bif (bif (decide ((a6.getD (s1).toNat 0) < (-32))) then true else (decide ((31 : Int) < (a6.getD (s1).toNat 0)))) then true else (bif (decide ((2 : Int) < a4)) then (decide ((a6.getD (s1).toNat 0) ≠ 0)) else false))
    if (0 : Int) ≤ s1 ∧ s1 < 2 ∧ (s1).toNat < 2 ∧ ((!(decide ((a6.getD (s1).toNat 0) < (-32)))) = true → (0 : Int) ≤ s1) ∧ ((!(decide ((a6.getD (s1).toNat 0) < (-32)))) = true → s1 < 2) ∧ ((!(decide ((a6.getD (s1).toNat 0) < (-32)))) = true → (s1).toNat < 2) ∧ (((!(bif (decide ((a6.getD (s1).toNat 0) < (-32))) then true else (decide ((31 : Int) < (a6.getD (s1).toNat 0))))) && (decide ((2 : Int) < a4))) = true → (0 : Int) ≤ s1) ∧ (((!(bif (decide ((a6.getD (s1).toNat 0) < (-32))) then true else (decide ((31 : Int) < (a6.getD (s1).toNat 0))))) && (decide ((2 : Int) < a4))) = true → s1 < 2) ∧ (((!(bif (decide ((a6.getD (s1).toNat 0) < (-32))) then true else (decide ((31 : Int) < (a6.getD (s1).toNat 0))))) && (decide ((2 : Int) < a4))) = true → (s1).toNat < 2) ∧ ((!(bif (decide ((a6.getD (s1).toNat 0) < (-32))) then true else (decide ((31 : Int) < (a6.getD (s1).toNat 0))))) = true → ((decide ((2 : Int) < a4)) = true → ((!(bif (decide ((a6.getD (s1).toNat 0) < (-32))) then true else (decide ((31 : Int) < (a6.getD (s1).toNat 0))))) && (decide ((2 : Int) < a4))) = true)) then
      bif x8 then
        some (.inr (Sum.inl ()))
      else
        if inK .i64 (s1 + 1) then
          some (.inl (s1 + 1))
        else none
    else none
  else
    some (.inr (Sum.inr ()))
def ref22_Right (N : Nat) (a1 : Bool) (a2 : Int) (a3 : Bool) (a4 : Int) (a5 : Int) (a6 : (List Int)) (a7 : (List Int)) (a8 : (List (List (Bool × (Int × Int))))) : Option Bool :=
  bif (bif (decide (a2 < 0)) then true else (decide ((64 : Int) < a2))) then
    some false
  else
    bif a3 then
      let c1 := (ref22_zero N a2 a3 a4 a5 a6 a7 a8)
      if (a1 = true → c1.isSome = true) then
        some (bif a1 then (c1.getD default) else false)
      else none
    else
      let x4 := (bif (bif (bif (decide (a4 < 0)) then true else (decide ((4 : Int) < a4))) then true else (decide (a4 = 2))) then true else (bif (decide (a4 < 2)) then (!a1) else false))
      if ((!(bif (bif (decide (a4 < 0)) then true else (decide ((4 : Int) < a4))) then true else (decide (a4 = 2)))) = true → ((decide (a4 < 2)) = true → ((!(bif (bif (decide (a4 < 0)) then true else (decide ((4 : Int) < a4))) then true else (decide (a4 = 2)))) && (decide (a4 < 2))) = true)) then
        bif x4 then
          some false
        else
          joinK (fun (v1 : Unit) =>
            (iter (ref22_Right_b2 N a4 a6) N 0).bind fun w1 =>
              (Sum.elim (fun v2 =>
                some false
              )
                (fun v3 =>
                  (iter (ref22_Right_b1 N a4 a7 a8) N 0).bind fun w2 =>
                    (Sum.elim (fun v4 =>
                      some false
                    )
                      (fun v5 =>
                        some true
                      )
                    ) w2
                )
              ) w1
          ) fun k1 =>
            bif (bif (decide (a4 = 1)) then true else (decide (a4 = 4))) then
              let c4 := (ref20_Row N a5)
              if c4.isSome = true then
                bif (decide (ByteArray.toList (c4.getD default) = ByteArray.toList ⟨#[]⟩)) then
                  some false
                else
                  k1 ()
              else none
            else
              bif (decide (a5 ≠ 0)) then
                some false
              else
                k1 ()
      else none
def sp_ref22_Right (N : Nat) : X.Spec := fun args lk => match args with
  | [.v (.c (.bool a1)), .v (.agg [.cs [.int .i64 a2, .bool a3, .int .i64 a4, .int .i64 a5], .ints 2 .i64 a6, .ints 6 .i64 a7, .fzs 6 (.pair .bool (.pair (.int .i64) (.int .i64))) a8])] => some ⟨(ref22_Right N a1 a2 a3 a4 a5 a6 a7 a8).isSome = true, .v (.c (.bool ((ref22_Right N a1 a2 a3 a4 a5 a6 a7 a8).getD default))), [], []⟩
  | _ => none
set_option maxRecDepth 100000 in
set_option maxHeartbeats 1000000 in
theorem ok_ref22_Right (N : Nat) : FnOK Tryd.prog gt0 21 (sp_ref22_Right N) := by
  refine fnOK_handed Tryd.func21 rfl (by kernel_rfl) tt_ok (ktCons (ok_ref20_Row N) (ktCons (ok_ref15_May N) (ktCons (ok_ref21_Intra N) (ktCons (ok_ref22_zero N) (ktNil))))) ?_
  intro args lk r h hp
  unfold sp_ref22_Right at h
  split at h
  · rename_i a1 a2 a3 a4 a5 a6 a7 a8
    change (List Int) at a6
    change (List Int) at a7
    change (List (List (Bool × (Int × Int)))) at a8
    cases h
    obtain ⟨x, hx⟩ := Option.isSome_iff_exists.1 hp
    simp only [hx, Option.getD_some]
    refine hand0 rfl rfl (fun w0 M ε0 hX => ?_)
    refine rCount (fun hε => ?_)
    have hT : ref22_Right N a1 a2 a3 a4 a5 a6 a7 a8 = some x := hx; clear hx hp; unfold ref22_Right at hT
    refine rSeq ?_
    refine zReg md0 hX rfl rfl rfl ?_
    refine rThen ?_
    refine rSeq ?_
    refine rSeq ?_
    refine zReg md0 hX rfl rfl rfl ?_
    refine rThen ?_
    refine zCond rfl rfl (fun hc => ?_) (fun hc => ?_)
    · replace hT := sT hc hT
      refine rSeq ?_
      refine zReg md0 hX rfl rfl rfl ?_
      refine rThen ?_
      refine rRet ?_
      refine rThenRet ?_
      have hy := Option.some.inj hT; subst hy
      exact zEnd0 hX rfl
    · replace hT := sF hc hT
      refine rSkip ?_
      refine rThen ?_
      refine rSeq ?_
      refine rSeq ?_
      refine zReg md0 hX rfl rfl rfl ?_
      refine rThen ?_
      refine zCond rfl rfl (fun hc => ?_) (fun hc => ?_)
      · replace hT := sT hc hT
        refine rSeq ?_
        let c1 := (ref22_zero N a2 a3 a4 a5 a6 a7 a8)
        replace hT := sIf hT; obtain ⟨o1, hT⟩ := hT
        refine rRegC md0 hX rfl rfl rfl (by (repeat' first | exact True.intro | with_reducible assumption | (with_reducible apply And.intro) | intro _) <;> first | assumption | exact o1 (by assumption) | exact rfl | omega | exact Nat.le_of_ble_eq_true rfl | exact selF (by assumption) | exact selT (by assumption) | exact And.intro rfl rfl | exact And.intro (by assumption) rfl | exact And.intro (by omega) rfl | (simp only [inK] at *; omega) | (simp_all [sel] <;> fail) | fail) ?_
        refine rThen ?_
        refine rRet ?_
        refine rThenRet ?_
        have hy := Option.some.inj hT; subst hy
        exact zEnd0 hX rfl
      · replace hT := sF hc hT
        refine rSkip ?_
        refine rThen ?_
        refine rSeq ?_
        refine rSeq ?_
        let x4 := (bif (bif (bif (decide (a4 < 0)) then true else (decide ((4 : Int) < a4))) then true else (decide (a4 = 2))) then true else (bif (decide (a4 < 2)) then (!a1) else false))
        replace hT := sIf hT; obtain ⟨o1, hT⟩ := hT
        refine rRegC md0 hX rfl rfl rfl (by (repeat' first | exact True.intro | with_reducible assumption | (with_reducible apply And.intro) | intro _) <;> first | assumption | exact o1 (by assumption) | exact rfl | omega | exact Nat.le_of_ble_eq_true rfl | exact selF (by assumption) | exact selT (by assumption) | exact And.intro rfl rfl | exact And.intro (by assumption) rfl | exact And.intro (by omega) rfl | (simp only [inK] at *; omega) | (simp_all [sel] <;> fail) | fail) ?_
        refine rThen ?_
        refine zCond rfl rfl (fun hc => ?_) (fun hc => ?_)
        · replace hT := sT hc hT
          refine rSeq ?_
          refine zReg md0 hX rfl rfl rfl ?_
          refine rThen ?_
          refine rRet ?_
          refine rThenRet ?_
          have hy := Option.some.inj hT; subst hy
          exact zEnd0 hX rfl
        · replace hT := sF hc hT
          refine rSkip ?_
          refine rThen ?_
          refine rSeq ?_
          refine rSeq ?_
          refine zReg md0 hX rfl rfl rfl ?_
          refine rThen ?_
          refine rJoinK hT (fun v1 => ⟨[(3, .v (.c (.ptr 0 0 0 0 0 0))), (4, .v (.c (.bool false)))], [(0, .mem true 37 none (.flat [.cs [.int .i64 a2, .bool a3, .int .i64 a4, .int .i64 a5], .ints 2 .i64 a6, .ints 6 .i64 a7, .fzs 6 (.pair .bool (.pair (.int .i64) (.int .i64))) a8]))], 1⟩) (fun v1 hT => ?_) (fun k1 hjk1 hT => ?_)
          · skip
            refine rThen ?_
            refine rSeq ?_
            refine rSeq ?_
            refine zReg md0 hX rfl rfl rfl ?_
            refine rThen ?_
            refine rBlock ?_
            replace hT := sBind hT; obtain ⟨w1, hl, hT⟩ := hT
            refine rJoinA (fun v2 => (Sum.inl v2) = w1) (fun v2 => ⟨[(4, .v (.c (.bool false)))], [], 1⟩) .ret (fun v2 hv => ?_) (fun hxs10 => ?_)
            · subst hv; clear hl; replace hT := (sElimL hT)
              refine rInRet ?_
              refine rThenRet ?_
              have hy := Option.some.inj hT; subst hy
              exact zEnd0 hX rfl
            refine rJoinA (fun v3 => (Sum.inr v3) = w1) (fun v3 => ⟨[(3, .v (.c (.ptr 0 0 0 0 0 0))), (4, .v (.c (.bool false)))], [(0, .mem true 37 none (.flat [.cs [.int .i64 a2, .bool a3, .int .i64 a4, .int .i64 a5], .ints 2 .i64 a6, .ints 6 .i64 a7, .fzs 6 (.pair .bool (.pair (.int .i64) (.int .i64))) a8]))], 1⟩) (.exit 0) (fun v3 hv => ?_) (fun hxs11 => ?_)
            · subst hv; clear hl; replace hT := (sElimR hT)
              refine rInHit ?_
              refine rThen ?_
              refine rSeq ?_
              refine rSeq ?_
              refine zReg md0 hX rfl rfl rfl ?_
              refine rThen ?_
              refine rBlock ?_
              replace hT := sBind hT; obtain ⟨w2, hl, hT⟩ := hT
              refine rJoinA (fun v4 => (Sum.inl v4) = w2) (fun v4 => ⟨[(4, .v (.c (.bool false)))], [], 1⟩) .ret (fun v4 hv => ?_) (fun hxs20 => ?_)
              · subst hv; clear hl; replace hT := (sElimL hT)
                refine rInRet ?_
                refine rThenRet ?_
                have hy := Option.some.inj hT; subst hy
                exact zEnd0 hX rfl
              refine rJoinA (fun v5 => (Sum.inr v5) = w2) (fun v5 => ⟨[(4, .v (.c (.bool false)))], [], 1⟩) (.exit 2) (fun v5 hv => ?_) (fun hxs21 => ?_)
              · subst hv; clear hl; replace hT := (sElimR hT)
                refine rInHit ?_
                refine rThen ?_
                refine rSeq ?_
                refine zReg md0 hX rfl rfl rfl ?_
                refine rThen ?_
                refine rRet ?_
                have hy := Option.some.inj hT; subst hy
                exact zEnd0 hX rfl
              refine rLoopM (ref22_Right_b1 N a4 a7 a8) (fun s2 => ⟨[(3, .v (.c (.ptr 0 0 0 0 0 0))), (4, .v (.c (.bool false))), (6, .v (.c (.int .i64 s2)))], [(0, .mem true 37 none (.flat [.cs [.int .i64 a2, .bool a3, .int .i64 a4, .int .i64 a5], .ints 2 .i64 a6, .ints 6 .i64 a7, .fzs 6 (.pair .bool (.pair (.int .i64) (.int .i64))) a8]))], 1⟩) hl (To.mk' [] 0 hε rfl (by repeat' first | exact True.intro | exact rfl | apply And.intro) (by repeat' first | exact True.intro | exact rfl | apply And.intro)) (fun s2 zs2 NNs2 hz hnexts2 houts2 => ?_)
              clear hl hT
              have hT := hz; clear hz
              refine rSeq ?_
              refine rSeq ?_
              refine zReg md0 hX rfl rfl rfl ?_
              refine rThen ?_
              refine zCond rfl rfl (fun hc => ?_) (fun hc => ?_)
              · replace hT := sT hc hT
                refine rSkip ?_
                refine rThen ?_
                refine rSeq ?_
                refine rBlock ?_
                refine rSeq ?_
                let c2 := (ref21_Intra N a4)
                let c3 := (ref15_May N (c2.getD default) (a7.getD (s2).toNat 0) (a8.getD (s2).toNat []))
                replace hT := sIf hT; obtain ⟨⟨o1, o2, o3, o4, o5⟩, hT⟩ := hT
                refine zDraw md0 0 [] hX mixed rfl rfl rfl rfl rfl ?_
                refine rThen ?_
                refine zCond rfl rfl (fun hc => ?_) (fun hc => ?_)
                · replace hT := sT hc hT
                  refine rSeq ?_
                  refine zReg md0 hX rfl rfl rfl ?_
                  refine rThen ?_
                  refine rRet ?_
                  refine rInRet ?_
                  refine rThenRet ?_
                  refine rThenRet ?_
                  exact zTo [] 0 hε (hxs20 _ (houts2 _ (Option.some.inj hT).symm))
                · replace hT := sF hc hT
                  refine rSkip ?_
                  refine rInNormal ?_
                  refine rThen ?_
                  replace hT := sIf hT; obtain ⟨o1, hT⟩ := hT
                  refine zReg md0 hX rfl rfl rfl ?_
                  exact hnexts2 _ (Option.some.inj hT).symm _ (To.mk' [] 0 hε rfl (by repeat' first | exact True.intro | exact rfl | apply And.intro) (by repeat' first | exact True.intro | exact rfl | apply And.intro))
              · replace hT := sF hc hT
                refine rExit ?_
                refine rThenExit ?_
                refine rThenExit ?_
                exact zTo [] 0 hε (hxs21 _ (houts2 _ (Option.some.inj hT).symm))
            refine rLoopM (ref22_Right_b2 N a4 a6) (fun s1 => ⟨[(3, .v (.c (.ptr 0 0 0 0 0 0))), (4, .v (.c (.bool false))), (5, .v (.c (.int .i64 s1)))], [(0, .mem true 37 none (.flat [.cs [.int .i64 a2, .bool a3, .int .i64 a4, .int .i64 a5], .ints 2 .i64 a6, .ints 6 .i64 a7, .fzs 6 (.pair .bool (.pair (.int .i64) (.int .i64))) a8]))], 1⟩) hl (To.mk' [] 0 hε rfl (by repeat' first | exact True.intro | exact rfl | apply And.intro) (by repeat' first | exact True.intro | exact rfl | apply And.intro)) (fun s1 zs1 NNs1 hz hnexts1 houts1 => ?_)
            clear hl hT
            have hT := hz; clear hz
            refine rSeq ?_
            refine rSeq ?_
            refine zReg md0 hX rfl rfl rfl ?_
            refine rThen ?_
            refine zCond rfl rfl (fun hc => ?_) (fun hc => ?_)
            · replace hT := sT hc hT
              refine rSkip ?_
              refine rThen ?_
              refine rSeq ?_
              refine rBlock ?_
              refine rSeq ?_
              let x8 := (bif (bif (decide ((a6.getD (s1).toNat 0) < (-32))) then true else (decide ((31 : Int) < (a6.getD (s1).toNat 0)))) then true else (bif (decide ((2 : Int) < a4)) then (decide ((a6.getD (s1).toNat 0) ≠ 0)) else false))
              replace hT := sIf hT; obtain ⟨⟨o1, o2, o3, o4, o5, o6, o7, o8, o9, o10⟩, hT⟩ := hT
              refine rRegC md0 hX rfl rfl rfl (by (repeat' first | exact True.intro | with_reducible assumption | (with_reducible apply And.intro) | intro _) <;> first | assumption | exact o4 (by assumption) | exact o5 (by assumption) | exact o6 (by assumption) | exact o7 (by assumption) | exact o8 (by assumption) | exact o9 (by assumption) | exact o10 (by assumption) | exact rfl | omega | exact Nat.le_of_ble_eq_true rfl | exact selF (by assumption) | exact selT (by assumption) | exact And.intro rfl rfl | exact And.intro (by assumption) rfl | exact And.intro (by omega) rfl | (simp only [inK] at *; omega) | (simp_all [sel] <;> fail) | fail) ?_
              refine rThen ?_
              refine zCond rfl rfl (fun hc => ?_) (fun hc => ?_)
              · replace hT := sT hc hT
                refine rSeq ?_
                refine zReg md0 hX rfl rfl rfl ?_
                refine rThen ?_
                refine rRet ?_
                refine rInRet ?_
                refine rThenRet ?_
                refine rThenRet ?_
                exact zTo [] 0 hε (hxs10 _ (houts1 _ (Option.some.inj hT).symm))
              · replace hT := sF hc hT
                refine rSkip ?_
                refine rInNormal ?_
                refine rThen ?_
                replace hT := sIf hT; obtain ⟨o1, hT⟩ := hT
                refine zReg md0 hX rfl rfl rfl ?_
                exact hnexts1 _ (Option.some.inj hT).symm _ (To.mk' [] 0 hε rfl (by repeat' first | exact True.intro | exact rfl | apply And.intro) (by repeat' first | exact True.intro | exact rfl | apply And.intro))
            · replace hT := sF hc hT
              refine rExit ?_
              refine rThenExit ?_
              refine rThenExit ?_
              exact zTo [] 0 hε (hxs11 _ (houts1 _ (Option.some.inj hT).symm))
          · skip
            refine zCond rfl rfl (fun hc => ?_) (fun hc => ?_)
            · replace hT := sT hc hT
              refine rSeq ?_
              let c4 := (ref20_Row N a5)
              replace hT := sIf hT; obtain ⟨o1, hT⟩ := hT
              refine zReg md0 hX rfl rfl rfl ?_
              refine rThen ?_
              refine zCond rfl rfl (fun hc => ?_) (fun hc => ?_)
              · replace hT := sT hc hT
                refine rSeq ?_
                refine zReg md0 hX rfl rfl rfl ?_
                refine rThen ?_
                refine rRet ?_
                refine rThenRet ?_
                have hy := Option.some.inj hT; subst hy
                exact zEnd0 hX rfl
              · replace hT := sF hc hT
                refine rSkip ?_
                exact zTo [] 0 hε (hjk1 _ hT)
            · replace hT := sF hc hT
              refine rSeq ?_
              refine zReg md0 hX rfl rfl rfl ?_
              refine rThen ?_
              refine zCond rfl rfl (fun hc => ?_) (fun hc => ?_)
              · replace hT := sT hc hT
                refine rSeq ?_
                refine zReg md0 hX rfl rfl rfl ?_
                refine rThen ?_
                refine rRet ?_
                refine rThenRet ?_
                have hy := Option.some.inj hT; subst hy
                exact zEnd0 hX rfl
              · replace hT := sF hc hT
                refine rSkip ?_
                exact zTo [] 0 hε (hjk1 _ hT)
  · cases h
def ref10_Same_b1 (N : Nat) (a1 : (List (Bool × (Int × Int)))) (a2 : (List (Bool × (Int × Int)))) (s1 : Int) : Option (Int ⊕ (Unit ⊕ Unit)) :=
  bif (decide (s1 < (a1.length : Int))) then
    let x1 := (!(((a1.getD (s1).toNat (false, ((0 : Int), (0 : Int)))).1 == (a2.getD (s1).toNat (false, ((0 : Int), (0 : Int)))).1) && (decide ((a1.getD (s1).toNat (false, ((0 : Int), (0 : Int)))).2.1 = (a2.getD (s1).toNat (false, ((0 : Int), (0 : Int)))).2.1) && (decide ((a1.getD (s1).toNat (false, ((0 : Int), (0 : Int)))).2.2 = (a2.getD (s1).toNat (false, ((0 : Int), (0 : Int)))).2.2) && true))))
    if (0 : Int) ≤ s1 ∧ s1 < (a1.length : Int) ∧ s1 < (a2.length : Int) then
      bif x1 then
        some (.inr (Sum.inl ()))
      else
        if inK .i64 (s1 + 1) then
          some (.inl (s1 + 1))
        else none
    else none
  else
    some (.inr (Sum.inr ()))
def ref10_Same (N : Nat) (a1 : (List (Bool × (Int × Int)))) (a2 : (List (Bool × (Int × Int)))) : Option Bool :=
  bif (decide ((a1.length : Int) ≠ (a2.length : Int))) then
    some false
  else
    (iter (ref10_Same_b1 N a1 a2) N 0).bind fun w1 =>
      (Sum.elim (fun v1 =>
        some false
      )
        (fun v2 =>
          some true
        )
      ) w1
def sp_ref10_Same (N : Nat) : X.Spec := fun args lk => match args with
  | [.v (.c (.fz (.pair .bool (.pair (.int .i64) (.int .i64))) a1)), .v (.c (.fz (.pair .bool (.pair (.int .i64) (.int .i64))) a2))] => some ⟨(ref10_Same N a1 a2).isSome = true, .v (.c (.bool ((ref10_Same N a1 a2).getD default))), [], []⟩
  | _ => none
set_option maxRecDepth 100000 in
set_option maxHeartbeats 1000000 in
theorem ok_ref10_Same (N : Nat) : FnOK Tryd.prog gt0 65 (sp_ref10_Same N) := by
  refine fnOK_handed Tryd.func65 rfl (by kernel_rfl) tt_ok (ktNil) ?_
  intro args lk r h hp
  unfold sp_ref10_Same at h
  split at h
  · rename_i a1 a2
    change (List (Bool × (Int × Int))) at a1
    change (List (Bool × (Int × Int))) at a2
    cases h
    obtain ⟨x, hx⟩ := Option.isSome_iff_exists.1 hp
    simp only [hx, Option.getD_some]
    refine hand0 rfl rfl (fun w0 M ε0 hX => ?_)
    refine rCount (fun hε => ?_)
    have hT : ref10_Same N a1 a2 = some x := hx; clear hx hp; unfold ref10_Same at hT
    refine rSeq ?_
    refine zReg md0 hX rfl rfl rfl ?_
    refine rThen ?_
    refine rSeq ?_
    refine rSeq ?_
    refine zReg md0 hX rfl rfl rfl ?_
    refine rThen ?_
    refine zCond rfl rfl (fun hc => ?_) (fun hc => ?_)
    · replace hT := sT hc hT
      refine rSeq ?_
      refine zReg md0 hX rfl rfl rfl ?_
      refine rThen ?_
      refine rRet ?_
      refine rThenRet ?_
      have hy := Option.some.inj hT; subst hy
      exact zEnd0 hX rfl
    · replace hT := sF hc hT
      refine rSkip ?_
      refine rThen ?_
      refine rSeq ?_
      refine rSeq ?_
      refine zReg md0 hX rfl rfl rfl ?_
      refine rThen ?_
      refine rBlock ?_
      replace hT := sBind hT; obtain ⟨w1, hl, hT⟩ := hT
      refine rJoinA (fun v1 => (Sum.inl v1) = w1) (fun v1 => ⟨[(4, .v (.c (.bool false)))], [], 0⟩) .ret (fun v1 hv => ?_) (fun hxs10 => ?_)
      · subst hv; clear hl; replace hT := (sElimL hT)
        refine rInRet ?_
        refine rThenRet ?_
        have hy := Option.some.inj hT; subst hy
        exact zEnd0 hX rfl
      refine rJoinA (fun v2 => (Sum.inr v2) = w1) (fun v2 => ⟨[(4, .v (.c (.bool false)))], [], 0⟩) (.exit 0) (fun v2 hv => ?_) (fun hxs11 => ?_)
      · subst hv; clear hl; replace hT := (sElimR hT)
        refine rInHit ?_
        refine rThen ?_
        refine rSeq ?_
        refine zReg md0 hX rfl rfl rfl ?_
        refine rThen ?_
        refine rRet ?_
        have hy := Option.some.inj hT; subst hy
        exact zEnd0 hX rfl
      refine rLoopM (ref10_Same_b1 N a1 a2) (fun s1 => ⟨[(0, .v (.c (.fz (.pair .bool (.pair (.int .i64) (.int .i64))) a1))), (1, .v (.c (.fz (.pair .bool (.pair (.int .i64) (.int .i64))) a2))), (4, .v (.c (.bool false))), (5, .v (.c (.int .i64 s1)))], [], 0⟩) hl (To.mk' [] 0 hε rfl (by repeat' first | exact True.intro | exact rfl | apply And.intro) (by repeat' first | exact True.intro | exact rfl | apply And.intro)) (fun s1 zs1 NNs1 hz hnexts1 houts1 => ?_)
      clear hl hT
      have hT := hz; clear hz
      refine rSeq ?_
      refine rSeq ?_
      refine zReg md0 hX rfl rfl rfl ?_
      refine rThen ?_
      refine zCond rfl rfl (fun hc => ?_) (fun hc => ?_)
      · replace hT := sT hc hT
        refine rSkip ?_
        refine rThen ?_
        refine rSeq ?_
        refine rBlock ?_
        refine rSeq ?_
        let x1 := (!(((a1.getD (s1).toNat (false, ((0 : Int), (0 : Int)))).1 == (a2.getD (s1).toNat (false, ((0 : Int), (0 : Int)))).1) && (decide ((a1.getD (s1).toNat (false, ((0 : Int), (0 : Int)))).2.1 = (a2.getD (s1).toNat (false, ((0 : Int), (0 : Int)))).2.1) && (decide ((a1.getD (s1).toNat (false, ((0 : Int), (0 : Int)))).2.2 = (a2.getD (s1).toNat (false, ((0 : Int), (0 : Int)))).2.2) && true))))
        replace hT := sIf hT; obtain ⟨⟨o1, o2, o3⟩, hT⟩ := hT
        refine zDraw md0 0 [] hX mixed rfl rfl rfl rfl rfl ?_
        refine rThen ?_
        refine zCond rfl rfl (fun hc => ?_) (fun hc => ?_)
        · replace hT := sT hc hT
          refine rSeq ?_
          refine zReg md0 hX rfl rfl rfl ?_
          refine rThen ?_
          refine rRet ?_
          refine rInRet ?_
          refine rThenRet ?_
          refine rThenRet ?_
          exact zTo [] 0 hε (hxs10 _ (houts1 _ (Option.some.inj hT).symm))
        · replace hT := sF hc hT
          refine rSkip ?_
          refine rInNormal ?_
          refine rThen ?_
          replace hT := sIf hT; obtain ⟨o1, hT⟩ := hT
          refine zReg md0 hX rfl rfl rfl ?_
          exact hnexts1 _ (Option.some.inj hT).symm _ (To.mk' [] 0 hε rfl (by repeat' first | exact True.intro | exact rfl | apply And.intro) (by repeat' first | exact True.intro | exact rfl | apply And.intro))
      · replace hT := sF hc hT
        refine rExit ?_
        refine rThenExit ?_
        refine rThenExit ?_
        exact zTo [] 0 hε (hxs11 _ (houts1 _ (Option.some.inj hT).symm))
  · cases h
def ref21_Same_b1 (N : Nat) (a7 : (List (List (Bool × (Int × Int))))) (a14 : (List (List (Bool × (Int × Int))))) (s1 : Int) : Option (Int ⊕ (Unit ⊕ Unit)) :=
  bif (decide (s1 < 6)) then
    let c1 := (ref10_Same N (a7.getD (s1).toNat []) (a14.getD (s1).toNat []))
    if (0 : Int) ≤ s1 ∧ s1 < 6 ∧ (s1).toNat < 6 ∧ c1.isSome = true then
      bif (!(c1.getD default)) then
        some (.inr (Sum.inl ()))
      else
        if inK .i64 (s1 + 1) then
          some (.inl (s1 + 1))
        else none
    else none
  else
    some (.inr (Sum.inr ()))
def ref21_Same (N : Nat) (a1 : Int) (a2 : Bool) (a3 : Int) (a4 : Int) (a5 : (List Int)) (a6 : (List Int)) (a7 : (List (List (Bool × (Int × Int))))) (a8 : Int) (a9 : Bool) (a10 : Int) (a11 : Int) (a12 : (List Int)) (a13 : (List Int)) (a14 : (List (List (Bool × (Int × Int))))) : Option Bool :=
  let x7 := (bif (bif (bif (bif (bif (decide (a1 ≠ a8)) then true else (!(a2 == a9))) then true else (decide (a3 ≠ a10))) then true else (decide (a4 ≠ a11))) then true else (!(decide (a5 = a12)))) then true else (!(decide (a6 = a13))))
  bif x7 then
    some false
  else
    (iter (ref21_Same_b1 N a7 a14) N 0).bind fun w1 =>
      (Sum.elim (fun v1 =>
        some false
      )
        (fun v2 =>
          some true
        )
      ) w1
def sp_ref21_Same (N : Nat) : X.Spec := fun args lk => match args with
  | [.v (.agg [.cs [.int .i64 a1, .bool a2, .int .i64 a3, .int .i64 a4], .ints 2 .i64 a5, .ints 6 .i64 a6, .fzs 6 (.pair .bool (.pair (.int .i64) (.int .i64))) a7]), .v (.agg [.cs [.int .i64 a8, .bool a9, .int .i64 a10, .int .i64 a11], .ints 2 .i64 a12, .ints 6 .i64 a13, .fzs 6 (.pair .bool (.pair (.int .i64) (.int .i64))) a14])] => some ⟨(ref21_Same N a1 a2 a3 a4 a5 a6 a7 a8 a9 a10 a11 a12 a13 a14).isSome = true, .v (.c (.bool ((ref21_Same N a1 a2 a3 a4 a5 a6 a7 a8 a9 a10 a11 a12 a13 a14).getD default))), [], []⟩
  | _ => none
set_option maxRecDepth 100000 in
set_option maxHeartbeats 1000000 in
theorem ok_ref21_Same (N : Nat) : FnOK Tryd.prog gt0 22 (sp_ref21_Same N) := by
  refine fnOK_handed Tryd.func22 rfl (by kernel_rfl) tt_ok (ktCons (ok_ref10_Same N) (ktNil)) ?_
  intro args lk r h hp
  unfold sp_ref21_Same at h
  split at h
  · rename_i a1 a2 a3 a4 a5 a6 a7 a8 a9 a10 a11 a12 a13 a14
    change (List Int) at a5
    change (List Int) at a6
    change (List (List (Bool × (Int × Int)))) at a7
    change (List Int) at a12
    change (List Int) at a13
    change (List (List (Bool × (Int × Int)))) at a14
    cases h
    obtain ⟨x, hx⟩ := Option.isSome_iff_exists.1 hp
    simp only [hx, Option.getD_some]
    refine hand0 rfl rfl (fun w0 M ε0 hX => ?_)
    refine rCount (fun hε => ?_)
    have hT : ref21_Same N a1 a2 a3 a4 a5 a6 a7 a8 a9 a10 a11 a12 a13 a14 = some x := hx; clear hx hp; unfold ref21_Same at hT
    refine rSeq ?_
    refine zReg md0 hX rfl rfl rfl ?_
    refine rThen ?_
    refine rSeq ?_
    refine rSeq ?_
    let x7 := (bif (bif (bif (bif (bif (decide (a1 ≠ a8)) then true else (!(a2 == a9))) then true else (decide (a3 ≠ a10))) then true else (decide (a4 ≠ a11))) then true else (!(decide (a5 = a12)))) then true else (!(decide (a6 = a13))))
    refine zReg md0 hX rfl rfl rfl ?_
    refine rThen ?_
    refine zCond rfl rfl (fun hc => ?_) (fun hc => ?_)
    · replace hT := sT hc hT
      refine rSeq ?_
      refine zReg md0 hX rfl rfl rfl ?_
      refine rThen ?_
      refine rRet ?_
      refine rThenRet ?_
      have hy := Option.some.inj hT; subst hy
      exact zEnd0 hX rfl
    · replace hT := sF hc hT
      refine rSkip ?_
      refine rThen ?_
      refine rSeq ?_
      refine rSeq ?_
      refine zReg md0 hX rfl rfl rfl ?_
      refine rThen ?_
      refine rBlock ?_
      replace hT := sBind hT; obtain ⟨w1, hl, hT⟩ := hT
      refine rJoinA (fun v1 => (Sum.inl v1) = w1) (fun v1 => ⟨[(4, .v (.c (.bool false)))], [], 2⟩) .ret (fun v1 hv => ?_) (fun hxs10 => ?_)
      · subst hv; clear hl; replace hT := (sElimL hT)
        refine rInRet ?_
        refine rThenRet ?_
        have hy := Option.some.inj hT; subst hy
        exact zEnd0 hX rfl
      refine rJoinA (fun v2 => (Sum.inr v2) = w1) (fun v2 => ⟨[(4, .v (.c (.bool false)))], [], 2⟩) (.exit 0) (fun v2 hv => ?_) (fun hxs11 => ?_)
      · subst hv; clear hl; replace hT := (sElimR hT)
        refine rInHit ?_
        refine rThen ?_
        refine rSeq ?_
        refine zReg md0 hX rfl rfl rfl ?_
        refine rThen ?_
        refine rRet ?_
        have hy := Option.some.inj hT; subst hy
        exact zEnd0 hX rfl
      refine rLoopM (ref21_Same_b1 N a7 a14) (fun s1 => ⟨[(2, .v (.c (.ptr 0 0 0 0 0 0))), (3, .v (.c (.ptr 1 0 0 0 0 0))), (4, .v (.c (.bool false))), (5, .v (.c (.int .i64 s1)))], [(0, .mem true 37 none (.flat [.cs [.int .i64 a1, .bool a2, .int .i64 a3, .int .i64 a4], .ints 2 .i64 a5, .ints 6 .i64 a6, .fzs 6 (.pair .bool (.pair (.int .i64) (.int .i64))) a7])), (1, .mem true 37 none (.flat [.cs [.int .i64 a8, .bool a9, .int .i64 a10, .int .i64 a11], .ints 2 .i64 a12, .ints 6 .i64 a13, .fzs 6 (.pair .bool (.pair (.int .i64) (.int .i64))) a14]))], 2⟩) hl (To.mk' [] 0 hε rfl (by repeat' first | exact True.intro | exact rfl | apply And.intro) (by repeat' first | exact True.intro | exact rfl | apply And.intro)) (fun s1 zs1 NNs1 hz hnexts1 houts1 => ?_)
      clear hl hT
      have hT := hz; clear hz
      refine rSeq ?_
      refine rSeq ?_
      refine zReg md0 hX rfl rfl rfl ?_
      refine rThen ?_
      refine zCond rfl rfl (fun hc => ?_) (fun hc => ?_)
      · replace hT := sT hc hT
        refine rSkip ?_
        refine rThen ?_
        refine rSeq ?_
        refine rBlock ?_
        refine rSeq ?_
        let c1 := (ref10_Same N (a7.getD (s1).toNat []) (a14.getD (s1).toNat []))
        replace hT := sIf hT; obtain ⟨⟨o1, o2, o3, o4⟩, hT⟩ := hT
        refine zDraw md0 0 [] hX mixed rfl rfl rfl rfl rfl ?_
        refine rThen ?_
        refine zCond rfl rfl (fun hc => ?_) (fun hc => ?_)
        · replace hT := sT hc hT
          refine rSeq ?_
          refine zReg md0 hX rfl rfl rfl ?_
          refine rThen ?_
          refine rRet ?_
          refine rInRet ?_
          refine rThenRet ?_
          refine rThenRet ?_
          exact zTo [] 0 hε (hxs10 _ (houts1 _ (Option.some.inj hT).symm))
        · replace hT := sF hc hT
          refine rSkip ?_
          refine rInNormal ?_
          refine rThen ?_
          replace hT := sIf hT; obtain ⟨o1, hT⟩ := hT
          refine zReg md0 hX rfl rfl rfl ?_
          exact hnexts1 _ (Option.some.inj hT).symm _ (To.mk' [] 0 hε rfl (by repeat' first | exact True.intro | exact rfl | apply And.intro) (by repeat' first | exact True.intro | exact rfl | apply And.intro))
      · replace hT := sF hc hT
        refine rExit ?_
        refine rThenExit ?_
        refine rThenExit ?_
        exact zTo [] 0 hε (hxs11 _ (houts1 _ (Option.some.inj hT).symm))
  · cases h
def ref11_Order_b2 (N : Nat) (s1 : (Int × Int × (List Int))) (s2 : (Int × Int × (List Int))) : Option ((Int × Int × (List Int)) ⊕ (Int × Int × Int × Bool × (List Int))) :=
  bif (decide (s2.2.1 < 8)) then
    if (0 : Int) ≤ s1.2.1 then
      if ((decide ((s1.2.1 % 2) = 0)) = true → inK .i64 ((7 : Int) - s2.2.1)) then
        if inK .i64 (s1.2.1 - (bif (decide ((s1.2.1 % 2) = 0)) then ((7 : Int) - s2.2.1) else s2.2.1)) then
          let x1 := (decide ((0 : Int) ≤ (s1.2.1 - (bif (decide ((s1.2.1 % 2) = 0)) then ((7 : Int) - s2.2.1) else s2.2.1))))
          let x3 := (bif (decide ((0 : Int) ≤ (s1.2.1 - (bif (decide ((s1.2.1 % 2) = 0)) then ((7 : Int) - s2.2.1) else s2.2.1)))) then (decide ((s1.2.1 - (bif (decide ((s1.2.1 % 2) = 0)) then ((7 : Int) - s2.2.1) else s2.2.1)) < 8)) else false)
          joinK (fun (v3 : (Int × (List Int))) =>
            if inK .i64 (s2.2.1 + 1) then
              some (.inl (v3.1, (s2.2.1 + 1), v3.2))
            else none
          ) fun k1 =>
            bif x3 then
              let x5 := (s2.2.2.set (s2.1).toNat (((8 : Int) * (bif (decide ((s1.2.1 % 2) = 0)) then ((7 : Int) - s2.2.1) else s2.2.1)) + (s1.2.1 - (bif (decide ((s1.2.1 % 2) = 0)) then ((7 : Int) - s2.2.1) else s2.2.1))))
              if inK .i64 ((8 : Int) * (bif (decide ((s1.2.1 % 2) = 0)) then ((7 : Int) - s2.2.1) else s2.2.1)) ∧ inK .i64 (((8 : Int) * (bif (decide ((s1.2.1 % 2) = 0)) then ((7 : Int) - s2.2.1) else s2.2.1)) + (s1.2.1 - (bif (decide ((s1.2.1 % 2) = 0)) then ((7 : Int) - s2.2.1) else s2.2.1))) ∧ (0 : Int) ≤ s2.1 ∧ s2.1 < 64 ∧ (s2.1).toNat < 64 then
                if inK .i64 (s2.1 + 1) then
                  k1 ((s2.1 + 1), x5)
                else none
              else none
            else
              k1 (s2.1, s2.2.2)
        else none
      else none
    else none
  else
    some (.inr (s2.1, s2.2.1, s2.2.1, (decide (s2.2.1 < 8)), s2.2.2))
def ref11_Order_b1 (N : Nat) (s1 : (Int × Int × (List Int))) : Option ((Int × Int × (List Int)) ⊕ (List Int)) :=
  bif (decide (s1.2.1 < 15)) then
    (iter (ref11_Order_b2 N s1) N (s1.1, 0, s1.2.2)).bind fun v2 =>
      if inK .i64 (s1.2.1 + 1) then
        some (.inl (v2.1, (s1.2.1 + 1), v2.2.2.2.2))
      else none
  else
    some (.inr s1.2.2)
def ref11_Order (N : Nat) : Option (List Int) :=
  (iter (ref11_Order_b1 N) N (0, 0, (List.replicate 64 0))).bind fun v1 =>
    some v1
def sp_ref11_Order (N : Nat) : X.Spec := fun args lk => match args with
  | [] => some ⟨(ref11_Order N).isSome = true, .v (.agg [.ints 64 .i64 ((ref11_Order N).getD default)]), [], []⟩
  | _ => none
set_option maxRecDepth 100000 in
set_option maxHeartbeats 1000000 in
theorem ok_ref11_Order (N : Nat) : FnOK Tryd.prog gt0 117 (sp_ref11_Order N) := by
  refine fnOK_handed Tryd.func117 rfl (by kernel_rfl) tt_ok (ktNil) ?_
  intro args lk r h hp
  unfold sp_ref11_Order at h
  split at h
  · skip
    cases h
    obtain ⟨x, hx⟩ := Option.isSome_iff_exists.1 hp
    simp only [hx, Option.getD_some]
    refine hand0 rfl rfl (fun w0 M ε0 hX => ?_)
    refine rCount (fun hε => ?_)
    have hT : ref11_Order N = some x := hx; clear hx hp; unfold ref11_Order at hT
    refine rSeq ?_
    refine zReg md0 hX rfl rfl rfl ?_
    refine rThen ?_
    refine rSeq ?_
    refine zReg md0 hX rfl rfl rfl ?_
    refine rThen ?_
    refine rSeq ?_
    refine zReg md0 hX rfl rfl rfl ?_
    refine rThen ?_
    refine rSeq ?_
    refine rSeq ?_
    refine zReg md0 hX rfl rfl rfl ?_
    refine rThen ?_
    refine rBlock ?_
    replace hT := sBind hT; obtain ⟨w1, hl, hT⟩ := hT
    refine rJoinA (fun v1 => v1 = w1) (fun v1 => ⟨[(0, .v (.c (.ptr 0 0 0 0 0 0))), (1, .v (.c (.ptr 1 0 0 0 0 0)))], [(0, .mem true 22 none (.flat [.ints 64 .i64 (List.replicate 64 0)])), (1, .mem true 22 none (.flat [.ints 64 .i64 v1]))], 2⟩) (.exit 0) (fun v1 hv => ?_) (fun hxs10 => ?_)
    · subst hv; clear hl
      refine rInHit ?_
      refine rThen ?_
      refine rSeq ?_
      refine zReg md0 hX rfl rfl rfl ?_
      refine rThen ?_
      refine rRet ?_
      have hy := Option.some.inj hT; subst hy
      exact zEnd0 hX rfl
    refine rLoopM (ref11_Order_b1 N) (fun s1 => ⟨[(0, .v (.c (.ptr 0 0 0 0 0 0))), (1, .v (.c (.ptr 1 0 0 0 0 0))), (2, .v (.c (.int .i64 s1.1))), (3, .v (.c (.int .i64 s1.2.1)))], [(0, .mem true 22 none (.flat [.ints 64 .i64 (List.replicate 64 0)])), (1, .mem true 22 none (.flat [.ints 64 .i64 s1.2.2]))], 2⟩) hl (To.mk' [] 0 hε rfl (by repeat' first | exact True.intro | exact rfl | apply And.intro) (by repeat' first | exact True.intro | exact rfl | apply And.intro)) (fun s1 zs1 NNs1 hz hnexts1 houts1 => ?_)
    clear hl hT
    have hT := hz; clear hz
    refine rSeq ?_
    refine rSeq ?_
    refine zReg md0 hX rfl rfl rfl ?_
    refine rThen ?_
    refine zCond rfl rfl (fun hc => ?_) (fun hc => ?_)
    · replace hT := sT hc hT
      refine rSkip ?_
      refine rThen ?_
      refine rSeq ?_
      refine rBlock ?_
      refine rSeq ?_
      refine zReg md0 hX rfl rfl rfl ?_
      refine rThen ?_
      refine rBlock ?_
      replace hT := sBind hT; obtain ⟨w2, hl, hT⟩ := hT
      refine rJoinA (fun v2 => v2 = w2) (fun v2 => ⟨[(0, .v (.c (.ptr 0 0 0 0 0 0))), (1, .v (.c (.ptr 1 0 0 0 0 0))), (2, .v (.c (.int .i64 v2.1))), (3, .v (.c (.int .i64 s1.2.1))), (4, .v (.c (.int .i64 v2.2.1))), (7, .v (.c (.int .i64 s1.2.1))), (8, .v (.c (.bool (decide (s1.2.1 < 15))))), (11, .v (.c (.int .i64 v2.2.2.1))), (12, .v (.c (.bool v2.2.2.2.1)))], [(0, .mem true 22 none (.flat [.ints 64 .i64 (List.replicate 64 0)])), (1, .mem true 22 none (.flat [.ints 64 .i64 v2.2.2.2.2]))], 2⟩) (.exit 2) (fun v2 hv => ?_) (fun hxs20 => ?_)
      · subst hv; clear hl
        refine rInHit ?_
        refine rInNormal ?_
        refine rThen ?_
        replace hT := sIf hT; obtain ⟨o1, hT⟩ := hT
        refine zReg md0 hX rfl rfl rfl ?_
        exact hnexts1 _ (Option.some.inj hT).symm _ (To.mk' [] 0 hε rfl (by repeat' first | exact True.intro | exact rfl | apply And.intro) (by repeat' first | exact True.intro | exact rfl | apply And.intro))
      refine rLoopM (ref11_Order_b2 N s1) (fun s2 => ⟨[(0, .v (.c (.ptr 0 0 0 0 0 0))), (1, .v (.c (.ptr 1 0 0 0 0 0))), (2, .v (.c (.int .i64 s2.1))), (3, .v (.c (.int .i64 s1.2.1))), (4, .v (.c (.int .i64 s2.2.1))), (7, .v (.c (.int .i64 s1.2.1))), (8, .v (.c (.bool (decide (s1.2.1 < 15)))))], [(0, .mem true 22 none (.flat [.ints 64 .i64 (List.replicate 64 0)])), (1, .mem true 22 none (.flat [.ints 64 .i64 s2.2.2]))], 2⟩) hl (To.mk' [] 0 hε rfl (by repeat' first | exact True.intro | exact rfl | apply And.intro) (by repeat' first | exact True.intro | exact rfl | apply And.intro)) (fun s2 zs2 NNs2 hz hnexts2 houts2 => ?_)
      clear hl hT
      have hT := hz; clear hz
      refine rSeq ?_
      refine rSeq ?_
      refine zReg md0 hX rfl rfl rfl ?_
      refine rThen ?_
      refine zCond rfl rfl (fun hc => ?_) (fun hc => ?_)
      · replace hT := sT hc hT
        refine rSkip ?_
        refine rThen ?_
        refine rSeq ?_
        refine rBlock ?_
        refine rSeq ?_
        refine zReg md0 hX rfl rfl rfl ?_
        refine rThen ?_
        refine rSeq ?_
        refine rSeq ?_
        replace hT := sIf hT; obtain ⟨o1, hT⟩ := hT
        refine zReg md0 hX rfl rfl rfl ?_
        refine rThen ?_
        replace hT := sIf hT; obtain ⟨q1, hT⟩ := hT
        refine rJoin ⟨[(0, .v (.c (.ptr 0 0 0 0 0 0))), (1, .v (.c (.ptr 1 0 0 0 0 0))), (2, .v (.c (.int .i64 s2.1))), (3, .v (.c (.int .i64 s1.2.1))), (4, .v (.c (.int .i64 s2.2.1))), (5, .v (.c (.int .i64 (bif (decide ((s1.2.1 % 2) = 0)) then ((7 : Int) - s2.2.1) else s2.2.1)))), (7, .v (.c (.int .i64 s1.2.1))), (8, .v (.c (.bool (decide (s1.2.1 < 15))))), (11, .v (.c (.int .i64 s2.2.1))), (12, .v (.c (.bool (decide (s2.2.1 < 8))))), (15, .v (.c (.int .i64 s2.2.1))), (16, .v (.c (.int .i64 s1.2.1))), (17, .v (.c (.int .i64 (s1.2.1 % 2)))), (18, .v (.c (.bool (decide ((s1.2.1 % 2) = 0)))))], [(0, .mem true 22 none (.flat [.ints 64 .i64 (List.replicate 64 0)])), (1, .mem true 22 none (.flat [.ints 64 .i64 s2.2.2]))], 2⟩ ?_ (fun hj => ?_)
        · skip
          refine rThen ?_
          refine rSeq ?_
          replace hT := sIf hT; obtain ⟨o1, hT⟩ := hT
          refine zReg md0 hX rfl rfl rfl ?_
          refine rThen ?_
          refine rSeq ?_
          let x1 := (decide ((0 : Int) ≤ (s1.2.1 - (bif (decide ((s1.2.1 % 2) = 0)) then ((7 : Int) - s2.2.1) else s2.2.1))))
          let x3 := (bif (decide ((0 : Int) ≤ (s1.2.1 - (bif (decide ((s1.2.1 % 2) = 0)) then ((7 : Int) - s2.2.1) else s2.2.1)))) then (decide ((s1.2.1 - (bif (decide ((s1.2.1 % 2) = 0)) then ((7 : Int) - s2.2.1) else s2.2.1)) < 8)) else false)
          refine zReg md0 hX rfl rfl rfl ?_
          refine rThen ?_
          refine rJoinK hT (fun v3 => ⟨[(0, .v (.c (.ptr 0 0 0 0 0 0))), (1, .v (.c (.ptr 1 0 0 0 0 0))), (2, .v (.c (.int .i64 v3.1))), (3, .v (.c (.int .i64 s1.2.1))), (4, .v (.c (.int .i64 s2.2.1))), (5, .v (.c (.int .i64 (bif (decide ((s1.2.1 % 2) = 0)) then ((7 : Int) - s2.2.1) else s2.2.1)))), (6, .v (.c (.int .i64 (s1.2.1 - (bif (decide ((s1.2.1 % 2) = 0)) then ((7 : Int) - s2.2.1) else s2.2.1))))), (7, .v (.c (.int .i64 s1.2.1))), (8, .v (.c (.bool (decide (s1.2.1 < 15))))), (11, .v (.c (.int .i64 s2.2.1))), (12, .v (.c (.bool (decide (s2.2.1 < 8))))), (15, .v (.c (.int .i64 s2.2.1))), (16, .v (.c (.int .i64 s1.2.1))), (17, .v (.c (.int .i64 (s1.2.1 % 2)))), (18, .v (.c (.bool (decide ((s1.2.1 % 2) = 0))))), (21, .v (.c (.int .i64 s1.2.1))), (22, .v (.c (.int .i64 (bif (decide ((s1.2.1 % 2) = 0)) then ((7 : Int) - s2.2.1) else s2.2.1)))), (23, .v (.c (.int .i64 (s1.2.1 - (bif (decide ((s1.2.1 % 2) = 0)) then ((7 : Int) - s2.2.1) else s2.2.1))))), (24, .v (.c (.int .i64 (s1.2.1 - (bif (decide ((s1.2.1 % 2) = 0)) then ((7 : Int) - s2.2.1) else s2.2.1))))), (25, .v (.c (.bool x1))), (26, .v (.c (.bool x1))), (29, .v (.c (.bool x3)))], [(0, .mem true 22 none (.flat [.ints 64 .i64 (List.replicate 64 0)])), (1, .mem true 22 none (.flat [.ints 64 .i64 v3.2]))], 2⟩) (fun v3 hT => ?_) (fun k1 hjk1 hT => ?_)
          · skip
            refine rInNormal ?_
            refine rThen ?_
            replace hT := sIf hT; obtain ⟨o1, hT⟩ := hT
            refine zReg md0 hX rfl rfl rfl ?_
            exact hnexts2 _ (Option.some.inj hT).symm _ (To.mk' [] 0 hε rfl (by repeat' first | exact True.intro | exact rfl | apply And.intro) (by repeat' first | exact True.intro | exact rfl | apply And.intro))
          · skip
            refine zCond rfl rfl (fun hc => ?_) (fun hc => ?_)
            · replace hT := sT hc hT
              refine rSeq ?_
              let x5 := (s2.2.2.set (s2.1).toNat (((8 : Int) * (bif (decide ((s1.2.1 % 2) = 0)) then ((7 : Int) - s2.2.1) else s2.2.1)) + (s1.2.1 - (bif (decide ((s1.2.1 % 2) = 0)) then ((7 : Int) - s2.2.1) else s2.2.1))))
              replace hT := sIf hT; obtain ⟨⟨o1, o2, o3, o4, o5⟩, hT⟩ := hT
              refine zReg md0 hX rfl rfl rfl ?_
              refine rThen ?_
              replace hT := sIf hT; obtain ⟨o1, hT⟩ := hT
              refine zReg md0 hX rfl rfl rfl ?_
              exact zTo [] 0 hε (hjk1 _ hT)
            · replace hT := sF hc hT
              refine rSkip ?_
              exact zTo [] 0 hε (hjk1 _ hT)
        · clear hT
          refine zCond rfl rfl (fun hc => ?_) (fun hc => ?_)
          · skip
            have q1 := q1 hc
            refine zReg md0 hX rfl rfl rfl ?_
            exact rTo (To.mk' [] 0 hε rfl (by (repeat' first | exact True.intro | exact rfl | apply And.intro) <;> (repeat' first | exact rfl | refine Eq.trans ?_ (cTr (by assumption)) | refine Eq.trans ?_ (cFr (by assumption)) | refine Eq.trans (cTl (by assumption)) ?_ | refine Eq.trans (cFl (by assumption)) ?_)) (by (repeat' first | exact True.intro | exact rfl | apply And.intro) <;> (repeat' first | exact rfl | refine Eq.trans ?_ (cTr (by assumption)) | refine Eq.trans ?_ (cFr (by assumption)) | refine Eq.trans (cTl (by assumption)) ?_ | refine Eq.trans (cFl (by assumption)) ?_))) hj
          · skip
            refine rSkip ?_
            exact rTo (To.mk' [] 0 hε rfl (by (repeat' first | exact True.intro | exact rfl | apply And.intro) <;> (repeat' first | exact rfl | refine Eq.trans ?_ (cTr (by assumption)) | refine Eq.trans ?_ (cFr (by assumption)) | refine Eq.trans (cTl (by assumption)) ?_ | refine Eq.trans (cFl (by assumption)) ?_)) (by (repeat' first | exact True.intro | exact rfl | apply And.intro) <;> (repeat' first | exact rfl | refine Eq.trans ?_ (cTr (by assumption)) | refine Eq.trans ?_ (cFr (by assumption)) | refine Eq.trans (cTl (by assumption)) ?_ | refine Eq.trans (cFl (by assumption)) ?_))) hj
      · replace hT := sF hc hT
        refine rExit ?_
        refine rThenExit ?_
        refine rThenExit ?_
        exact zTo [] 0 hε (hxs20 _ (houts2 _ (Option.some.inj hT).symm))
    · replace hT := sF hc hT
      refine rExit ?_
      refine rThenExit ?_
      refine rThenExit ?_
      exact zTo [] 0 hε (hxs10 _ (houts1 _ (Option.some.inj hT).symm))
  · cases h
def ref11_Told_b1 (N : Nat) (a1 : (List Int)) (c1 : (Option (List Int))) (s1 : (Int × (List Int))) : Option ((Int × (List Int)) ⊕ (List Int)) :=
  bif (decide (s1.1 < 64)) then
    if (0 : Int) ≤ s1.1 ∧ s1.1 < 64 ∧ (s1.1).toNat < 64 ∧ (0 : Int) ≤ ((c1.getD default).getD (s1.1).toNat 0) ∧ ((c1.getD default).getD (s1.1).toNat 0) < 64 ∧ ((c1.getD default).getD (s1.1).toNat 0).toNat < 64 then
      if inK .i64 (s1.1 + 1) then
        some (.inl ((s1.1 + 1), (s1.2.set (s1.1).toNat (a1.getD ((c1.getD default).getD (s1.1).toNat 0).toNat 0))))
      else none
    else none
  else
    some (.inr s1.2)
def ref11_Told (N : Nat) (a1 : (List Int)) : Option (List Int) :=
  let c1 := (ref11_Order N)
  if c1.isSome = true then
    (iter (ref11_Told_b1 N a1 c1) N (0, (List.replicate 64 0))).bind fun v1 =>
      some v1
  else none
def sp_ref11_Told (N : Nat) : X.Spec := fun args lk => match args with
  | [.v (.agg [.ints 64 .i64 a1])] => some ⟨(ref11_Told N a1).isSome = true, .v (.agg [.ints 64 .i64 ((ref11_Told N a1).getD default)]), [], []⟩
  | _ => none
set_option maxRecDepth 100000 in
set_option maxHeartbeats 1000000 in
theorem ok_ref11_Told (N : Nat) : FnOK Tryd.prog gt0 67 (sp_ref11_Told N) := by
  refine fnOK_handed Tryd.func67 rfl (by kernel_rfl) tt_ok (ktCons (ok_ref11_Order N) (ktNil)) ?_
  intro args lk r h hp
  unfold sp_ref11_Told at h
  split at h
  · rename_i a1
    change (List Int) at a1
    cases h
    obtain ⟨x, hx⟩ := Option.isSome_iff_exists.1 hp
    simp only [hx, Option.getD_some]
    refine hand0 rfl rfl (fun w0 M ε0 hX => ?_)
    refine rCount (fun hε => ?_)
    have hT : ref11_Told N a1 = some x := hx; clear hx hp; unfold ref11_Told at hT
    refine rSeq ?_
    refine zReg md0 hX rfl rfl rfl ?_
    refine rThen ?_
    refine rSeq ?_
    let c1 := (ref11_Order N)
    replace hT := sIf hT; obtain ⟨o1, hT⟩ := hT
    refine zReg md0 hX rfl rfl rfl ?_
    refine rThen ?_
    refine rSeq ?_
    refine zReg md0 hX rfl rfl rfl ?_
    refine rThen ?_
    refine rSeq ?_
    refine rSeq ?_
    refine zReg md0 hX rfl rfl rfl ?_
    refine rThen ?_
    refine rBlock ?_
    replace hT := sBind hT; obtain ⟨w1, hl, hT⟩ := hT
    refine rJoinA (fun v1 => v1 = w1) (fun v1 => ⟨[(2, .v (.c (.ptr 1 0 0 0 0 0))), (4, .v (.c (.ptr 3 0 0 0 0 0)))], [(1, .mem true 22 none (.flat [.ints 64 .i64 (List.replicate 64 0)])), (3, .mem true 22 none (.flat [.ints 64 .i64 v1]))], 4⟩) (.exit 0) (fun v1 hv => ?_) (fun hxs10 => ?_)
    · subst hv; clear hl
      refine rInHit ?_
      refine rThen ?_
      refine rSeq ?_
      refine zReg md0 hX rfl rfl rfl ?_
      refine rThen ?_
      refine rRet ?_
      have hy := Option.some.inj hT; subst hy
      exact zEnd0 hX rfl
    refine rLoopM (ref11_Told_b1 N a1 c1) (fun s1 => ⟨[(1, .v (.c (.ptr 0 0 0 0 0 0))), (2, .v (.c (.ptr 1 0 0 0 0 0))), (3, .v (.c (.ptr 2 0 0 0 0 0))), (4, .v (.c (.ptr 3 0 0 0 0 0))), (5, .v (.c (.int .i64 s1.1)))], [(0, .mem true 22 none (.flat [.ints 64 .i64 a1])), (1, .mem true 22 none (.flat [.ints 64 .i64 (List.replicate 64 0)])), (2, .mem true 22 none (.flat [.ints 64 .i64 (c1.getD default)])), (3, .mem true 22 none (.flat [.ints 64 .i64 s1.2]))], 4⟩) hl (To.mk' [] 0 hε rfl (by repeat' first | exact True.intro | exact rfl | apply And.intro) (by repeat' first | exact True.intro | exact rfl | apply And.intro)) (fun s1 zs1 NNs1 hz hnexts1 houts1 => ?_)
    clear hl hT
    have hT := hz; clear hz
    refine rSeq ?_
    refine rSeq ?_
    refine zReg md0 hX rfl rfl rfl ?_
    refine rThen ?_
    refine zCond rfl rfl (fun hc => ?_) (fun hc => ?_)
    · replace hT := sT hc hT
      refine rSkip ?_
      refine rThen ?_
      refine rSeq ?_
      refine rBlock ?_
      replace hT := sIf hT; obtain ⟨⟨o1, o2, o3, o4, o5, o6⟩, hT⟩ := hT
      refine zReg md0 hX rfl rfl rfl ?_
      refine rInNormal ?_
      refine rThen ?_
      replace hT := sIf hT; obtain ⟨o1, hT⟩ := hT
      refine zReg md0 hX rfl rfl rfl ?_
      exact hnexts1 _ (Option.some.inj hT).symm _ (To.mk' [] 0 hε rfl (by repeat' first | exact True.intro | exact rfl | apply And.intro) (by repeat' first | exact True.intro | exact rfl | apply And.intro))
    · replace hT := sF hc hT
      refine rExit ?_
      refine rThenExit ?_
      refine rThenExit ?_
      exact zTo [] 0 hε (hxs10 _ (houts1 _ (Option.some.inj hT).symm))
  · cases h
def ref10_Events_b1 (N : Nat) (v2 : (Nat × (List (Bool × (Int × Int))))) (s3 : (Int × (List (Bool × (Int × Int))))) : Option ((Int × (List (Bool × (Int × Int)))) ⊕ (List (Bool × (Int × Int)))) :=
  bif (decide (s3.1 < (v2.1 : Int))) then
    let x1 := (s3.2.set (s3.1).toNat ((decide ((s3.1 + 1) = (v2.1 : Int))), (s3.2.getD (s3.1).toNat (false, ((0 : Int), (0 : Int)))).2))
    if inK .i64 (s3.1 + 1) ∧ (0 : Int) ≤ s3.1 ∧ s3.1 < (v2.1 : Int) ∧ (s3.1).toNat < s3.2.length then
      if inK .i64 (s3.1 + 1) then
        some (.inl ((s3.1 + 1), x1))
      else none
    else none
  else
    some (.inr s3.2)
def ref10_Events_b2 (N : Nat) (a1 : (List Int)) (s2 : (Nat × Int × Int × (List (Bool × (Int × Int))))) : Option ((Nat × Int × Int × (List (Bool × (Int × Int)))) ⊕ (Unit ⊕ (Nat × (List (Bool × (Int × Int)))))) :=
  bif (decide (s2.2.2.1 < 64)) then
    let x2 := (bif (decide ((127 : Int) < (a1.getD (s2.2.2.1).toNat 0))) then true else (decide ((a1.getD (s2.2.2.1).toNat 0) < (-127))))
    if (0 : Int) ≤ s2.2.2.1 ∧ s2.2.2.1 < 64 ∧ (s2.2.2.1).toNat < 64 ∧ ((!(decide ((127 : Int) < (a1.getD (s2.2.2.1).toNat 0)))) = true → (0 : Int) ≤ s2.2.2.1) ∧ ((!(decide ((127 : Int) < (a1.getD (s2.2.2.1).toNat 0)))) = true → s2.2.2.1 < 64) ∧ ((!(decide ((127 : Int) < (a1.getD (s2.2.2.1).toNat 0)))) = true → (s2.2.2.1).toNat < 64) then
      bif x2 then
        some (.inr (Sum.inl ()))
      else
        if (0 : Int) ≤ s2.2.2.1 ∧ s2.2.2.1 < 64 ∧ (s2.2.2.1).toNat < 64 then
          joinK (fun (v4 : (Nat × Int × (List (Bool × (Int × Int))))) =>
            if inK .i64 (s2.2.2.1 + 1) then
              some (.inl (v4.1, v4.2.1, (s2.2.2.1 + 1), v4.2.2))
            else none
          ) fun k1 =>
            bif (decide ((a1.getD (s2.2.2.1).toNat 0) ≠ 0)) then
              if inK .i64 (s2.2.2.1 - s2.2.1) ∧ inK .i64 ((s2.2.2.1 - s2.2.1) - 1) ∧ (0 : Int) ≤ s2.2.2.1 ∧ s2.2.2.1 < 64 ∧ (s2.2.2.1).toNat < 64 ∧ s2.2.2.2.length = s2.1 ∧ (s2.1 + 1) * 24 ≤ 140737488355328 ∧ s2.1 + 1 ≤ 9223372036854775807 then
                k1 ((s2.1 + 1), s2.2.2.1, (s2.2.2.2 ++ [(false, (((s2.2.2.1 - s2.2.1) - 1), (a1.getD (s2.2.2.1).toNat 0)))]))
              else none
            else
              k1 (s2.1, s2.2.1, s2.2.2.2)
        else none
    else none
  else
    some (.inr (Sum.inr (s2.1, s2.2.2.2)))
def ref10_Events (N : Nat) (a1 : (List Int)) (a2 : Int) : Option ((List (Bool × (Int × Int))) × Int) :=
  bif (bif (decide (a2 < 0)) then true else (decide ((1 : Int) < a2))) then
    some ([], 1)
  else
    if inK .i64 (a2 - 1) then
      (iter (ref10_Events_b2 N a1) N (0, (a2 - 1), a2, [])).bind fun w1 =>
        (Sum.elim (fun v1 =>
          some ([], 7)
        )
          (fun v2 =>
            (iter (ref10_Events_b1 N v2) N (0, v2.2)).bind fun v3 =>
              if v2.1 = v3.length then
                some (v3, 0)
              else none
          )
        ) w1
    else none
def sp_ref10_Events (N : Nat) : X.Spec := fun args lk => match args with
  | [.v (.agg [.ints 64 .i64 a1]), .v (.c (.int .i64 a2))] => some ⟨(ref10_Events N a1 a2).isSome = true, .tup [.c (.fz (.pair .bool (.pair (.int .i64) (.int .i64))) ((ref10_Events N a1 a2).getD default).1), .c (.int .i64 ((ref10_Events N a1 a2).getD default).2)], [], []⟩
  | _ => none
set_option maxRecDepth 100000 in
set_option maxHeartbeats 1000000 in
theorem ok_ref10_Events (N : Nat) : FnOK Tryd.prog gt0 66 (sp_ref10_Events N) := by
  refine fnOK_handed Tryd.func66 rfl (by kernel_rfl) tt_ok (ktNil) ?_
  intro args lk r h hp
  unfold sp_ref10_Events at h
  split at h
  · rename_i a1 a2
    change (List Int) at a1
    cases h
    obtain ⟨x, hx⟩ := Option.isSome_iff_exists.1 hp
    simp only [hx, Option.getD_some]
    refine hand0 rfl rfl (fun w0 M ε0 hX => ?_)
    refine rCount (fun hε => ?_)
    have hT : ref10_Events N a1 a2 = some x := hx; clear hx hp; unfold ref10_Events at hT
    refine rSeq ?_
    refine zReg md0 hX rfl rfl rfl ?_
    refine rThen ?_
    refine rSeq ?_
    refine rSeq ?_
    refine zReg md0 hX rfl rfl rfl ?_
    refine rThen ?_
    refine zCond rfl rfl (fun hc => ?_) (fun hc => ?_)
    · replace hT := sT hc hT
      refine rSeq ?_
      refine zReg md0 hX rfl rfl rfl ?_
      refine rThen ?_
      refine rRet ?_
      refine rThenRet ?_
      have hy := Option.some.inj hT; subst hy
      exact zEnd0 hX rfl
    · replace hT := sF hc hT
      refine rSkip ?_
      refine rThen ?_
      refine rSeq ?_
      refine zReg md0 hX rfl rfl rfl ?_
      refine rThen ?_
      refine rSeq ?_
      replace hT := sIf hT; obtain ⟨o1, hT⟩ := hT
      refine zReg md0 hX rfl rfl rfl ?_
      refine rThen ?_
      refine rSeq ?_
      refine rSeq ?_
      refine zReg md0 hX rfl rfl rfl ?_
      refine rThen ?_
      refine rBlock ?_
      refine rNil 109 3 (.lst (.pair .bool (.pair (.int .i64) (.int .i64))) []) [(2, .v (.c (.ptr 0 0 0 0 0 0))), (4, .v (.c (.val (.slice none 0 0)))), (5, .v (.c (.int .i64 0))), (6, .v (.c (.sl 1 0 0 3))), (7, .v (.c (.int .i64 (a2 - 1)))), (8, .v (.c (.int .i64 a2)))] [(0, .mem true 22 none (.flat [.ints 64 .i64 a1]))] (nil_lst _) (by (repeat' first | exact True.intro | exact rfl | apply And.intro) <;> first | assumption | rfl) (by (repeat' first | exact True.intro | exact rfl | apply And.intro) <;> first | assumption | rfl) ?_
      replace hT := sBind hT; obtain ⟨w1, hl, hT⟩ := hT
      refine rJoinA (fun v1 => (Sum.inl v1) = w1) (fun v1 => ⟨[(4, .v (.c (.val (.slice none 0 0)))), (5, .v (.c (.int .i64 7)))], [], 2⟩) .ret (fun v1 hv => ?_) (fun hxs20 => ?_)
      · subst hv; clear hl; replace hT := (sElimL hT)
        refine rInRet ?_
        refine rThenRet ?_
        have hy := Option.some.inj hT; subst hy
        exact zEnd0 hX rfl
      refine rJoinA (fun v2 => (Sum.inr v2) = w1) (fun v2 => ⟨[(4, .v (.c (.val (.slice none 0 0)))), (5, .v (.c (.int .i64 0))), (6, .v (.c (.sl 1 0 v2.1 3)))], [(1, .mem true 109 (some 3) (.lst (.pair .bool (.pair (.int .i64) (.int .i64))) v2.2))], 2⟩) (.exit 0) (fun v2 hv => ?_) (fun hxs21 => ?_)
      · subst hv; clear hl; replace hT := (sElimR hT)
        refine rInHit ?_
        refine rThen ?_
        refine rSeq ?_
        refine rSeq ?_
        refine zReg md0 hX rfl rfl rfl ?_
        refine rThen ?_
        refine rBlock ?_
        replace hT := sBind hT; obtain ⟨w2, hl, hT⟩ := hT
        refine rJoinA (fun v3 => v3 = w2) (fun v3 => ⟨[(4, .v (.c (.val (.slice none 0 0)))), (5, .v (.c (.int .i64 0))), (6, .v (.c (.sl 1 0 v2.1 3)))], [(1, .mem true 109 (some 3) (.lst (.pair .bool (.pair (.int .i64) (.int .i64))) v3))], 2⟩) (.exit 2) (fun v3 hv => ?_) (fun hxs30 => ?_)
        · subst hv; clear hl
          refine rInHit ?_
          refine rThen ?_
          refine rSeq ?_
          refine zReg md0 hX rfl rfl rfl ?_
          refine rThen ?_
          refine rRet ?_
          replace hT := sIf hT; obtain ⟨p1, hT⟩ := hT
          refine rFreezeQ 1 (.pair .bool (.pair (.int .i64) (.int .i64))) v3 [(4, .v (.c (.fz (.pair .bool (.pair (.int .i64) (.int .i64))) v3))), (5, .v (.c (.int .i64 0)))] [] rfl rfl (by (repeat' first | exact True.intro | exact rfl | apply And.intro) <;> first | assumption | rfl) (by (repeat' first | exact True.intro | exact rfl | apply And.intro) <;> first | assumption | rfl) ?_
          have hy := Option.some.inj hT; subst hy
          exact zEnd0 hX rfl
        refine rLoopM (ref10_Events_b1 N v2) (fun s3 => ⟨[(4, .v (.c (.val (.slice none 0 0)))), (5, .v (.c (.int .i64 0))), (6, .v (.c (.sl 1 0 v2.1 3))), (9, .v (.c (.int .i64 s3.1)))], [(1, .mem true 109 (some 3) (.lst (.pair .bool (.pair (.int .i64) (.int .i64))) s3.2))], 2⟩) hl (To.mk' [] 0 hε rfl (by repeat' first | exact True.intro | exact rfl | apply And.intro) (by repeat' first | exact True.intro | exact rfl | apply And.intro)) (fun s3 zs3 NNs3 hz hnexts3 houts3 => ?_)
        clear hl hT
        have hT := hz; clear hz
        refine rSeq ?_
        refine rSeq ?_
        refine zReg md0 hX rfl rfl rfl ?_
        refine rThen ?_
        refine zCond rfl rfl (fun hc => ?_) (fun hc => ?_)
        · replace hT := sT hc hT
          refine rSkip ?_
          refine rThen ?_
          refine rSeq ?_
          refine rBlock ?_
          let x1 := (s3.2.set (s3.1).toNat ((decide ((s3.1 + 1) = (v2.1 : Int))), (s3.2.getD (s3.1).toNat (false, ((0 : Int), (0 : Int)))).2))
          replace hT := sIf hT; obtain ⟨⟨o1, o2, o3, o4⟩, hT⟩ := hT
          refine zReg md0 hX rfl rfl rfl ?_
          refine rInNormal ?_
          refine rThen ?_
          replace hT := sIf hT; obtain ⟨o1, hT⟩ := hT
          refine zReg md0 hX rfl rfl rfl ?_
          exact hnexts3 _ (Option.some.inj hT).symm _ (To.mk' [] 0 hε rfl (by repeat' first | exact True.intro | exact rfl | apply And.intro) (by repeat' first | exact True.intro | exact rfl | apply And.intro))
        · replace hT := sF hc hT
          refine rExit ?_
          refine rThenExit ?_
          refine rThenExit ?_
          exact zTo [] 0 hε (hxs30 _ (houts3 _ (Option.some.inj hT).symm))
      refine rLoopM (ref10_Events_b2 N a1) (fun s2 => ⟨[(2, .v (.c (.ptr 0 0 0 0 0 0))), (4, .v (.c (.val (.slice none 0 0)))), (5, .v (.c (.int .i64 0))), (6, .v (.c (.sl 1 0 s2.1 3))), (7, .v (.c (.int .i64 s2.2.1))), (8, .v (.c (.int .i64 s2.2.2.1)))], [(0, .mem true 22 none (.flat [.ints 64 .i64 a1])), (1, .mem true 109 (some 3) (.lst (.pair .bool (.pair (.int .i64) (.int .i64))) s2.2.2.2))], 2⟩) hl (To.mk' [] 0 hε rfl (by repeat' first | exact True.intro | exact rfl | apply And.intro) (by repeat' first | exact True.intro | exact rfl | apply And.intro)) (fun s2 zs2 NNs2 hz hnexts2 houts2 => ?_)
      clear hl hT
      have hT := hz; clear hz
      refine rSeq ?_
      refine rSeq ?_
      refine zReg md0 hX rfl rfl rfl ?_
      refine rThen ?_
      refine zCond rfl rfl (fun hc => ?_) (fun hc => ?_)
      · replace hT := sT hc hT
        refine rSkip ?_
        refine rThen ?_
        refine rSeq ?_
        refine rBlock ?_
        refine rSeq ?_
        refine rSeq ?_
        let x2 := (bif (decide ((127 : Int) < (a1.getD (s2.2.2.1).toNat 0))) then true else (decide ((a1.getD (s2.2.2.1).toNat 0) < (-127))))
        replace hT := sIf hT; obtain ⟨⟨o1, o2, o3, o4, o5, o6⟩, hT⟩ := hT
        refine rRegC md0 hX rfl rfl rfl (by (repeat' first | exact True.intro | with_reducible assumption | (with_reducible apply And.intro) | intro _) <;> first | assumption | exact o4 (by assumption) | exact o5 (by assumption) | exact o6 (by assumption) | exact rfl | omega | exact Nat.le_of_ble_eq_true rfl | exact selF (by assumption) | exact selT (by assumption) | exact And.intro rfl rfl | exact And.intro (by assumption) rfl | exact And.intro (by omega) rfl | (simp only [inK] at *; omega) | (simp_all [sel] <;> fail) | fail) ?_
        refine rThen ?_
        refine zCond rfl rfl (fun hc => ?_) (fun hc => ?_)
        · replace hT := sT hc hT
          refine rSeq ?_
          refine zReg md0 hX rfl rfl rfl ?_
          refine rThen ?_
          refine rRet ?_
          refine rThenRet ?_
          refine rInRet ?_
          refine rThenRet ?_
          refine rThenRet ?_
          exact zTo [] 0 hε (hxs20 _ (houts2 _ (Option.some.inj hT).symm))
        · replace hT := sF hc hT
          refine rSkip ?_
          refine rThen ?_
          refine rSeq ?_
          replace hT := sIf hT; obtain ⟨⟨o1, o2, o3⟩, hT⟩ := hT
          refine zReg md0 hX rfl rfl rfl ?_
          refine rThen ?_
          refine rJoinK hT (fun v4 => ⟨[(2, .v (.c (.ptr 0 0 0 0 0 0))), (4, .v (.c (.val (.slice none 0 0)))), (5, .v (.c (.int .i64 0))), (6, .v (.c (.sl 3 0 v4.1 3))), (7, .v (.c (.int .i64 v4.2.1))), (8, .v (.c (.int .i64 s2.2.2.1))), (19, .v (.c (.int .i64 s2.2.2.1))), (20, .v (.c (.bool (decide (s2.2.2.1 < 64))))), (23, .v (.c (.int .i64 s2.2.2.1))), (24, .v (.c (.ptr 0 0 0 0 1 (s2.2.2.1).toNat))), (25, .v (.c (.int .i64 (a1.getD (s2.2.2.1).toNat 0)))), (26, .v (.c (.bool (decide ((127 : Int) < (a1.getD (s2.2.2.1).toNat 0)))))), (27, .v (.c (.bool (decide ((127 : Int) < (a1.getD (s2.2.2.1).toNat 0)))))), (32, .v (.c (.bool x2))), (33, .v (.c (.int .i64 s2.2.2.1))), (34, .v (.c (.ptr 0 0 0 0 1 (s2.2.2.1).toNat))), (35, .v (.c (.int .i64 (a1.getD (s2.2.2.1).toNat 0)))), (36, .v (.c (.bool (decide ((a1.getD (s2.2.2.1).toNat 0) ≠ 0)))))], [(0, .mem true 22 none (.flat [.ints 64 .i64 a1])), (3, .mem true 109 (some 3) (.lst (.pair .bool (.pair (.int .i64) (.int .i64))) v4.2.2))], 4⟩) (fun v4 hT => ?_) (fun k1 hjk1 hT => ?_)
          · skip
            refine rInNormal ?_
            refine rThen ?_
            replace hT := sIf hT; obtain ⟨o1, hT⟩ := hT
            refine zReg md0 hX rfl rfl rfl ?_
            exact hnexts2 _ (Option.some.inj hT).symm _ (To.mk' [0, 3] 0 hε rfl (by repeat' first | exact True.intro | exact rfl | apply And.intro) (by repeat' first | exact True.intro | exact rfl | apply And.intro))
          · skip
            refine zCond rfl rfl (fun hc => ?_) (fun hc => ?_)
            · replace hT := sT hc hT
              refine rSeq ?_
              replace hT := sIf hT; obtain ⟨⟨o1, o2, o3, o4, o5, o6, o7, o8⟩, hT⟩ := hT
              refine zReg md0 hX rfl rfl rfl ?_
              refine rLstQ 2 (.pair .bool (.pair (.int .i64) (.int .i64))) [(false, (((s2.2.2.1 - s2.2.1) - 1), (a1.getD (s2.2.2.1).toNat 0)))] rfl rfl rfl ?_
              refine rThen ?_
              refine zReg md0 hX rfl rfl rfl ?_
              exact zTo [] 0 hε (hjk1 _ hT)
            · replace hT := sF hc hT
              refine rSkip ?_
              exact zTo [0, 1, 0, 1] 0 hε (hjk1 _ hT)
      · replace hT := sF hc hT
        refine rExit ?_
        refine rThenExit ?_
        refine rThenExit ?_
        exact zTo [] 0 hε (hxs21 _ (houts2 _ (Option.some.inj hT).symm))
  · cases h
def ref36_Cell_b1 (N : Nat) (a8 : (List Int)) (c1 : (Option Bool)) (s1 : (Int × (List (List (Bool × (Int × Int)))))) : Option ((Int × (List (List (Bool × (Int × Int))))) ⊕ (Unit ⊕ (List (List (Bool × (Int × Int)))))) :=
  bif (decide (s1.1 < 6)) then
    let x6 := (bif (decide ((bif (c1.getD default) then (1 : Int) else 0) = 1)) then (decide ((a8.getD (64 * (s1.1).toNat) 0) ≠ 0)) else false)
    if ((decide ((bif (c1.getD default) then (1 : Int) else 0) = 1)) = true → (0 : Int) ≤ s1.1) ∧ ((decide ((bif (c1.getD default) then (1 : Int) else 0) = 1)) = true → s1.1 < 6) ∧ ((decide ((bif (c1.getD default) then (1 : Int) else 0) = 1)) = true → (64 * (s1.1).toNat) < 384) then
      bif x6 then
        some (.inr (Sum.inl ()))
      else
        let c3 := (ref11_Told N ((a8.drop (64 * (s1.1).toNat)).take 64))
        let c4 := (ref10_Events N (c3.getD default) (bif (c1.getD default) then (1 : Int) else 0))
        if (0 : Int) ≤ s1.1 ∧ s1.1 < 6 ∧ (64 * (s1.1).toNat) + 64 ≤ 384 ∧ c3.isSome = true ∧ c4.isSome = true then
          bif (decide ((c4.getD default).2 ≠ 0)) then
            some (.inr (Sum.inl ()))
          else
            if (0 : Int) ≤ s1.1 ∧ s1.1 < 6 ∧ (s1.1).toNat < 6 then
              if inK .i64 (s1.1 + 1) then
                some (.inl ((s1.1 + 1), (s1.2.set (s1.1).toNat (c4.getD default).1)))
              else none
            else none
        else none
    else none
  else
    some (.inr (Sum.inr s1.2))
def ref36_Cell (N : Nat) (a1 : Int) (a2 : Bool) (a3 : Int) (a4 : Int) (a5 : (List Int)) (a6 : (List Int)) (a7 : (List (List (Bool × (Int × Int))))) (a8 : (List Int)) (a9 : Int) : Option (Int × Bool × Int × Int × (List Int) × (List Int) × (List (List (Bool × (Int × Int)))) × Int) :=
  bif (bif (decide (a9 < (-2))) then true else (decide ((2 : Int) < a9))) then
    some (0, false, 0, 0, (List.replicate 2 0), (List.replicate 6 0), (List.replicate 6 []), 9)
  else
    let c1 := (ref21_Intra N a3)
    if c1.isSome = true then
      if ((decide (a9 ≠ 0)) = true → inK .i64 ((bif (c1.getD default) then (3 : Int) else 0) + 1)) then
        let x1 := (bif (decide (a9 ≠ 0)) then ((bif (c1.getD default) then (3 : Int) else 0) + 1) else (bif (c1.getD default) then (3 : Int) else 0))
        (iter (ref36_Cell_b1 N a8 c1) N (0, (List.replicate 6 []))).bind fun w1 =>
          (Sum.elim (fun v1 =>
            some (0, false, 0, 0, (List.replicate 2 0), (List.replicate 6 0), (List.replicate 6 []), 7)
          )
            (fun v2 =>
              let c2 := (ref36_Empty N a8)
              let x5 := (bif (bif (bif (bif (decide ((bif (c1.getD default) then (1 : Int) else 0) = 0)) then (decide (a9 = 0)) else false) then (c2.getD default) else false) then (decide ((a5.getD 0 0) = 0)) else false) then (decide ((a5.getD 1 0) = 0)) else false)
              if ((bif (decide ((bif (c1.getD default) then (1 : Int) else 0) = 0)) then (decide (a9 = 0)) else false) = true → c2.isSome = true) then
                bif x5 then
                  some (0, true, 0, 0, (List.replicate 2 0), (List.replicate 6 0), (List.replicate 6 []), 0)
                else
                  some (0, false, x1, a9, a5, a6, v2, 0)
              else none
            )
          ) w1
      else none
    else none
def sp_ref36_Cell (N : Nat) : X.Spec := fun args lk => match args with
  | [.v (.agg [.cs [.int .i64 a1, .bool a2, .int .i64 a3, .int .i64 a4], .ints 2 .i64 a5, .ints 6 .i64 a6, .fzs 6 (.pair .bool (.pair (.int .i64) (.int .i64))) a7]), .v (.agg [.ints 384 .i64 a8]), .v (.c (.int .i64 a9))] => some ⟨(ref36_Cell N a1 a2 a3 a4 a5 a6 a7 a8 a9).isSome = true, .tup [.agg [.cs [.int .i64 ((ref36_Cell N a1 a2 a3 a4 a5 a6 a7 a8 a9).getD default).1, .bool ((ref36_Cell N a1 a2 a3 a4 a5 a6 a7 a8 a9).getD default).2.1, .int .i64 ((ref36_Cell N a1 a2 a3 a4 a5 a6 a7 a8 a9).getD default).2.2.1, .int .i64 ((ref36_Cell N a1 a2 a3 a4 a5 a6 a7 a8 a9).getD default).2.2.2.1], .ints 2 .i64 ((ref36_Cell N a1 a2 a3 a4 a5 a6 a7 a8 a9).getD default).2.2.2.2.1, .ints 6 .i64 ((ref36_Cell N a1 a2 a3 a4 a5 a6 a7 a8 a9).getD default).2.2.2.2.2.1, .fzs 6 (.pair .bool (.pair (.int .i64) (.int .i64))) ((ref36_Cell N a1 a2 a3 a4 a5 a6 a7 a8 a9).getD default).2.2.2.2.2.2.1], .c (.int .i64 ((ref36_Cell N a1 a2 a3 a4 a5 a6 a7 a8 a9).getD default).2.2.2.2.2.2.2)], [], []⟩
  | _ => none
set_option maxRecDepth 100000 in
set_option maxHeartbeats 1000000 in
theorem ok_ref36_Cell (N : Nat) : FnOK Tryd.prog gt0 23 (sp_ref36_Cell N) := by
  refine fnOK_handed Tryd.func23 rfl (by kernel_rfl) tt_ok (ktCons (ok_ref10_Events N) (ktCons (ok_ref11_Told N) (ktCons (ok_ref36_Empty N) (ktCons (ok_ref21_Intra N) (ktNil))))) ?_
  intro args lk r h hp
  unfold sp_ref36_Cell at h
  split at h
  · rename_i a1 a2 a3 a4 a5 a6 a7 a8 a9
    change (List Int) at a5
    change (List Int) at a6
    change (List (List (Bool × (Int × Int)))) at a7
    change (List Int) at a8
    cases h
    obtain ⟨x, hx⟩ := Option.isSome_iff_exists.1 hp
    simp only [hx, Option.getD_some]
    refine hand0 rfl rfl (fun w0 M ε0 hX => ?_)
    refine rCount (fun hε => ?_)
    have hT : ref36_Cell N a1 a2 a3 a4 a5 a6 a7 a8 a9 = some x := hx; clear hx hp; unfold ref36_Cell at hT
    refine rSeq ?_
    refine zReg md0 hX rfl rfl rfl ?_
    refine rThen ?_
    refine rSeq ?_
    refine rSeq ?_
    refine zReg md0 hX rfl rfl rfl ?_
    refine rThen ?_
    refine zCond rfl rfl (fun hc => ?_) (fun hc => ?_)
    · replace hT := sT hc hT
      refine rSeq ?_
      refine zReg md0 hX rfl rfl rfl ?_
      refine rThen ?_
      refine rRet ?_
      refine rThenRet ?_
      have hy := Option.some.inj hT; subst hy
      exact zEnd0 hX rfl
    · replace hT := sF hc hT
      refine rSkip ?_
      refine rThen ?_
      refine rSeq ?_
      refine zReg md0 hX rfl rfl rfl ?_
      refine rThen ?_
      refine rSeq ?_
      refine zReg md0 hX rfl rfl rfl ?_
      refine rThen ?_
      refine rSeq ?_
      refine rSeq ?_
      let c1 := (ref21_Intra N a3)
      replace hT := sIf hT; obtain ⟨o1, hT⟩ := hT
      refine zReg md0 hX rfl rfl rfl ?_
      refine rThen ?_
      refine rJoin ⟨[(2, .v (.c (.int .i64 a9))), (3, .v (.c (.ptr 0 0 0 0 0 0))), (4, .v (.c (.ptr 1 0 0 0 0 0))), (6, .v (.c (.ptr 2 0 0 0 0 0))), (7, .v (.c (.int .i64 0))), (8, .v (.c (.ptr 3 0 0 0 0 0))), (9, .v (.c (.int .i64 (bif (c1.getD default) then (1 : Int) else 0))))], [(0, .mem true 37 none (.flat [.cs [.int .i64 a1, .bool a2, .int .i64 a3, .int .i64 a4], .ints 2 .i64 a5, .ints 6 .i64 a6, .fzs 6 (.pair .bool (.pair (.int .i64) (.int .i64))) a7])), (1, .mem true 39 none (.flat [.ints 384 .i64 a8])), (2, .mem true 37 none (.flat [.cs [.int .i64 0, .bool false, .int .i64 0, .int .i64 0], .ints 2 .i64 (List.replicate 2 0), .ints 6 .i64 (List.replicate 6 0), .fzs 6 (.pair .bool (.pair (.int .i64) (.int .i64))) (List.replicate 6 [])])), (3, .mem true 37 none (.flat [.cs [.int .i64 0, .bool false, .int .i64 (bif (c1.getD default) then (3 : Int) else 0), .int .i64 a9], .ints 2 .i64 a5, .ints 6 .i64 a6, .fzs 6 (.pair .bool (.pair (.int .i64) (.int .i64))) (List.replicate 6 [])]))], 4⟩ ?_ (fun hj => ?_)
      · skip
        refine rThen ?_
        refine rSeq ?_
        refine rSeq ?_
        refine zReg md0 hX rfl rfl rfl ?_
        refine rThen ?_
        replace hT := sIf hT; obtain ⟨q1, hT⟩ := hT
        refine rJoin ⟨[(2, .v (.c (.int .i64 a9))), (3, .v (.c (.ptr 0 0 0 0 0 0))), (4, .v (.c (.ptr 1 0 0 0 0 0))), (6, .v (.c (.ptr 2 0 0 0 0 0))), (7, .v (.c (.int .i64 0))), (8, .v (.c (.ptr 3 0 0 0 0 0))), (9, .v (.c (.int .i64 (bif (c1.getD default) then (1 : Int) else 0))))], [(0, .mem true 37 none (.flat [.cs [.int .i64 a1, .bool a2, .int .i64 a3, .int .i64 a4], .ints 2 .i64 a5, .ints 6 .i64 a6, .fzs 6 (.pair .bool (.pair (.int .i64) (.int .i64))) a7])), (1, .mem true 39 none (.flat [.ints 384 .i64 a8])), (2, .mem true 37 none (.flat [.cs [.int .i64 0, .bool false, .int .i64 0, .int .i64 0], .ints 2 .i64 (List.replicate 2 0), .ints 6 .i64 (List.replicate 6 0), .fzs 6 (.pair .bool (.pair (.int .i64) (.int .i64))) (List.replicate 6 [])])), (3, .mem true 37 none (.flat [.cs [.int .i64 0, .bool false, .int .i64 (bif (decide (a9 ≠ 0)) then ((bif (c1.getD default) then (3 : Int) else 0) + 1) else (bif (c1.getD default) then (3 : Int) else 0)), .int .i64 a9], .ints 2 .i64 a5, .ints 6 .i64 a6, .fzs 6 (.pair .bool (.pair (.int .i64) (.int .i64))) (List.replicate 6 [])]))], 4⟩ ?_ (fun hj => ?_)
        · skip
          let x1 := (bif (decide (a9 ≠ 0)) then ((bif (c1.getD default) then (3 : Int) else 0) + 1) else (bif (c1.getD default) then (3 : Int) else 0))
          refine rThen ?_
          refine rSeq ?_
          refine rSeq ?_
          refine zReg md0 hX rfl rfl rfl ?_
          refine rThen ?_
          refine rBlock ?_
          replace hT := sBind hT; obtain ⟨w1, hl, hT⟩ := hT
          refine rJoinA (fun v1 => (Sum.inl v1) = w1) (fun v1 => ⟨[(6, .v (.c (.ptr 2 0 0 0 0 0))), (7, .v (.c (.int .i64 7)))], [(2, .mem true 37 none (.flat [.cs [.int .i64 0, .bool false, .int .i64 0, .int .i64 0], .ints 2 .i64 (List.replicate 2 0), .ints 6 .i64 (List.replicate 6 0), .fzs 6 (.pair .bool (.pair (.int .i64) (.int .i64))) (List.replicate 6 [])]))], 4⟩) .ret (fun v1 hv => ?_) (fun hxs10 => ?_)
          · subst hv; clear hl; replace hT := (sElimL hT)
            refine rInRet ?_
            refine rThenRet ?_
            have hy := Option.some.inj hT; subst hy
            exact zEnd0 hX rfl
          refine rJoinA (fun v2 => (Sum.inr v2) = w1) (fun v2 => ⟨[(2, .v (.c (.int .i64 a9))), (3, .v (.c (.ptr 0 0 0 0 0 0))), (4, .v (.c (.ptr 1 0 0 0 0 0))), (6, .v (.c (.ptr 2 0 0 0 0 0))), (7, .v (.c (.int .i64 0))), (8, .v (.c (.ptr 3 0 0 0 0 0))), (9, .v (.c (.int .i64 (bif (c1.getD default) then (1 : Int) else 0))))], [(0, .mem true 37 none (.flat [.cs [.int .i64 a1, .bool a2, .int .i64 a3, .int .i64 a4], .ints 2 .i64 a5, .ints 6 .i64 a6, .fzs 6 (.pair .bool (.pair (.int .i64) (.int .i64))) a7])), (1, .mem true 39 none (.flat [.ints 384 .i64 a8])), (2, .mem true 37 none (.flat [.cs [.int .i64 0, .bool false, .int .i64 0, .int .i64 0], .ints 2 .i64 (List.replicate 2 0), .ints 6 .i64 (List.replicate 6 0), .fzs 6 (.pair .bool (.pair (.int .i64) (.int .i64))) (List.replicate 6 [])])), (3, .mem true 37 none (.flat [.cs [.int .i64 0, .bool false, .int .i64 x1, .int .i64 a9], .ints 2 .i64 a5, .ints 6 .i64 a6, .fzs 6 (.pair .bool (.pair (.int .i64) (.int .i64))) v2]))], 4⟩) (.exit 0) (fun v2 hv => ?_) (fun hxs11 => ?_)
          · subst hv; clear hl; replace hT := (sElimR hT)
            refine rInHit ?_
            refine rThen ?_
            refine rSeq ?_
            refine rSeq ?_
            let c2 := (ref36_Empty N a8)
            let x5 := (bif (bif (bif (bif (decide ((bif (c1.getD default) then (1 : Int) else 0) = 0)) then (decide (a9 = 0)) else false) then (c2.getD default) else false) then (decide ((a5.getD 0 0) = 0)) else false) then (decide ((a5.getD 1 0) = 0)) else false)
            replace hT := sIf hT; obtain ⟨o1, hT⟩ := hT
            refine rRegC md0 hX rfl rfl rfl (by (repeat' first | exact True.intro | with_reducible assumption | (with_reducible apply And.intro) | intro _) <;> first | assumption | exact o1 (by assumption) | exact rfl | omega | exact Nat.le_of_ble_eq_true rfl | exact selF (by assumption) | exact selT (by assumption) | exact And.intro rfl rfl | exact And.intro (by assumption) rfl | exact And.intro (by omega) rfl | (simp only [inK] at *; omega) | (simp_all [sel] <;> fail) | fail) ?_
            refine rThen ?_
            refine zCond rfl rfl (fun hc => ?_) (fun hc => ?_)
            · replace hT := sT hc hT
              refine rSeq ?_
              refine zReg md0 hX rfl rfl rfl ?_
              refine rThen ?_
              refine rRet ?_
              refine rThenRet ?_
              have hy := Option.some.inj hT; subst hy
              exact zEnd0 hX rfl
            · replace hT := sF hc hT
              refine rSkip ?_
              refine rThen ?_
              refine rSeq ?_
              refine zReg md0 hX rfl rfl rfl ?_
              refine rThen ?_
              refine rRet ?_
              have hy := Option.some.inj hT; subst hy
              exact zEnd0 hX rfl
          refine rLoopM (ref36_Cell_b1 N a8 c1) (fun s1 => ⟨[(2, .v (.c (.int .i64 a9))), (3, .v (.c (.ptr 0 0 0 0 0 0))), (4, .v (.c (.ptr 1 0 0 0 0 0))), (6, .v (.c (.ptr 2 0 0 0 0 0))), (7, .v (.c (.int .i64 0))), (8, .v (.c (.ptr 3 0 0 0 0 0))), (9, .v (.c (.int .i64 (bif (c1.getD default) then (1 : Int) else 0)))), (10, .v (.c (.int .i64 s1.1)))], [(0, .mem true 37 none (.flat [.cs [.int .i64 a1, .bool a2, .int .i64 a3, .int .i64 a4], .ints 2 .i64 a5, .ints 6 .i64 a6, .fzs 6 (.pair .bool (.pair (.int .i64) (.int .i64))) a7])), (1, .mem true 39 none (.flat [.ints 384 .i64 a8])), (2, .mem true 37 none (.flat [.cs [.int .i64 0, .bool false, .int .i64 0, .int .i64 0], .ints 2 .i64 (List.replicate 2 0), .ints 6 .i64 (List.replicate 6 0), .fzs 6 (.pair .bool (.pair (.int .i64) (.int .i64))) (List.replicate 6 [])])), (3, .mem true 37 none (.flat [.cs [.int .i64 0, .bool false, .int .i64 x1, .int .i64 a9], .ints 2 .i64 a5, .ints 6 .i64 a6, .fzs 6 (.pair .bool (.pair (.int .i64) (.int .i64))) s1.2]))], 4⟩) hl (To.mk' [] 0 hε rfl (by repeat' first | exact True.intro | exact rfl | apply And.intro) (by repeat' first | exact True.intro | exact rfl | apply And.intro)) (fun s1 zs1 NNs1 hz hnexts1 houts1 => ?_)
          clear hl hT
          have hT := hz; clear hz
          refine rSeq ?_
          refine rSeq ?_
          refine zReg md0 hX rfl rfl rfl ?_
          refine rThen ?_
          refine zCond rfl rfl (fun hc => ?_) (fun hc => ?_)
          · replace hT := sT hc hT
            refine rSkip ?_
            refine rThen ?_
            refine rSeq ?_
            refine rBlock ?_
            refine rSeq ?_
            refine rSeq ?_
            let x6 := (bif (decide ((bif (c1.getD default) then (1 : Int) else 0) = 1)) then (decide ((a8.getD (64 * (s1.1).toNat) 0) ≠ 0)) else false)
            replace hT := sIf hT; obtain ⟨⟨o1, o2, o3⟩, hT⟩ := hT
            refine rRegC md0 hX rfl rfl rfl (by (repeat' first | exact True.intro | with_reducible assumption | (with_reducible apply And.intro) | intro _) <;> first | assumption | exact o1 (by assumption) | exact o2 (by assumption) | exact o3 (by assumption) | exact rfl | omega | exact Nat.le_of_ble_eq_true rfl | exact selF (by assumption) | exact selT (by assumption) | exact And.intro rfl rfl | exact And.intro (by assumption) rfl | exact And.intro (by omega) rfl | (simp only [inK] at *; omega) | (simp_all [sel] <;> fail) | fail) ?_
            refine rThen ?_
            refine zCond rfl rfl (fun hc => ?_) (fun hc => ?_)
            · replace hT := sT hc hT
              refine rSeq ?_
              refine zReg md0 hX rfl rfl rfl ?_
              refine rThen ?_
              refine rRet ?_
              refine rThenRet ?_
              refine rInRet ?_
              refine rThenRet ?_
              refine rThenRet ?_
              exact zTo [] 0 hε (hxs10 _ (houts1 _ (Option.some.inj hT).symm))
            · replace hT := sF hc hT
              refine rSkip ?_
              refine rThen ?_
              refine rSeq ?_
              let c3 := (ref11_Told N ((a8.drop (64 * (s1.1).toNat)).take 64))
              let c4 := (ref10_Events N (c3.getD default) (bif (c1.getD default) then (1 : Int) else 0))
              replace hT := sIf hT; obtain ⟨⟨o1, o2, o3, o4, o5⟩, hT⟩ := hT
              refine zReg md0 hX rfl rfl rfl ?_
              refine rThen ?_
              refine rSeq ?_
              refine rSeq ?_
              refine zReg md0 hX rfl rfl rfl ?_
              refine rThen ?_
              refine zCond rfl rfl (fun hc => ?_) (fun hc => ?_)
              · replace hT := sT hc hT
                refine rSeq ?_
                refine zReg md0 hX rfl rfl rfl ?_
                refine rThen ?_
                refine rRet ?_
                refine rThenRet ?_
                refine rInRet ?_
                refine rThenRet ?_
                refine rThenRet ?_
                exact zTo [] 0 hε (hxs10 _ (houts1 _ (Option.some.inj hT).symm))
              · replace hT := sF hc hT
                refine rSkip ?_
                refine rThen ?_
                replace hT := sIf hT; obtain ⟨⟨o1, o2, o3⟩, hT⟩ := hT
                refine zReg md0 hX rfl rfl rfl ?_
                refine rInNormal ?_
                refine rThen ?_
                replace hT := sIf hT; obtain ⟨o1, hT⟩ := hT
                refine zReg md0 hX rfl rfl rfl ?_
                exact hnexts1 _ (Option.some.inj hT).symm _ (To.mk' [] 0 hε rfl (by repeat' first | exact True.intro | exact rfl | apply And.intro) (by repeat' first | exact True.intro | exact rfl | apply And.intro))
          · replace hT := sF hc hT
            refine rExit ?_
            refine rThenExit ?_
            refine rThenExit ?_
            exact zTo [] 0 hε (hxs11 _ (houts1 _ (Option.some.inj hT).symm))
        · clear hT
          refine zCond rfl rfl (fun hc => ?_) (fun hc => ?_)
          · skip
            have q1 := q1 hc
            refine zReg md0 hX rfl rfl rfl ?_
            exact rTo (To.mk' [] 0 hε rfl (by (repeat' first | exact True.intro | exact rfl | apply And.intro) <;> (repeat' first | exact rfl | refine Eq.trans ?_ (cTr (by assumption)) | refine Eq.trans ?_ (cFr (by assumption)) | refine Eq.trans (cTl (by assumption)) ?_ | refine Eq.trans (cFl (by assumption)) ?_)) (by (repeat' first | exact True.intro | exact rfl | apply And.intro) <;> (repeat' first | exact rfl | refine Eq.trans ?_ (cTr (by assumption)) | refine Eq.trans ?_ (cFr (by assumption)) | refine Eq.trans (cTl (by assumption)) ?_ | refine Eq.trans (cFl (by assumption)) ?_))) hj
          · skip
            refine rSkip ?_
            exact rTo (To.mk' [] 0 hε rfl (by (repeat' first | exact True.intro | exact rfl | apply And.intro) <;> (repeat' first | exact rfl | refine Eq.trans ?_ (cTr (by assumption)) | refine Eq.trans ?_ (cFr (by assumption)) | refine Eq.trans (cTl (by assumption)) ?_ | refine Eq.trans (cFl (by assumption)) ?_)) (by (repeat' first | exact True.intro | exact rfl | apply And.intro) <;> (repeat' first | exact rfl | refine Eq.trans ?_ (cTr (by assumption)) | refine Eq.trans ?_ (cFr (by assumption)) | refine Eq.trans (cTl (by assumption)) ?_ | refine Eq.trans (cFl (by assumption)) ?_))) hj
      · clear hT
        refine zCond rfl rfl (fun hc => ?_) (fun hc => ?_)
        · skip
          refine rSeq ?_
          refine zReg md0 hX rfl rfl rfl ?_
          refine rThen ?_
          refine zReg md0 hX rfl rfl rfl ?_
          exact rTo (To.mk' [] 0 hε rfl (by (repeat' first | exact True.intro | exact rfl | apply And.intro) <;> (repeat' first | exact rfl | refine Eq.trans ?_ (cTr (by assumption)) | refine Eq.trans ?_ (cFr (by assumption)) | refine Eq.trans (cTl (by assumption)) ?_ | refine Eq.trans (cFl (by assumption)) ?_)) (by (repeat' first | exact True.intro | exact rfl | apply And.intro) <;> (repeat' first | exact rfl | refine Eq.trans ?_ (cTr (by assumption)) | refine Eq.trans ?_ (cFr (by assumption)) | refine Eq.trans (cTl (by assumption)) ?_ | refine Eq.trans (cFl (by assumption)) ?_))) hj
        · skip
          refine rSkip ?_
          exact rTo (To.mk' [] 0 hε rfl (by (repeat' first | exact True.intro | exact rfl | apply And.intro) <;> (repeat' first | exact rfl | refine Eq.trans ?_ (cTr (by assumption)) | refine Eq.trans ?_ (cFr (by assumption)) | refine Eq.trans (cTl (by assumption)) ?_ | refine Eq.trans (cFl (by assumption)) ?_)) (by (repeat' first | exact True.intro | exact rfl | apply And.intro) <;> (repeat' first | exact rfl | refine Eq.trans ?_ (cTr (by assumption)) | refine Eq.trans ?_ (cFr (by assumption)) | refine Eq.trans (cTl (by assumption)) ?_ | refine Eq.trans (cFl (by assumption)) ?_))) hj
  · cases h

end Go.Proofs.YtkfaebbbjahcpaaDoor
