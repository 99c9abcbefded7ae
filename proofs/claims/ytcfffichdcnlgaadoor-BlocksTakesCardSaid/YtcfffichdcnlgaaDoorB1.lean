/- Models of functions, and that the program does what they tell. -/
import Derived.Test.YtcfffichdcnlgaaDoorB0
set_option linter.unusedVariables false
set_option linter.unusedSimpArgs false
namespace Go.Proofs.YtcfffichdcnlgaaDoor
open Go.X

def inbits_New (N : Nat) (a1 : ByteArray) : Option (ByteArray × Int) :=
  some (a1, 0)
def sp_inbits_New (N : Nat) : X.Spec := fun args lk => match args with
  | [.v (.c (.str a1))] => some ⟨(inbits_New N a1).isSome = true, .v (.c (.ptr 0 0 0 0 0 0)), [.mem true 45 none (.flat [.cs [.str ((inbits_New N a1).getD default).1, .int .i64 ((inbits_New N a1).getD default).2]])], []⟩
  | _ => none
set_option maxRecDepth 100000 in
set_option maxHeartbeats 1000000 in
theorem ok_inbits_New (N : Nat) : FnOK Tryd.prog gt0 5 (sp_inbits_New N) := by
  refine fnOK_handed Tryd.func5 rfl (by kernel_rfl) tt_ok (ktNil) ?_
  intro args lk r h hp
  unfold sp_inbits_New at h
  split at h
  · rename_i a1
    cases h
    obtain ⟨x, hx⟩ := Option.isSome_iff_exists.1 hp
    simp only [hx, Option.getD_some]
    refine hand0 rfl rfl (fun w0 M ε0 hX => ?_)
    refine rCount (fun hε => ?_)
    have hT : inbits_New N a1 = some x := hx; clear hx hp; unfold inbits_New at hT
    refine rSeq ?_
    refine zReg md0 hX rfl rfl rfl ?_
    refine rThen ?_
    refine rSeq ?_
    refine zReg md0 hX rfl rfl rfl ?_
    refine rThen ?_
    refine rRet ?_
    have hy := Option.some.inj hT; subst hy
    exact rEndA [0] [.mem true 45 none (.flat [.cs [.str a1, .int .i64 0]])] [] (.v (.c (.ptr 0 0 0 0 0 0))) hX rfl (by repeat' first | exact True.intro | exact rfl | apply And.intro | omega | exact Nat.le_of_ble_eq_true rfl) (by repeat' first | exact True.intro | exact rfl | apply And.intro) rfl rfl rfl (by repeat' first | exact True.intro | exact rfl | exact ⟨_, rfl, rfl⟩ | apply And.intro | exact Or.inl rfl) rfl rfl (by repeat' first | exact True.intro | exact rfl | exact ⟨_, rfl, rfl⟩ | apply And.intro | exact Or.inl rfl) rfl rfl
  · cases h
def overspill_inbits_Reader_Seek (N : Nat) (a1 : Int) (a2 : ByteArray) (a3 : Int) : Option (Int × ByteArray × Int) :=
  let x1 := (bif (decide (a1 < 0)) then true else (decide (((8 : Int) * (ByteArray.size a2 : Int)) < a1)))
  if ((!(decide (a1 < 0))) = true → inK .i64 ((8 : Int) * (ByteArray.size a2 : Int))) then
    bif x1 then
      some (1, a2, a3)
    else
      some (0, a2, a1)
  else none
def sp_overspill_inbits_Reader_Seek (N : Nat) : X.Spec := fun args lk => match args with
  | [.v (.c (.ptr i0 0 0 0 0 0)), .v (.c (.int .i64 a1))] => (match lk i0 with
    | some (.mem true 45 none (.flat [.cs [.str a2, .int .i64 a3]])) => some ⟨(overspill_inbits_Reader_Seek N a1 a2 a3).isSome = true, .v (.c (.int .i64 ((overspill_inbits_Reader_Seek N a1 a2 a3).getD default).1)), [], [(i0, .mem true 45 none (.flat [.cs [.str ((overspill_inbits_Reader_Seek N a1 a2 a3).getD default).2.1, .int .i64 ((overspill_inbits_Reader_Seek N a1 a2 a3).getD default).2.2]]))]⟩
    | _ => none)
  | _ => none
set_option maxRecDepth 100000 in
set_option maxHeartbeats 1000000 in
theorem ok_overspill_inbits_Reader_Seek (N : Nat) : FnOK Tryd.prog gt0 6 (sp_overspill_inbits_Reader_Seek N) := by
  refine fnOK_handed Tryd.func6 rfl (by kernel_rfl) tt_ok (ktNil) ?_
  intro args lk r h hp
  unfold sp_overspill_inbits_Reader_Seek at h
  split at h
  · rename_i i0 a1
    split at h
    · rename_i a2 a3 hl0
      cases h
      obtain ⟨x, hx⟩ := Option.isSome_iff_exists.1 hp
      simp only [hx, Option.getD_some]
      refine handL [i0] 1 [(0, .mem true 45 none (.flat [.cs [.str a2, .int .i64 a3]]))] [.v (.c (.ptr 0 0 0 0 0 0)), .v (.c (.int .i64 a1))] rfl rfl rfl ⟨isSome_of hl0, trivial⟩ ⟨⟨rfl, (by repeat' first | exact True.intro | exact rfl | exact ⟨_, rfl, rfl⟩ | apply And.intro | exact Or.inl rfl), _, hl0, .inl rfl⟩, trivial⟩ rfl (fun w0 M ε0 hX => ?_)
      refine rCount (fun hε => ?_)
      have hT : overspill_inbits_Reader_Seek N a1 a2 a3 = some x := hx; clear hx hp; unfold overspill_inbits_Reader_Seek at hT
      refine rSeq ?_
      refine zReg md0 hX rfl rfl rfl ?_
      refine rThen ?_
      refine rSeq ?_
      refine rSeq ?_
      let x1 := (bif (decide (a1 < 0)) then true else (decide (((8 : Int) * (ByteArray.size a2 : Int)) < a1)))
      replace hT := sIf hT; obtain ⟨o1, hT⟩ := hT
      refine rRegC md0 hX rfl rfl rfl (by (repeat' first | exact True.intro | with_reducible assumption | (with_reducible apply And.intro) | intro _) <;> first | assumption | exact o1 (by assumption) | exact rfl | omega | exact Nat.le_of_ble_eq_true rfl | exact selF (by assumption) | exact selT (by assumption) | exact And.intro rfl rfl | exact And.intro (by assumption) rfl | exact And.intro (by omega) rfl | (simp only [inK] at *; omega) | (simp_all [sel] <;> fail) | fail) ?_
      refine rThen ?_
      refine zCond rfl rfl (fun hc => ?_) (fun hc => ?_)
      · replace hT := sT hc hT
        refine rSeq ?_
        refine zReg md0 hX rfl rfl rfl ?_
        refine rThen ?_
        refine rRet ?_
        refine rThenRet ?_
        have hy := Option.some.inj hT; subst hy
        exact rEndA [] [] [(0, .mem true 45 none (.flat [.cs [.str a2, .int .i64 a3]]))] (.v (.c (.int .i64 1))) hX rfl (by repeat' first | exact True.intro | exact rfl | apply And.intro | omega | exact Nat.le_of_ble_eq_true rfl) (by repeat' first | exact True.intro | exact rfl | apply And.intro) rfl rfl rfl (by repeat' first | exact True.intro | exact rfl | exact ⟨_, rfl, rfl⟩ | apply And.intro | exact Or.inl rfl) rfl rfl (by repeat' first | exact True.intro | exact rfl | exact ⟨_, rfl, rfl⟩ | apply And.intro | exact Or.inl rfl) rfl rfl
      · replace hT := sF hc hT
        refine rSkip ?_
        refine rThen ?_
        refine rSeq ?_
        refine zReg md0 hX rfl rfl rfl ?_
        refine rThen ?_
        refine rSeq ?_
        refine zReg md0 hX rfl rfl rfl ?_
        refine rThen ?_
        refine rRet ?_
        have hy := Option.some.inj hT; subst hy
        exact rEndA [] [] [(0, .mem true 45 none (.flat [.cs [.str a2, .int .i64 a1]]))] (.v (.c (.int .i64 0))) hX rfl (by repeat' first | exact True.intro | exact rfl | apply And.intro | omega | exact Nat.le_of_ble_eq_true rfl) (by repeat' first | exact True.intro | exact rfl | apply And.intro) rfl rfl rfl (by repeat' first | exact True.intro | exact rfl | exact ⟨_, rfl, rfl⟩ | apply And.intro | exact Or.inl rfl) rfl rfl (by repeat' first | exact True.intro | exact rfl | exact ⟨_, rfl, rfl⟩ | apply And.intro | exact Or.inl rfl) rfl rfl
    · cases h
  · cases h
def outbits_New (N : Nat) : Option (List Bool) :=
  some []
def sp_outbits_New (N : Nat) : X.Spec := fun args lk => match args with
  | [] => some ⟨(outbits_New N).isSome = true, .v (.c (.ptr 0 0 0 0 0 0)), [.obj 5 ((outbits_New N).getD default)], []⟩
  | _ => none
set_option maxRecDepth 100000 in
set_option maxHeartbeats 1000000 in
theorem ok_outbits_New (N : Nat) : FnOK Tryd.prog gt0 25 (sp_outbits_New N) := by
  refine fnOK_handed Tryd.func25 rfl (by kernel_rfl) tt_ok (ktNil) ?_
  intro args lk r h hp
  unfold sp_outbits_New at h
  split at h
  · skip
    cases h
    obtain ⟨x, hx⟩ := Option.isSome_iff_exists.1 hp
    simp only [hx, Option.getD_some]
    refine hand0 rfl rfl (fun w0 M ε0 hX => ?_)
    refine rCount (fun hε => ?_)
    have hT : outbits_New N = some x := hx; clear hx hp; unfold outbits_New at hT
    refine rSeq ?_
    refine zReg md0 hX rfl rfl rfl ?_
    refine rThen ?_
    refine rSeq ?_
    refine zReg md0 hX rfl rfl rfl ?_
    refine rThen ?_
    refine rRet ?_
    refine rShut0Q 0 5 rfl rfl ?_
    have hy := Option.some.inj hT; subst hy
    exact rEndA [0] [.obj 5 []] [] (.v (.c (.ptr 0 0 0 0 0 0))) hX rfl (by repeat' first | exact True.intro | exact rfl | apply And.intro | omega | exact Nat.le_of_ble_eq_true rfl) (by repeat' first | exact True.intro | exact rfl | apply And.intro) rfl rfl rfl (by repeat' first | exact True.intro | exact rfl | exact ⟨_, rfl, rfl⟩ | apply And.intro | exact Or.inl rfl) rfl rfl (by repeat' first | exact True.intro | exact rfl | exact ⟨_, rfl, rfl⟩ | apply And.intro | exact Or.inl rfl) rfl rfl
  · cases h
def blocks_from (N : Nat) (a1 : Bool) : Option Int :=
  bif a1 then
    some 1
  else
    some 0
def sp_blocks_from (N : Nat) : X.Spec := fun args lk => match args with
  | [.v (.c (.bool a1))] => some ⟨(blocks_from N a1).isSome = true, .v (.c (.int .i64 ((blocks_from N a1).getD default))), [], []⟩
  | _ => none
set_option maxRecDepth 100000 in
set_option maxHeartbeats 1000000 in
theorem ok_blocks_from (N : Nat) : FnOK Tryd.prog gt0 31 (sp_blocks_from N) := by
  refine fnOK_handed Tryd.func31 rfl (by kernel_rfl) tt_ok (ktNil) ?_
  intro args lk r h hp
  unfold sp_blocks_from at h
  split at h
  · rename_i a1
    cases h
    obtain ⟨x, hx⟩ := Option.isSome_iff_exists.1 hp
    simp only [hx, Option.getD_some]
    refine hand0 rfl rfl (fun w0 M ε0 hX => ?_)
    refine rCount (fun hε => ?_)
    have hT : blocks_from N a1 = some x := hx; clear hx hp; unfold blocks_from at hT
    refine rSeq ?_
    refine zReg md0 hX rfl rfl rfl ?_
    refine rThen ?_
    refine rSeq ?_
    refine rSeq ?_
    refine zReg md0 hX rfl rfl rfl ?_
    refine rThen ?_
    refine zCond rfl rfl (fun hc => ?_) (fun hc => ?_)
    · replace hT := sT hc hT
      refine rSeq ?_
      refine zReg md0 hX rfl rfl rfl ?_
      refine rThen ?_
      refine rRet ?_
      refine rThenRet ?_
      have hy := Option.some.inj hT; subst hy
      exact zEnd0 hX rfl
    · replace hT := sF hc hT
      refine rSkip ?_
      refine rThen ?_
      refine rSeq ?_
      refine zReg md0 hX rfl rfl rfl ?_
      refine rThen ?_
      refine rRet ?_
      have hy := Option.some.inj hT; subst hy
      exact zEnd0 hX rfl
  · cases h
def tcoef_Right (N : Nat) (a1 : Bool) (a2 : Int) (a3 : Int) : Option Bool :=
  let x1 := (bif (bif (bif (bif (decide ((0 : Int) ≤ a2)) then (decide (a2 ≤ 63)) else false) then (decide (a3 ≠ 0)) else false) then (decide (((-127) : Int) ≤ a3)) else false) then (decide (a3 ≤ 127)) else false)
  some x1
def sp_tcoef_Right (N : Nat) : X.Spec := fun args lk => match args with
  | [.v (.agg [.cs [.bool a1, .int .i64 a2, .int .i64 a3]])] => some ⟨(tcoef_Right N a1 a2 a3).isSome = true, .v (.c (.bool ((tcoef_Right N a1 a2 a3).getD default))), [], []⟩
  | _ => none
set_option maxRecDepth 100000 in
set_option maxHeartbeats 1000000 in
theorem ok_tcoef_Right (N : Nat) : FnOK Tryd.prog gt0 33 (sp_tcoef_Right N) := by
  refine fnOK_handed Tryd.func33 rfl (by kernel_rfl) tt_ok (ktNil) ?_
  intro args lk r h hp
  unfold sp_tcoef_Right at h
  split at h
  · rename_i a1 a2 a3
    cases h
    obtain ⟨x, hx⟩ := Option.isSome_iff_exists.1 hp
    simp only [hx, Option.getD_some]
    refine hand0 rfl rfl (fun w0 M ε0 hX => ?_)
    refine rCount (fun hε => ?_)
    have hT : tcoef_Right N a1 a2 a3 = some x := hx; clear hx hp; unfold tcoef_Right at hT
    refine rSeq ?_
    refine zReg md0 hX rfl rfl rfl ?_
    refine rThen ?_
    refine rSeq ?_
    let x1 := (bif (bif (bif (bif (decide ((0 : Int) ≤ a2)) then (decide (a2 ≤ 63)) else false) then (decide (a3 ≠ 0)) else false) then (decide (((-127) : Int) ≤ a3)) else false) then (decide (a3 ≤ 127)) else false)
    refine zReg md0 hX rfl rfl rfl ?_
    refine rThen ?_
    refine rRet ?_
    have hy := Option.some.inj hT; subst hy
    exact zEnd0 hX rfl
  · cases h
def runs_Levels_b1 (N : Nat) (a1 : Nat) (a3 : (List (Bool × (Int × Int)))) (s1 : (Int × Int × (List Int))) : Option ((Int × Int × (List Int)) ⊕ (Unit ⊕ (List Int))) :=
  bif (decide (s1.2.1 < (a1 : Int))) then
    if (0 : Int) ≤ s1.2.1 ∧ s1.2.1 < (a1 : Int) ∧ (s1.2.1).toNat < a3.length then
      let c1 := (tcoef_Right N (a3.getD (s1.2.1).toNat (false, ((0 : Int), (0 : Int)))).1 (a3.getD (s1.2.1).toNat (false, ((0 : Int), (0 : Int)))).2.1 (a3.getD (s1.2.1).toNat (false, ((0 : Int), (0 : Int)))).2.2)
      let x5 := (bif (bif (!(c1.getD default)) then true else (!((a3.getD (s1.2.1).toNat (false, ((0 : Int), (0 : Int)))).1 == (decide (s1.2.1 = ((a1 : Int) - 1)))))) then true else (decide ((64 : Int) ≤ (s1.1 + (a3.getD (s1.2.1).toNat (false, ((0 : Int), (0 : Int)))).2.1))))
      if c1.isSome = true ∧ ((!(!(c1.getD default))) = true → inK .i64 ((a1 : Int) - 1)) ∧ ((!(bif (!(c1.getD default)) then true else (!((a3.getD (s1.2.1).toNat (false, ((0 : Int), (0 : Int)))).1 == (decide (s1.2.1 = ((a1 : Int) - 1))))))) = true → inK .i64 (s1.1 + (a3.getD (s1.2.1).toNat (false, ((0 : Int), (0 : Int)))).2.1)) then
        bif x5 then
          some (.inr (Sum.inl ()))
        else
          if inK .i64 (s1.1 + (a3.getD (s1.2.1).toNat (false, ((0 : Int), (0 : Int)))).2.1) then
            let x6 := (s1.2.2.set (s1.1 + (a3.getD (s1.2.1).toNat (false, ((0 : Int), (0 : Int)))).2.1).toNat (a3.getD (s1.2.1).toNat (false, ((0 : Int), (0 : Int)))).2.2)
            if (0 : Int) ≤ (s1.1 + (a3.getD (s1.2.1).toNat (false, ((0 : Int), (0 : Int)))).2.1) ∧ (s1.1 + (a3.getD (s1.2.1).toNat (false, ((0 : Int), (0 : Int)))).2.1) < 64 ∧ (s1.1 + (a3.getD (s1.2.1).toNat (false, ((0 : Int), (0 : Int)))).2.1).toNat < 64 then
              if inK .i64 ((s1.1 + (a3.getD (s1.2.1).toNat (false, ((0 : Int), (0 : Int)))).2.1) + 1) then
                if inK .i64 (s1.2.1 + 1) then
                  some (.inl (((s1.1 + (a3.getD (s1.2.1).toNat (false, ((0 : Int), (0 : Int)))).2.1) + 1), (s1.2.1 + 1), x6))
                else none
              else none
            else none
          else none
      else none
    else none
  else
    some (.inr (Sum.inr s1.2.2))
def runs_Levels (N : Nat) (a1 : Nat) (a2 : Int) (a3 : (List (Bool × (Int × Int)))) : Option ((List Int) × Int) :=
  bif (bif (decide (a2 ≠ 0)) then (decide (a2 ≠ 1)) else false) then
    some ((List.replicate 64 0), 1)
  else
    (iter (runs_Levels_b1 N a1 a3) N (a2, 0, (List.replicate 64 0))).bind fun w1 =>
      (Sum.elim (fun v1 =>
        some ((List.replicate 64 0), 7)
      )
        (fun v2 =>
          some (v2, 0)
        )
      ) w1
def sp_runs_Levels (N : Nat) : X.Spec := fun args lk => match args with
  | [.v (.c (.sl i0 0 a1 3)), .v (.c (.int .i64 a2))] => (match lk i0 with
    | some (.mem _ _ _ b0) => (match frzB (.pair .bool (.pair (.int .i64) (.int .i64))) b0 with
    | some a3 => some ⟨(runs_Levels N a1 a2 a3).isSome = true, .tup [.agg [.ints 64 .i64 ((runs_Levels N a1 a2 a3).getD default).1], .c (.int .i64 ((runs_Levels N a1 a2 a3).getD default).2)], [], []⟩
    | none => none)
    | _ => none)
  | _ => none
set_option maxRecDepth 100000 in
set_option maxHeartbeats 1000000 in
theorem ok_runs_Levels (N : Nat) : FnOK Tryd.prog gt0 51 (sp_runs_Levels N) := by
  refine fnOK_handed Tryd.func51 rfl (by kernel_rfl) tt_ok (ktCons (ok_tcoef_Right N) (ktNil)) ?_
  intro args lk r h hp
  unfold sp_runs_Levels at h
  split at h
  · rename_i i0 a1 a2
    split at h
    · rename_i _ _ _ b0 hl0
      split at h
      · rename_i a3 hf0
        change (List (Bool × (Int × Int))) at a3
        cases h
        obtain ⟨x, hx⟩ := Option.isSome_iff_exists.1 hp
        simp only [hx, Option.getD_some]
        refine handL [i0] 1 [(0, .mem false 28 none (.lst (.pair .bool (.pair (.int .i64) (.int .i64))) a3))] [.v (.c (.sl 0 0 a1 3)), .v (.c (.int .i64 a2))] rfl rfl rfl ⟨isSome_of hl0, trivial⟩ ⟨⟨rfl, (by repeat' first | exact True.intro | exact rfl | exact ⟨_, rfl, rfl⟩ | apply And.intro | exact Or.inl rfl), _, hl0, sub_frz hf0⟩, trivial⟩ rfl (fun w0 M ε0 hX => ?_)
        refine rCount (fun hε => ?_)
        have hT : runs_Levels N a1 a2 a3 = some x := hx; clear hx hp; unfold runs_Levels at hT
        refine rSeq ?_
        refine zReg md0 hX rfl rfl rfl ?_
        refine rThen ?_
        refine rSeq ?_
        refine rSeq ?_
        refine zReg md0 hX rfl rfl rfl ?_
        refine rThen ?_
        refine zCond rfl rfl (fun hc => ?_) (fun hc => ?_)
        · replace hT := sT hc hT
          refine rSeq ?_
          refine zReg md0 hX rfl rfl rfl ?_
          refine rThen ?_
          refine rRet ?_
          refine rThenRet ?_
          have hy := Option.some.inj hT; subst hy
          exact zEnd0 hX rfl
        · replace hT := sF hc hT
          refine rSkip ?_
          refine rThen ?_
          refine rSeq ?_
          refine zReg md0 hX rfl rfl rfl ?_
          refine rThen ?_
          refine rSeq ?_
          refine zReg md0 hX rfl rfl rfl ?_
          refine rThen ?_
          refine rSeq ?_
          refine rSeq ?_
          refine zReg md0 hX rfl rfl rfl ?_
          refine rThen ?_
          refine rBlock ?_
          replace hT := sBind hT; obtain ⟨w1, hl, hT⟩ := hT
          refine rJoinA (fun v1 => (Sum.inl v1) = w1) (fun v1 => ⟨[(4, .v (.c (.ptr 1 0 0 0 0 0))), (5, .v (.c (.int .i64 7)))], [(0, .mem false 28 none (.lst (.pair .bool (.pair (.int .i64) (.int .i64))) a3)), (1, .mem true 87 none (.flat [.ints 64 .i64 (List.replicate 64 0)]))], 3⟩) .ret (fun v1 hv => ?_) (fun hxs10 => ?_)
          · subst hv; clear hl; replace hT := (sElimL hT)
            refine rInRet ?_
            refine rThenRet ?_
            have hy := Option.some.inj hT; subst hy
            exact zEnd0 hX rfl
          refine rJoinA (fun v2 => (Sum.inr v2) = w1) (fun v2 => ⟨[(4, .v (.c (.ptr 1 0 0 0 0 0))), (5, .v (.c (.int .i64 0))), (6, .v (.c (.ptr 2 0 0 0 0 0)))], [(0, .mem false 28 none (.lst (.pair .bool (.pair (.int .i64) (.int .i64))) a3)), (1, .mem true 87 none (.flat [.ints 64 .i64 (List.replicate 64 0)])), (2, .mem true 87 none (.flat [.ints 64 .i64 v2]))], 3⟩) (.exit 0) (fun v2 hv => ?_) (fun hxs11 => ?_)
          · subst hv; clear hl; replace hT := (sElimR hT)
            refine rInHit ?_
            refine rThen ?_
            refine rSeq ?_
            refine zReg md0 hX rfl rfl rfl ?_
            refine rThen ?_
            refine rRet ?_
            have hy := Option.some.inj hT; subst hy
            exact zEnd0 hX rfl
          refine rLoopM (runs_Levels_b1 N a1 a3) (fun s1 => ⟨[(0, .v (.c (.sl 0 0 a1 3))), (4, .v (.c (.ptr 1 0 0 0 0 0))), (5, .v (.c (.int .i64 0))), (6, .v (.c (.ptr 2 0 0 0 0 0))), (7, .v (.c (.int .i64 s1.1))), (18, .v (.c (.sl 0 0 a1 3))), (19, .v (.c (.int .i64 (a1 : Int)))), (20, .v (.c (.int .i64 s1.2.1)))], [(0, .mem false 28 none (.lst (.pair .bool (.pair (.int .i64) (.int .i64))) a3)), (1, .mem true 87 none (.flat [.ints 64 .i64 (List.replicate 64 0)])), (2, .mem true 87 none (.flat [.ints 64 .i64 s1.2.2]))], 3⟩) hl (To.mk' [] 1 hε rfl (by repeat' first | exact True.intro | exact rfl | apply And.intro) (by repeat' first | exact True.intro | exact rfl | apply And.intro)) (fun s1 zs1 NNs1 hz hnexts1 houts1 => ?_)
          clear hl hT
          have hT := hz; clear hz
          refine rSeq ?_
          refine zReg md0 hX rfl rfl rfl ?_
          refine rThen ?_
          refine rSeq ?_
          refine zCond rfl rfl (fun hc => ?_) (fun hc => ?_)
          · replace hT := sT hc hT
            refine rSkip ?_
            refine rThen ?_
            refine rSeq ?_
            refine rBlock ?_
            refine rSeq ?_
            replace hT := sIf hT; obtain ⟨⟨o1, o2, o3⟩, hT⟩ := hT
            refine zReg md0 hX rfl rfl rfl ?_
            refine rThen ?_
            refine rSeq ?_
            refine rSeq ?_
            let c1 := (tcoef_Right N (a3.getD (s1.2.1).toNat (false, ((0 : Int), (0 : Int)))).1 (a3.getD (s1.2.1).toNat (false, ((0 : Int), (0 : Int)))).2.1 (a3.getD (s1.2.1).toNat (false, ((0 : Int), (0 : Int)))).2.2)
            let x5 := (bif (bif (!(c1.getD default)) then true else (!((a3.getD (s1.2.1).toNat (false, ((0 : Int), (0 : Int)))).1 == (decide (s1.2.1 = ((a1 : Int) - 1)))))) then true else (decide ((64 : Int) ≤ (s1.1 + (a3.getD (s1.2.1).toNat (false, ((0 : Int), (0 : Int)))).2.1))))
            replace hT := sIf hT; obtain ⟨⟨o1, o2, o3⟩, hT⟩ := hT
            refine rRegC md0 hX rfl rfl rfl (by (repeat' first | exact True.intro | with_reducible assumption | (with_reducible apply And.intro) | intro _) <;> first | assumption | exact o2 (by assumption) | exact o3 (by assumption) | exact rfl | omega | exact Nat.le_of_ble_eq_true rfl | exact selF (by assumption) | exact selT (by assumption) | exact And.intro rfl rfl | exact And.intro (by assumption) rfl | exact And.intro (by omega) rfl | (simp only [inK] at *; omega) | (simp_all [sel] <;> fail) | fail) ?_
            refine rThen ?_
            refine zCond rfl rfl (fun hc => ?_) (fun hc => ?_)
            · replace hT := sT hc hT
              refine rSeq ?_
              refine zReg md0 hX rfl rfl rfl ?_
              refine rThen ?_
              refine rRet ?_
              refine rThenRet ?_
              refine rInRet ?_
              refine rThenRet ?_
              refine rThenRet ?_
              exact zTo [] 1 hε (hxs10 _ (houts1 _ (Option.some.inj hT).symm))
            · replace hT := sF hc hT
              refine rSkip ?_
              refine rThen ?_
              refine rSeq ?_
              replace hT := sIf hT; obtain ⟨o1, hT⟩ := hT
              refine zReg md0 hX rfl rfl rfl ?_
              refine rThen ?_
              refine rSeq ?_
              let x6 := (s1.2.2.set (s1.1 + (a3.getD (s1.2.1).toNat (false, ((0 : Int), (0 : Int)))).2.1).toNat (a3.getD (s1.2.1).toNat (false, ((0 : Int), (0 : Int)))).2.2)
              replace hT := sIf hT; obtain ⟨⟨o1, o2, o3⟩, hT⟩ := hT
              refine zReg md0 hX rfl rfl rfl ?_
              refine rThen ?_
              replace hT := sIf hT; obtain ⟨o1, hT⟩ := hT
              refine zReg md0 hX rfl rfl rfl ?_
              refine rInNormal ?_
              refine rThen ?_
              replace hT := sIf hT; obtain ⟨o1, hT⟩ := hT
              refine zReg md0 hX rfl rfl rfl ?_
              exact hnexts1 _ (Option.some.inj hT).symm _ (To.mk' [] 1 hε rfl (by repeat' first | exact True.intro | exact rfl | apply And.intro) (by repeat' first | exact True.intro | exact rfl | apply And.intro))
          · replace hT := sF hc hT
            refine rExit ?_
            refine rThenExit ?_
            refine rThenExit ?_
            exact zTo [] 1 hε (hxs11 _ (houts1 _ (Option.some.inj hT).symm))
      · cases h
    · cases h
  · cases h
def blocks_may (N : Nat) (a1 : Bool) (a2 : Int) (a3 : Nat) (a4 : (List (Bool × (Int × Int)))) : Option Bool :=
  let x1 := (bif (bif (!(a1 == (decide (a2 ≠ 0)))) then true else (decide (a2 < 0))) then true else (decide ((255 : Int) ≤ a2)))
  bif x1 then
    some false
  else
    let c1 := (blocks_from N a1)
    let c2 := (runs_Levels N a3 (c1.getD default) a4)
    if c1.isSome = true ∧ c2.isSome = true then
      some (decide ((c2.getD default).2 = 0))
    else none
def sp_blocks_may (N : Nat) : X.Spec := fun args lk => match args with
  | [.v (.c (.bool a1)), .v (.c (.int .i64 a2)), .v (.c (.sl i0 0 a3 3))] => (match lk i0 with
    | some (.mem _ _ _ b0) => (match frzB (.pair .bool (.pair (.int .i64) (.int .i64))) b0 with
    | some a4 => some ⟨(blocks_may N a1 a2 a3 a4).isSome = true, .v (.c (.bool ((blocks_may N a1 a2 a3 a4).getD default))), [], []⟩
    | none => none)
    | _ => none)
  | _ => none
set_option maxRecDepth 100000 in
set_option maxHeartbeats 1000000 in
theorem ok_blocks_may (N : Nat) : FnOK Tryd.prog gt0 45 (sp_blocks_may N) := by
  refine fnOK_handed Tryd.func45 rfl (by kernel_rfl) tt_ok (ktCons (ok_runs_Levels N) (ktCons (ok_blocks_from N) (ktNil))) ?_
  intro args lk r h hp
  unfold sp_blocks_may at h
  split at h
  · rename_i a1 a2 i0 a3
    split at h
    · rename_i _ _ _ b0 hl0
      split at h
      · rename_i a4 hf0
        change (List (Bool × (Int × Int))) at a4
        cases h
        obtain ⟨x, hx⟩ := Option.isSome_iff_exists.1 hp
        simp only [hx, Option.getD_some]
        refine handL [i0] 1 [(0, .mem false 28 none (.lst (.pair .bool (.pair (.int .i64) (.int .i64))) a4))] [.v (.c (.bool a1)), .v (.c (.int .i64 a2)), .v (.c (.sl 0 0 a3 3))] rfl rfl rfl ⟨isSome_of hl0, trivial⟩ ⟨⟨rfl, (by repeat' first | exact True.intro | exact rfl | exact ⟨_, rfl, rfl⟩ | apply And.intro | exact Or.inl rfl), _, hl0, sub_frz hf0⟩, trivial⟩ rfl (fun w0 M ε0 hX => ?_)
        refine rCount (fun hε => ?_)
        have hT : blocks_may N a1 a2 a3 a4 = some x := hx; clear hx hp; unfold blocks_may at hT
        refine rSeq ?_
        refine zReg md0 hX rfl rfl rfl ?_
        refine rThen ?_
        refine rSeq ?_
        refine rSeq ?_
        let x1 := (bif (bif (!(a1 == (decide (a2 ≠ 0)))) then true else (decide (a2 < 0))) then true else (decide ((255 : Int) ≤ a2)))
        refine zReg md0 hX rfl rfl rfl ?_
        refine rThen ?_
        refine zCond rfl rfl (fun hc => ?_) (fun hc => ?_)
        · replace hT := sT hc hT
          refine rSeq ?_
          refine zReg md0 hX rfl rfl rfl ?_
          refine rThen ?_
          refine rRet ?_
          refine rThenRet ?_
          have hy := Option.some.inj hT; subst hy
          exact zEnd0 hX rfl
        · replace hT := sF hc hT
          refine rSkip ?_
          refine rThen ?_
          refine rSeq ?_
          let c1 := (blocks_from N a1)
          let c2 := (runs_Levels N a3 (c1.getD default) a4)
          replace hT := sIf hT; obtain ⟨⟨o1, o2⟩, hT⟩ := hT
          refine zReg md0 hX rfl rfl rfl ?_
          refine rThen ?_
          refine rSeq ?_
          refine zReg md0 hX rfl rfl rfl ?_
          refine rThen ?_
          refine rRet ?_
          have hy := Option.some.inj hT; subst hy
          exact zEnd0 hX rfl
      · cases h
    · cases h
  · cases h
def outbits_fits (N : Nat) (a1 : Int) (a2 : Int) : Option Bool :=
  let x1 := (bif (bif (bif (decide ((0 : Int) ≤ a2)) then (decide (a2 ≤ 32)) else false) then (decide ((0 : Int) ≤ a1)) else false) then (decide (a1 < ((1 : Int) * 2 ^ (Int.toNat a2)))) else false)
  if ((bif (bif (decide ((0 : Int) ≤ a2)) then (decide (a2 ≤ 32)) else false) then (decide ((0 : Int) ≤ a1)) else false) = true → inK .u64 a2) ∧ ((bif (bif (decide ((0 : Int) ≤ a2)) then (decide (a2 ≤ 32)) else false) then (decide ((0 : Int) ≤ a1)) else false) = true → (0 : Int) ≤ a2) ∧ ((bif (bif (decide ((0 : Int) ≤ a2)) then (decide (a2 ≤ 32)) else false) then (decide ((0 : Int) ≤ a1)) else false) = true → (a2).toNat ≤ 64) ∧ ((bif (bif (decide ((0 : Int) ≤ a2)) then (decide (a2 ≤ 32)) else false) then (decide ((0 : Int) ≤ a1)) else false) = true → inK .i64 ((1 : Int) * 2 ^ (Int.toNat a2))) then
    some x1
  else none
def sp_outbits_fits (N : Nat) : X.Spec := fun args lk => match args with
  | [.v (.c (.int .i64 a1)), .v (.c (.int .i64 a2))] => some ⟨(outbits_fits N a1 a2).isSome = true, .v (.c (.bool ((outbits_fits N a1 a2).getD default))), [], []⟩
  | _ => none
set_option maxRecDepth 100000 in
set_option maxHeartbeats 1000000 in
theorem ok_outbits_fits (N : Nat) : FnOK Tryd.prog gt0 49 (sp_outbits_fits N) := by
  refine fnOK_handed Tryd.func49 rfl (by kernel_rfl) tt_ok (ktNil) ?_
  intro args lk r h hp
  unfold sp_outbits_fits at h
  split at h
  · rename_i a1 a2
    cases h
    obtain ⟨x, hx⟩ := Option.isSome_iff_exists.1 hp
    simp only [hx, Option.getD_some]
    refine hand0 rfl rfl (fun w0 M ε0 hX => ?_)
    refine rCount (fun hε => ?_)
    have hT : outbits_fits N a1 a2 = some x := hx; clear hx hp; unfold outbits_fits at hT
    refine rSeq ?_
    refine zReg md0 hX rfl rfl rfl ?_
    refine rThen ?_
    refine rSeq ?_
    let x1 := (bif (bif (bif (decide ((0 : Int) ≤ a2)) then (decide (a2 ≤ 32)) else false) then (decide ((0 : Int) ≤ a1)) else false) then (decide (a1 < ((1 : Int) * 2 ^ (Int.toNat a2)))) else false)
    replace hT := sIf hT; obtain ⟨⟨o1, o2, o3, o4⟩, hT⟩ := hT
    refine rRegC md0 hX rfl rfl rfl (by (repeat' first | exact True.intro | with_reducible assumption | (with_reducible apply And.intro) | intro _) <;> first | assumption | exact o1 (by assumption) | exact o2 (by assumption) | exact o3 (by assumption) | exact o4 (by assumption) | exact rfl | omega | exact Nat.le_of_ble_eq_true rfl | exact selF (by assumption) | exact selT (by assumption) | exact And.intro rfl rfl | exact And.intro (by assumption) rfl | exact And.intro (by omega) rfl | (simp only [inK] at *; omega) | (simp_all [sel] <;> fail) | fail) ?_
    refine rThen ?_
    refine rRet ?_
    have hy := Option.some.inj hT; subst hy
    exact zEnd0 hX rfl
  · cases h
def overspill_outbits_Writer_bit (N : Nat) (a1 : Bool) (a2 : (List Bool)) : Option (List Bool) :=
  if (a2.length : Int) ≤ 9223372036854775800 then
    if (0 : Int) ≤ (a2.length : Int) then
      joinK (fun (v1 : (Nat × Nat × (List Int))) =>
        if (a1 = true → (0 : Int) ≤ (a2.length : Int)) ∧ (a1 = true → (0 : Int) ≤ ((a2.length : Int) / 8)) ∧ (a1 = true → ((a2.length : Int) / 8) < (v1.1 : Int)) ∧ (a1 = true → ((a2.length : Int) / 8).toNat < v1.2.1) ∧ (a1 = true → inK .i64 ((7 : Int) - ((a2.length : Int) % 8))) ∧ (a1 = true → inK .u64 ((7 : Int) - ((a2.length : Int) % 8))) ∧ (a1 = true → (0 : Int) ≤ ((7 : Int) - ((a2.length : Int) % 8))) ∧ (a1 = true → (((7 : Int) - ((a2.length : Int) % 8))).toNat ≤ 8) ∧ (a1 = true → inK .u8 ((1 : Int) * 2 ^ (Int.toNat ((7 : Int) - ((a2.length : Int) % 8))))) ∧ (a1 = true → (0 : Int) ≤ (v1.2.2.getD ((a2.length : Int) / 8).toNat 0)) ∧ (a1 = true → (0 : Int) ≤ ((1 : Int) * 2 ^ (Int.toNat ((7 : Int) - ((a2.length : Int) % 8))))) then
          let x1 := (bif a1 then (v1.2.2.set ((a2.length : Int) / 8).toNat ((Int.toNat (v1.2.2.getD ((a2.length : Int) / 8).toNat 0) ||| Int.toNat ((1 : Int) * 2 ^ (Int.toNat ((7 : Int) - ((a2.length : Int) % 8)))) : Nat) : Int)) else v1.2.2)
          if inK .i64 ((a2.length : Int) + 1) then
            if v1.2.1 = v1.1 ∧ packB (unpB x1 ((a2.length : Int) + 1)) = x1 ∧ ((unpB x1 ((a2.length : Int) + 1)).length : Int) = ((a2.length : Int) + 1) then
              some (unpB x1 ((a2.length : Int) + 1))
            else none
          else none
        else none
      ) fun k1 =>
        bif (decide (((a2.length : Int) % 8) = 0)) then
          if 1 ≤ 1 ∧ (((a2.length + 7) / 8) + 1) * 1 ≤ 140737488355328 ∧ ((a2.length + 7) / 8) + 1 ≤ 9223372036854775807 then
            k1 ((((a2.length + 7) / 8) + 1), (((a2.length + 7) / 8) + 1), ((packB a2) ++ (((List.replicate 1 0).set 0 0).take 1)))
          else none
        else
          k1 (((a2.length + 7) / 8), ((a2.length + 7) / 8), (packB a2))
    else none
  else none
def sp_overspill_outbits_Writer_bit (N : Nat) : X.Spec := fun args lk => match args with
  | [.v (.c (.ptr i0 0 0 0 0 0)), .v (.c (.bool a1))] => (match lk i0 with
    | some (.obj 5 a2) => some ⟨(overspill_outbits_Writer_bit N a1 a2).isSome = true, .tup [], [], [(i0, .obj 5 ((overspill_outbits_Writer_bit N a1 a2).getD default))]⟩
    | _ => none)
  | _ => none
set_option maxRecDepth 100000 in
set_option maxHeartbeats 1000000 in
theorem ok_overspill_outbits_Writer_bit (N : Nat) : FnOK Tryd.prog gt0 52 (sp_overspill_outbits_Writer_bit N) := by
  refine fnOK_handed Tryd.func52 rfl (by kernel_rfl) tt_ok (ktNil) ?_
  intro args lk r h hp
  unfold sp_overspill_outbits_Writer_bit at h
  split at h
  · rename_i i0 a1
    split at h
    · rename_i a2 hl0
      cases h
      obtain ⟨x, hx⟩ := Option.isSome_iff_exists.1 hp
      simp only [hx, Option.getD_some]
      refine handL [i0] 1 [(0, .obj 5 a2)] [.v (.c (.ptr 0 0 0 0 0 0)), .v (.c (.bool a1))] rfl rfl rfl ⟨isSome_of hl0, trivial⟩ ⟨⟨rfl, (by repeat' first | exact True.intro | exact rfl | exact ⟨_, rfl, rfl⟩ | apply And.intro | exact Or.inl rfl), _, hl0, .inl rfl⟩, trivial⟩ rfl (fun w0 M ε0 hX => ?_)
      refine rCount (fun hε => ?_)
      have hT : overspill_outbits_Writer_bit N a1 a2 = some x := hx; clear hx hp; unfold overspill_outbits_Writer_bit at hT
      replace hT := sIf hT; obtain ⟨p0, hT⟩ := hT
      refine rOpen1 p0 (by (repeat' first | exact True.intro | exact rfl | apply And.intro) <;> first | assumption | rfl) (fun ty0 => ?_)
      refine rSeq ?_
      refine rSeq ?_
      replace hT := sIf hT; obtain ⟨o1, hT⟩ := hT
      refine zReg md0 hX rfl rfl rfl ?_
      refine rThen ?_
      refine rJoinK hT (fun v1 => ⟨[(0, .v (.c (.ptr 0 0 0 0 0 0))), (1, .v (.c (.bool a1)))], [(0, .mem true ty0 none (.flat [.cs [.sl 3 0 v1.1 1, .int .i64 (a2.length : Int)]])), (3, .mem true 5 (some 1) (.flat [.ints v1.2.1 .u8 v1.2.2]))], 4⟩) (fun v1 hT => ?_) (fun k1 hjk1 hT => ?_)
      · skip
        refine rThen ?_
        refine rSeq ?_
        refine rSeq ?_
        refine zReg md0 hX rfl rfl rfl ?_
        refine rThen ?_
        replace hT := sIf hT; obtain ⟨⟨q1, q2, q3, q4, q5, q6, q7, q8, q9, q10, q11⟩, hT⟩ := hT
        refine rJoin ⟨[(0, .v (.c (.ptr 0 0 0 0 0 0)))], [(0, .mem true ty0 none (.flat [.cs [.sl 3 0 v1.1 1, .int .i64 (a2.length : Int)]])), (3, .mem true 5 (some 1) (.flat [.ints v1.2.1 .u8 (bif a1 then (v1.2.2.set ((a2.length : Int) / 8).toNat ((Int.toNat (v1.2.2.getD ((a2.length : Int) / 8).toNat 0) ||| Int.toNat ((1 : Int) * 2 ^ (Int.toNat ((7 : Int) - ((a2.length : Int) % 8)))) : Nat) : Int)) else v1.2.2)]))], 4⟩ ?_ (fun hj => ?_)
        · skip
          let x1 := (bif a1 then (v1.2.2.set ((a2.length : Int) / 8).toNat ((Int.toNat (v1.2.2.getD ((a2.length : Int) / 8).toNat 0) ||| Int.toNat ((1 : Int) * 2 ^ (Int.toNat ((7 : Int) - ((a2.length : Int) % 8)))) : Nat) : Int)) else v1.2.2)
          refine rThen ?_
          replace hT := sIf hT; obtain ⟨o1, hT⟩ := hT
          refine zReg md0 hX rfl rfl rfl ?_
          refine rNormal ?_
          replace hT := sIf hT; obtain ⟨⟨p1, p2, p3⟩, hT⟩ := hT
          have hy := Option.some.inj hT; subst hy
          exact rEndObj (unpB x1 ((a2.length : Int) + 1)) hX rfl (by repeat' first | exact True.intro | exact rfl | apply And.intro | omega | exact Nat.le_of_ble_eq_true rfl) rfl rfl rfl rfl rfl (by assumption) rfl (by first | rfl | assumption) (by first | rfl | assumption) rfl rfl
        · clear hT
          refine zCond rfl rfl (fun hc => ?_) (fun hc => ?_)
          · skip
            have q1 := q1 hc
            have q2 := q2 hc
            have q3 := q3 hc
            have q4 := q4 hc
            have q5 := q5 hc
            have q6 := q6 hc
            have q7 := q7 hc
            have q8 := q8 hc
            have q9 := q9 hc
            have q10 := q10 hc
            have q11 := q11 hc
            refine zDraw md0 1 [21] hX mixed rfl rfl rfl rfl rfl ?_
            exact rTo (To.mk' [] 1 hε rfl (by (repeat' first | exact True.intro | exact rfl | apply And.intro) <;> (repeat' first | exact rfl | refine Eq.trans ?_ (cTr (by assumption)) | refine Eq.trans ?_ (cFr (by assumption)) | refine Eq.trans (cTl (by assumption)) ?_ | refine Eq.trans (cFl (by assumption)) ?_)) (by (repeat' first | exact True.intro | exact rfl | apply And.intro) <;> (repeat' first | exact rfl | refine Eq.trans ?_ (cTr (by assumption)) | refine Eq.trans ?_ (cFr (by assumption)) | refine Eq.trans (cTl (by assumption)) ?_ | refine Eq.trans (cFl (by assumption)) ?_))) hj
          · skip
            refine rSkip ?_
            exact rTo (To.mk' [] 1 hε rfl (by (repeat' first | exact True.intro | exact rfl | apply And.intro) <;> (repeat' first | exact rfl | refine Eq.trans ?_ (cTr (by assumption)) | refine Eq.trans ?_ (cFr (by assumption)) | refine Eq.trans (cTl (by assumption)) ?_ | refine Eq.trans (cFl (by assumption)) ?_)) (by (repeat' first | exact True.intro | exact rfl | apply And.intro) <;> (repeat' first | exact rfl | refine Eq.trans ?_ (cTr (by assumption)) | refine Eq.trans ?_ (cFr (by assumption)) | refine Eq.trans (cTl (by assumption)) ?_ | refine Eq.trans (cFl (by assumption)) ?_))) hj
      · skip
        refine zCond rfl rfl (fun hc => ?_) (fun hc => ?_)
        · replace hT := sT hc hT
          replace hT := sIf hT; obtain ⟨⟨o1, o2, o3⟩, hT⟩ := hT
          refine zReg md0 hX rfl rfl rfl ?_
          exact zTo [] 1 hε (hjk1 _ hT)
        · replace hT := sF hc hT
          refine rSkip ?_
          exact zTo [0, 1, 0, 1] 1 hε (hjk1 _ hT)
    · cases h
  · cases h
def overspill_outbits_Writer_Put_b1 (N : Nat) (a1 : Int) (s1 : (Int × (List Bool))) : Option ((Int × (List Bool)) ⊕ (List Bool)) :=
  bif (decide ((0 : Int) ≤ s1.1)) then
    let c2 := (overspill_outbits_Writer_bit N (decide (((Int.toNat (a1 / 2 ^ (Int.toNat s1.1)) &&& Int.toNat 1 : Nat) : Int) = 1)) s1.2)
    if inK .u64 s1.1 ∧ (0 : Int) ≤ s1.1 ∧ (s1.1).toNat ≤ 64 ∧ (0 : Int) ≤ (a1 / 2 ^ (Int.toNat s1.1)) ∧ c2.isSome = true then
      if inK .i64 (s1.1 - 1) then
        some (.inl ((s1.1 - 1), (c2.getD default)))
      else none
    else none
  else
    some (.inr s1.2)
def overspill_outbits_Writer_Put (N : Nat) (a1 : Int) (a2 : Int) (a3 : (List Bool)) : Option (Int × (List Bool)) :=
  let c1 := (outbits_fits N a1 a2)
  if ((!false) = true → c1.isSome = true) then
    bif (!(c1.getD default)) then
      some (1, a3)
    else
      if inK .i64 (a2 - 1) then
        (iter (overspill_outbits_Writer_Put_b1 N a1) N ((a2 - 1), a3)).bind fun v1 =>
          some (0, v1)
      else none
  else none
def sp_overspill_outbits_Writer_Put (N : Nat) : X.Spec := fun args lk => match args with
  | [.v (.c (.ptr i0 0 0 0 0 0)), .v (.c (.int .i64 a1)), .v (.c (.int .i64 a2))] => (match lk i0 with
    | some (.obj 5 a3) => some ⟨(overspill_outbits_Writer_Put N a1 a2 a3).isSome = true, .v (.c (.int .i64 ((overspill_outbits_Writer_Put N a1 a2 a3).getD default).1)), [], [(i0, .obj 5 ((overspill_outbits_Writer_Put N a1 a2 a3).getD default).2)]⟩
    | _ => none)
  | _ => none
set_option maxRecDepth 100000 in
set_option maxHeartbeats 1000000 in
theorem ok_overspill_outbits_Writer_Put (N : Nat) : FnOK Tryd.prog gt0 46 (sp_overspill_outbits_Writer_Put N) := by
  refine fnOK_handed Tryd.func46 rfl (by kernel_rfl) tt_ok (ktCons (ok_overspill_outbits_Writer_bit N) (ktCons (ok_outbits_fits N) (ktNil))) ?_
  intro args lk r h hp
  unfold sp_overspill_outbits_Writer_Put at h
  split at h
  · rename_i i0 a1 a2
    split at h
    · rename_i a3 hl0
      cases h
      obtain ⟨x, hx⟩ := Option.isSome_iff_exists.1 hp
      simp only [hx, Option.getD_some]
      refine handL [i0] 1 [(0, .obj 5 a3)] [.v (.c (.ptr 0 0 0 0 0 0)), .v (.c (.int .i64 a1)), .v (.c (.int .i64 a2))] rfl rfl rfl ⟨isSome_of hl0, trivial⟩ ⟨⟨rfl, (by repeat' first | exact True.intro | exact rfl | exact ⟨_, rfl, rfl⟩ | apply And.intro | exact Or.inl rfl), _, hl0, .inl rfl⟩, trivial⟩ rfl (fun w0 M ε0 hX => ?_)
      refine rCount (fun hε => ?_)
      have hT : overspill_outbits_Writer_Put N a1 a2 a3 = some x := hx; clear hx hp; unfold overspill_outbits_Writer_Put at hT
      refine rSeq ?_
      refine zReg md0 hX rfl rfl rfl ?_
      refine rThen ?_
      refine rSeq ?_
      refine rSeq ?_
      let c1 := (outbits_fits N a1 a2)
      replace hT := sIf hT; obtain ⟨o1, hT⟩ := hT
      refine rRegC md0 hX rfl rfl rfl (by (repeat' first | exact True.intro | with_reducible assumption | (with_reducible apply And.intro) | intro _) <;> first | assumption | exact o1 (by assumption) | exact rfl | omega | exact Nat.le_of_ble_eq_true rfl | exact selF (by assumption) | exact selT (by assumption) | exact And.intro rfl rfl | exact And.intro (by assumption) rfl | exact And.intro (by omega) rfl | (simp only [inK] at *; omega) | (simp_all [sel] <;> fail) | fail) ?_
      refine rThen ?_
      refine zCond rfl rfl (fun hc => ?_) (fun hc => ?_)
      · replace hT := sT hc hT
        refine rSeq ?_
        refine zReg md0 hX rfl rfl rfl ?_
        refine rThen ?_
        refine rRet ?_
        refine rThenRet ?_
        have hy := Option.some.inj hT; subst hy
        exact rEndA [] [] [(0, .obj 5 a3)] (.v (.c (.int .i64 1))) hX rfl (by repeat' first | exact True.intro | exact rfl | apply And.intro | omega | exact Nat.le_of_ble_eq_true rfl) (by repeat' first | exact True.intro | exact rfl | apply And.intro) rfl rfl rfl (by repeat' first | exact True.intro | exact rfl | exact ⟨_, rfl, rfl⟩ | apply And.intro | exact Or.inl rfl) rfl rfl (by repeat' first | exact True.intro | exact rfl | exact ⟨_, rfl, rfl⟩ | apply And.intro | exact Or.inl rfl) rfl rfl
      · replace hT := sF hc hT
        refine rSkip ?_
        refine rThen ?_
        refine rSeq ?_
        refine rSeq ?_
        replace hT := sIf hT; obtain ⟨o1, hT⟩ := hT
        refine zReg md0 hX rfl rfl rfl ?_
        refine rThen ?_
        refine rBlock ?_
        replace hT := sBind hT; obtain ⟨w1, hl, hT⟩ := hT
        refine rJoinA (fun v1 => v1 = w1) (fun v1 => ⟨[(6, .v (.c (.int .i64 0)))], [(0, .obj 5 v1)], 1⟩) (.exit 0) (fun v1 hv => ?_) (fun hxs10 => ?_)
        · subst hv; clear hl
          refine rInHit ?_
          refine rThen ?_
          refine rSeq ?_
          refine zReg md0 hX rfl rfl rfl ?_
          refine rThen ?_
          refine rRet ?_
          have hy := Option.some.inj hT; subst hy
          exact rEndA [] [] [(0, .obj 5 v1)] (.v (.c (.int .i64 0))) hX rfl (by repeat' first | exact True.intro | exact rfl | apply And.intro | omega | exact Nat.le_of_ble_eq_true rfl) (by repeat' first | exact True.intro | exact rfl | apply And.intro) rfl rfl rfl (by repeat' first | exact True.intro | exact rfl | exact ⟨_, rfl, rfl⟩ | apply And.intro | exact Or.inl rfl) rfl rfl (by repeat' first | exact True.intro | exact rfl | exact ⟨_, rfl, rfl⟩ | apply And.intro | exact Or.inl rfl) rfl rfl
        refine rLoopM (overspill_outbits_Writer_Put_b1 N a1) (fun s1 => ⟨[(0, .v (.c (.ptr 0 0 0 0 0 0))), (1, .v (.c (.int .i64 a1))), (6, .v (.c (.int .i64 0))), (7, .v (.c (.int .i64 s1.1)))], [(0, .obj 5 s1.2)], 1⟩) hl (To.mk' [] 1 hε rfl (by repeat' first | exact True.intro | exact rfl | apply And.intro) (by repeat' first | exact True.intro | exact rfl | apply And.intro)) (fun s1 zs1 NNs1 hz hnexts1 houts1 => ?_)
        clear hl hT
        have hT := hz; clear hz
        refine rSeq ?_
        refine rSeq ?_
        refine zReg md0 hX rfl rfl rfl ?_
        refine rThen ?_
        refine zCond rfl rfl (fun hc => ?_) (fun hc => ?_)
        · replace hT := sT hc hT
          refine rSkip ?_
          refine rThen ?_
          refine rSeq ?_
          refine rBlock ?_
          let c2 := (overspill_outbits_Writer_bit N (decide (((Int.toNat (a1 / 2 ^ (Int.toNat s1.1)) &&& Int.toNat 1 : Nat) : Int) = 1)) s1.2)
          replace hT := sIf hT; obtain ⟨⟨o1, o2, o3, o4, o5⟩, hT⟩ := hT
          refine zReg md0 hX rfl rfl rfl ?_
          refine rInNormal ?_
          refine rThen ?_
          replace hT := sIf hT; obtain ⟨o1, hT⟩ := hT
          refine zReg md0 hX rfl rfl rfl ?_
          exact hnexts1 _ (Option.some.inj hT).symm _ (To.mk' [] 1 hε rfl (by repeat' first | exact True.intro | exact rfl | apply And.intro) (by repeat' first | exact True.intro | exact rfl | apply And.intro))
        · replace hT := sF hc hT
          refine rExit ?_
          refine rThenExit ?_
          refine rThenExit ?_
          exact zTo [] 1 hε (hxs10 _ (houts1 _ (Option.some.inj hT).symm))
    · cases h
  · cases h
def tcoef_many (N : Nat) (a1 : Bool) (a2 : Int) : Option Int :=
  bif (bif a1 then (decide (a2 = 0)) else false) then
    some 3
  else
    bif (bif a1 then (decide (a2 = 1)) else false) then
      some 2
    else
      bif (bif a1 then (decide (a2 ≤ 40)) else false) then
        some 1
      else
        bif a1 then
          some 0
        else
          bif (decide (a2 = 0)) then
            some 12
          else
            bif (decide (a2 = 1)) then
              some 6
            else
              bif (decide (a2 = 2)) then
                some 4
              else
                bif (decide (a2 ≤ 6)) then
                  some 3
                else
                  bif (decide (a2 ≤ 10)) then
                    some 2
                  else
                    bif (decide (a2 ≤ 26)) then
                      some 1
                    else
                      some 0
def sp_tcoef_many (N : Nat) : X.Spec := fun args lk => match args with
  | [.v (.c (.bool a1)), .v (.c (.int .i64 a2))] => some ⟨(tcoef_many N a1 a2).isSome = true, .v (.c (.int .i64 ((tcoef_many N a1 a2).getD default))), [], []⟩
  | _ => none
set_option maxRecDepth 100000 in
set_option maxHeartbeats 1000000 in
theorem ok_tcoef_many (N : Nat) : FnOK Tryd.prog gt0 48 (sp_tcoef_many N) := by
  refine fnOK_handed Tryd.func48 rfl (by kernel_rfl) tt_ok (ktNil) ?_
  intro args lk r h hp
  unfold sp_tcoef_many at h
  split at h
  · rename_i a1 a2
    cases h
    obtain ⟨x, hx⟩ := Option.isSome_iff_exists.1 hp
    simp only [hx, Option.getD_some]
    refine hand0 rfl rfl (fun w0 M ε0 hX => ?_)
    refine rCount (fun hε => ?_)
    have hT : tcoef_many N a1 a2 = some x := hx; clear hx hp; unfold tcoef_many at hT
    refine rSeq ?_
    refine zReg md0 hX rfl rfl rfl ?_
    refine rThen ?_
    refine rSeq ?_
    refine rBlock ?_
    refine rSeq ?_
    refine zReg md0 hX rfl rfl rfl ?_
    refine rThen ?_
    refine zCond rfl rfl (fun hc => ?_) (fun hc => ?_)
    · replace hT := sT hc hT
      refine rSeq ?_
      refine zReg md0 hX rfl rfl rfl ?_
      refine rThen ?_
      refine rRet ?_
      refine rInRet ?_
      refine rThenRet ?_
      have hy := Option.some.inj hT; subst hy
      exact zEnd0 hX rfl
    · replace hT := sF hc hT
      refine rSeq ?_
      refine zReg md0 hX rfl rfl rfl ?_
      refine rThen ?_
      refine zCond rfl rfl (fun hc => ?_) (fun hc => ?_)
      · replace hT := sT hc hT
        refine rSeq ?_
        refine zReg md0 hX rfl rfl rfl ?_
        refine rThen ?_
        refine rRet ?_
        refine rInRet ?_
        refine rThenRet ?_
        have hy := Option.some.inj hT; subst hy
        exact zEnd0 hX rfl
      · replace hT := sF hc hT
        refine rSeq ?_
        refine zReg md0 hX rfl rfl rfl ?_
        refine rThen ?_
        refine zCond rfl rfl (fun hc => ?_) (fun hc => ?_)
        · replace hT := sT hc hT
          refine rSeq ?_
          refine zReg md0 hX rfl rfl rfl ?_
          refine rThen ?_
          refine rRet ?_
          refine rInRet ?_
          refine rThenRet ?_
          have hy := Option.some.inj hT; subst hy
          exact zEnd0 hX rfl
        · replace hT := sF hc hT
          refine rSeq ?_
          refine zReg md0 hX rfl rfl rfl ?_
          refine rThen ?_
          refine zCond rfl rfl (fun hc => ?_) (fun hc => ?_)
          · replace hT := sT hc hT
            refine rSeq ?_
            refine zReg md0 hX rfl rfl rfl ?_
            refine rThen ?_
            refine rRet ?_
            refine rInRet ?_
            refine rThenRet ?_
            have hy := Option.some.inj hT; subst hy
            exact zEnd0 hX rfl
          · replace hT := sF hc hT
            refine rSeq ?_
            refine zReg md0 hX rfl rfl rfl ?_
            refine rThen ?_
            refine zCond rfl rfl (fun hc => ?_) (fun hc => ?_)
            · replace hT := sT hc hT
              refine rSeq ?_
              refine zReg md0 hX rfl rfl rfl ?_
              refine rThen ?_
              refine rRet ?_
              refine rInRet ?_
              refine rThenRet ?_
              have hy := Option.some.inj hT; subst hy
              exact zEnd0 hX rfl
            · replace hT := sF hc hT
              refine rSeq ?_
              refine zReg md0 hX rfl rfl rfl ?_
              refine rThen ?_
              refine zCond rfl rfl (fun hc => ?_) (fun hc => ?_)
              · replace hT := sT hc hT
                refine rSeq ?_
                refine zReg md0 hX rfl rfl rfl ?_
                refine rThen ?_
                refine rRet ?_
                refine rInRet ?_
                refine rThenRet ?_
                have hy := Option.some.inj hT; subst hy
                exact zEnd0 hX rfl
              · replace hT := sF hc hT
                refine rSeq ?_
                refine zReg md0 hX rfl rfl rfl ?_
                refine rThen ?_
                refine zCond rfl rfl (fun hc => ?_) (fun hc => ?_)
                · replace hT := sT hc hT
                  refine rSeq ?_
                  refine zReg md0 hX rfl rfl rfl ?_
                  refine rThen ?_
                  refine rRet ?_
                  refine rInRet ?_
                  refine rThenRet ?_
                  have hy := Option.some.inj hT; subst hy
                  exact zEnd0 hX rfl
                · replace hT := sF hc hT
                  refine rSeq ?_
                  refine zReg md0 hX rfl rfl rfl ?_
                  refine rThen ?_
                  refine zCond rfl rfl (fun hc => ?_) (fun hc => ?_)
                  · replace hT := sT hc hT
                    refine rSeq ?_
                    refine zReg md0 hX rfl rfl rfl ?_
                    refine rThen ?_
                    refine rRet ?_
                    refine rInRet ?_
                    refine rThenRet ?_
                    have hy := Option.some.inj hT; subst hy
                    exact zEnd0 hX rfl
                  · replace hT := sF hc hT
                    refine rSeq ?_
                    refine zReg md0 hX rfl rfl rfl ?_
                    refine rThen ?_
                    refine zCond rfl rfl (fun hc => ?_) (fun hc => ?_)
                    · replace hT := sT hc hT
                      refine rSeq ?_
                      refine zReg md0 hX rfl rfl rfl ?_
                      refine rThen ?_
                      refine rRet ?_
                      refine rInRet ?_
                      refine rThenRet ?_
                      have hy := Option.some.inj hT; subst hy
                      exact zEnd0 hX rfl
                    · replace hT := sF hc hT
                      refine rSeq ?_
                      refine zReg md0 hX rfl rfl rfl ?_
                      refine rThen ?_
                      refine zCond rfl rfl (fun hc => ?_) (fun hc => ?_)
                      · replace hT := sT hc hT
                        refine rSeq ?_
                        refine zReg md0 hX rfl rfl rfl ?_
                        refine rThen ?_
                        refine rRet ?_
                        refine rInRet ?_
                        refine rThenRet ?_
                        have hy := Option.some.inj hT; subst hy
                        exact zEnd0 hX rfl
                      · replace hT := sF hc hT
                        refine rSkip ?_
                        refine rInNormal ?_
                        refine rThen ?_
                        refine rSeq ?_
                        refine zReg md0 hX rfl rfl rfl ?_
                        refine rThen ?_
                        refine rRet ?_
                        have hy := Option.some.inj hT; subst hy
                        exact zEnd0 hX rfl
  · cases h
def tcoef_place_b1 (N : Nat) (a1 : Bool) (a2 : Int) (s1 : (Int × Int)) : Option ((Int × Int) ⊕ Int) :=
  bif (decide (s1.2 < a2)) then
    let c2 := (tcoef_many N a1 s1.2)
    if c2.isSome = true ∧ inK .i64 (s1.1 + (c2.getD default)) then
      if inK .i64 (s1.2 + 1) then
        some (.inl ((s1.1 + (c2.getD default)), (s1.2 + 1)))
      else none
    else none
  else
    some (.inr s1.1)
def tcoef_place_b2 (N : Nat) (s2 : (Int × Int)) : Option ((Int × Int) ⊕ Int) :=
  bif (decide (s2.2 < 63)) then
    let c3 := (tcoef_many N false s2.2)
    if c3.isSome = true ∧ inK .i64 (s2.1 + (c3.getD default)) then
      if inK .i64 (s2.2 + 1) then
        some (.inl ((s2.1 + (c3.getD default)), (s2.2 + 1)))
      else none
    else none
  else
    some (.inr s2.1)
def tcoef_place (N : Nat) (a1 : Bool) (a2 : Int) (a3 : Int) : Option Int :=
  let c1 := (tcoef_many N a1 a2)
  if c1.isSome = true then
    bif (decide ((c1.getD default) < a3)) then
      some (-1)
    else
      joinK (fun (v1 : Int) =>
        (iter (tcoef_place_b1 N a1 a2) N (v1, 0)).bind fun v2 =>
          if inK .i64 (v2 + a3) ∧ inK .i64 ((v2 + a3) - 1) then
            some ((v2 + a3) - 1)
          else none
      ) fun k1 =>
        bif a1 then
          (iter (tcoef_place_b2 N) N (0, 0)).bind fun v3 =>
            k1 v3
        else
          k1 0
  else none
def sp_tcoef_place (N : Nat) : X.Spec := fun args lk => match args with
  | [.v (.c (.bool a1)), .v (.c (.int .i64 a2)), .v (.c (.int .i64 a3))] => some ⟨(tcoef_place N a1 a2 a3).isSome = true, .v (.c (.int .i64 ((tcoef_place N a1 a2 a3).getD default))), [], []⟩
  | _ => none
set_option maxRecDepth 100000 in
set_option maxHeartbeats 1000000 in
theorem ok_tcoef_place (N : Nat) : FnOK Tryd.prog gt0 34 (sp_tcoef_place N) := by
  refine fnOK_handed Tryd.func34 rfl (by kernel_rfl) tt_ok (ktCons (ok_tcoef_many N) (ktNil)) ?_
  intro args lk r h hp
  unfold sp_tcoef_place at h
  split at h
  · rename_i a1 a2 a3
    cases h
    obtain ⟨x, hx⟩ := Option.isSome_iff_exists.1 hp
    simp only [hx, Option.getD_some]
    refine hand0 rfl rfl (fun w0 M ε0 hX => ?_)
    refine rCount (fun hε => ?_)
    have hT : tcoef_place N a1 a2 a3 = some x := hx; clear hx hp; unfold tcoef_place at hT
    refine rSeq ?_
    refine zReg md0 hX rfl rfl rfl ?_
    refine rThen ?_
    refine rSeq ?_
    refine rSeq ?_
    let c1 := (tcoef_many N a1 a2)
    replace hT := sIf hT; obtain ⟨o1, hT⟩ := hT
    refine zReg md0 hX rfl rfl rfl ?_
    refine rThen ?_
    refine zCond rfl rfl (fun hc => ?_) (fun hc => ?_)
    · replace hT := sT hc hT
      refine rSeq ?_
      refine zReg md0 hX rfl rfl rfl ?_
      refine rThen ?_
      refine rRet ?_
      refine rThenRet ?_
      have hy := Option.some.inj hT; subst hy
      exact zEnd0 hX rfl
    · replace hT := sF hc hT
      refine rSkip ?_
      refine rThen ?_
      refine rSeq ?_
      refine zReg md0 hX rfl rfl rfl ?_
      refine rThen ?_
      refine rSeq ?_
      refine rSeq ?_
      refine zReg md0 hX rfl rfl rfl ?_
      refine rThen ?_
      refine rJoinK hT (fun v1 => ⟨[(0, .v (.c (.bool a1))), (1, .v (.c (.int .i64 a2))), (2, .v (.c (.int .i64 a3))), (6, .v (.c (.int .i64 0))), (7, .v (.c (.int .i64 v1)))], [], 0⟩) (fun v1 hT => ?_) (fun k1 hjk1 hT => ?_)
      · skip
        refine rThen ?_
        refine rSeq ?_
        refine rSeq ?_
        refine zReg md0 hX rfl rfl rfl ?_
        refine rThen ?_
        refine rBlock ?_
        replace hT := sBind hT; obtain ⟨w1, hl, hT⟩ := hT
        refine rJoinA (fun v2 => v2 = w1) (fun v2 => ⟨[(2, .v (.c (.int .i64 a3))), (6, .v (.c (.int .i64 0))), (7, .v (.c (.int .i64 v2)))], [], 0⟩) (.exit 2) (fun v2 hv => ?_) (fun hxs10 => ?_)
        · subst hv; clear hl
          refine rInHit ?_
          refine rThen ?_
          refine rSeq ?_
          replace hT := sIf hT; obtain ⟨⟨o1, o2⟩, hT⟩ := hT
          refine zReg md0 hX rfl rfl rfl ?_
          refine rThen ?_
          refine rRet ?_
          have hy := Option.some.inj hT; subst hy
          exact zEnd0 hX rfl
        refine rLoopM (tcoef_place_b1 N a1 a2) (fun s1 => ⟨[(0, .v (.c (.bool a1))), (2, .v (.c (.int .i64 a3))), (6, .v (.c (.int .i64 0))), (7, .v (.c (.int .i64 s1.1))), (24, .v (.c (.int .i64 a2))), (25, .v (.c (.int .i64 s1.2)))], [], 0⟩) hl (To.mk' [] 0 hε rfl (by repeat' first | exact True.intro | exact rfl | apply And.intro) (by repeat' first | exact True.intro | exact rfl | apply And.intro)) (fun s1 zs1 NNs1 hz hnexts1 houts1 => ?_)
        clear hl hT
        have hT := hz; clear hz
        refine rSeq ?_
        refine zReg md0 hX rfl rfl rfl ?_
        refine rThen ?_
        refine rSeq ?_
        refine zCond rfl rfl (fun hc => ?_) (fun hc => ?_)
        · replace hT := sT hc hT
          refine rSkip ?_
          refine rThen ?_
          refine rSeq ?_
          refine rBlock ?_
          refine rSeq ?_
          refine zReg md0 hX rfl rfl rfl ?_
          refine rThen ?_
          let c2 := (tcoef_many N a1 s1.2)
          replace hT := sIf hT; obtain ⟨⟨o1, o2⟩, hT⟩ := hT
          refine zReg md0 hX rfl rfl rfl ?_
          refine rInNormal ?_
          refine rThen ?_
          replace hT := sIf hT; obtain ⟨o1, hT⟩ := hT
          refine zReg md0 hX rfl rfl rfl ?_
          exact hnexts1 _ (Option.some.inj hT).symm _ (To.mk' [] 0 hε rfl (by repeat' first | exact True.intro | exact rfl | apply And.intro) (by repeat' first | exact True.intro | exact rfl | apply And.intro))
        · replace hT := sF hc hT
          refine rExit ?_
          refine rThenExit ?_
          refine rThenExit ?_
          exact zTo [] 0 hε (hxs10 _ (houts1 _ (Option.some.inj hT).symm))
      · skip
        refine zCond rfl rfl (fun hc => ?_) (fun hc => ?_)
        · replace hT := sT hc hT
          refine rSeq ?_
          refine zReg md0 hX rfl rfl rfl ?_
          refine rThen ?_
          refine rBlock ?_
          replace hT := sBind hT; obtain ⟨w2, hl, hT⟩ := hT
          refine rJoinA (fun v3 => v3 = w2) (fun v3 => ⟨[(0, .v (.c (.bool a1))), (1, .v (.c (.int .i64 a2))), (2, .v (.c (.int .i64 a3))), (6, .v (.c (.int .i64 0))), (7, .v (.c (.int .i64 v3)))], [], 0⟩) (.exit 0) (fun v3 hv => ?_) (fun hxs20 => ?_)
          · subst hv; clear hl
            refine rInHit ?_
            exact zTo [] 0 hε (hjk1 _ hT)
          refine rLoopM (tcoef_place_b2 N) (fun s2 => ⟨[(0, .v (.c (.bool a1))), (1, .v (.c (.int .i64 a2))), (2, .v (.c (.int .i64 a3))), (6, .v (.c (.int .i64 0))), (7, .v (.c (.int .i64 s2.1))), (16, .v (.c (.int .i64 s2.2)))], [], 0⟩) hl (To.mk' [] 0 hε rfl (by repeat' first | exact True.intro | exact rfl | apply And.intro) (by repeat' first | exact True.intro | exact rfl | apply And.intro)) (fun s2 zs2 NNs2 hz hnexts2 houts2 => ?_)
          clear hl hT
          have hT := hz; clear hz
          refine rSeq ?_
          refine zReg md0 hX rfl rfl rfl ?_
          refine rThen ?_
          refine rSeq ?_
          refine zCond rfl rfl (fun hc => ?_) (fun hc => ?_)
          · replace hT := sT hc hT
            refine rSkip ?_
            refine rThen ?_
            refine rSeq ?_
            refine rBlock ?_
            refine rSeq ?_
            refine zReg md0 hX rfl rfl rfl ?_
            refine rThen ?_
            let c3 := (tcoef_many N false s2.2)
            replace hT := sIf hT; obtain ⟨⟨o1, o2⟩, hT⟩ := hT
            refine zReg md0 hX rfl rfl rfl ?_
            refine rInNormal ?_
            refine rThen ?_
            replace hT := sIf hT; obtain ⟨o1, hT⟩ := hT
            refine zReg md0 hX rfl rfl rfl ?_
            exact hnexts2 _ (Option.some.inj hT).symm _ (To.mk' [] 0 hε rfl (by repeat' first | exact True.intro | exact rfl | apply And.intro) (by repeat' first | exact True.intro | exact rfl | apply And.intro))
          · replace hT := sF hc hT
            refine rExit ?_
            refine rThenExit ?_
            refine rThenExit ?_
            exact zTo [] 0 hε (hxs20 _ (houts2 _ (Option.some.inj hT).symm))
        · replace hT := sF hc hT
          refine rSkip ?_
          exact zTo [] 0 hε (hjk1 _ hT)
  · cases h
def outbits_Row_b1 (N : Nat) (a1 : Int) (s1 : (Nat × Int × Nat × (List Int))) : Option ((Nat × Int × Nat × (List Int)) ⊕ (Nat × Nat × (List Int))) :=
  bif (decide ((0 : Int) ≤ s1.2.1)) then
    let x2 := (s1.2.2.2 ++ (((List.replicate 1 0).set 0 ((48 : Int) + ((Int.toNat (a1 / 2 ^ (Int.toNat s1.2.1)) &&& Int.toNat 1 : Nat) : Int))).take 1))
    if inK .u64 s1.2.1 ∧ (0 : Int) ≤ s1.2.1 ∧ (s1.2.1).toNat ≤ 64 ∧ (0 : Int) ≤ (a1 / 2 ^ (Int.toNat s1.2.1)) ∧ inK .u8 ((Int.toNat (a1 / 2 ^ (Int.toNat s1.2.1)) &&& Int.toNat 1 : Nat) : Int) ∧ inK .u8 ((48 : Int) + ((Int.toNat (a1 / 2 ^ (Int.toNat s1.2.1)) &&& Int.toNat 1 : Nat) : Int)) ∧ 1 ≤ 1 ∧ s1.2.2.1 = s1.1 ∧ (s1.1 + 1) * 1 ≤ 140737488355328 ∧ s1.1 + 1 ≤ 9223372036854775807 then
      if inK .i64 (s1.2.1 - 1) then
        some (.inl ((s1.1 + 1), (s1.2.1 - 1), (s1.2.2.1 + 1), x2))
      else none
    else none
  else
    some (.inr (s1.1, s1.2.2.1, s1.2.2.2))
def outbits_Row (N : Nat) (a1 : Int) (a2 : Int) : Option (ByteArray × Int) :=
  let c1 := (outbits_fits N a1 a2)
  if c1.isSome = true then
    bif (!(c1.getD default)) then
      some (⟨#[]⟩, 1)
    else
      if (0 : Int) ≤ a2 ∧ a2 * 1 ≤ 140737488355328 then
        if inK .i64 (a2 - 1) then
          (iter (outbits_Row_b1 N a1) N (0, (a2 - 1), 0, (List.replicate 0 0))).bind fun v1 =>
            if v1.1 ≤ v1.2.1 ∧ (v1.1 : Int) ≤ 9223372036854775807 then
              some ((bytesOf (v1.2.2.take v1.1)), 0)
            else none
        else none
      else none
  else none
def sp_outbits_Row (N : Nat) : X.Spec := fun args lk => match args with
  | [.v (.c (.int .i64 a1)), .v (.c (.int .i64 a2))] => some ⟨(outbits_Row N a1 a2).isSome = true, .tup [.c (.str ((outbits_Row N a1 a2).getD default).1), .c (.int .i64 ((outbits_Row N a1 a2).getD default).2)], [], []⟩
  | _ => none
set_option maxRecDepth 100000 in
set_option maxHeartbeats 1000000 in
theorem ok_outbits_Row (N : Nat) : FnOK Tryd.prog gt0 35 (sp_outbits_Row N) := by
  refine fnOK_handed Tryd.func35 rfl (by kernel_rfl) tt_ok (ktCons (ok_outbits_fits N) (ktNil)) ?_
  intro args lk r h hp
  unfold sp_outbits_Row at h
  split at h
  · rename_i a1 a2
    cases h
    obtain ⟨x, hx⟩ := Option.isSome_iff_exists.1 hp
    simp only [hx, Option.getD_some]
    refine hand0 rfl rfl (fun w0 M ε0 hX => ?_)
    refine rCount (fun hε => ?_)
    have hT : outbits_Row N a1 a2 = some x := hx; clear hx hp; unfold outbits_Row at hT
    refine rSeq ?_
    refine zReg md0 hX rfl rfl rfl ?_
    refine rThen ?_
    refine rSeq ?_
    refine rSeq ?_
    let c1 := (outbits_fits N a1 a2)
    replace hT := sIf hT; obtain ⟨o1, hT⟩ := hT
    refine zReg md0 hX rfl rfl rfl ?_
    refine rThen ?_
    refine zCond rfl rfl (fun hc => ?_) (fun hc => ?_)
    · replace hT := sT hc hT
      refine rSeq ?_
      refine zReg md0 hX rfl rfl rfl ?_
      refine rThen ?_
      refine rRet ?_
      refine rThenRet ?_
      have hy := Option.some.inj hT; subst hy
      exact zEnd0 hX rfl
    · replace hT := sF hc hT
      refine rSkip ?_
      refine rThen ?_
      refine rSeq ?_
      replace hT := sIf hT; obtain ⟨⟨o1, o2⟩, hT⟩ := hT
      refine zReg md0 hX rfl rfl rfl ?_
      refine rThen ?_
      refine rSeq ?_
      refine rSeq ?_
      replace hT := sIf hT; obtain ⟨o1, hT⟩ := hT
      refine zReg md0 hX rfl rfl rfl ?_
      refine rThen ?_
      refine rBlock ?_
      replace hT := sBind hT; obtain ⟨w1, hl, hT⟩ := hT
      refine rJoinA (fun v1 => v1 = w1) (fun v1 => ⟨[(4, .v (.c (.str ⟨#[]⟩))), (5, .v (.c (.int .i64 0))), (6, .v (.c (.sl 0 0 v1.1 1)))], [(0, .mem true 5 (some 1) (.flat [.ints v1.2.1 .u8 v1.2.2]))], 1⟩) (.exit 0) (fun v1 hv => ?_) (fun hxs10 => ?_)
      · subst hv; clear hl
        refine rInHit ?_
        refine rThen ?_
        refine rSeq ?_
        replace hT := sIf hT; obtain ⟨⟨o1, o2⟩, hT⟩ := hT
        refine zReg md0 hX rfl rfl rfl ?_
        refine rThen ?_
        refine rRet ?_
        have hy := Option.some.inj hT; subst hy
        exact zEnd0 hX rfl
      refine rLoopM (outbits_Row_b1 N a1) (fun s1 => ⟨[(0, .v (.c (.int .i64 a1))), (4, .v (.c (.str ⟨#[]⟩))), (5, .v (.c (.int .i64 0))), (6, .v (.c (.sl 0 0 s1.1 1))), (7, .v (.c (.int .i64 s1.2.1)))], [(0, .mem true 5 (some 1) (.flat [.ints s1.2.2.1 .u8 s1.2.2.2]))], 1⟩) hl (To.mk' [] 0 hε rfl (by repeat' first | exact True.intro | exact rfl | apply And.intro) (by repeat' first | exact True.intro | exact rfl | apply And.intro)) (fun s1 zs1 NNs1 hz hnexts1 houts1 => ?_)
      clear hl hT
      have hT := hz; clear hz
      refine rSeq ?_
      refine rSeq ?_
      refine zReg md0 hX rfl rfl rfl ?_
      refine rThen ?_
      refine zCond rfl rfl (fun hc => ?_) (fun hc => ?_)
      · replace hT := sT hc hT
        refine rSkip ?_
        refine rThen ?_
        refine rSeq ?_
        refine rBlock ?_
        let x2 := (s1.2.2.2 ++ (((List.replicate 1 0).set 0 ((48 : Int) + ((Int.toNat (a1 / 2 ^ (Int.toNat s1.2.1)) &&& Int.toNat 1 : Nat) : Int))).take 1))
        replace hT := sIf hT; obtain ⟨⟨o1, o2, o3, o4, o5, o6, o7, o8, o9, o10⟩, hT⟩ := hT
        refine zReg md0 hX rfl rfl rfl ?_
        refine rInNormal ?_
        refine rThen ?_
        replace hT := sIf hT; obtain ⟨o1, hT⟩ := hT
        refine zReg md0 hX rfl rfl rfl ?_
        exact hnexts1 _ (Option.some.inj hT).symm _ (To.mk' [2] 0 hε rfl (by repeat' first | exact True.intro | exact rfl | apply And.intro) (by repeat' first | exact True.intro | exact rfl | apply And.intro))
      · replace hT := sF hc hT
        refine rExit ?_
        refine rThenExit ?_
        refine rThenExit ?_
        exact zTo [] 0 hε (hxs10 _ (houts1 _ (Option.some.inj hT).symm))
  · cases h
def tcoef_digit (N : Nat) (a1 : Bool) : Option ByteArray :=
  bif a1 then
    some ⟨#[49]⟩
  else
    some ⟨#[48]⟩
def sp_tcoef_digit (N : Nat) : X.Spec := fun args lk => match args with
  | [.v (.c (.bool a1))] => some ⟨(tcoef_digit N a1).isSome = true, .v (.c (.str ((tcoef_digit N a1).getD default))), [], []⟩
  | _ => none
set_option maxRecDepth 100000 in
set_option maxHeartbeats 1000000 in
theorem ok_tcoef_digit (N : Nat) : FnOK Tryd.prog gt0 36 (sp_tcoef_digit N) := by
  refine fnOK_handed Tryd.func36 rfl (by kernel_rfl) tt_ok (ktNil) ?_
  intro args lk r h hp
  unfold sp_tcoef_digit at h
  split at h
  · rename_i a1
    cases h
    obtain ⟨x, hx⟩ := Option.isSome_iff_exists.1 hp
    simp only [hx, Option.getD_some]
    refine hand0 rfl rfl (fun w0 M ε0 hX => ?_)
    refine rCount (fun hε => ?_)
    have hT : tcoef_digit N a1 = some x := hx; clear hx hp; unfold tcoef_digit at hT
    refine rSeq ?_
    refine zReg md0 hX rfl rfl rfl ?_
    refine rThen ?_
    refine rSeq ?_
    refine rSeq ?_
    refine zReg md0 hX rfl rfl rfl ?_
    refine rThen ?_
    refine zCond rfl rfl (fun hc => ?_) (fun hc => ?_)
    · replace hT := sT hc hT
      refine rSeq ?_
      refine zReg md0 hX rfl rfl rfl ?_
      refine rThen ?_
      refine rRet ?_
      refine rThenRet ?_
      have hy := Option.some.inj hT; subst hy
      exact zEnd0 hX rfl
    · replace hT := sF hc hT
      refine rSkip ?_
      refine rThen ?_
      refine rSeq ?_
      refine zReg md0 hX rfl rfl rfl ?_
      refine rThen ?_
      refine rRet ?_
      have hy := Option.some.inj hT; subst hy
      exact zEnd0 hX rfl
  · cases h
def tcoef_Row (N : Nat) (a1 : Bool) (a2 : Int) (a3 : Int) : Option (ByteArray × Bool) :=
  let c1 := (tcoef_Right N a1 a2 a3)
  if c1.isSome = true then
    bif (!(c1.getD default)) then
      some (⟨#[]⟩, false)
    else
      let c2 := (tcoef_place N a1 a2 (max a3 (-a3)))
      if inK .i64 (-a3) ∧ c2.isSome = true then
        bif (decide ((0 : Int) ≤ (c2.getD default))) then
          let c3 := (outbits_Row N (codesL.getD (c2.getD default).toNat 0) (lensL.getD (c2.getD default).toNat 0))
          if (0 : Int) ≤ (c2.getD default) ∧ (c2.getD default) < 102 ∧ (c2.getD default).toNat < 102 ∧ c3.isSome = true then
            let c4 := (tcoef_digit N (decide (a3 < 0)))
            if c4.isSome = true ∧ (ByteArray.size (c3.getD default).1 : Int) + ByteArray.size (c4.getD default) ≤ 9223372036854775807 then
              some (((c3.getD default).1 ++ (c4.getD default)), true)
            else none
          else none
        else
          let c5 := (outbits_Row N 3 7)
          if c5.isSome = true then
            let c6 := (outbits_Row N a2 6)
            if c6.isSome = true then
              let c7 := (outbits_Row N ((a3 + 256) % 256) 8)
              if inK .i64 (a3 + 256) ∧ (0 : Int) ≤ (a3 + 256) ∧ c7.isSome = true then
                let c8 := (tcoef_digit N a1)
                let x1 := ((((c5.getD default).1 ++ (c8.getD default)) ++ (c6.getD default).1) ++ (c7.getD default).1)
                if c8.isSome = true ∧ (ByteArray.size (c5.getD default).1 : Int) + ByteArray.size (c8.getD default) ≤ 9223372036854775807 ∧ (ByteArray.size ((c5.getD default).1 ++ (c8.getD default)) : Int) + ByteArray.size (c6.getD default).1 ≤ 9223372036854775807 ∧ (ByteArray.size (((c5.getD default).1 ++ (c8.getD default)) ++ (c6.getD default).1) : Int) + ByteArray.size (c7.getD default).1 ≤ 9223372036854775807 then
                  some (x1, true)
                else none
              else none
            else none
          else none
      else none
  else none
def sp_tcoef_Row (N : Nat) : X.Spec := fun args lk => match args with
  | [.v (.agg [.cs [.bool a1, .int .i64 a2, .int .i64 a3]])] => some ⟨(tcoef_Row N a1 a2 a3).isSome = true, .tup [.c (.str ((tcoef_Row N a1 a2 a3).getD default).1), .c (.bool ((tcoef_Row N a1 a2 a3).getD default).2)], [], []⟩
  | _ => none
set_option maxRecDepth 100000 in
set_option maxHeartbeats 1000000 in
theorem ok_tcoef_Row (N : Nat) : FnOK Tryd.prog gt0 16 (sp_tcoef_Row N) := by
  refine fnOK_handed Tryd.func16 rfl (by kernel_rfl) tt_ok (ktCons (ok_tcoef_digit N) (ktCons (ok_outbits_Row N) (ktCons (ok_tcoef_place N) (ktCons (ok_tcoef_Right N) (ktNil))))) ?_
  intro args lk r h hp
  unfold sp_tcoef_Row at h
  split at h
  · rename_i a1 a2 a3
    cases h
    obtain ⟨x, hx⟩ := Option.isSome_iff_exists.1 hp
    simp only [hx, Option.getD_some]
    refine hand0 rfl rfl (fun w0 M ε0 hX => ?_)
    refine rCount (fun hε => ?_)
    have hT : tcoef_Row N a1 a2 a3 = some x := hx; clear hx hp; unfold tcoef_Row at hT
    refine rSeq ?_
    refine zReg md0 hX rfl rfl rfl ?_
    refine rThen ?_
    refine rSeq ?_
    refine rSeq ?_
    let c1 := (tcoef_Right N a1 a2 a3)
    replace hT := sIf hT; obtain ⟨o1, hT⟩ := hT
    refine zReg md0 hX rfl rfl rfl ?_
    refine rThen ?_
    refine zCond rfl rfl (fun hc => ?_) (fun hc => ?_)
    · replace hT := sT hc hT
      refine rSeq ?_
      refine zReg md0 hX rfl rfl rfl ?_
      refine rThen ?_
      refine rRet ?_
      refine rThenRet ?_
      have hy := Option.some.inj hT; subst hy
      exact zEnd0 hX rfl
    · replace hT := sF hc hT
      refine rSkip ?_
      refine rThen ?_
      refine rSeq ?_
      refine rSeq ?_
      let c2 := (tcoef_place N a1 a2 (max a3 (-a3)))
      replace hT := sIf hT; obtain ⟨⟨o1, o2⟩, hT⟩ := hT
      refine zReg md0 hX rfl rfl rfl ?_
      refine rThen ?_
      refine rSeq ?_
      refine zReg md0 hX rfl rfl rfl ?_
      refine rThen ?_
      refine zCond rfl rfl (fun hc => ?_) (fun hc => ?_)
      · replace hT := sT hc hT
        refine rSeq ?_
        let c3 := (outbits_Row N (codesL.getD (c2.getD default).toNat 0) (lensL.getD (c2.getD default).toNat 0))
        replace hT := sIf hT; obtain ⟨⟨o1, o2, o3, o4⟩, hT⟩ := hT
        refine zDraw md0 0 [] hX mixed rfl rfl rfl rfl rfl ?_
        refine rThen ?_
        refine rSeq ?_
        let c4 := (tcoef_digit N (decide (a3 < 0)))
        replace hT := sIf hT; obtain ⟨⟨o1, o2⟩, hT⟩ := hT
        refine zReg md0 hX rfl rfl rfl ?_
        refine rThen ?_
        refine rRet ?_
        refine rThenRet ?_
        have hy := Option.some.inj hT; subst hy
        exact zEnd0 hX rfl
      · replace hT := sF hc hT
        refine rSkip ?_
        refine rThen ?_
        refine rSeq ?_
        let c5 := (outbits_Row N 3 7)
        replace hT := sIf hT; obtain ⟨o1, hT⟩ := hT
        refine zReg md0 hX rfl rfl rfl ?_
        refine rThen ?_
        refine rSeq ?_
        let c6 := (outbits_Row N a2 6)
        replace hT := sIf hT; obtain ⟨o1, hT⟩ := hT
        refine zReg md0 hX rfl rfl rfl ?_
        refine rThen ?_
        refine rSeq ?_
        let c7 := (outbits_Row N ((a3 + 256) % 256) 8)
        replace hT := sIf hT; obtain ⟨⟨o1, o2, o3⟩, hT⟩ := hT
        refine zReg md0 hX rfl rfl rfl ?_
        refine rThen ?_
        refine rSeq ?_
        let c8 := (tcoef_digit N a1)
        let x1 := ((((c5.getD default).1 ++ (c8.getD default)) ++ (c6.getD default).1) ++ (c7.getD default).1)
        replace hT := sIf hT; obtain ⟨⟨o1, o2, o3, o4⟩, hT⟩ := hT
        refine zReg md0 hX rfl rfl rfl ?_
        refine rThen ?_
        refine rRet ?_
        have hy := Option.some.inj hT; subst hy
        exact zEnd0 hX rfl
  · cases h
def outbits_plain_b1 (N : Nat) (a1 : ByteArray) (s1 : Nat) : Option (Nat ⊕ (Unit ⊕ Unit)) :=
  if (ByteArray.size a1 : Int) ≤ 9223372036854775807 then
    bif (decide (s1 < ByteArray.size a1)) then
      let x1 := (bif (decide (((Utf8.decode a1 s1).1 : Int) ≠ 48)) then (decide (((Utf8.decode a1 s1).1 : Int) ≠ 49)) else false)
      bif x1 then
        some (.inr (Sum.inl ()))
      else
        some (.inl (s1 + (Utf8.decode a1 s1).2))
    else
      some (.inr (Sum.inr ()))
  else none
def outbits_plain (N : Nat) (a1 : ByteArray) : Option Bool :=
  (iter (outbits_plain_b1 N a1) N 0).bind fun w1 =>
    (Sum.elim (fun v1 =>
      some false
    )
      (fun v2 =>
        some true
      )
    ) w1
def sp_outbits_plain (N : Nat) : X.Spec := fun args lk => match args with
  | [.v (.c (.str a1))] => some ⟨(outbits_plain N a1).isSome = true, .v (.c (.bool ((outbits_plain N a1).getD default))), [], []⟩
  | _ => none
set_option maxRecDepth 100000 in
set_option maxHeartbeats 1000000 in
theorem ok_outbits_plain (N : Nat) : FnOK Tryd.prog gt0 53 (sp_outbits_plain N) := by
  refine fnOK_handed Tryd.func53 rfl (by kernel_rfl) tt_ok (ktNil) ?_
  intro args lk r h hp
  unfold sp_outbits_plain at h
  split at h
  · rename_i a1
    cases h
    obtain ⟨x, hx⟩ := Option.isSome_iff_exists.1 hp
    simp only [hx, Option.getD_some]
    refine hand0 rfl rfl (fun w0 M ε0 hX => ?_)
    refine rCount (fun hε => ?_)
    have hT : outbits_plain N a1 = some x := hx; clear hx hp; unfold outbits_plain at hT
    refine rSeq ?_
    refine zReg md0 hX rfl rfl rfl ?_
    refine rThen ?_
    refine rSeq ?_
    refine rSeq ?_
    refine zReg md0 hX rfl rfl rfl ?_
    refine rThen ?_
    refine rBlock ?_
    replace hT := sBind hT; obtain ⟨w1, hl, hT⟩ := hT
    refine rJoinA (fun v1 => (Sum.inl v1) = w1) (fun v1 => ⟨[(2, .v (.c (.bool false)))], [], 1⟩) .ret (fun v1 hv => ?_) (fun hxs10 => ?_)
    · subst hv; clear hl; replace hT := (sElimL hT)
      refine rInRet ?_
      refine rThenRet ?_
      have hy := Option.some.inj hT; subst hy
      exact zEnd0 hX rfl
    refine rJoinA (fun v2 => (Sum.inr v2) = w1) (fun v2 => ⟨[(2, .v (.c (.bool false)))], [], 1⟩) (.exit 0) (fun v2 hv => ?_) (fun hxs11 => ?_)
    · subst hv; clear hl; replace hT := (sElimR hT)
      refine rInHit ?_
      refine rThen ?_
      refine rSeq ?_
      refine zReg md0 hX rfl rfl rfl ?_
      refine rThen ?_
      refine rRet ?_
      have hy := Option.some.inj hT; subst hy
      exact zEnd0 hX rfl
    refine rLoopM (outbits_plain_b1 N a1) (fun s1 => ⟨[(2, .v (.c (.bool false))), (6, .v (.c (.ptr 0 0 0 0 0 0)))], [(0, .iter a1 s1)], 1⟩) hl (To.mk' [] 0 hε rfl (by repeat' first | exact True.intro | exact rfl | apply And.intro) (by repeat' first | exact True.intro | exact rfl | apply And.intro)) (fun s1 zs1 NNs1 hz hnexts1 houts1 => ?_)
    clear hl hT
    have hT := hz; clear hz
    refine rSeq ?_
    refine rRegSL ?_
    replace hT := sIf hT; obtain ⟨o1, hT⟩ := hT
    refine rSLNext rfl rfl rfl rfl rfl rfl (by repeat' first | exact True.intro | exact rfl | apply And.intro | omega | exact Nat.le_of_ble_eq_true rfl) rfl o1 rfl rfl (fun hb => ?_) (fun hb => ?_)
    · replace hT := sT (decide_eq_true hb) hT
      refine rSLDone md0 hX rfl rfl rfl (by (repeat' first | exact True.intro | with_reducible assumption | (with_reducible apply And.intro) | intro _) <;> first | assumption | exact rfl | omega | exact Nat.le_of_ble_eq_true rfl | exact selF (by assumption) | exact selT (by assumption) | exact And.intro rfl rfl | exact And.intro (by assumption) rfl | exact And.intro (by omega) rfl | (simp only [inK] at *; omega) | (simp_all [sel] <;> fail) | fail) ?_
      refine rThen ?_
      refine rSeq ?_
      refine rCondT rfl rfl (by (repeat' first | exact True.intro | with_reducible assumption | (with_reducible apply And.intro) | intro _) <;> first | assumption | exact rfl | omega | exact Nat.le_of_ble_eq_true rfl | exact selF (by assumption) | exact selT (by assumption) | exact And.intro rfl rfl | exact And.intro (by assumption) rfl | exact And.intro (by omega) rfl | (simp only [inK] at *; omega) | (simp_all [sel] <;> fail) | fail) rfl ?_
      refine rSkip ?_
      refine rThen ?_
      refine rBlock ?_
      refine rSeq ?_
      refine zReg md0 hX rfl rfl rfl ?_
      refine rThen ?_
      refine rSeq ?_
      let x1 := (bif (decide (((Utf8.decode a1 s1).1 : Int) ≠ 48)) then (decide (((Utf8.decode a1 s1).1 : Int) ≠ 49)) else false)
      refine zReg md0 hX rfl rfl rfl ?_
      refine rThen ?_
      refine zCond rfl rfl (fun hc => ?_) (fun hc => ?_)
      · replace hT := sT hc hT
        refine rSeq ?_
        refine zReg md0 hX rfl rfl rfl ?_
        refine rThen ?_
        refine rRet ?_
        refine rInRet ?_
        refine rThenRet ?_
        exact zTo [] 0 hε (hxs10 _ (houts1 _ (Option.some.inj hT).symm))
      · replace hT := sF hc hT
        refine rSkip ?_
        refine rInNormal ?_
        exact hnexts1 _ (Option.some.inj hT).symm _ (To.mk' [] 0 hε rfl (by repeat' first | exact True.intro | exact rfl | apply And.intro) (by repeat' first | exact True.intro | exact rfl | apply And.intro))
    · replace hT := sF (decide_eq_false hb) hT
      refine rSLDone md0 hX rfl rfl rfl (by (repeat' first | exact True.intro | with_reducible assumption | (with_reducible apply And.intro) | intro _) <;> first | assumption | exact rfl | omega | exact Nat.le_of_ble_eq_true rfl | exact selF (by assumption) | exact selT (by assumption) | exact And.intro rfl rfl | exact And.intro (by assumption) rfl | exact And.intro (by omega) rfl | (simp only [inK] at *; omega) | (simp_all [sel] <;> fail) | fail) ?_
      refine rThen ?_
      refine rSeq ?_
      refine rCondF rfl rfl (by (repeat' first | exact True.intro | with_reducible assumption | (with_reducible apply And.intro) | intro _) <;> first | assumption | exact rfl | omega | exact Nat.le_of_ble_eq_true rfl | exact selF (by assumption) | exact selT (by assumption) | exact And.intro rfl rfl | exact And.intro (by assumption) rfl | exact And.intro (by omega) rfl | (simp only [inK] at *; omega) | (simp_all [sel] <;> fail) | fail) rfl ?_
      refine rExit ?_
      refine rThenExit ?_
      refine rThenExit ?_
      exact zTo [] 0 hε (hxs11 _ (houts1 _ (Option.some.inj hT).symm))
  · cases h
def overspill_outbits_Writer_Add_b1 (N : Nat) (a1 : ByteArray) (s1 : ((List Bool) × Nat)) : Option (((List Bool) × Nat) ⊕ (List Bool)) :=
  if (ByteArray.size a1 : Int) ≤ 9223372036854775807 then
    bif (decide (s1.2 < ByteArray.size a1)) then
      let c2 := (overspill_outbits_Writer_bit N (decide (((Utf8.decode a1 s1.2).1 : Int) = 49)) s1.1)
      if c2.isSome = true then
        some (.inl ((c2.getD default), (s1.2 + (Utf8.decode a1 s1.2).2)))
      else none
    else
      some (.inr s1.1)
  else none
def overspill_outbits_Writer_Add (N : Nat) (a1 : ByteArray) (a2 : (List Bool)) : Option (Int × (List Bool)) :=
  let c1 := (outbits_plain N a1)
  if ((!false) = true → c1.isSome = true) then
    bif (!(c1.getD default)) then
      some (1, a2)
    else
      (iter (overspill_outbits_Writer_Add_b1 N a1) N (a2, 0)).bind fun v1 =>
        some (0, v1)
  else none
def sp_overspill_outbits_Writer_Add (N : Nat) : X.Spec := fun args lk => match args with
  | [.v (.c (.ptr i0 0 0 0 0 0)), .v (.c (.str a1))] => (match lk i0 with
    | some (.obj 5 a2) => some ⟨(overspill_outbits_Writer_Add N a1 a2).isSome = true, .v (.c (.int .i64 ((overspill_outbits_Writer_Add N a1 a2).getD default).1)), [], [(i0, .obj 5 ((overspill_outbits_Writer_Add N a1 a2).getD default).2)]⟩
    | _ => none)
  | _ => none
set_option maxRecDepth 100000 in
set_option maxHeartbeats 1000000 in
theorem ok_overspill_outbits_Writer_Add (N : Nat) : FnOK Tryd.prog gt0 47 (sp_overspill_outbits_Writer_Add N) := by
  refine fnOK_handed Tryd.func47 rfl (by kernel_rfl) tt_ok (ktCons (ok_overspill_outbits_Writer_bit N) (ktCons (ok_outbits_plain N) (ktNil))) ?_
  intro args lk r h hp
  unfold sp_overspill_outbits_Writer_Add at h
  split at h
  · rename_i i0 a1
    split at h
    · rename_i a2 hl0
      cases h
      obtain ⟨x, hx⟩ := Option.isSome_iff_exists.1 hp
      simp only [hx, Option.getD_some]
      refine handL [i0] 1 [(0, .obj 5 a2)] [.v (.c (.ptr 0 0 0 0 0 0)), .v (.c (.str a1))] rfl rfl rfl ⟨isSome_of hl0, trivial⟩ ⟨⟨rfl, (by repeat' first | exact True.intro | exact rfl | exact ⟨_, rfl, rfl⟩ | apply And.intro | exact Or.inl rfl), _, hl0, .inl rfl⟩, trivial⟩ rfl (fun w0 M ε0 hX => ?_)
      refine rCount (fun hε => ?_)
      have hT : overspill_outbits_Writer_Add N a1 a2 = some x := hx; clear hx hp; unfold overspill_outbits_Writer_Add at hT
      refine rSeq ?_
      refine zReg md0 hX rfl rfl rfl ?_
      refine rThen ?_
      refine rSeq ?_
      refine rSeq ?_
      let c1 := (outbits_plain N a1)
      replace hT := sIf hT; obtain ⟨o1, hT⟩ := hT
      refine rRegC md0 hX rfl rfl rfl (by (repeat' first | exact True.intro | with_reducible assumption | (with_reducible apply And.intro) | intro _) <;> first | assumption | exact o1 (by assumption) | exact rfl | omega | exact Nat.le_of_ble_eq_true rfl | exact selF (by assumption) | exact selT (by assumption) | exact And.intro rfl rfl | exact And.intro (by assumption) rfl | exact And.intro (by omega) rfl | (simp only [inK] at *; omega) | (simp_all [sel] <;> fail) | fail) ?_
      refine rThen ?_
      refine zCond rfl rfl (fun hc => ?_) (fun hc => ?_)
      · replace hT := sT hc hT
        refine rSeq ?_
        refine zReg md0 hX rfl rfl rfl ?_
        refine rThen ?_
        refine rRet ?_
        refine rThenRet ?_
        have hy := Option.some.inj hT; subst hy
        exact rEndA [] [] [(0, .obj 5 a2)] (.v (.c (.int .i64 1))) hX rfl (by repeat' first | exact True.intro | exact rfl | apply And.intro | omega | exact Nat.le_of_ble_eq_true rfl) (by repeat' first | exact True.intro | exact rfl | apply And.intro) rfl rfl rfl (by repeat' first | exact True.intro | exact rfl | exact ⟨_, rfl, rfl⟩ | apply And.intro | exact Or.inl rfl) rfl rfl (by repeat' first | exact True.intro | exact rfl | exact ⟨_, rfl, rfl⟩ | apply And.intro | exact Or.inl rfl) rfl rfl
      · replace hT := sF hc hT
        refine rSkip ?_
        refine rThen ?_
        refine rSeq ?_
        refine rSeq ?_
        refine zReg md0 hX rfl rfl rfl ?_
        refine rThen ?_
        refine rBlock ?_
        replace hT := sBind hT; obtain ⟨w1, hl, hT⟩ := hT
        refine rJoinA (fun v1 => v1 = w1) (fun v1 => ⟨[(4, .v (.c (.int .i64 0)))], [(0, .obj 5 v1)], 2⟩) (.exit 0) (fun v1 hv => ?_) (fun hxs10 => ?_)
        · subst hv; clear hl
          refine rInHit ?_
          refine rThen ?_
          refine rSeq ?_
          refine zReg md0 hX rfl rfl rfl ?_
          refine rThen ?_
          refine rRet ?_
          have hy := Option.some.inj hT; subst hy
          exact rEndA [] [] [(0, .obj 5 v1)] (.v (.c (.int .i64 0))) hX rfl (by repeat' first | exact True.intro | exact rfl | apply And.intro | omega | exact Nat.le_of_ble_eq_true rfl) (by repeat' first | exact True.intro | exact rfl | apply And.intro) rfl rfl rfl (by repeat' first | exact True.intro | exact rfl | exact ⟨_, rfl, rfl⟩ | apply And.intro | exact Or.inl rfl) rfl rfl (by repeat' first | exact True.intro | exact rfl | exact ⟨_, rfl, rfl⟩ | apply And.intro | exact Or.inl rfl) rfl rfl
        refine rLoopM (overspill_outbits_Writer_Add_b1 N a1) (fun s1 => ⟨[(0, .v (.c (.ptr 0 0 0 0 0 0))), (4, .v (.c (.int .i64 0))), (15, .v (.c (.ptr 1 0 0 0 0 0)))], [(0, .obj 5 s1.1), (1, .iter a1 s1.2)], 2⟩) hl (To.mk' [] 1 hε rfl (by repeat' first | exact True.intro | exact rfl | apply And.intro) (by repeat' first | exact True.intro | exact rfl | apply And.intro)) (fun s1 zs1 NNs1 hz hnexts1 houts1 => ?_)
        clear hl hT
        have hT := hz; clear hz
        refine rSeq ?_
        refine rRegSL ?_
        replace hT := sIf hT; obtain ⟨o1, hT⟩ := hT
        refine rSLNext rfl rfl rfl rfl rfl rfl (by repeat' first | exact True.intro | exact rfl | apply And.intro | omega | exact Nat.le_of_ble_eq_true rfl) rfl o1 rfl rfl (fun hb => ?_) (fun hb => ?_)
        · replace hT := sT (decide_eq_true hb) hT
          refine rSLDone md0 hX rfl rfl rfl (by (repeat' first | exact True.intro | with_reducible assumption | (with_reducible apply And.intro) | intro _) <;> first | assumption | exact rfl | omega | exact Nat.le_of_ble_eq_true rfl | exact selF (by assumption) | exact selT (by assumption) | exact And.intro rfl rfl | exact And.intro (by assumption) rfl | exact And.intro (by omega) rfl | (simp only [inK] at *; omega) | (simp_all [sel] <;> fail) | fail) ?_
          refine rThen ?_
          refine rSeq ?_
          refine rCondT rfl rfl (by (repeat' first | exact True.intro | with_reducible assumption | (with_reducible apply And.intro) | intro _) <;> first | assumption | exact rfl | omega | exact Nat.le_of_ble_eq_true rfl | exact selF (by assumption) | exact selT (by assumption) | exact And.intro rfl rfl | exact And.intro (by assumption) rfl | exact And.intro (by omega) rfl | (simp only [inK] at *; omega) | (simp_all [sel] <;> fail) | fail) rfl ?_
          refine rSkip ?_
          refine rThen ?_
          refine rBlock ?_
          refine rSeq ?_
          refine zReg md0 hX rfl rfl rfl ?_
          refine rThen ?_
          let c2 := (overspill_outbits_Writer_bit N (decide (((Utf8.decode a1 s1.2).1 : Int) = 49)) s1.1)
          replace hT := sIf hT; obtain ⟨o1, hT⟩ := hT
          refine zReg md0 hX rfl rfl rfl ?_
          refine rInNormal ?_
          exact hnexts1 _ (Option.some.inj hT).symm _ (To.mk' [] 1 hε rfl (by repeat' first | exact True.intro | exact rfl | apply And.intro) (by repeat' first | exact True.intro | exact rfl | apply And.intro))
        · replace hT := sF (decide_eq_false hb) hT
          refine rSLDone md0 hX rfl rfl rfl (by (repeat' first | exact True.intro | with_reducible assumption | (with_reducible apply And.intro) | intro _) <;> first | assumption | exact rfl | omega | exact Nat.le_of_ble_eq_true rfl | exact selF (by assumption) | exact selT (by assumption) | exact And.intro rfl rfl | exact And.intro (by assumption) rfl | exact And.intro (by omega) rfl | (simp only [inK] at *; omega) | (simp_all [sel] <;> fail) | fail) ?_
          refine rThen ?_
          refine rSeq ?_
          refine rCondF rfl rfl (by (repeat' first | exact True.intro | with_reducible assumption | (with_reducible apply And.intro) | intro _) <;> first | assumption | exact rfl | omega | exact Nat.le_of_ble_eq_true rfl | exact selF (by assumption) | exact selT (by assumption) | exact And.intro rfl rfl | exact And.intro (by assumption) rfl | exact And.intro (by omega) rfl | (simp only [inK] at *; omega) | (simp_all [sel] <;> fail) | fail) rfl ?_
          refine rExit ?_
          refine rThenExit ?_
          refine rThenExit ?_
          exact zTo [] 1 hε (hxs10 _ (houts1 _ (Option.some.inj hT).symm))
    · cases h
  · cases h
def blocks_Put_b1 (N : Nat) (a3 : Nat) (a5 : (List (Bool × (Int × Int)))) (s1 : (Int × (List Bool))) : Option ((Int × (List Bool)) ⊕ (List Bool)) :=
  bif (decide (s1.1 < (a3 : Int))) then
    if (0 : Int) ≤ s1.1 ∧ s1.1 < (a3 : Int) ∧ (s1.1).toNat < a5.length then
      let c3 := (tcoef_Row N (a5.getD (s1.1).toNat (false, ((0 : Int), (0 : Int)))).1 (a5.getD (s1.1).toNat (false, ((0 : Int), (0 : Int)))).2.1 (a5.getD (s1.1).toNat (false, ((0 : Int), (0 : Int)))).2.2)
      if c3.isSome = true then
        let c4 := (overspill_outbits_Writer_Add N (c3.getD default).1 s1.2)
        if c4.isSome = true then
          if inK .i64 (s1.1 + 1) then
            some (.inl ((s1.1 + 1), (c4.getD default).2))
          else none
        else none
      else none
    else none
  else
    some (.inr s1.2)
def blocks_Put (N : Nat) (a1 : Bool) (a2 : Int) (a3 : Nat) (a4 : (List Bool)) (a5 : (List (Bool × (Int × Int)))) : Option (Int × (List Bool)) :=
  let c1 := (blocks_may N a1 a2 a3 a5)
  if c1.isSome = true then
    bif (!(c1.getD default)) then
      some (7, a4)
    else
      let c2 := (overspill_outbits_Writer_Put N (bif (decide (a2 = 128)) then 255 else a2) 8 a4)
      if (a1 = true → c2.isSome = true) then
        (iter (blocks_Put_b1 N a3 a5) N (0, (bif a1 then (c2.getD default).2 else a4))).bind fun v1 =>
          some (0, v1)
      else none
  else none
def sp_blocks_Put (N : Nat) : X.Spec := fun args lk => match args with
  | [.v (.c (.ptr i0 0 0 0 0 0)), .v (.c (.bool a1)), .v (.c (.int .i64 a2)), .v (.c (.sl i1 0 a3 3))] => (match lk i0 with
    | some (.obj 5 a4) => (match lk i1 with
    | some (.mem _ _ _ b1) => (match frzB (.pair .bool (.pair (.int .i64) (.int .i64))) b1 with
    | some a5 => (match Nat.beq i0 i1 with
    | false => some ⟨(blocks_Put N a1 a2 a3 a4 a5).isSome = true, .v (.c (.int .i64 ((blocks_Put N a1 a2 a3 a4 a5).getD default).1)), [], [(i0, .obj 5 ((blocks_Put N a1 a2 a3 a4 a5).getD default).2)]⟩
    | true => none)
    | none => none)
    | _ => none)
    | _ => none)
  | _ => none
set_option maxRecDepth 100000 in
set_option maxHeartbeats 1000000 in
theorem ok_blocks_Put (N : Nat) : FnOK Tryd.prog gt0 26 (sp_blocks_Put N) := by
  refine fnOK_handed Tryd.func26 rfl (by kernel_rfl) tt_ok (ktCons (ok_overspill_outbits_Writer_Add N) (ktCons (ok_tcoef_Row N) (ktCons (ok_overspill_outbits_Writer_Put N) (ktCons (ok_blocks_may N) (ktNil))))) ?_
  intro args lk r h hp
  unfold sp_blocks_Put at h
  split at h
  · rename_i i0 a1 a2 i1 a3
    split at h
    · rename_i a4 hl0
      split at h
      · rename_i _ _ _ b1 hl1
        split at h
        · rename_i a5 hf1
          split at h
          · rename_i hb0_1
            change (List (Bool × (Int × Int))) at a5
            cases h
            obtain ⟨x, hx⟩ := Option.isSome_iff_exists.1 hp
            simp only [hx, Option.getD_some]
            refine handL [i0, i1] 2 [(0, .obj 5 a4), (1, .mem false 28 none (.lst (.pair .bool (.pair (.int .i64) (.int .i64))) a5))] [.v (.c (.ptr 0 0 0 0 0 0)), .v (.c (.bool a1)), .v (.c (.int .i64 a2)), .v (.c (.sl 1 0 a3 3))] rfl rfl rfl ⟨isSome_of hl1, isSome_of hl0, trivial⟩ ⟨⟨rfl, (by repeat' first | exact True.intro | exact rfl | exact ⟨_, rfl, rfl⟩ | apply And.intro | exact Or.inl rfl), _, hl0, .inl rfl⟩, ⟨rfl, (by repeat' first | exact True.intro | exact rfl | exact ⟨_, rfl, rfl⟩ | apply And.intro | exact Or.inl rfl), _, hl1, sub_frz hf1⟩, trivial⟩ (by simp [apartB, allB, rn, nth, E.own, hb0_1, beq_ff hb0_1]) (fun w0 M ε0 hX => ?_)
            refine rCount (fun hε => ?_)
            have hT : blocks_Put N a1 a2 a3 a4 a5 = some x := hx; clear hx hp; unfold blocks_Put at hT
            refine rSeq ?_
            refine zReg md0 hX rfl rfl rfl ?_
            refine rThen ?_
            refine rSeq ?_
            refine rBlock ?_
            refine rSeq ?_
            refine zReg md0 hX rfl rfl rfl ?_
            refine rThen ?_
            refine rCondF rfl rfl (by (repeat' first | exact True.intro | with_reducible assumption | (with_reducible apply And.intro) | intro _) <;> first | assumption | exact rfl | omega | exact Nat.le_of_ble_eq_true rfl | exact selF (by assumption) | exact selT (by assumption) | exact And.intro rfl rfl | exact And.intro (by assumption) rfl | exact And.intro (by omega) rfl | (simp only [inK] at *; omega) | (simp_all [sel] <;> fail) | fail) rfl ?_
            refine rSeq ?_
            let c1 := (blocks_may N a1 a2 a3 a5)
            replace hT := sIf hT; obtain ⟨o1, hT⟩ := hT
            refine zReg md0 hX rfl rfl rfl ?_
            refine rThen ?_
            refine zCond rfl rfl (fun hc => ?_) (fun hc => ?_)
            · replace hT := sT hc hT
              refine rSeq ?_
              refine zReg md0 hX rfl rfl rfl ?_
              refine rThen ?_
              refine rRet ?_
              refine rInRet ?_
              refine rThenRet ?_
              have hy := Option.some.inj hT; subst hy
              exact rEndA [] [] [(0, .obj 5 a4)] (.v (.c (.int .i64 7))) hX rfl (by repeat' first | exact True.intro | exact rfl | apply And.intro | omega | exact Nat.le_of_ble_eq_true rfl) (by repeat' first | exact True.intro | exact rfl | apply And.intro) rfl rfl rfl (by repeat' first | exact True.intro | exact rfl | exact ⟨_, rfl, rfl⟩ | apply And.intro | exact Or.inl rfl) rfl rfl (by repeat' first | exact True.intro | exact rfl | exact ⟨_, rfl, rfl⟩ | apply And.intro | exact Or.inl rfl) rfl rfl
            · replace hT := sF hc hT
              refine rSkip ?_
              refine rInNormal ?_
              refine rThen ?_
              refine rSeq ?_
              refine rSeq ?_
              refine zReg md0 hX rfl rfl rfl ?_
              refine rThen ?_
              refine rJoin ⟨[(0, .v (.c (.ptr 0 0 0 0 0 0))), (1, .v (.c (.bool a1))), (2, .v (.c (.int .i64 (bif (decide (a2 = 128)) then 255 else a2)))), (3, .v (.c (.sl 1 0 a3 3))), (8, .v (.c (.int .i64 0)))], [(0, .obj 5 a4), (1, .mem false 28 none (.lst (.pair .bool (.pair (.int .i64) (.int .i64))) a5))], 2⟩ ?_ (fun hj => ?_)
              · skip
                refine rThen ?_
                refine rSeq ?_
                refine rSeq ?_
                refine zReg md0 hX rfl rfl rfl ?_
                refine rThen ?_
                let c2 := (overspill_outbits_Writer_Put N (bif (decide (a2 = 128)) then 255 else a2) 8 a4)
                replace hT := sIf hT; obtain ⟨q1, hT⟩ := hT
                refine rJoin ⟨[(0, .v (.c (.ptr 0 0 0 0 0 0))), (3, .v (.c (.sl 1 0 a3 3))), (8, .v (.c (.int .i64 0)))], [(0, .obj 5 (bif a1 then (c2.getD default).2 else a4)), (1, .mem false 28 none (.lst (.pair .bool (.pair (.int .i64) (.int .i64))) a5))], 2⟩ ?_ (fun hj => ?_)
                · skip
                  refine rThen ?_
                  refine rSeq ?_
                  refine rSeq ?_
                  refine zReg md0 hX rfl rfl rfl ?_
                  refine rThen ?_
                  refine rBlock ?_
                  replace hT := sBind hT; obtain ⟨w1, hl, hT⟩ := hT
                  refine rJoinA (fun v1 => v1 = w1) (fun v1 => ⟨[(8, .v (.c (.int .i64 0)))], [(0, .obj 5 v1), (1, .mem false 28 none (.lst (.pair .bool (.pair (.int .i64) (.int .i64))) a5))], 2⟩) (.exit 1) (fun v1 hv => ?_) (fun hxs10 => ?_)
                  · subst hv; clear hl
                    refine rInHit ?_
                    refine rThen ?_
                    refine rSeq ?_
                    refine zReg md0 hX rfl rfl rfl ?_
                    refine rThen ?_
                    refine rRet ?_
                    have hy := Option.some.inj hT; subst hy
                    exact rEndA [] [] [(0, .obj 5 v1)] (.v (.c (.int .i64 0))) hX rfl (by repeat' first | exact True.intro | exact rfl | apply And.intro | omega | exact Nat.le_of_ble_eq_true rfl) (by repeat' first | exact True.intro | exact rfl | apply And.intro) rfl rfl rfl (by repeat' first | exact True.intro | exact rfl | exact ⟨_, rfl, rfl⟩ | apply And.intro | exact Or.inl rfl) rfl rfl (by repeat' first | exact True.intro | exact rfl | exact ⟨_, rfl, rfl⟩ | apply And.intro | exact Or.inl rfl) rfl rfl
                  refine rLoopM (blocks_Put_b1 N a3 a5) (fun s1 => ⟨[(0, .v (.c (.ptr 0 0 0 0 0 0))), (8, .v (.c (.int .i64 0))), (28, .v (.c (.sl 1 0 a3 3))), (29, .v (.c (.int .i64 (a3 : Int)))), (30, .v (.c (.int .i64 s1.1)))], [(0, .obj 5 s1.2), (1, .mem false 28 none (.lst (.pair .bool (.pair (.int .i64) (.int .i64))) a5))], 2⟩) hl (To.mk' [] 2 hε rfl (by repeat' first | exact True.intro | exact rfl | apply And.intro) (by repeat' first | exact True.intro | exact rfl | apply And.intro)) (fun s1 zs1 NNs1 hz hnexts1 houts1 => ?_)
                  clear hl hT
                  have hT := hz; clear hz
                  refine rSeq ?_
                  refine zReg md0 hX rfl rfl rfl ?_
                  refine rThen ?_
                  refine rSeq ?_
                  refine zCond rfl rfl (fun hc => ?_) (fun hc => ?_)
                  · replace hT := sT hc hT
                    refine rSkip ?_
                    refine rThen ?_
                    refine rSeq ?_
                    refine rBlock ?_
                    refine rSeq ?_
                    replace hT := sIf hT; obtain ⟨⟨o1, o2, o3⟩, hT⟩ := hT
                    refine zReg md0 hX rfl rfl rfl ?_
                    refine rThen ?_
                    refine rSeq ?_
                    let c3 := (tcoef_Row N (a5.getD (s1.1).toNat (false, ((0 : Int), (0 : Int)))).1 (a5.getD (s1.1).toNat (false, ((0 : Int), (0 : Int)))).2.1 (a5.getD (s1.1).toNat (false, ((0 : Int), (0 : Int)))).2.2)
                    replace hT := sIf hT; obtain ⟨o1, hT⟩ := hT
                    refine zReg md0 hX rfl rfl rfl ?_
                    refine rThen ?_
                    let c4 := (overspill_outbits_Writer_Add N (c3.getD default).1 s1.2)
                    replace hT := sIf hT; obtain ⟨o1, hT⟩ := hT
                    refine zReg md0 hX rfl rfl rfl ?_
                    refine rInNormal ?_
                    refine rThen ?_
                    replace hT := sIf hT; obtain ⟨o1, hT⟩ := hT
                    refine zReg md0 hX rfl rfl rfl ?_
                    exact hnexts1 _ (Option.some.inj hT).symm _ (To.mk' [] 2 hε rfl (by repeat' first | exact True.intro | exact rfl | apply And.intro) (by repeat' first | exact True.intro | exact rfl | apply And.intro))
                  · replace hT := sF hc hT
                    refine rExit ?_
                    refine rThenExit ?_
                    refine rThenExit ?_
                    exact zTo [] 2 hε (hxs10 _ (houts1 _ (Option.some.inj hT).symm))
                · clear hT
                  refine zCond rfl rfl (fun hc => ?_) (fun hc => ?_)
                  · skip
                    have q1 := q1 hc
                    refine zReg md0 hX rfl rfl rfl ?_
                    exact rTo (To.mk' [] 2 hε rfl (by (repeat' first | exact True.intro | exact rfl | apply And.intro) <;> (repeat' first | exact rfl | refine Eq.trans ?_ (cTr (by assumption)) | refine Eq.trans ?_ (cFr (by assumption)) | refine Eq.trans (cTl (by assumption)) ?_ | refine Eq.trans (cFl (by assumption)) ?_)) (by (repeat' first | exact True.intro | exact rfl | apply And.intro) <;> (repeat' first | exact rfl | refine Eq.trans ?_ (cTr (by assumption)) | refine Eq.trans ?_ (cFr (by assumption)) | refine Eq.trans (cTl (by assumption)) ?_ | refine Eq.trans (cFl (by assumption)) ?_))) hj
                  · skip
                    refine rSkip ?_
                    exact rTo (To.mk' [] 2 hε rfl (by (repeat' first | exact True.intro | exact rfl | apply And.intro) <;> (repeat' first | exact rfl | refine Eq.trans ?_ (cTr (by assumption)) | refine Eq.trans ?_ (cFr (by assumption)) | refine Eq.trans (cTl (by assumption)) ?_ | refine Eq.trans (cFl (by assumption)) ?_)) (by (repeat' first | exact True.intro | exact rfl | apply And.intro) <;> (repeat' first | exact rfl | refine Eq.trans ?_ (cTr (by assumption)) | refine Eq.trans ?_ (cFr (by assumption)) | refine Eq.trans (cTl (by assumption)) ?_ | refine Eq.trans (cFl (by assumption)) ?_))) hj
              · clear hT
                refine zCond rfl rfl (fun hc => ?_) (fun hc => ?_)
                · skip
                  refine zReg md0 hX rfl rfl rfl ?_
                  exact rTo (To.mk' [] 2 hε rfl (by (repeat' first | exact True.intro | exact rfl | apply And.intro) <;> (repeat' first | exact rfl | refine Eq.trans ?_ (cTr (by assumption)) | refine Eq.trans ?_ (cFr (by assumption)) | refine Eq.trans (cTl (by assumption)) ?_ | refine Eq.trans (cFl (by assumption)) ?_)) (by (repeat' first | exact True.intro | exact rfl | apply And.intro) <;> (repeat' first | exact rfl | refine Eq.trans ?_ (cTr (by assumption)) | refine Eq.trans ?_ (cFr (by assumption)) | refine Eq.trans (cTl (by assumption)) ?_ | refine Eq.trans (cFl (by assumption)) ?_))) hj
                · skip
                  refine rSkip ?_
                  exact rTo (To.mk' [] 2 hε rfl (by (repeat' first | exact True.intro | exact rfl | apply And.intro) <;> (repeat' first | exact rfl | refine Eq.trans ?_ (cTr (by assumption)) | refine Eq.trans ?_ (cFr (by assumption)) | refine Eq.trans (cTl (by assumption)) ?_ | refine Eq.trans (cFl (by assumption)) ?_)) (by (repeat' first | exact True.intro | exact rfl | apply And.intro) <;> (repeat' first | exact rfl | refine Eq.trans ?_ (cTr (by assumption)) | refine Eq.trans ?_ (cFr (by assumption)) | refine Eq.trans (cTl (by assumption)) ?_ | refine Eq.trans (cFl (by assumption)) ?_))) hj
          · cases h
        · cases h
      · cases h
    · cases h
  · cases h
def overspill_outbits_Writer_Text (N : Nat) (a1 : (List Bool)) : Option (ByteArray × (List Bool)) :=
  if (a1.length : Int) ≤ 9223372036854775800 then
    if (((a1.length + 7) / 8) : Int) ≤ 9223372036854775807 then
      some ((bytesOf ((packB a1).take ((a1.length + 7) / 8))), a1)
    else none
  else none
def sp_overspill_outbits_Writer_Text (N : Nat) : X.Spec := fun args lk => match args with
  | [.v (.c (.ptr i0 0 0 0 0 0))] => (match lk i0 with
    | some (.obj 5 a1) => some ⟨(overspill_outbits_Writer_Text N a1).isSome = true, .v (.c (.str ((overspill_outbits_Writer_Text N a1).getD default).1)), [], [(i0, .obj 5 ((overspill_outbits_Writer_Text N a1).getD default).2)]⟩
    | _ => none)
  | _ => none
set_option maxRecDepth 100000 in
set_option maxHeartbeats 1000000 in
theorem ok_overspill_outbits_Writer_Text (N : Nat) : FnOK Tryd.prog gt0 27 (sp_overspill_outbits_Writer_Text N) := by
  refine fnOK_handed Tryd.func27 rfl (by kernel_rfl) tt_ok (ktNil) ?_
  intro args lk r h hp
  unfold sp_overspill_outbits_Writer_Text at h
  split at h
  · rename_i i0
    split at h
    · rename_i a1 hl0
      cases h
      obtain ⟨x, hx⟩ := Option.isSome_iff_exists.1 hp
      simp only [hx, Option.getD_some]
      refine handL [i0] 1 [(0, .obj 5 a1)] [.v (.c (.ptr 0 0 0 0 0 0))] rfl rfl rfl ⟨isSome_of hl0, trivial⟩ ⟨⟨rfl, (by repeat' first | exact True.intro | exact rfl | exact ⟨_, rfl, rfl⟩ | apply And.intro | exact Or.inl rfl), _, hl0, .inl rfl⟩, trivial⟩ rfl (fun w0 M ε0 hX => ?_)
      refine rCount (fun hε => ?_)
      have hT : overspill_outbits_Writer_Text N a1 = some x := hx; clear hx hp; unfold overspill_outbits_Writer_Text at hT
      replace hT := sIf hT; obtain ⟨p0, hT⟩ := hT
      refine rOpen1 p0 (by (repeat' first | exact True.intro | exact rfl | apply And.intro) <;> first | assumption | rfl) (fun ty0 => ?_)
      refine rSeq ?_
      refine zReg md0 hX rfl rfl rfl ?_
      refine rThen ?_
      refine rSeq ?_
      refine rSeq ?_
      refine zReg md0 hX rfl rfl rfl ?_
      refine rThen ?_
      refine rCondF rfl rfl (by (repeat' first | exact True.intro | with_reducible assumption | (with_reducible apply And.intro) | intro _) <;> first | assumption | exact rfl | omega | exact Nat.le_of_ble_eq_true rfl | exact selF (by assumption) | exact selT (by assumption) | exact And.intro rfl rfl | exact And.intro (by assumption) rfl | exact And.intro (by omega) rfl | (simp only [inK] at *; omega) | (simp_all [sel] <;> fail) | fail) rfl ?_
      refine rSkip ?_
      refine rThen ?_
      refine rSeq ?_
      replace hT := sIf hT; obtain ⟨o1, hT⟩ := hT
      refine zReg md0 hX rfl rfl rfl ?_
      refine rThen ?_
      refine rRet ?_
      have hy := Option.some.inj hT; subst hy
      exact rEndObj a1 hX rfl (by repeat' first | exact True.intro | exact rfl | apply And.intro | omega | exact Nat.le_of_ble_eq_true rfl) rfl rfl rfl rfl rfl rfl rfl (by first | rfl | assumption) (by first | rfl | assumption) rfl rfl
    · cases h
  · cases h
def overspill_inbits_Reader_At (N : Nat) (a1 : ByteArray) (a2 : Int) : Option Int :=
  some a2
def sp_overspill_inbits_Reader_At (N : Nat) : X.Spec := fun args lk => match args with
  | [.v (.c (.ptr i0 0 0 0 0 0))] => (match lk i0 with
    | some (.mem _ _ _ (.flat [.cs [.str a1, .int .i64 a2]])) => some ⟨(overspill_inbits_Reader_At N a1 a2).isSome = true, .v (.c (.int .i64 ((overspill_inbits_Reader_At N a1 a2).getD default))), [], []⟩
    | _ => none)
  | _ => none
set_option maxRecDepth 100000 in
set_option maxHeartbeats 1000000 in
theorem ok_overspill_inbits_Reader_At (N : Nat) : FnOK Tryd.prog gt0 11 (sp_overspill_inbits_Reader_At N) := by
  refine fnOK_handed Tryd.func11 rfl (by kernel_rfl) tt_ok (ktNil) ?_
  intro args lk r h hp
  unfold sp_overspill_inbits_Reader_At at h
  split at h
  · rename_i i0
    split at h
    · rename_i _ _ _ a1 a2 hl0
      cases h
      obtain ⟨x, hx⟩ := Option.isSome_iff_exists.1 hp
      simp only [hx, Option.getD_some]
      refine handL [i0] 1 [(0, .mem false 45 none (.flat [.cs [.str a1, .int .i64 a2]]))] [.v (.c (.ptr 0 0 0 0 0 0))] rfl rfl rfl ⟨isSome_of hl0, trivial⟩ ⟨⟨rfl, (by repeat' first | exact True.intro | exact rfl | exact ⟨_, rfl, rfl⟩ | apply And.intro | exact Or.inl rfl), _, hl0, sub_ro⟩, trivial⟩ rfl (fun w0 M ε0 hX => ?_)
      refine rCount (fun hε => ?_)
      have hT : overspill_inbits_Reader_At N a1 a2 = some x := hx; clear hx hp; unfold overspill_inbits_Reader_At at hT
      refine rSeq ?_
      refine zReg md0 hX rfl rfl rfl ?_
      refine rThen ?_
      refine rSeq ?_
      refine rSeq ?_
      refine zReg md0 hX rfl rfl rfl ?_
      refine rThen ?_
      refine rCondF rfl rfl (by (repeat' first | exact True.intro | with_reducible assumption | (with_reducible apply And.intro) | intro _) <;> first | assumption | exact rfl | omega | exact Nat.le_of_ble_eq_true rfl | exact selF (by assumption) | exact selT (by assumption) | exact And.intro rfl rfl | exact And.intro (by assumption) rfl | exact And.intro (by omega) rfl | (simp only [inK] at *; omega) | (simp_all [sel] <;> fail) | fail) rfl ?_
      refine rSkip ?_
      refine rThen ?_
      refine rSeq ?_
      refine zReg md0 hX rfl rfl rfl ?_
      refine rThen ?_
      refine rRet ?_
      have hy := Option.some.inj hT; subst hy
      exact zEnd0 hX rfl
    · cases h
  · cases h
def overspill_inbits_Reader_Peek_b1 (N : Nat) (a1 : Int) (a2 : ByteArray) (a3 : Int) (s1 : (Int × Int)) : Option ((Int × Int) ⊕ Int) :=
  bif (decide (s1.2 < a1)) then
    if inK .i64 (a3 + s1.2) then
      let x1 := ((Int.toNat (s1.1 * 2 ^ (Int.toNat 1)) ||| Int.toNat ((Int.toNat ((byteI a2 ((a3 + s1.2) / 8).toNat) / 2 ^ (Int.toNat ((7 : Int) - ((a3 + s1.2) % 8)))) &&& Int.toNat 1 : Nat) : Int) : Nat) : Int)
      if inK .i64 (s1.1 * 2 ^ (Int.toNat 1)) ∧ (0 : Int) ≤ (a3 + s1.2) ∧ (0 : Int) ≤ ((a3 + s1.2) / 8) ∧ ((a3 + s1.2) / 8) < (ByteArray.size a2 : Int) ∧ inK .i64 ((7 : Int) - ((a3 + s1.2) % 8)) ∧ inK .u64 ((7 : Int) - ((a3 + s1.2) % 8)) ∧ (0 : Int) ≤ ((7 : Int) - ((a3 + s1.2) % 8)) ∧ (((7 : Int) - ((a3 + s1.2) % 8))).toNat ≤ 8 ∧ (0 : Int) ≤ ((byteI a2 ((a3 + s1.2) / 8).toNat) / 2 ^ (Int.toNat ((7 : Int) - ((a3 + s1.2) % 8)))) ∧ inK .i64 ((Int.toNat ((byteI a2 ((a3 + s1.2) / 8).toNat) / 2 ^ (Int.toNat ((7 : Int) - ((a3 + s1.2) % 8)))) &&& Int.toNat 1 : Nat) : Int) ∧ (0 : Int) ≤ (s1.1 * 2 ^ (Int.toNat 1)) ∧ (0 : Int) ≤ ((Int.toNat ((byteI a2 ((a3 + s1.2) / 8).toNat) / 2 ^ (Int.toNat ((7 : Int) - ((a3 + s1.2) % 8)))) &&& Int.toNat 1 : Nat) : Int) then
        if inK .i64 (s1.2 + 1) then
          some (.inl (x1, (s1.2 + 1)))
        else none
      else none
    else none
  else
    some (.inr s1.1)
def overspill_inbits_Reader_Peek (N : Nat) (a1 : Int) (a2 : ByteArray) (a3 : Int) : Option (Int × Int) :=
  bif (bif (decide (a1 < 0)) then (decide (a1 < 0)) else (decide ((32 : Int) < a1))) then
    some (0, 1)
  else
    if inK .i64 ((8 : Int) * (ByteArray.size a2 : Int)) ∧ inK .i64 (((8 : Int) * (ByteArray.size a2 : Int)) - a3) then
      bif (decide ((((8 : Int) * (ByteArray.size a2 : Int)) - a3) < a1)) then
        some (0, 2)
      else
        (iter (overspill_inbits_Reader_Peek_b1 N a1 a2 a3) N (0, 0)).bind fun v1 =>
          some (v1, 0)
    else none
def sp_overspill_inbits_Reader_Peek (N : Nat) : X.Spec := fun args lk => match args with
  | [.v (.c (.ptr i0 0 0 0 0 0)), .v (.c (.int .i64 a1))] => (match lk i0 with
    | some (.mem _ _ _ (.flat [.cs [.str a2, .int .i64 a3]])) => some ⟨(overspill_inbits_Reader_Peek N a1 a2 a3).isSome = true, .tup [.c (.int .i64 ((overspill_inbits_Reader_Peek N a1 a2 a3).getD default).1), .c (.int .i64 ((overspill_inbits_Reader_Peek N a1 a2 a3).getD default).2)], [], []⟩
    | _ => none)
  | _ => none
set_option maxRecDepth 100000 in
set_option maxHeartbeats 1000000 in
theorem ok_overspill_inbits_Reader_Peek (N : Nat) : FnOK Tryd.prog gt0 50 (sp_overspill_inbits_Reader_Peek N) := by
  refine fnOK_handed Tryd.func50 rfl (by kernel_rfl) tt_ok (ktNil) ?_
  intro args lk r h hp
  unfold sp_overspill_inbits_Reader_Peek at h
  split at h
  · rename_i i0 a1
    split at h
    · rename_i _ _ _ a2 a3 hl0
      cases h
      obtain ⟨x, hx⟩ := Option.isSome_iff_exists.1 hp
      simp only [hx, Option.getD_some]
      refine handL [i0] 1 [(0, .mem false 45 none (.flat [.cs [.str a2, .int .i64 a3]]))] [.v (.c (.ptr 0 0 0 0 0 0)), .v (.c (.int .i64 a1))] rfl rfl rfl ⟨isSome_of hl0, trivial⟩ ⟨⟨rfl, (by repeat' first | exact True.intro | exact rfl | exact ⟨_, rfl, rfl⟩ | apply And.intro | exact Or.inl rfl), _, hl0, sub_ro⟩, trivial⟩ rfl (fun w0 M ε0 hX => ?_)
      refine rCount (fun hε => ?_)
      have hT : overspill_inbits_Reader_Peek N a1 a2 a3 = some x := hx; clear hx hp; unfold overspill_inbits_Reader_Peek at hT
      refine rSeq ?_
      refine zReg md0 hX rfl rfl rfl ?_
      refine rThen ?_
      refine rSeq ?_
      refine rBlock ?_
      refine rSeq ?_
      refine rSeq ?_
      refine zReg md0 hX rfl rfl rfl ?_
      refine rThen ?_
      refine rCondF rfl rfl (by (repeat' first | exact True.intro | with_reducible assumption | (with_reducible apply And.intro) | intro _) <;> first | assumption | exact rfl | omega | exact Nat.le_of_ble_eq_true rfl | exact selF (by assumption) | exact selT (by assumption) | exact And.intro rfl rfl | exact And.intro (by assumption) rfl | exact And.intro (by omega) rfl | (simp only [inK] at *; omega) | (simp_all [sel] <;> fail) | fail) rfl ?_
      refine rSeq ?_
      refine zReg md0 hX rfl rfl rfl ?_
      refine rThen ?_
      refine rJoin ⟨[(0, .v (.c (.ptr 0 0 0 0 0 0))), (1, .v (.c (.int .i64 a1))), (4, .v (.c (.int .i64 0))), (5, .v (.c (.int .i64 0))), (9, .v (.c (.bool (bif (decide (a1 < 0)) then (decide (a1 < 0)) else (decide ((32 : Int) < a1))))))], [(0, .mem false 45 none (.flat [.cs [.str a2, .int .i64 a3]]))], 1⟩ ?_ (fun hj => ?_)
      · skip
        refine rThen ?_
        refine zCond rfl rfl (fun hc => ?_) (fun hc => ?_)
        · replace hT := sT hc hT
          refine rSeq ?_
          refine zReg md0 hX rfl rfl rfl ?_
          refine rThen ?_
          refine rRet ?_
          refine rInRet ?_
          refine rThenRet ?_
          have hy := Option.some.inj hT; subst hy
          exact zEnd0 hX rfl
        · replace hT := sF hc hT
          refine rSeq ?_
          replace hT := sIf hT; obtain ⟨⟨o1, o2⟩, hT⟩ := hT
          refine zDraw md0 0 [] hX mixed rfl rfl rfl rfl rfl ?_
          refine rThen ?_
          refine zCond rfl rfl (fun hc => ?_) (fun hc => ?_)
          · replace hT := sT hc hT
            refine rSeq ?_
            refine zReg md0 hX rfl rfl rfl ?_
            refine rThen ?_
            refine rRet ?_
            refine rInRet ?_
            refine rThenRet ?_
            have hy := Option.some.inj hT; subst hy
            exact zEnd0 hX rfl
          · replace hT := sF hc hT
            refine rSkip ?_
            refine rInNormal ?_
            refine rThen ?_
            refine rSeq ?_
            refine zReg md0 hX rfl rfl rfl ?_
            refine rThen ?_
            refine rSeq ?_
            refine rSeq ?_
            refine zReg md0 hX rfl rfl rfl ?_
            refine rThen ?_
            refine rBlock ?_
            replace hT := sBind hT; obtain ⟨w1, hl, hT⟩ := hT
            refine rJoinA (fun v1 => v1 = w1) (fun v1 => ⟨[(4, .v (.c (.int .i64 0))), (5, .v (.c (.int .i64 0))), (6, .v (.c (.int .i64 v1)))], [(0, .mem false 45 none (.flat [.cs [.str a2, .int .i64 a3]]))], 1⟩) (.exit 1) (fun v1 hv => ?_) (fun hxs10 => ?_)
            · subst hv; clear hl
              refine rInHit ?_
              refine rThen ?_
              refine rSeq ?_
              refine zReg md0 hX rfl rfl rfl ?_
              refine rThen ?_
              refine rRet ?_
              have hy := Option.some.inj hT; subst hy
              exact zEnd0 hX rfl
            refine rLoopM (overspill_inbits_Reader_Peek_b1 N a1 a2 a3) (fun s1 => ⟨[(0, .v (.c (.ptr 0 0 0 0 0 0))), (4, .v (.c (.int .i64 0))), (5, .v (.c (.int .i64 0))), (6, .v (.c (.int .i64 s1.1))), (30, .v (.c (.int .i64 a1))), (31, .v (.c (.int .i64 s1.2)))], [(0, .mem false 45 none (.flat [.cs [.str a2, .int .i64 a3]]))], 1⟩) hl (To.mk' [] 1 hε rfl (by repeat' first | exact True.intro | exact rfl | apply And.intro) (by repeat' first | exact True.intro | exact rfl | apply And.intro)) (fun s1 zs1 NNs1 hz hnexts1 houts1 => ?_)
            clear hl hT
            have hT := hz; clear hz
            refine rSeq ?_
            refine zReg md0 hX rfl rfl rfl ?_
            refine rThen ?_
            refine rSeq ?_
            refine zCond rfl rfl (fun hc => ?_) (fun hc => ?_)
            · replace hT := sT hc hT
              refine rSkip ?_
              refine rThen ?_
              refine rSeq ?_
              refine rBlock ?_
              refine rSeq ?_
              refine zReg md0 hX rfl rfl rfl ?_
              refine rThen ?_
              refine rSeq ?_
              replace hT := sIf hT; obtain ⟨o1, hT⟩ := hT
              refine zReg md0 hX rfl rfl rfl ?_
              refine rThen ?_
              let x1 := ((Int.toNat (s1.1 * 2 ^ (Int.toNat 1)) ||| Int.toNat ((Int.toNat ((byteI a2 ((a3 + s1.2) / 8).toNat) / 2 ^ (Int.toNat ((7 : Int) - ((a3 + s1.2) % 8)))) &&& Int.toNat 1 : Nat) : Int) : Nat) : Int)
              replace hT := sIf hT; obtain ⟨⟨o1, o2, o3, o4, o5, o6, o7, o8, o9, o10, o11, o12⟩, hT⟩ := hT
              refine zReg md0 hX rfl rfl rfl ?_
              refine rInNormal ?_
              refine rThen ?_
              replace hT := sIf hT; obtain ⟨o1, hT⟩ := hT
              refine zReg md0 hX rfl rfl rfl ?_
              exact hnexts1 _ (Option.some.inj hT).symm _ (To.mk' [] 1 hε rfl (by repeat' first | exact True.intro | exact rfl | apply And.intro) (by repeat' first | exact True.intro | exact rfl | apply And.intro))
            · replace hT := sF hc hT
              refine rExit ?_
              refine rThenExit ?_
              refine rThenExit ?_
              exact zTo [] 1 hε (hxs10 _ (houts1 _ (Option.some.inj hT).symm))
      · clear hT
        refine zCond rfl rfl (fun hc => ?_) (fun hc => ?_)
        · skip
          refine rSkip ?_
          exact rTo (To.mk' [] 1 hε rfl (by (repeat' first | exact True.intro | exact rfl | apply And.intro) <;> (repeat' first | exact rfl | refine Eq.trans ?_ (cTr (by assumption)) | refine Eq.trans ?_ (cFr (by assumption)) | refine Eq.trans (cTl (by assumption)) ?_ | refine Eq.trans (cFl (by assumption)) ?_)) (by (repeat' first | exact True.intro | exact rfl | apply And.intro) <;> (repeat' first | exact rfl | refine Eq.trans ?_ (cTr (by assumption)) | refine Eq.trans ?_ (cFr (by assumption)) | refine Eq.trans (cTl (by assumption)) ?_ | refine Eq.trans (cFl (by assumption)) ?_))) hj
        · skip
          refine zReg md0 hX rfl rfl rfl ?_
          exact rTo (To.mk' [] 1 hε rfl (by (repeat' first | exact True.intro | exact rfl | apply And.intro) <;> (repeat' first | exact rfl | refine Eq.trans ?_ (cTr (by assumption)) | refine Eq.trans ?_ (cFr (by assumption)) | refine Eq.trans (cTl (by assumption)) ?_ | refine Eq.trans (cFl (by assumption)) ?_)) (by (repeat' first | exact True.intro | exact rfl | apply And.intro) <;> (repeat' first | exact rfl | refine Eq.trans ?_ (cTr (by assumption)) | refine Eq.trans ?_ (cFr (by assumption)) | refine Eq.trans (cTl (by assumption)) ?_ | refine Eq.trans (cFl (by assumption)) ?_))) hj
    · cases h
  · cases h
def overspill_inbits_Reader_Take (N : Nat) (a1 : Int) (a2 : ByteArray) (a3 : Int) : Option (Int × Int × ByteArray × Int) :=
  let c1 := (overspill_inbits_Reader_Peek N a1 a2 a3)
  if c1.isSome = true then
    if ((decide ((c1.getD default).2 = 0)) = true → inK .i64 (a3 + a1)) then
      some ((c1.getD default).1, (c1.getD default).2, a2, (bif (decide ((c1.getD default).2 = 0)) then (a3 + a1) else a3))
    else none
  else none
def sp_overspill_inbits_Reader_Take (N : Nat) : X.Spec := fun args lk => match args with
  | [.v (.c (.ptr i0 0 0 0 0 0)), .v (.c (.int .i64 a1))] => (match lk i0 with
    | some (.mem true 45 none (.flat [.cs [.str a2, .int .i64 a3]])) => some ⟨(overspill_inbits_Reader_Take N a1 a2 a3).isSome = true, .tup [.c (.int .i64 ((overspill_inbits_Reader_Take N a1 a2 a3).getD default).1), .c (.int .i64 ((overspill_inbits_Reader_Take N a1 a2 a3).getD default).2.1)], [], [(i0, .mem true 45 none (.flat [.cs [.str ((overspill_inbits_Reader_Take N a1 a2 a3).getD default).2.2.1, .int .i64 ((overspill_inbits_Reader_Take N a1 a2 a3).getD default).2.2.2]]))]⟩
    | _ => none)
  | _ => none
set_option maxRecDepth 100000 in
set_option maxHeartbeats 1000000 in
theorem ok_overspill_inbits_Reader_Take (N : Nat) : FnOK Tryd.prog gt0 37 (sp_overspill_inbits_Reader_Take N) := by
  refine fnOK_handed Tryd.func37 rfl (by kernel_rfl) tt_ok (ktCons (ok_overspill_inbits_Reader_Peek N) (ktNil)) ?_
  intro args lk r h hp
  unfold sp_overspill_inbits_Reader_Take at h
  split at h
  · rename_i i0 a1
    split at h
    · rename_i a2 a3 hl0
      cases h
      obtain ⟨x, hx⟩ := Option.isSome_iff_exists.1 hp
      simp only [hx, Option.getD_some]
      refine handL [i0] 1 [(0, .mem true 45 none (.flat [.cs [.str a2, .int .i64 a3]]))] [.v (.c (.ptr 0 0 0 0 0 0)), .v (.c (.int .i64 a1))] rfl rfl rfl ⟨isSome_of hl0, trivial⟩ ⟨⟨rfl, (by repeat' first | exact True.intro | exact rfl | exact ⟨_, rfl, rfl⟩ | apply And.intro | exact Or.inl rfl), _, hl0, .inl rfl⟩, trivial⟩ rfl (fun w0 M ε0 hX => ?_)
      refine rCount (fun hε => ?_)
      have hT : overspill_inbits_Reader_Take N a1 a2 a3 = some x := hx; clear hx hp; unfold overspill_inbits_Reader_Take at hT
      refine rSeq ?_
      refine zReg md0 hX rfl rfl rfl ?_
      refine rThen ?_
      refine rSeq ?_
      let c1 := (overspill_inbits_Reader_Peek N a1 a2 a3)
      replace hT := sIf hT; obtain ⟨o1, hT⟩ := hT
      refine zReg md0 hX rfl rfl rfl ?_
      refine rThen ?_
      refine rSeq ?_
      refine rSeq ?_
      refine zReg md0 hX rfl rfl rfl ?_
      refine rThen ?_
      replace hT := sIf hT; obtain ⟨q1, hT⟩ := hT
      refine rJoin ⟨[(4, .v (.c (.int .i64 0))), (5, .v (.c (.int .i64 0))), (6, .v (.c (.int .i64 (c1.getD default).1))), (7, .v (.c (.int .i64 (c1.getD default).2)))], [(0, .mem true 45 none (.flat [.cs [.str a2, .int .i64 (bif (decide ((c1.getD default).2 = 0)) then (a3 + a1) else a3)]]))], 1⟩ ?_ (fun hj => ?_)
      · skip
        refine rThen ?_
        refine rSeq ?_
        refine zReg md0 hX rfl rfl rfl ?_
        refine rThen ?_
        refine rRet ?_
        have hy := Option.some.inj hT; subst hy
        exact rEndA [] [] [(0, .mem true 45 none (.flat [.cs [.str a2, .int .i64 (bif (decide ((c1.getD default).2 = 0)) then (a3 + a1) else a3)]]))] (.tup [.c (.int .i64 (c1.getD default).1), .c (.int .i64 (c1.getD default).2)]) hX rfl (by repeat' first | exact True.intro | exact rfl | apply And.intro | omega | exact Nat.le_of_ble_eq_true rfl) (by repeat' first | exact True.intro | exact rfl | apply And.intro) rfl rfl rfl (by repeat' first | exact True.intro | exact rfl | exact ⟨_, rfl, rfl⟩ | apply And.intro | exact Or.inl rfl) rfl rfl (by repeat' first | exact True.intro | exact rfl | exact ⟨_, rfl, rfl⟩ | apply And.intro | exact Or.inl rfl) rfl rfl
      · clear hT
        refine zCond rfl rfl (fun hc => ?_) (fun hc => ?_)
        · skip
          have q1 := q1 hc
          refine zReg md0 hX rfl rfl rfl ?_
          exact rTo (To.mk' [] 1 hε rfl (by (repeat' first | exact True.intro | exact rfl | apply And.intro) <;> (repeat' first | exact rfl | refine Eq.trans ?_ (cTr (by assumption)) | refine Eq.trans ?_ (cFr (by assumption)) | refine Eq.trans (cTl (by assumption)) ?_ | refine Eq.trans (cFl (by assumption)) ?_)) (by (repeat' first | exact True.intro | exact rfl | apply And.intro) <;> (repeat' first | exact rfl | refine Eq.trans ?_ (cTr (by assumption)) | refine Eq.trans ?_ (cFr (by assumption)) | refine Eq.trans (cTl (by assumption)) ?_ | refine Eq.trans (cFl (by assumption)) ?_))) hj
        · skip
          refine rSkip ?_
          exact rTo (To.mk' [] 1 hε rfl (by (repeat' first | exact True.intro | exact rfl | apply And.intro) <;> (repeat' first | exact rfl | refine Eq.trans ?_ (cTr (by assumption)) | refine Eq.trans ?_ (cFr (by assumption)) | refine Eq.trans (cTl (by assumption)) ?_ | refine Eq.trans (cFl (by assumption)) ?_)) (by (repeat' first | exact True.intro | exact rfl | apply And.intro) <;> (repeat' first | exact rfl | refine Eq.trans ?_ (cTr (by assumption)) | refine Eq.trans ?_ (cFr (by assumption)) | refine Eq.trans (cTl (by assumption)) ?_ | refine Eq.trans (cFl (by assumption)) ?_))) hj
    · cases h
  · cases h
def blocks_first (N : Nat) (a1 : ByteArray) (a2 : Int) : Option (Int × Int × ByteArray × Int) :=
  let c1 := (overspill_inbits_Reader_Take N 8 a1 a2)
  if c1.isSome = true then
    bif (decide ((c1.getD default).2.1 ≠ 0)) then
      some (0, (c1.getD default).2.1, (c1.getD default).2.2.1, (c1.getD default).2.2.2)
    else
      let x1 := (bif (decide ((c1.getD default).1 = 0)) then (decide ((c1.getD default).1 = 0)) else (decide ((c1.getD default).1 = 128)))
      bif x1 then
        some (0, 7, (c1.getD default).2.2.1, (c1.getD default).2.2.2)
      else
        bif (decide ((c1.getD default).1 = 255)) then
          some (128, 0, (c1.getD default).2.2.1, (c1.getD default).2.2.2)
        else
          some ((c1.getD default).1, 0, (c1.getD default).2.2.1, (c1.getD default).2.2.2)
  else none
def sp_blocks_first (N : Nat) : X.Spec := fun args lk => match args with
  | [.v (.c (.ptr i0 0 0 0 0 0))] => (match lk i0 with
    | some (.mem true 45 none (.flat [.cs [.str a1, .int .i64 a2]])) => some ⟨(blocks_first N a1 a2).isSome = true, .tup [.c (.int .i64 ((blocks_first N a1 a2).getD default).1), .c (.int .i64 ((blocks_first N a1 a2).getD default).2.1)], [], [(i0, .mem true 45 none (.flat [.cs [.str ((blocks_first N a1 a2).getD default).2.2.1, .int .i64 ((blocks_first N a1 a2).getD default).2.2.2]]))]⟩
    | _ => none)
  | _ => none
set_option maxRecDepth 100000 in
set_option maxHeartbeats 1000000 in
theorem ok_blocks_first (N : Nat) : FnOK Tryd.prog gt0 29 (sp_blocks_first N) := by
  refine fnOK_handed Tryd.func29 rfl (by kernel_rfl) tt_ok (ktCons (ok_overspill_inbits_Reader_Take N) (ktNil)) ?_
  intro args lk r h hp
  unfold sp_blocks_first at h
  split at h
  · rename_i i0
    split at h
    · rename_i a1 a2 hl0
      cases h
      obtain ⟨x, hx⟩ := Option.isSome_iff_exists.1 hp
      simp only [hx, Option.getD_some]
      refine handL [i0] 1 [(0, .mem true 45 none (.flat [.cs [.str a1, .int .i64 a2]]))] [.v (.c (.ptr 0 0 0 0 0 0))] rfl rfl rfl ⟨isSome_of hl0, trivial⟩ ⟨⟨rfl, (by repeat' first | exact True.intro | exact rfl | exact ⟨_, rfl, rfl⟩ | apply And.intro | exact Or.inl rfl), _, hl0, .inl rfl⟩, trivial⟩ rfl (fun w0 M ε0 hX => ?_)
      refine rCount (fun hε => ?_)
      have hT : blocks_first N a1 a2 = some x := hx; clear hx hp; unfold blocks_first at hT
      refine rSeq ?_
      refine zReg md0 hX rfl rfl rfl ?_
      refine rThen ?_
      refine rSeq ?_
      let c1 := (overspill_inbits_Reader_Take N 8 a1 a2)
      replace hT := sIf hT; obtain ⟨o1, hT⟩ := hT
      refine zReg md0 hX rfl rfl rfl ?_
      refine rThen ?_
      refine rSeq ?_
      refine rBlock ?_
      refine rSeq ?_
      refine zReg md0 hX rfl rfl rfl ?_
      refine rThen ?_
      refine zCond rfl rfl (fun hc => ?_) (fun hc => ?_)
      · replace hT := sT hc hT
        refine rSeq ?_
        refine zReg md0 hX rfl rfl rfl ?_
        refine rThen ?_
        refine rRet ?_
        refine rInRet ?_
        refine rThenRet ?_
        have hy := Option.some.inj hT; subst hy
        exact rEndA [] [] [(0, .mem true 45 none (.flat [.cs [.str (c1.getD default).2.2.1, .int .i64 (c1.getD default).2.2.2]]))] (.tup [.c (.int .i64 0), .c (.int .i64 (c1.getD default).2.1)]) hX rfl (by repeat' first | exact True.intro | exact rfl | apply And.intro | omega | exact Nat.le_of_ble_eq_true rfl) (by repeat' first | exact True.intro | exact rfl | apply And.intro) rfl rfl rfl (by repeat' first | exact True.intro | exact rfl | exact ⟨_, rfl, rfl⟩ | apply And.intro | exact Or.inl rfl) rfl rfl (by repeat' first | exact True.intro | exact rfl | exact ⟨_, rfl, rfl⟩ | apply And.intro | exact Or.inl rfl) rfl rfl
      · replace hT := sF hc hT
        refine rSeq ?_
        refine rSeq ?_
        refine zReg md0 hX rfl rfl rfl ?_
        refine rThen ?_
        refine rJoin ⟨[(2, .v (.c (.int .i64 0))), (3, .v (.c (.int .i64 0))), (4, .v (.c (.int .i64 (c1.getD default).1))), (15, .v (.c (.bool (bif (decide ((c1.getD default).1 = 0)) then (decide ((c1.getD default).1 = 0)) else (decide ((c1.getD default).1 = 128))))))], [(0, .mem true 45 none (.flat [.cs [.str (c1.getD default).2.2.1, .int .i64 (c1.getD default).2.2.2]]))], 1⟩ ?_ (fun hj => ?_)
        · skip
          let x1 := (bif (decide ((c1.getD default).1 = 0)) then (decide ((c1.getD default).1 = 0)) else (decide ((c1.getD default).1 = 128)))
          refine rThen ?_
          refine zCond rfl rfl (fun hc => ?_) (fun hc => ?_)
          · replace hT := sT hc hT
            refine rSeq ?_
            refine zReg md0 hX rfl rfl rfl ?_
            refine rThen ?_
            refine rRet ?_
            refine rInRet ?_
            refine rThenRet ?_
            have hy := Option.some.inj hT; subst hy
            exact rEndA [] [] [(0, .mem true 45 none (.flat [.cs [.str (c1.getD default).2.2.1, .int .i64 (c1.getD default).2.2.2]]))] (.tup [.c (.int .i64 0), .c (.int .i64 7)]) hX rfl (by repeat' first | exact True.intro | exact rfl | apply And.intro | omega | exact Nat.le_of_ble_eq_true rfl) (by repeat' first | exact True.intro | exact rfl | apply And.intro) rfl rfl rfl (by repeat' first | exact True.intro | exact rfl | exact ⟨_, rfl, rfl⟩ | apply And.intro | exact Or.inl rfl) rfl rfl (by repeat' first | exact True.intro | exact rfl | exact ⟨_, rfl, rfl⟩ | apply And.intro | exact Or.inl rfl) rfl rfl
          · replace hT := sF hc hT
            refine rSeq ?_
            refine zReg md0 hX rfl rfl rfl ?_
            refine rThen ?_
            refine zCond rfl rfl (fun hc => ?_) (fun hc => ?_)
            · replace hT := sT hc hT
              refine rSeq ?_
              refine zReg md0 hX rfl rfl rfl ?_
              refine rThen ?_
              refine rRet ?_
              refine rInRet ?_
              refine rThenRet ?_
              have hy := Option.some.inj hT; subst hy
              exact rEndA [] [] [(0, .mem true 45 none (.flat [.cs [.str (c1.getD default).2.2.1, .int .i64 (c1.getD default).2.2.2]]))] (.tup [.c (.int .i64 128), .c (.int .i64 0)]) hX rfl (by repeat' first | exact True.intro | exact rfl | apply And.intro | omega | exact Nat.le_of_ble_eq_true rfl) (by repeat' first | exact True.intro | exact rfl | apply And.intro) rfl rfl rfl (by repeat' first | exact True.intro | exact rfl | exact ⟨_, rfl, rfl⟩ | apply And.intro | exact Or.inl rfl) rfl rfl (by repeat' first | exact True.intro | exact rfl | exact ⟨_, rfl, rfl⟩ | apply And.intro | exact Or.inl rfl) rfl rfl
            · replace hT := sF hc hT
              refine rSkip ?_
              refine rInNormal ?_
              refine rThen ?_
              refine rSeq ?_
              refine zReg md0 hX rfl rfl rfl ?_
              refine rThen ?_
              refine rRet ?_
              have hy := Option.some.inj hT; subst hy
              exact rEndA [] [] [(0, .mem true 45 none (.flat [.cs [.str (c1.getD default).2.2.1, .int .i64 (c1.getD default).2.2.2]]))] (.tup [.c (.int .i64 (c1.getD default).1), .c (.int .i64 0)]) hX rfl (by repeat' first | exact True.intro | exact rfl | apply And.intro | omega | exact Nat.le_of_ble_eq_true rfl) (by repeat' first | exact True.intro | exact rfl | apply And.intro) rfl rfl rfl (by repeat' first | exact True.intro | exact rfl | exact ⟨_, rfl, rfl⟩ | apply And.intro | exact Or.inl rfl) rfl rfl (by repeat' first | exact True.intro | exact rfl | exact ⟨_, rfl, rfl⟩ | apply And.intro | exact Or.inl rfl) rfl rfl
        · clear hT
          refine zCond rfl rfl (fun hc => ?_) (fun hc => ?_)
          · skip
            refine rSkip ?_
            exact rTo (To.mk' [] 1 hε rfl (by (repeat' first | exact True.intro | exact rfl | apply And.intro) <;> (repeat' first | exact rfl | refine Eq.trans ?_ (cTr (by assumption)) | refine Eq.trans ?_ (cFr (by assumption)) | refine Eq.trans (cTl (by assumption)) ?_ | refine Eq.trans (cFl (by assumption)) ?_)) (by (repeat' first | exact True.intro | exact rfl | apply And.intro) <;> (repeat' first | exact rfl | refine Eq.trans ?_ (cTr (by assumption)) | refine Eq.trans ?_ (cFr (by assumption)) | refine Eq.trans (cTl (by assumption)) ?_ | refine Eq.trans (cFl (by assumption)) ?_))) hj
          · skip
            refine zReg md0 hX rfl rfl rfl ?_
            exact rTo (To.mk' [] 1 hε rfl (by (repeat' first | exact True.intro | exact rfl | apply And.intro) <;> (repeat' first | exact rfl | refine Eq.trans ?_ (cTr (by assumption)) | refine Eq.trans ?_ (cFr (by assumption)) | refine Eq.trans (cTl (by assumption)) ?_ | refine Eq.trans (cFl (by assumption)) ?_)) (by (repeat' first | exact True.intro | exact rfl | apply And.intro) <;> (repeat' first | exact rfl | refine Eq.trans ?_ (cTr (by assumption)) | refine Eq.trans ?_ (cFr (by assumption)) | refine Eq.trans (cTl (by assumption)) ?_ | refine Eq.trans (cFl (by assumption)) ?_))) hj
    · cases h
  · cases h
def tcoef_find_b1 (N : Nat) (a1 : Int) (a2 : Int) (s1 : (Bool × Int)) : Option ((Bool × Int) ⊕ (Int ⊕ Bool)) :=
  bif (decide (s1.2 < 102)) then
    if (0 : Int) ≤ s1.2 ∧ s1.2 < 102 ∧ (s1.2).toNat < 102 then
      let x3 := (bif (decide ((lensL.getD (s1.2).toNat 0) = a2)) then (decide ((codesL.getD (s1.2).toNat 0) = a1)) else false)
      if ((decide ((lensL.getD (s1.2).toNat 0) = a2)) = true → (0 : Int) ≤ s1.2) ∧ ((decide ((lensL.getD (s1.2).toNat 0) = a2)) = true → s1.2 < 102) ∧ ((decide ((lensL.getD (s1.2).toNat 0) = a2)) = true → (s1.2).toNat < 102) then
        bif x3 then
          some (.inr (Sum.inl s1.2))
        else
          let x5 := (bif (decide (a2 < (lensL.getD (s1.2).toNat 0))) then (decide (((codesL.getD (s1.2).toNat 0) / 2 ^ (Int.toNat ((lensL.getD (s1.2).toNat 0) - a2))) = a1)) else false)
          if ((decide (a2 < (lensL.getD (s1.2).toNat 0))) = true → (0 : Int) ≤ s1.2) ∧ ((decide (a2 < (lensL.getD (s1.2).toNat 0))) = true → s1.2 < 102) ∧ ((decide (a2 < (lensL.getD (s1.2).toNat 0))) = true → (s1.2).toNat < 102) ∧ ((decide (a2 < (lensL.getD (s1.2).toNat 0))) = true → inK .i64 ((lensL.getD (s1.2).toNat 0) - a2)) ∧ ((decide (a2 < (lensL.getD (s1.2).toNat 0))) = true → inK .u64 ((lensL.getD (s1.2).toNat 0) - a2)) ∧ ((decide (a2 < (lensL.getD (s1.2).toNat 0))) = true → (0 : Int) ≤ ((lensL.getD (s1.2).toNat 0) - a2)) ∧ ((decide (a2 < (lensL.getD (s1.2).toNat 0))) = true → (((lensL.getD (s1.2).toNat 0) - a2)).toNat ≤ 64) then
            joinK (fun (v3 : Bool) =>
              if inK .i64 (s1.2 + 1) then
                some (.inl (v3, (s1.2 + 1)))
              else none
            ) fun k1 =>
              bif x5 then
                k1 true
              else
                k1 s1.1
          else none
      else none
    else none
  else
    some (.inr (Sum.inr s1.1))
def tcoef_find (N : Nat) (a1 : Int) (a2 : Int) : Option (Int × Bool) :=
  (iter (tcoef_find_b1 N a1 a2) N (false, 0)).bind fun w1 =>
    (Sum.elim (fun v1 =>
      some (v1, true)
    )
      (fun v2 =>
        let x1 := (bif v2 then true else (bif (decide (a2 < 7)) then (decide (((3 : Int) / 2 ^ (Int.toNat ((7 : Int) - a2))) = a1)) else false))
        if (((!v2) && (decide (a2 < 7))) = true → inK .i64 ((7 : Int) - a2)) ∧ (((!v2) && (decide (a2 < 7))) = true → inK .u64 ((7 : Int) - a2)) ∧ (((!v2) && (decide (a2 < 7))) = true → (0 : Int) ≤ ((7 : Int) - a2)) ∧ (((!v2) && (decide (a2 < 7))) = true → (((7 : Int) - a2)).toNat ≤ 64) ∧ ((!v2) = true → ((decide (a2 < 7)) = true → ((!v2) && (decide (a2 < 7))) = true)) then
          some ((-1), x1)
        else none
      )
    ) w1
def sp_tcoef_find (N : Nat) : X.Spec := fun args lk => match args with
  | [.v (.c (.int .i64 a1)), .v (.c (.int .i64 a2))] => some ⟨(tcoef_find N a1 a2).isSome = true, .tup [.c (.int .i64 ((tcoef_find N a1 a2).getD default).1), .c (.bool ((tcoef_find N a1 a2).getD default).2)], [], []⟩
  | _ => none
set_option maxRecDepth 100000 in
set_option maxHeartbeats 1000000 in
theorem ok_tcoef_find (N : Nat) : FnOK Tryd.prog gt0 39 (sp_tcoef_find N) := by
  refine fnOK_handed Tryd.func39 rfl (by kernel_rfl) tt_ok (ktNil) ?_
  intro args lk r h hp
  unfold sp_tcoef_find at h
  split at h
  · rename_i a1 a2
    cases h
    obtain ⟨x, hx⟩ := Option.isSome_iff_exists.1 hp
    simp only [hx, Option.getD_some]
    refine hand0 rfl rfl (fun w0 M ε0 hX => ?_)
    refine rCount (fun hε => ?_)
    have hT : tcoef_find N a1 a2 = some x := hx; clear hx hp; unfold tcoef_find at hT
    refine rSeq ?_
    refine zReg md0 hX rfl rfl rfl ?_
    refine rThen ?_
    refine rSeq ?_
    refine rSeq ?_
    refine zReg md0 hX rfl rfl rfl ?_
    refine rThen ?_
    refine rBlock ?_
    replace hT := sBind hT; obtain ⟨w1, hl, hT⟩ := hT
    refine rJoinA (fun v1 => (Sum.inl v1) = w1) (fun v1 => ⟨[(4, .v (.c (.int .i64 v1))), (5, .v (.c (.bool true)))], [], 0⟩) .ret (fun v1 hv => ?_) (fun hxs10 => ?_)
    · subst hv; clear hl; replace hT := (sElimL hT)
      refine rInRet ?_
      refine rThenRet ?_
      have hy := Option.some.inj hT; subst hy
      exact zEnd0 hX rfl
    refine rJoinA (fun v2 => (Sum.inr v2) = w1) (fun v2 => ⟨[(0, .v (.c (.int .i64 a1))), (1, .v (.c (.int .i64 a2))), (4, .v (.c (.int .i64 0))), (5, .v (.c (.bool v2)))], [], 0⟩) (.exit 0) (fun v2 hv => ?_) (fun hxs11 => ?_)
    · subst hv; clear hl; replace hT := (sElimR hT)
      refine rInHit ?_
      refine rThen ?_
      refine rSeq ?_
      let x1 := (bif v2 then true else (bif (decide (a2 < 7)) then (decide (((3 : Int) / 2 ^ (Int.toNat ((7 : Int) - a2))) = a1)) else false))
      replace hT := sIf hT; obtain ⟨⟨o1, o2, o3, o4, o5⟩, hT⟩ := hT
      refine rRegC md0 hX rfl rfl rfl (by (repeat' first | exact True.intro | with_reducible assumption | (with_reducible apply And.intro) | intro _) <;> first | assumption | exact o1 (by assumption) | exact o2 (by assumption) | exact o3 (by assumption) | exact o4 (by assumption) | exact o5 (by assumption) (by assumption) | exact rfl | omega | exact Nat.le_of_ble_eq_true rfl | exact selF (by assumption) | exact selT (by assumption) | exact And.intro rfl rfl | exact And.intro (by assumption) rfl | exact And.intro (by omega) rfl | (simp only [inK] at *; omega) | (simp_all [sel] <;> fail) | fail) ?_
      refine rThen ?_
      refine rRet ?_
      have hy := Option.some.inj hT; subst hy
      exact zEnd0 hX rfl
    refine rLoopM (tcoef_find_b1 N a1 a2) (fun s1 => ⟨[(0, .v (.c (.int .i64 a1))), (1, .v (.c (.int .i64 a2))), (4, .v (.c (.int .i64 0))), (5, .v (.c (.bool s1.1))), (8, .v (.c (.int .i64 s1.2)))], [], 0⟩) hl (To.mk' [] 0 hε rfl (by repeat' first | exact True.intro | exact rfl | apply And.intro) (by repeat' first | exact True.intro | exact rfl | apply And.intro)) (fun s1 zs1 NNs1 hz hnexts1 houts1 => ?_)
    clear hl hT
    have hT := hz; clear hz
    refine rSeq ?_
    refine zReg md0 hX rfl rfl rfl ?_
    refine rThen ?_
    refine rSeq ?_
    refine zCond rfl rfl (fun hc => ?_) (fun hc => ?_)
    · replace hT := sT hc hT
      refine rSkip ?_
      refine rThen ?_
      refine rSeq ?_
      refine rBlock ?_
      refine rSeq ?_
      refine zReg md0 hX rfl rfl rfl ?_
      refine rThen ?_
      refine rSeq ?_
      replace hT := sIf hT; obtain ⟨⟨o1, o2, o3⟩, hT⟩ := hT
      refine zReg md0 hX rfl rfl rfl ?_
      refine rThen ?_
      refine rBlock ?_
      refine rSeq ?_
      let x3 := (bif (decide ((lensL.getD (s1.2).toNat 0) = a2)) then (decide ((codesL.getD (s1.2).toNat 0) = a1)) else false)
      replace hT := sIf hT; obtain ⟨⟨o1, o2, o3⟩, hT⟩ := hT
      refine rRegC md0 hX rfl rfl rfl (by (repeat' first | exact True.intro | with_reducible assumption | (with_reducible apply And.intro) | intro _) <;> first | assumption | exact o1 (by assumption) | exact o2 (by assumption) | exact o3 (by assumption) | exact rfl | omega | exact Nat.le_of_ble_eq_true rfl | exact selF (by assumption) | exact selT (by assumption) | exact And.intro rfl rfl | exact And.intro (by assumption) rfl | exact And.intro (by omega) rfl | (simp only [inK] at *; omega) | (simp_all [sel] <;> fail) | fail) ?_
      refine rThen ?_
      refine zCond rfl rfl (fun hc => ?_) (fun hc => ?_)
      · replace hT := sT hc hT
        refine rSeq ?_
        refine zReg md0 hX rfl rfl rfl ?_
        refine rThen ?_
        refine rRet ?_
        refine rInRet ?_
        refine rInRet ?_
        refine rThenRet ?_
        refine rThenRet ?_
        exact zTo [] 0 hε (hxs10 _ (houts1 _ (Option.some.inj hT).symm))
      · replace hT := sF hc hT
        refine rSeq ?_
        let x5 := (bif (decide (a2 < (lensL.getD (s1.2).toNat 0))) then (decide (((codesL.getD (s1.2).toNat 0) / 2 ^ (Int.toNat ((lensL.getD (s1.2).toNat 0) - a2))) = a1)) else false)
        replace hT := sIf hT; obtain ⟨⟨o1, o2, o3, o4, o5, o6, o7⟩, hT⟩ := hT
        refine rRegC md0 hX rfl rfl rfl (by (repeat' first | exact True.intro | with_reducible assumption | (with_reducible apply And.intro) | intro _) <;> first | assumption | exact o1 (by assumption) | exact o2 (by assumption) | exact o3 (by assumption) | exact o4 (by assumption) | exact o5 (by assumption) | exact o6 (by assumption) | exact o7 (by assumption) | exact rfl | omega | exact Nat.le_of_ble_eq_true rfl | exact selF (by assumption) | exact selT (by assumption) | exact And.intro rfl rfl | exact And.intro (by assumption) rfl | exact And.intro (by omega) rfl | (simp only [inK] at *; omega) | (simp_all [sel] <;> fail) | fail) ?_
        refine rThen ?_
        refine rJoinK hT (fun v3 => ⟨[(0, .v (.c (.int .i64 a1))), (1, .v (.c (.int .i64 a2))), (4, .v (.c (.int .i64 0))), (5, .v (.c (.bool v3))), (6, .v (.c (.int .i64 s1.2))), (7, .v (.c (.int .i64 (lensL.getD (s1.2).toNat 0)))), (8, .v (.c (.int .i64 s1.2))), (9, .v (.c (.bool (decide (s1.2 < 102))))), (10, .v (.c (.int .i64 s1.2))), (11, .v (.c (.int .i64 s1.2))), (12, .v (.c (.gp 1 0 0 0 1 (s1.2).toNat))), (13, .v (.c (.int .i64 (lensL.getD (s1.2).toNat 0)))), (14, .v (.c (.bool x3))), (15, .v (.c (.int .i64 (lensL.getD (s1.2).toNat 0)))), (16, .v (.c (.int .i64 a2))), (17, .v (.c (.bool (decide ((lensL.getD (s1.2).toNat 0) = a2))))), (18, .v (.c (.bool (decide ((lensL.getD (s1.2).toNat 0) = a2))))), (24, .v (.c (.bool x3))), (26, .v (.c (.bool x5))), (27, .v (.c (.int .i64 (lensL.getD (s1.2).toNat 0)))), (28, .v (.c (.int .i64 a2))), (29, .v (.c (.bool (decide (a2 < (lensL.getD (s1.2).toNat 0)))))), (30, .v (.c (.bool (decide (a2 < (lensL.getD (s1.2).toNat 0)))))), (41, .v (.c (.bool x5)))], [], 0⟩) (fun v3 hT => ?_) (fun k1 hjk1 hT => ?_)
        · skip
          refine rInNormal ?_
          refine rInNormal ?_
          refine rThen ?_
          replace hT := sIf hT; obtain ⟨o1, hT⟩ := hT
          refine zReg md0 hX rfl rfl rfl ?_
          exact hnexts1 _ (Option.some.inj hT).symm _ (To.mk' [] 0 hε rfl (by repeat' first | exact True.intro | exact rfl | apply And.intro) (by repeat' first | exact True.intro | exact rfl | apply And.intro))
        · skip
          refine zCond rfl rfl (fun hc => ?_) (fun hc => ?_)
          · replace hT := sT hc hT
            refine zReg md0 hX rfl rfl rfl ?_
            exact zTo [] 0 hε (hjk1 _ hT)
          · replace hT := sF hc hT
            refine rSkip ?_
            exact zTo [] 0 hε (hjk1 _ hT)
    · replace hT := sF hc hT
      refine rExit ?_
      refine rThenExit ?_
      refine rThenExit ?_
      exact zTo [] 0 hε (hxs11 _ (houts1 _ (Option.some.inj hT).symm))
  · cases h
def tcoef_event_b1 (N : Nat) (s1 : (Int × Bool × Int)) : Option ((Int × Bool × Int) ⊕ (Bool × Int × Int)) :=
  let c1 := (tcoef_many N s1.2.1 s1.2.2)
  if c1.isSome = true then
    bif (decide ((c1.getD default) = 0)) then
      some (.inl (s1.1, true, 0))
    else
      bif (decide (s1.1 < (c1.getD default))) then
        if inK .i64 (s1.1 + 1) then
          some (.inr (s1.2.1, s1.2.2, (s1.1 + 1)))
        else none
      else
        if inK .i64 (s1.1 - (c1.getD default)) then
          if inK .i64 (s1.2.2 + 1) then
            some (.inl ((s1.1 - (c1.getD default)), s1.2.1, (s1.2.2 + 1)))
          else none
        else none
  else none
def tcoef_event (N : Nat) (a1 : Int) : Option (Bool × Int × Int) :=
  (iter (tcoef_event_b1 N) N (a1, false, 0)).bind fun v1 =>
    some (v1.1, v1.2.1, v1.2.2)
def sp_tcoef_event (N : Nat) : X.Spec := fun args lk => match args with
  | [.v (.c (.int .i64 a1))] => some ⟨(tcoef_event N a1).isSome = true, .v (.agg [.cs [.bool ((tcoef_event N a1).getD default).1, .int .i64 ((tcoef_event N a1).getD default).2.1, .int .i64 ((tcoef_event N a1).getD default).2.2]]), [], []⟩
  | _ => none
set_option maxRecDepth 100000 in
set_option maxHeartbeats 1000000 in
theorem ok_tcoef_event (N : Nat) : FnOK Tryd.prog gt0 40 (sp_tcoef_event N) := by
  refine fnOK_handed Tryd.func40 rfl (by kernel_rfl) tt_ok (ktCons (ok_tcoef_many N) (ktNil)) ?_
  intro args lk r h hp
  unfold sp_tcoef_event at h
  split at h
  · rename_i a1
    cases h
    obtain ⟨x, hx⟩ := Option.isSome_iff_exists.1 hp
    simp only [hx, Option.getD_some]
    refine hand0 rfl rfl (fun w0 M ε0 hX => ?_)
    refine rCount (fun hε => ?_)
    have hT : tcoef_event N a1 = some x := hx; clear hx hp; unfold tcoef_event at hT
    refine rSeq ?_
    refine zReg md0 hX rfl rfl rfl ?_
    refine rThen ?_
    refine rSeq ?_
    refine zReg md0 hX rfl rfl rfl ?_
    refine rThen ?_
    refine rSeq ?_
    refine zReg md0 hX rfl rfl rfl ?_
    refine rThen ?_
    refine rBlock ?_
    replace hT := sBind hT; obtain ⟨w1, hl, hT⟩ := hT
    refine rJoinA (fun v1 => v1 = w1) (fun v1 => ⟨[(2, .v (.c (.ptr 0 0 0 0 0 0)))], [(0, .mem true 28 none (.flat [.cs [.bool v1.1, .int .i64 v1.2.1, .int .i64 v1.2.2]]))], 1⟩) .ret (fun v1 hv => ?_) (fun hxs10 => ?_)
    · subst hv; clear hl
      refine rInRet ?_
      have hy := Option.some.inj hT; subst hy
      exact zEnd0 hX rfl
    refine rLoopM (tcoef_event_b1 N) (fun s1 => ⟨[(0, .v (.c (.int .i64 s1.1))), (2, .v (.c (.ptr 0 0 0 0 0 0))), (3, .v (.c (.bool s1.2.1))), (4, .v (.c (.int .i64 s1.2.2)))], [(0, .mem true 28 none (.flat [.cs [.bool false, .int .i64 0, .int .i64 0]]))], 1⟩) hl (To.mk' [] 0 hε rfl (by repeat' first | exact True.intro | exact rfl | apply And.intro) (by repeat' first | exact True.intro | exact rfl | apply And.intro)) (fun s1 zs1 NNs1 hz hnexts1 houts1 => ?_)
    clear hl hT
    have hT := hz; clear hz
    refine rSeq ?_
    refine rBlock ?_
    refine rSeq ?_
    let c1 := (tcoef_many N s1.2.1 s1.2.2)
    replace hT := sIf hT; obtain ⟨o1, hT⟩ := hT
    refine zReg md0 hX rfl rfl rfl ?_
    refine rThen ?_
    refine rSeq ?_
    refine rSeq ?_
    refine zReg md0 hX rfl rfl rfl ?_
    refine rThen ?_
    refine zCond rfl rfl (fun hc => ?_) (fun hc => ?_)
    · replace hT := sT hc hT
      refine rSeq ?_
      refine zReg md0 hX rfl rfl rfl ?_
      refine rThen ?_
      refine rExit ?_
      refine rThenExit ?_
      refine rInHit ?_
      refine rThen ?_
      refine zReg md0 hX rfl rfl rfl ?_
      exact hnexts1 _ (Option.some.inj hT).symm _ (To.mk' [] 0 hε rfl (by repeat' first | exact True.intro | exact rfl | apply And.intro) (by repeat' first | exact True.intro | exact rfl | apply And.intro))
    · replace hT := sF hc hT
      refine rSkip ?_
      refine rThen ?_
      refine rSeq ?_
      refine rSeq ?_
      refine zReg md0 hX rfl rfl rfl ?_
      refine rThen ?_
      refine zCond rfl rfl (fun hc => ?_) (fun hc => ?_)
      · replace hT := sT hc hT
        refine rSeq ?_
        replace hT := sIf hT; obtain ⟨o1, hT⟩ := hT
        refine zReg md0 hX rfl rfl rfl ?_
        refine rThen ?_
        refine rRet ?_
        refine rThenRet ?_
        refine rInRet ?_
        refine rThenRet ?_
        refine rThenRet ?_
        exact zTo [] 0 hε (hxs10 _ (houts1 _ (Option.some.inj hT).symm))
      · replace hT := sF hc hT
        refine rSkip ?_
        refine rThen ?_
        replace hT := sIf hT; obtain ⟨o1, hT⟩ := hT
        refine zReg md0 hX rfl rfl rfl ?_
        refine rInNormal ?_
        refine rThen ?_
        replace hT := sIf hT; obtain ⟨o1, hT⟩ := hT
        refine zReg md0 hX rfl rfl rfl ?_
        exact hnexts1 _ (Option.some.inj hT).symm _ (To.mk' [] 0 hε rfl (by repeat' first | exact True.intro | exact rfl | apply And.intro) (by repeat' first | exact True.intro | exact rfl | apply And.intro))
  · cases h
def tcoef_escaped (N : Nat) (a1 : ByteArray) (a2 : Int) : Option (Bool × Int × Int × Int × ByteArray × Int) :=
  let c1 := (overspill_inbits_Reader_Take N 15 a1 a2)
  if c1.isSome = true then
    bif (decide ((c1.getD default).2.1 ≠ 0)) then
      some (false, 0, 0, (c1.getD default).2.1, (c1.getD default).2.2.1, (c1.getD default).2.2.2)
    else
      if (0 : Int) ≤ (c1.getD default).1 then
        if ((decide ((128 : Int) ≤ ((c1.getD default).1 % 256))) = true → inK .i64 (((c1.getD default).1 % 256) - 256)) then
          let x1 := (bif (decide ((128 : Int) ≤ ((c1.getD default).1 % 256))) then (((c1.getD default).1 % 256) - 256) else ((c1.getD default).1 % 256))
          if (0 : Int) ≤ ((c1.getD default).1 / 2 ^ (Int.toNat 8)) then
            let c2 := (tcoef_Right N (decide (((c1.getD default).1 / 2 ^ (Int.toNat 14)) = 1)) ((Int.toNat ((c1.getD default).1 / 2 ^ (Int.toNat 8)) &&& Int.toNat 63 : Nat) : Int) x1)
            let c3 := (tcoef_place N (decide (((c1.getD default).1 / 2 ^ (Int.toNat 14)) = 1)) ((Int.toNat ((c1.getD default).1 / 2 ^ (Int.toNat 8)) &&& Int.toNat 63 : Nat) : Int) (max x1 (-x1)))
            if c2.isSome = true ∧ ((!(!(c2.getD default))) = true → inK .i64 (-x1)) ∧ ((!(!(c2.getD default))) = true → c3.isSome = true) then
              bif (bif (!(c2.getD default)) then true else (decide ((0 : Int) ≤ (c3.getD default)))) then
                some (false, 0, 0, 7, (c1.getD default).2.2.1, (c1.getD default).2.2.2)
              else
                some ((decide (((c1.getD default).1 / 2 ^ (Int.toNat 14)) = 1)), ((Int.toNat ((c1.getD default).1 / 2 ^ (Int.toNat 8)) &&& Int.toNat 63 : Nat) : Int), x1, 0, (c1.getD default).2.2.1, (c1.getD default).2.2.2)
            else none
          else none
        else none
      else none
  else none
def sp_tcoef_escaped (N : Nat) : X.Spec := fun args lk => match args with
  | [.v (.c (.ptr i0 0 0 0 0 0))] => (match lk i0 with
    | some (.mem true 45 none (.flat [.cs [.str a1, .int .i64 a2]])) => some ⟨(tcoef_escaped N a1 a2).isSome = true, .tup [.agg [.cs [.bool ((tcoef_escaped N a1 a2).getD default).1, .int .i64 ((tcoef_escaped N a1 a2).getD default).2.1, .int .i64 ((tcoef_escaped N a1 a2).getD default).2.2.1]], .c (.int .i64 ((tcoef_escaped N a1 a2).getD default).2.2.2.1)], [], [(i0, .mem true 45 none (.flat [.cs [.str ((tcoef_escaped N a1 a2).getD default).2.2.2.2.1, .int .i64 ((tcoef_escaped N a1 a2).getD default).2.2.2.2.2]]))]⟩
    | _ => none)
  | _ => none
set_option maxRecDepth 100000 in
set_option maxHeartbeats 1000000 in
theorem ok_tcoef_escaped (N : Nat) : FnOK Tryd.prog gt0 38 (sp_tcoef_escaped N) := by
  refine fnOK_handed Tryd.func38 rfl (by kernel_rfl) tt_ok (ktCons (ok_tcoef_place N) (ktCons (ok_tcoef_Right N) (ktCons (ok_overspill_inbits_Reader_Take N) (ktNil)))) ?_
  intro args lk r h hp
  unfold sp_tcoef_escaped at h
  split at h
  · rename_i i0
    split at h
    · rename_i a1 a2 hl0
      cases h
      obtain ⟨x, hx⟩ := Option.isSome_iff_exists.1 hp
      simp only [hx, Option.getD_some]
      refine handL [i0] 1 [(0, .mem true 45 none (.flat [.cs [.str a1, .int .i64 a2]]))] [.v (.c (.ptr 0 0 0 0 0 0))] rfl rfl rfl ⟨isSome_of hl0, trivial⟩ ⟨⟨rfl, (by repeat' first | exact True.intro | exact rfl | exact ⟨_, rfl, rfl⟩ | apply And.intro | exact Or.inl rfl), _, hl0, .inl rfl⟩, trivial⟩ rfl (fun w0 M ε0 hX => ?_)
      refine rCount (fun hε => ?_)
      have hT : tcoef_escaped N a1 a2 = some x := hx; clear hx hp; unfold tcoef_escaped at hT
      refine rSeq ?_
      refine zReg md0 hX rfl rfl rfl ?_
      refine rThen ?_
      refine rSeq ?_
      let c1 := (overspill_inbits_Reader_Take N 15 a1 a2)
      replace hT := sIf hT; obtain ⟨o1, hT⟩ := hT
      refine zReg md0 hX rfl rfl rfl ?_
      refine rThen ?_
      refine rSeq ?_
      refine rSeq ?_
      refine zReg md0 hX rfl rfl rfl ?_
      refine rThen ?_
      refine zCond rfl rfl (fun hc => ?_) (fun hc => ?_)
      · replace hT := sT hc hT
        refine rSeq ?_
        refine zReg md0 hX rfl rfl rfl ?_
        refine rThen ?_
        refine rRet ?_
        refine rThenRet ?_
        have hy := Option.some.inj hT; subst hy
        exact rEndA [] [] [(0, .mem true 45 none (.flat [.cs [.str (c1.getD default).2.2.1, .int .i64 (c1.getD default).2.2.2]]))] (.tup [.agg [.cs [.bool false, .int .i64 0, .int .i64 0]], .c (.int .i64 (c1.getD default).2.1)]) hX rfl (by repeat' first | exact True.intro | exact rfl | apply And.intro | omega | exact Nat.le_of_ble_eq_true rfl) (by repeat' first | exact True.intro | exact rfl | apply And.intro) rfl rfl rfl (by repeat' first | exact True.intro | exact rfl | exact ⟨_, rfl, rfl⟩ | apply And.intro | exact Or.inl rfl) rfl rfl (by repeat' first | exact True.intro | exact rfl | exact ⟨_, rfl, rfl⟩ | apply And.intro | exact Or.inl rfl) rfl rfl
      · replace hT := sF hc hT
        refine rSkip ?_
        refine rThen ?_
        refine rSeq ?_
        replace hT := sIf hT; obtain ⟨o1, hT⟩ := hT
        refine zReg md0 hX rfl rfl rfl ?_
        refine rThen ?_
        refine rSeq ?_
        refine rSeq ?_
        refine zReg md0 hX rfl rfl rfl ?_
        refine rThen ?_
        replace hT := sIf hT; obtain ⟨q1, hT⟩ := hT
        refine rJoin ⟨[(2, .v (.c (.ptr 1 0 0 0 0 0))), (3, .v (.c (.int .i64 0))), (4, .v (.c (.int .i64 (c1.getD default).1))), (6, .v (.c (.int .i64 (bif (decide ((128 : Int) ≤ ((c1.getD default).1 % 256))) then (((c1.getD default).1 % 256) - 256) else ((c1.getD default).1 % 256)))))], [(0, .mem true 45 none (.flat [.cs [.str (c1.getD default).2.2.1, .int .i64 (c1.getD default).2.2.2]])), (1, .mem true 28 none (.flat [.cs [.bool false, .int .i64 0, .int .i64 0]]))], 2⟩ ?_ (fun hj => ?_)
        · skip
          let x1 := (bif (decide ((128 : Int) ≤ ((c1.getD default).1 % 256))) then (((c1.getD default).1 % 256) - 256) else ((c1.getD default).1 % 256))
          refine rThen ?_
          refine rSeq ?_
          replace hT := sIf hT; obtain ⟨o1, hT⟩ := hT
          refine zReg md0 hX rfl rfl rfl ?_
          refine rThen ?_
          refine rSeq ?_
          refine rSeq ?_
          let c2 := (tcoef_Right N (decide (((c1.getD default).1 / 2 ^ (Int.toNat 14)) = 1)) ((Int.toNat ((c1.getD default).1 / 2 ^ (Int.toNat 8)) &&& Int.toNat 63 : Nat) : Int) x1)
          let c3 := (tcoef_place N (decide (((c1.getD default).1 / 2 ^ (Int.toNat 14)) = 1)) ((Int.toNat ((c1.getD default).1 / 2 ^ (Int.toNat 8)) &&& Int.toNat 63 : Nat) : Int) (max x1 (-x1)))
          replace hT := sIf hT; obtain ⟨⟨o1, o2, o3⟩, hT⟩ := hT
          refine rRegC md0 hX rfl rfl rfl (by (repeat' first | exact True.intro | with_reducible assumption | (with_reducible apply And.intro) | intro _) <;> first | assumption | exact o2 (by assumption) | exact o3 (by assumption) | exact rfl | omega | exact Nat.le_of_ble_eq_true rfl | exact selF (by assumption) | exact selT (by assumption) | exact And.intro rfl rfl | exact And.intro (by assumption) rfl | exact And.intro (by omega) rfl | (simp only [inK] at *; omega) | (simp_all [sel] <;> fail) | fail) ?_
          refine rThen ?_
          refine zCond rfl rfl (fun hc => ?_) (fun hc => ?_)
          · replace hT := sT hc hT
            refine rSeq ?_
            refine zReg md0 hX rfl rfl rfl ?_
            refine rThen ?_
            refine rRet ?_
            refine rThenRet ?_
            have hy := Option.some.inj hT; subst hy
            exact rEndA [] [] [(0, .mem true 45 none (.flat [.cs [.str (c1.getD default).2.2.1, .int .i64 (c1.getD default).2.2.2]]))] (.tup [.agg [.cs [.bool false, .int .i64 0, .int .i64 0]], .c (.int .i64 7)]) hX rfl (by repeat' first | exact True.intro | exact rfl | apply And.intro | omega | exact Nat.le_of_ble_eq_true rfl) (by repeat' first | exact True.intro | exact rfl | apply And.intro) rfl rfl rfl (by repeat' first | exact True.intro | exact rfl | exact ⟨_, rfl, rfl⟩ | apply And.intro | exact Or.inl rfl) rfl rfl (by repeat' first | exact True.intro | exact rfl | exact ⟨_, rfl, rfl⟩ | apply And.intro | exact Or.inl rfl) rfl rfl
          · replace hT := sF hc hT
            refine rSkip ?_
            refine rThen ?_
            refine rSeq ?_
            refine zReg md0 hX rfl rfl rfl ?_
            refine rThen ?_
            refine rRet ?_
            have hy := Option.some.inj hT; subst hy
            exact rEndA [] [] [(0, .mem true 45 none (.flat [.cs [.str (c1.getD default).2.2.1, .int .i64 (c1.getD default).2.2.2]]))] (.tup [.agg [.cs [.bool (decide (((c1.getD default).1 / 2 ^ (Int.toNat 14)) = 1)), .int .i64 ((Int.toNat ((c1.getD default).1 / 2 ^ (Int.toNat 8)) &&& Int.toNat 63 : Nat) : Int), .int .i64 x1]], .c (.int .i64 0)]) hX rfl (by repeat' first | exact True.intro | exact rfl | apply And.intro | omega | exact Nat.le_of_ble_eq_true rfl) (by repeat' first | exact True.intro | exact rfl | apply And.intro) rfl rfl rfl (by repeat' first | exact True.intro | exact rfl | exact ⟨_, rfl, rfl⟩ | apply And.intro | exact Or.inl rfl) rfl rfl (by repeat' first | exact True.intro | exact rfl | exact ⟨_, rfl, rfl⟩ | apply And.intro | exact Or.inl rfl) rfl rfl
        · clear hT
          refine zCond rfl rfl (fun hc => ?_) (fun hc => ?_)
          · skip
            have q1 := q1 hc
            refine zReg md0 hX rfl rfl rfl ?_
            exact rTo (To.mk' [] 1 hε rfl (by (repeat' first | exact True.intro | exact rfl | apply And.intro) <;> (repeat' first | exact rfl | refine Eq.trans ?_ (cTr (by assumption)) | refine Eq.trans ?_ (cFr (by assumption)) | refine Eq.trans (cTl (by assumption)) ?_ | refine Eq.trans (cFl (by assumption)) ?_)) (by (repeat' first | exact True.intro | exact rfl | apply And.intro) <;> (repeat' first | exact rfl | refine Eq.trans ?_ (cTr (by assumption)) | refine Eq.trans ?_ (cFr (by assumption)) | refine Eq.trans (cTl (by assumption)) ?_ | refine Eq.trans (cFl (by assumption)) ?_))) hj
          · skip
            refine rSkip ?_
            exact rTo (To.mk' [] 1 hε rfl (by (repeat' first | exact True.intro | exact rfl | apply And.intro) <;> (repeat' first | exact rfl | refine Eq.trans ?_ (cTr (by assumption)) | refine Eq.trans ?_ (cFr (by assumption)) | refine Eq.trans (cTl (by assumption)) ?_ | refine Eq.trans (cFl (by assumption)) ?_)) (by (repeat' first | exact True.intro | exact rfl | apply And.intro) <;> (repeat' first | exact rfl | refine Eq.trans ?_ (cTr (by assumption)) | refine Eq.trans ?_ (cFr (by assumption)) | refine Eq.trans (cTl (by assumption)) ?_ | refine Eq.trans (cFl (by assumption)) ?_))) hj
    · cases h
  · cases h
def tcoef_read_b1 (N : Nat) (s1 : (Int × Int × ByteArray × Int)) : Option ((Int × Int × ByteArray × Int) ⊕ ((Int × Bool × Int × Int × ByteArray × Int) ⊕ (ByteArray × Int))) :=
  bif (decide (s1.2.1 ≤ 12)) then
    let c1 := (overspill_inbits_Reader_Take N 1 s1.2.2.1 s1.2.2.2)
    if c1.isSome = true then
      bif (decide ((c1.getD default).2.1 ≠ 0)) then
        some (.inr (Sum.inl ((c1.getD default).2.1, false, 0, 0, (c1.getD default).2.2.1, (c1.getD default).2.2.2)))
      else
        if inK .i64 (s1.1 * 2 ^ (Int.toNat 1)) ∧ (0 : Int) ≤ (s1.1 * 2 ^ (Int.toNat 1)) ∧ (0 : Int) ≤ (c1.getD default).1 then
          let x2 := (bif (decide (s1.2.1 = 7)) then (decide (((Int.toNat (s1.1 * 2 ^ (Int.toNat 1)) ||| Int.toNat (c1.getD default).1 : Nat) : Int) = 3)) else false)
          bif x2 then
            let c2 := (tcoef_escaped N (c1.getD default).2.2.1 (c1.getD default).2.2.2)
            if c2.isSome = true then
              some (.inr (Sum.inl ((c2.getD default).2.2.2.1, (c2.getD default).1, (c2.getD default).2.1, (c2.getD default).2.2.1, (c2.getD default).2.2.2.2.1, (c2.getD default).2.2.2.2.2)))
            else none
          else
            let c3 := (tcoef_find N ((Int.toNat (s1.1 * 2 ^ (Int.toNat 1)) ||| Int.toNat (c1.getD default).1 : Nat) : Int) s1.2.1)
            if c3.isSome = true then
              bif (decide ((0 : Int) ≤ (c3.getD default).1)) then
                let c4 := (overspill_inbits_Reader_Take N 1 (c1.getD default).2.2.1 (c1.getD default).2.2.2)
                if c4.isSome = true then
                  bif (decide ((c4.getD default).2.1 ≠ 0)) then
                    some (.inr (Sum.inl ((c4.getD default).2.1, false, 0, 0, (c4.getD default).2.2.1, (c4.getD default).2.2.2)))
                  else
                    let c5 := (tcoef_event N (c3.getD default).1)
                    if c5.isSome = true then
                      if inK .i64 ((2 : Int) * (c4.getD default).1) ∧ inK .i64 ((1 : Int) - ((2 : Int) * (c4.getD default).1)) ∧ inK .i64 ((c5.getD default).2.2 * ((1 : Int) - ((2 : Int) * (c4.getD default).1))) then
                        some (.inr (Sum.inl (0, (c5.getD default).1, (c5.getD default).2.1, ((c5.getD default).2.2 * ((1 : Int) - ((2 : Int) * (c4.getD default).1))), (c4.getD default).2.2.1, (c4.getD default).2.2.2)))
                      else none
                    else none
                else none
              else
                bif (!(c3.getD default).2) then
                  some (.inr (Sum.inr ((c1.getD default).2.2.1, (c1.getD default).2.2.2)))
                else
                  if inK .i64 (s1.2.1 + 1) then
                    some (.inl (((Int.toNat (s1.1 * 2 ^ (Int.toNat 1)) ||| Int.toNat (c1.getD default).1 : Nat) : Int), (s1.2.1 + 1), (c1.getD default).2.2.1, (c1.getD default).2.2.2))
                  else none
            else none
        else none
    else none
  else
    some (.inr (Sum.inr (s1.2.2.1, s1.2.2.2)))
def tcoef_read (N : Nat) (a1 : ByteArray) (a2 : Int) : Option (Bool × Int × Int × Int × ByteArray × Int) :=
  (iter (tcoef_read_b1 N) N (0, 1, a1, a2)).bind fun w1 =>
    (Sum.elim (fun v1 =>
      some (v1.2.1, v1.2.2.1, v1.2.2.2.1, v1.1, v1.2.2.2.2.1, v1.2.2.2.2.2)
    )
      (fun v2 =>
        some (false, 0, 0, 3, v2.1, v2.2)
      )
    ) w1
def sp_tcoef_read (N : Nat) : X.Spec := fun args lk => match args with
  | [.v (.c (.ptr i0 0 0 0 0 0))] => (match lk i0 with
    | some (.mem true 45 none (.flat [.cs [.str a1, .int .i64 a2]])) => some ⟨(tcoef_read N a1 a2).isSome = true, .tup [.agg [.cs [.bool ((tcoef_read N a1 a2).getD default).1, .int .i64 ((tcoef_read N a1 a2).getD default).2.1, .int .i64 ((tcoef_read N a1 a2).getD default).2.2.1]], .c (.int .i64 ((tcoef_read N a1 a2).getD default).2.2.2.1)], [], [(i0, .mem true 45 none (.flat [.cs [.str ((tcoef_read N a1 a2).getD default).2.2.2.2.1, .int .i64 ((tcoef_read N a1 a2).getD default).2.2.2.2.2]]))]⟩
    | _ => none)
  | _ => none
set_option maxRecDepth 100000 in
set_option maxHeartbeats 1000000 in
theorem ok_tcoef_read (N : Nat) : FnOK Tryd.prog gt0 17 (sp_tcoef_read N) := by
  refine fnOK_handed Tryd.func17 rfl (by kernel_rfl) tt_ok (ktCons (ok_tcoef_event N) (ktCons (ok_tcoef_find N) (ktCons (ok_tcoef_escaped N) (ktCons (ok_overspill_inbits_Reader_Take N) (ktNil))))) ?_
  intro args lk r h hp
  unfold sp_tcoef_read at h
  split at h
  · rename_i i0
    split at h
    · rename_i a1 a2 hl0
      cases h
      obtain ⟨x, hx⟩ := Option.isSome_iff_exists.1 hp
      simp only [hx, Option.getD_some]
      refine handL [i0] 1 [(0, .mem true 45 none (.flat [.cs [.str a1, .int .i64 a2]]))] [.v (.c (.ptr 0 0 0 0 0 0))] rfl rfl rfl ⟨isSome_of hl0, trivial⟩ ⟨⟨rfl, (by repeat' first | exact True.intro | exact rfl | exact ⟨_, rfl, rfl⟩ | apply And.intro | exact Or.inl rfl), _, hl0, .inl rfl⟩, trivial⟩ rfl (fun w0 M ε0 hX => ?_)
      refine rCount (fun hε => ?_)
      have hT : tcoef_read N a1 a2 = some x := hx; clear hx hp; unfold tcoef_read at hT
      refine rSeq ?_
      refine zReg md0 hX rfl rfl rfl ?_
      refine rThen ?_
      refine rSeq ?_
      refine rSeq ?_
      refine zReg md0 hX rfl rfl rfl ?_
      refine rThen ?_
      refine rBlock ?_
      replace hT := sBind hT; obtain ⟨w1, hl, hT⟩ := hT
      refine rJoinA (fun v1 => (Sum.inl v1) = w1) (fun v1 => ⟨[(2, .v (.c (.ptr 1 0 0 0 0 0))), (3, .v (.c (.int .i64 v1.1)))], [(0, .mem true 45 none (.flat [.cs [.str v1.2.2.2.2.1, .int .i64 v1.2.2.2.2.2]])), (1, .mem true 28 none (.flat [.cs [.bool v1.2.1, .int .i64 v1.2.2.1, .int .i64 v1.2.2.2.1]]))], 2⟩) .ret (fun v1 hv => ?_) (fun hxs10 => ?_)
      · subst hv; clear hl; replace hT := (sElimL hT)
        refine rInRet ?_
        refine rThenRet ?_
        have hy := Option.some.inj hT; subst hy
        exact rEndA [] [] [(0, .mem true 45 none (.flat [.cs [.str v1.2.2.2.2.1, .int .i64 v1.2.2.2.2.2]]))] (.tup [.agg [.cs [.bool v1.2.1, .int .i64 v1.2.2.1, .int .i64 v1.2.2.2.1]], .c (.int .i64 v1.1)]) hX rfl (by repeat' first | exact True.intro | exact rfl | apply And.intro | omega | exact Nat.le_of_ble_eq_true rfl) (by repeat' first | exact True.intro | exact rfl | apply And.intro) rfl rfl rfl (by repeat' first | exact True.intro | exact rfl | exact ⟨_, rfl, rfl⟩ | apply And.intro | exact Or.inl rfl) rfl rfl (by repeat' first | exact True.intro | exact rfl | exact ⟨_, rfl, rfl⟩ | apply And.intro | exact Or.inl rfl) rfl rfl
      refine rJoinA (fun v2 => (Sum.inr v2) = w1) (fun v2 => ⟨[(2, .v (.c (.ptr 1 0 0 0 0 0))), (3, .v (.c (.int .i64 0)))], [(0, .mem true 45 none (.flat [.cs [.str v2.1, .int .i64 v2.2]])), (1, .mem true 28 none (.flat [.cs [.bool false, .int .i64 0, .int .i64 0]]))], 2⟩) (.exit 0) (fun v2 hv => ?_) (fun hxs11 => ?_)
      · subst hv; clear hl; replace hT := (sElimR hT)
        refine rInHit ?_
        refine rThen ?_
        refine rSeq ?_
        refine zReg md0 hX rfl rfl rfl ?_
        refine rThen ?_
        refine rRet ?_
        have hy := Option.some.inj hT; subst hy
        exact rEndA [] [] [(0, .mem true 45 none (.flat [.cs [.str v2.1, .int .i64 v2.2]]))] (.tup [.agg [.cs [.bool false, .int .i64 0, .int .i64 0]], .c (.int .i64 3)]) hX rfl (by repeat' first | exact True.intro | exact rfl | apply And.intro | omega | exact Nat.le_of_ble_eq_true rfl) (by repeat' first | exact True.intro | exact rfl | apply And.intro) rfl rfl rfl (by repeat' first | exact True.intro | exact rfl | exact ⟨_, rfl, rfl⟩ | apply And.intro | exact Or.inl rfl) rfl rfl (by repeat' first | exact True.intro | exact rfl | exact ⟨_, rfl, rfl⟩ | apply And.intro | exact Or.inl rfl) rfl rfl
      refine rLoopM (tcoef_read_b1 N) (fun s1 => ⟨[(0, .v (.c (.ptr 0 0 0 0 0 0))), (2, .v (.c (.ptr 1 0 0 0 0 0))), (3, .v (.c (.int .i64 0))), (4, .v (.c (.int .i64 s1.1))), (5, .v (.c (.int .i64 s1.2.1)))], [(0, .mem true 45 none (.flat [.cs [.str s1.2.2.1, .int .i64 s1.2.2.2]])), (1, .mem true 28 none (.flat [.cs [.bool false, .int .i64 0, .int .i64 0]]))], 2⟩) hl (To.mk' [] 1 hε rfl (by repeat' first | exact True.intro | exact rfl | apply And.intro) (by repeat' first | exact True.intro | exact rfl | apply And.intro)) (fun s1 zs1 NNs1 hz hnexts1 houts1 => ?_)
      clear hl hT
      have hT := hz; clear hz
      refine rSeq ?_
      refine rSeq ?_
      refine zReg md0 hX rfl rfl rfl ?_
      refine rThen ?_
      refine zCond rfl rfl (fun hc => ?_) (fun hc => ?_)
      · replace hT := sT hc hT
        refine rSkip ?_
        refine rThen ?_
        refine rSeq ?_
        refine rBlock ?_
        refine rSeq ?_
        let c1 := (overspill_inbits_Reader_Take N 1 s1.2.2.1 s1.2.2.2)
        replace hT := sIf hT; obtain ⟨o1, hT⟩ := hT
        refine zReg md0 hX rfl rfl rfl ?_
        refine rThen ?_
        refine rSeq ?_
        refine rSeq ?_
        refine zReg md0 hX rfl rfl rfl ?_
        refine rThen ?_
        refine zCond rfl rfl (fun hc => ?_) (fun hc => ?_)
        · replace hT := sT hc hT
          refine rSeq ?_
          refine zReg md0 hX rfl rfl rfl ?_
          refine rThen ?_
          refine rRet ?_
          refine rThenRet ?_
          refine rInRet ?_
          refine rThenRet ?_
          refine rThenRet ?_
          exact zTo [] 1 hε (hxs10 _ (houts1 _ (Option.some.inj hT).symm))
        · replace hT := sF hc hT
          refine rSkip ?_
          refine rThen ?_
          refine rSeq ?_
          replace hT := sIf hT; obtain ⟨⟨o1, o2, o3⟩, hT⟩ := hT
          refine zReg md0 hX rfl rfl rfl ?_
          refine rThen ?_
          refine rSeq ?_
          refine rSeq ?_
          let x2 := (bif (decide (s1.2.1 = 7)) then (decide (((Int.toNat (s1.1 * 2 ^ (Int.toNat 1)) ||| Int.toNat (c1.getD default).1 : Nat) : Int) = 3)) else false)
          refine zReg md0 hX rfl rfl rfl ?_
          refine rThen ?_
          refine zCond rfl rfl (fun hc => ?_) (fun hc => ?_)
          · replace hT := sT hc hT
            refine rSeq ?_
            let c2 := (tcoef_escaped N (c1.getD default).2.2.1 (c1.getD default).2.2.2)
            replace hT := sIf hT; obtain ⟨o1, hT⟩ := hT
            refine zReg md0 hX rfl rfl rfl ?_
            refine rThen ?_
            refine rRet ?_
            refine rThenRet ?_
            refine rInRet ?_
            refine rThenRet ?_
            refine rThenRet ?_
            exact zTo [] 1 hε (hxs10 _ (houts1 _ (Option.some.inj hT).symm))
          · replace hT := sF hc hT
            refine rSkip ?_
            refine rThen ?_
            refine rSeq ?_
            let c3 := (tcoef_find N ((Int.toNat (s1.1 * 2 ^ (Int.toNat 1)) ||| Int.toNat (c1.getD default).1 : Nat) : Int) s1.2.1)
            replace hT := sIf hT; obtain ⟨o1, hT⟩ := hT
            refine zReg md0 hX rfl rfl rfl ?_
            refine rThen ?_
            refine rSeq ?_
            refine rSeq ?_
            refine zReg md0 hX rfl rfl rfl ?_
            refine rThen ?_
            refine zCond rfl rfl (fun hc => ?_) (fun hc => ?_)
            · replace hT := sT hc hT
              refine rSeq ?_
              let c4 := (overspill_inbits_Reader_Take N 1 (c1.getD default).2.2.1 (c1.getD default).2.2.2)
              replace hT := sIf hT; obtain ⟨o1, hT⟩ := hT
              refine zReg md0 hX rfl rfl rfl ?_
              refine rThen ?_
              refine rSeq ?_
              refine rSeq ?_
              refine zReg md0 hX rfl rfl rfl ?_
              refine rThen ?_
              refine zCond rfl rfl (fun hc => ?_) (fun hc => ?_)
              · replace hT := sT hc hT
                refine rSeq ?_
                refine zReg md0 hX rfl rfl rfl ?_
                refine rThen ?_
                refine rRet ?_
                refine rThenRet ?_
                refine rThenRet ?_
                refine rInRet ?_
                refine rThenRet ?_
                refine rThenRet ?_
                exact zTo [] 1 hε (hxs10 _ (houts1 _ (Option.some.inj hT).symm))
              · replace hT := sF hc hT
                refine rSkip ?_
                refine rThen ?_
                refine rSeq ?_
                let c5 := (tcoef_event N (c3.getD default).1)
                replace hT := sIf hT; obtain ⟨o1, hT⟩ := hT
                refine zReg md0 hX rfl rfl rfl ?_
                refine rThen ?_
                refine rSeq ?_
                replace hT := sIf hT; obtain ⟨⟨o1, o2, o3⟩, hT⟩ := hT
                refine zReg md0 hX rfl rfl rfl ?_
                refine rThen ?_
                refine rSeq ?_
                refine zReg md0 hX rfl rfl rfl ?_
                refine rThen ?_
                refine rRet ?_
                refine rThenRet ?_
                refine rInRet ?_
                refine rThenRet ?_
                refine rThenRet ?_
                exact zTo [] 1 hε (hxs10 _ (houts1 _ (Option.some.inj hT).symm))
            · replace hT := sF hc hT
              refine rSkip ?_
              refine rThen ?_
              refine rSeq ?_
              refine zReg md0 hX rfl rfl rfl ?_
              refine rThen ?_
              refine zCond rfl rfl (fun hc => ?_) (fun hc => ?_)
              · replace hT := sT hc hT
                refine rExit ?_
                refine rInMiss rfl ?_
                refine rThenExit ?_
                refine rThenExit ?_
                exact zTo [] 1 hε (hxs11 _ (houts1 _ (Option.some.inj hT).symm))
              · replace hT := sF hc hT
                refine rSkip ?_
                refine rInNormal ?_
                refine rThen ?_
                replace hT := sIf hT; obtain ⟨o1, hT⟩ := hT
                refine zReg md0 hX rfl rfl rfl ?_
                exact hnexts1 _ (Option.some.inj hT).symm _ (To.mk' [] 1 hε rfl (by repeat' first | exact True.intro | exact rfl | apply And.intro) (by repeat' first | exact True.intro | exact rfl | apply And.intro))
      · replace hT := sF hc hT
        refine rExit ?_
        refine rThenExit ?_
        refine rThenExit ?_
        exact zTo [] 1 hε (hxs11 _ (houts1 _ (Option.some.inj hT).symm))
    · cases h
  · cases h
def tcoef_Take (N : Nat) (a1 : ByteArray) (a2 : Int) : Option (Bool × Int × Int × Int × ByteArray × Int) :=
  let c1 := (overspill_inbits_Reader_At N a1 a2)
  if c1.isSome = true then
    let c2 := (tcoef_read N a1 a2)
    if c2.isSome = true then
      let c3 := (overspill_inbits_Reader_Seek N (c1.getD default) (c2.getD default).2.2.2.2.1 (c2.getD default).2.2.2.2.2)
      if ((decide ((c2.getD default).2.2.2.1 ≠ 0)) = true → c3.isSome = true) then
        let x1 := (bif (decide ((c2.getD default).2.2.2.1 ≠ 0)) then (c3.getD default).2.1 else (c2.getD default).2.2.2.2.1)
        let x2 := (bif (decide ((c2.getD default).2.2.2.1 ≠ 0)) then (c3.getD default).2.2 else (c2.getD default).2.2.2.2.2)
        some ((c2.getD default).1, (c2.getD default).2.1, (c2.getD default).2.2.1, (c2.getD default).2.2.2.1, x1, x2)
      else none
    else none
  else none
def sp_tcoef_Take (N : Nat) : X.Spec := fun args lk => match args with
  | [.v (.c (.ptr i0 0 0 0 0 0))] => (match lk i0 with
    | some (.mem true 45 none (.flat [.cs [.str a1, .int .i64 a2]])) => some ⟨(tcoef_Take N a1 a2).isSome = true, .tup [.agg [.cs [.bool ((tcoef_Take N a1 a2).getD default).1, .int .i64 ((tcoef_Take N a1 a2).getD default).2.1, .int .i64 ((tcoef_Take N a1 a2).getD default).2.2.1]], .c (.int .i64 ((tcoef_Take N a1 a2).getD default).2.2.2.1)], [], [(i0, .mem true 45 none (.flat [.cs [.str ((tcoef_Take N a1 a2).getD default).2.2.2.2.1, .int .i64 ((tcoef_Take N a1 a2).getD default).2.2.2.2.2]]))]⟩
    | _ => none)
  | _ => none
set_option maxRecDepth 100000 in
set_option maxHeartbeats 1000000 in
theorem ok_tcoef_Take (N : Nat) : FnOK Tryd.prog gt0 8 (sp_tcoef_Take N) := by
  refine fnOK_handed Tryd.func8 rfl (by kernel_rfl) tt_ok (ktCons (ok_overspill_inbits_Reader_Seek N) (ktCons (ok_tcoef_read N) (ktCons (ok_overspill_inbits_Reader_At N) (ktNil)))) ?_
  intro args lk r h hp
  unfold sp_tcoef_Take at h
  split at h
  · rename_i i0
    split at h
    · rename_i a1 a2 hl0
      cases h
      obtain ⟨x, hx⟩ := Option.isSome_iff_exists.1 hp
      simp only [hx, Option.getD_some]
      refine handL [i0] 1 [(0, .mem true 45 none (.flat [.cs [.str a1, .int .i64 a2]]))] [.v (.c (.ptr 0 0 0 0 0 0))] rfl rfl rfl ⟨isSome_of hl0, trivial⟩ ⟨⟨rfl, (by repeat' first | exact True.intro | exact rfl | exact ⟨_, rfl, rfl⟩ | apply And.intro | exact Or.inl rfl), _, hl0, .inl rfl⟩, trivial⟩ rfl (fun w0 M ε0 hX => ?_)
      refine rCount (fun hε => ?_)
      have hT : tcoef_Take N a1 a2 = some x := hx; clear hx hp; unfold tcoef_Take at hT
      refine rSeq ?_
      refine zReg md0 hX rfl rfl rfl ?_
      refine rThen ?_
      refine rSeq ?_
      refine rSeq ?_
      refine zReg md0 hX rfl rfl rfl ?_
      refine rThen ?_
      refine rCondF rfl rfl (by (repeat' first | exact True.intro | with_reducible assumption | (with_reducible apply And.intro) | intro _) <;> first | assumption | exact rfl | omega | exact Nat.le_of_ble_eq_true rfl | exact selF (by assumption) | exact selT (by assumption) | exact And.intro rfl rfl | exact And.intro (by assumption) rfl | exact And.intro (by omega) rfl | (simp only [inK] at *; omega) | (simp_all [sel] <;> fail) | fail) rfl ?_
      refine rSkip ?_
      refine rThen ?_
      refine rSeq ?_
      let c1 := (overspill_inbits_Reader_At N a1 a2)
      replace hT := sIf hT; obtain ⟨o1, hT⟩ := hT
      refine zReg md0 hX rfl rfl rfl ?_
      refine rThen ?_
      refine rSeq ?_
      let c2 := (tcoef_read N a1 a2)
      replace hT := sIf hT; obtain ⟨o1, hT⟩ := hT
      refine zReg md0 hX rfl rfl rfl ?_
      refine rThen ?_
      refine rSeq ?_
      refine rSeq ?_
      refine zReg md0 hX rfl rfl rfl ?_
      refine rThen ?_
      let c3 := (overspill_inbits_Reader_Seek N (c1.getD default) (c2.getD default).2.2.2.2.1 (c2.getD default).2.2.2.2.2)
      replace hT := sIf hT; obtain ⟨q1, hT⟩ := hT
      refine rJoin ⟨[(2, .v (.c (.ptr 1 0 0 0 0 0))), (3, .v (.c (.int .i64 0))), (5, .v (.c (.ptr 2 0 0 0 0 0))), (6, .v (.c (.int .i64 (c2.getD default).2.2.2.1)))], [(0, .mem true 45 none (.flat [.cs [.str (bif (decide ((c2.getD default).2.2.2.1 ≠ 0)) then (c3.getD default).2.1 else (c2.getD default).2.2.2.2.1), .int .i64 (bif (decide ((c2.getD default).2.2.2.1 ≠ 0)) then (c3.getD default).2.2 else (c2.getD default).2.2.2.2.2)]])), (1, .mem true 28 none (.flat [.cs [.bool false, .int .i64 0, .int .i64 0]])), (2, .mem true 28 none (.flat [.cs [.bool (c2.getD default).1, .int .i64 (c2.getD default).2.1, .int .i64 (c2.getD default).2.2.1]]))], 3⟩ ?_ (fun hj => ?_)
      · skip
        let x1 := (bif (decide ((c2.getD default).2.2.2.1 ≠ 0)) then (c3.getD default).2.1 else (c2.getD default).2.2.2.2.1)
        let x2 := (bif (decide ((c2.getD default).2.2.2.1 ≠ 0)) then (c3.getD default).2.2 else (c2.getD default).2.2.2.2.2)
        refine rThen ?_
        refine rSeq ?_
        refine zReg md0 hX rfl rfl rfl ?_
        refine rThen ?_
        refine rRet ?_
        have hy := Option.some.inj hT; subst hy
        exact rEndA [] [] [(0, .mem true 45 none (.flat [.cs [.str x1, .int .i64 x2]]))] (.tup [.agg [.cs [.bool (c2.getD default).1, .int .i64 (c2.getD default).2.1, .int .i64 (c2.getD default).2.2.1]], .c (.int .i64 (c2.getD default).2.2.2.1)]) hX rfl (by repeat' first | exact True.intro | exact rfl | apply And.intro | omega | exact Nat.le_of_ble_eq_true rfl) (by repeat' first | exact True.intro | exact rfl | apply And.intro) rfl rfl rfl (by repeat' first | exact True.intro | exact rfl | exact ⟨_, rfl, rfl⟩ | apply And.intro | exact Or.inl rfl) rfl rfl (by repeat' first | exact True.intro | exact rfl | exact ⟨_, rfl, rfl⟩ | apply And.intro | exact Or.inl rfl) rfl rfl
      · clear hT
        refine zCond rfl rfl (fun hc => ?_) (fun hc => ?_)
        · skip
          have q1 := q1 hc
          refine zReg md0 hX rfl rfl rfl ?_
          exact rTo (To.mk' [] 1 hε rfl (by (repeat' first | exact True.intro | exact rfl | apply And.intro) <;> (repeat' first | exact rfl | refine Eq.trans ?_ (cTr (by assumption)) | refine Eq.trans ?_ (cFr (by assumption)) | refine Eq.trans (cTl (by assumption)) ?_ | refine Eq.trans (cFl (by assumption)) ?_)) (by (repeat' first | exact True.intro | exact rfl | apply And.intro) <;> (repeat' first | exact rfl | refine Eq.trans ?_ (cTr (by assumption)) | refine Eq.trans ?_ (cFr (by assumption)) | refine Eq.trans (cTl (by assumption)) ?_ | refine Eq.trans (cFl (by assumption)) ?_))) hj
        · skip
          refine rSkip ?_
          exact rTo (To.mk' [] 1 hε rfl (by (repeat' first | exact True.intro | exact rfl | apply And.intro) <;> (repeat' first | exact rfl | refine Eq.trans ?_ (cTr (by assumption)) | refine Eq.trans ?_ (cFr (by assumption)) | refine Eq.trans (cTl (by assumption)) ?_ | refine Eq.trans (cFl (by assumption)) ?_)) (by (repeat' first | exact True.intro | exact rfl | apply And.intro) <;> (repeat' first | exact rfl | refine Eq.trans ?_ (cTr (by assumption)) | refine Eq.trans ?_ (cFr (by assumption)) | refine Eq.trans (cTl (by assumption)) ?_ | refine Eq.trans (cFl (by assumption)) ?_))) hj
    · cases h
  · cases h
def blocks_events_b1 (N : Nat) (s2 : (Int × Nat × ByteArray × Int × (List (Bool × (Int × Int))))) : Option ((Int × Nat × ByteArray × Int × (List (Bool × (Int × Int)))) ⊕ ((Int × ByteArray × Int) ⊕ (Nat × (List (Bool × (Int × Int))) × ByteArray × Int))) :=
  let c1 := (tcoef_Take N s2.2.2.1 s2.2.2.2.1)
  if c1.isSome = true then
    bif (decide ((c1.getD default).2.2.2.1 ≠ 0)) then
      some (.inr (Sum.inl ((c1.getD default).2.2.2.1, (c1.getD default).2.2.2.2.1, (c1.getD default).2.2.2.2.2)))
    else
      if inK .i64 ((c1.getD default).2.1 + 1) ∧ inK .i64 (s2.1 + ((c1.getD default).2.1 + 1)) then
        bif (decide ((64 : Int) < (s2.1 + ((c1.getD default).2.1 + 1)))) then
          some (.inr (Sum.inl (7, (c1.getD default).2.2.2.2.1, (c1.getD default).2.2.2.2.2)))
        else
          if s2.2.2.2.2.length = s2.2.1 ∧ (s2.2.1 + 1) * 24 ≤ 140737488355328 ∧ s2.2.1 + 1 ≤ 9223372036854775807 then
            bif (c1.getD default).1 then
              some (.inr (Sum.inr ((s2.2.1 + 1), (s2.2.2.2.2 ++ [((c1.getD default).1, ((c1.getD default).2.1, (c1.getD default).2.2.1))]), (c1.getD default).2.2.2.2.1, (c1.getD default).2.2.2.2.2)))
            else
              some (.inl ((s2.1 + ((c1.getD default).2.1 + 1)), (s2.2.1 + 1), (c1.getD default).2.2.2.2.1, (c1.getD default).2.2.2.2.2, (s2.2.2.2.2 ++ [((c1.getD default).1, ((c1.getD default).2.1, (c1.getD default).2.2.1))])))
          else none
      else none
  else none
def blocks_events (N : Nat) (a1 : Int) (a2 : ByteArray) (a3 : Int) : Option ((List (Bool × (Int × Int))) × Int × ByteArray × Int) :=
  (iter (blocks_events_b1 N) N (a1, 0, a2, a3, [])).bind fun w1 =>
    (Sum.elim (fun v1 =>
      some ([], v1.1, v1.2.1, v1.2.2)
    )
      (fun v2 =>
        if v2.1 = v2.2.1.length then
          some (v2.2.1, 0, v2.2.2.1, v2.2.2.2)
        else none
      )
    ) w1
def sp_blocks_events (N : Nat) : X.Spec := fun args lk => match args with
  | [.v (.c (.ptr i0 0 0 0 0 0)), .v (.c (.int .i64 a1))] => (match lk i0 with
    | some (.mem true 45 none (.flat [.cs [.str a2, .int .i64 a3]])) => some ⟨(blocks_events N a1 a2 a3).isSome = true, .tup [.c (.fz (.pair .bool (.pair (.int .i64) (.int .i64))) ((blocks_events N a1 a2 a3).getD default).1), .c (.int .i64 ((blocks_events N a1 a2 a3).getD default).2.1)], [], [(i0, .mem true 45 none (.flat [.cs [.str ((blocks_events N a1 a2 a3).getD default).2.2.1, .int .i64 ((blocks_events N a1 a2 a3).getD default).2.2.2]]))]⟩
    | _ => none)
  | _ => none
set_option maxRecDepth 100000 in
set_option maxHeartbeats 1000000 in
theorem ok_blocks_events (N : Nat) : FnOK Tryd.prog gt0 30 (sp_blocks_events N) := by
  refine fnOK_handed Tryd.func30 rfl (by kernel_rfl) tt_ok (ktCons (ok_tcoef_Take N) (ktNil)) ?_
  intro args lk r h hp
  unfold sp_blocks_events at h
  split at h
  · rename_i i0 a1
    split at h
    · rename_i a2 a3 hl0
      cases h
      obtain ⟨x, hx⟩ := Option.isSome_iff_exists.1 hp
      simp only [hx, Option.getD_some]
      refine handL [i0] 1 [(0, .mem true 45 none (.flat [.cs [.str a2, .int .i64 a3]]))] [.v (.c (.ptr 0 0 0 0 0 0)), .v (.c (.int .i64 a1))] rfl rfl rfl ⟨isSome_of hl0, trivial⟩ ⟨⟨rfl, (by repeat' first | exact True.intro | exact rfl | exact ⟨_, rfl, rfl⟩ | apply And.intro | exact Or.inl rfl), _, hl0, .inl rfl⟩, trivial⟩ rfl (fun w0 M ε0 hX => ?_)
      refine rCount (fun hε => ?_)
      have hT : blocks_events N a1 a2 a3 = some x := hx; clear hx hp; unfold blocks_events at hT
      refine rSeq ?_
      refine zReg md0 hX rfl rfl rfl ?_
      refine rThen ?_
      refine rScope ?_
      refine rSeq ?_
      refine zReg md0 hX rfl rfl rfl ?_
      refine rThen ?_
      refine rSeq ?_
      refine rLabel ?_
      refine rThen ?_
      refine rSeq ?_
      refine rBlock ?_
      refine rNil 28 3 (.lst (.pair .bool (.pair (.int .i64) (.int .i64))) []) [(0, .v (.c (.ptr 0 0 0 0 0 0))), (1, .v (.c (.int .i64 a1))), (4, .v (.c (.val (.slice none 0 0)))), (5, .v (.c (.int .i64 0))), (6, .v (.c (.sl 1 0 0 3)))] [(0, .mem true 45 none (.flat [.cs [.str a2, .int .i64 a3]]))] (nil_lst _) (by (repeat' first | exact True.intro | exact rfl | apply And.intro) <;> first | assumption | rfl) (by (repeat' first | exact True.intro | exact rfl | apply And.intro) <;> first | assumption | rfl) ?_
      replace hT := sBind hT; obtain ⟨w1, hl, hT⟩ := hT
      refine rJoinA (fun v1 => (Sum.inl v1) = w1) (fun v1 => ⟨[(4, .v (.c (.val (.slice none 0 0)))), (5, .v (.c (.int .i64 v1.1)))], [(0, .mem true 45 none (.flat [.cs [.str v1.2.1, .int .i64 v1.2.2]]))], 2⟩) .ret (fun v1 hv => ?_) (fun hxs20 => ?_)
      · subst hv; clear hl; replace hT := (sElimL hT)
        refine rInRet ?_
        refine rThenRet ?_
        refine rNoGotoRet ?_
        have hy := Option.some.inj hT; subst hy
        exact rEndA [] [] [(0, .mem true 45 none (.flat [.cs [.str v1.2.1, .int .i64 v1.2.2]]))] (.tup [.c (.fz (.pair .bool (.pair (.int .i64) (.int .i64))) []), .c (.int .i64 v1.1)]) hX rfl (by repeat' first | exact True.intro | exact rfl | apply And.intro | omega | exact Nat.le_of_ble_eq_true rfl) (by repeat' first | exact True.intro | exact rfl | apply And.intro) rfl rfl rfl (by repeat' first | exact True.intro | exact rfl | exact ⟨_, rfl, rfl⟩ | apply And.intro | exact Or.inl rfl) rfl rfl (by repeat' first | exact True.intro | exact rfl | exact ⟨_, rfl, rfl⟩ | apply And.intro | exact Or.inl rfl) rfl rfl
      refine rJoinA (fun v2 => (Sum.inr v2) = w1) (fun v2 => ⟨[(4, .v (.c (.val (.slice none 0 0)))), (5, .v (.c (.int .i64 0))), (6, .v (.c (.sl 4 0 v2.1 3)))], [(0, .mem true 45 none (.flat [.cs [.str v2.2.2.1, .int .i64 v2.2.2.2]])), (4, .mem true 28 (some 3) (.lst (.pair .bool (.pair (.int .i64) (.int .i64))) v2.2.1))], 5⟩) (.exit 0) (fun v2 hv => ?_) (fun hxs21 => ?_)
      · subst hv; clear hl; replace hT := (sElimR hT)
        refine rInHit ?_
        refine rThen ?_
        refine rSeq ?_
        refine zReg md0 hX rfl rfl rfl ?_
        refine rThen ?_
        refine rRet ?_
        refine rNoGotoRet ?_
        replace hT := sIf hT; obtain ⟨p1, hT⟩ := hT
        refine rFreezeQ 4 (.pair .bool (.pair (.int .i64) (.int .i64))) v2.2.1 [(4, .v (.c (.fz (.pair .bool (.pair (.int .i64) (.int .i64))) v2.2.1))), (5, .v (.c (.int .i64 0)))] [(0, .mem true 45 none (.flat [.cs [.str v2.2.2.1, .int .i64 v2.2.2.2]]))] rfl rfl (by (repeat' first | exact True.intro | exact rfl | apply And.intro) <;> first | assumption | rfl) (by (repeat' first | exact True.intro | exact rfl | apply And.intro) <;> first | assumption | rfl) ?_
        have hy := Option.some.inj hT; subst hy
        exact rEndA [] [] [(0, .mem true 45 none (.flat [.cs [.str v2.2.2.1, .int .i64 v2.2.2.2]]))] (.tup [.c (.fz (.pair .bool (.pair (.int .i64) (.int .i64))) v2.2.1), .c (.int .i64 0)]) hX rfl (by repeat' first | exact True.intro | exact rfl | apply And.intro | omega | exact Nat.le_of_ble_eq_true rfl) (by repeat' first | exact True.intro | exact rfl | apply And.intro) rfl rfl rfl (by repeat' first | exact True.intro | exact rfl | exact ⟨_, rfl, rfl⟩ | apply And.intro | exact Or.inl rfl) rfl rfl (by repeat' first | exact True.intro | exact rfl | exact ⟨_, rfl, rfl⟩ | apply And.intro | exact Or.inl rfl) rfl rfl
      refine rLoopM (blocks_events_b1 N) (fun s2 => ⟨[(0, .v (.c (.ptr 0 0 0 0 0 0))), (1, .v (.c (.int .i64 s2.1))), (4, .v (.c (.val (.slice none 0 0)))), (5, .v (.c (.int .i64 0))), (6, .v (.c (.sl 1 0 s2.2.1 3)))], [(0, .mem true 45 none (.flat [.cs [.str s2.2.2.1, .int .i64 s2.2.2.2.1]])), (1, .mem true 28 (some 3) (.lst (.pair .bool (.pair (.int .i64) (.int .i64))) s2.2.2.2.2))], 2⟩) hl (To.mk' [] 1 hε rfl (by repeat' first | exact True.intro | exact rfl | apply And.intro) (by repeat' first | exact True.intro | exact rfl | apply And.intro)) (fun s2 zs2 NNs2 hz hnexts2 houts2 => ?_)
      clear hl hT
      have hT := hz; clear hz
      refine rBlock ?_
      refine rSeq ?_
      let c1 := (tcoef_Take N s2.2.2.1 s2.2.2.2.1)
      replace hT := sIf hT; obtain ⟨o1, hT⟩ := hT
      refine zReg md0 hX rfl rfl rfl ?_
      refine rThen ?_
      refine rSeq ?_
      refine rSeq ?_
      refine zReg md0 hX rfl rfl rfl ?_
      refine rThen ?_
      refine zCond rfl rfl (fun hc => ?_) (fun hc => ?_)
      · replace hT := sT hc hT
        refine rSeq ?_
        refine zReg md0 hX rfl rfl rfl ?_
        refine rThen ?_
        refine rRet ?_
        refine rThenRet ?_
        refine rInRet ?_
        refine rThenRet ?_
        exact zTo [] 1 hε (hxs20 _ (houts2 _ (Option.some.inj hT).symm))
      · replace hT := sF hc hT
        refine rSkip ?_
        refine rThen ?_
        refine rSeq ?_
        replace hT := sIf hT; obtain ⟨⟨o1, o2⟩, hT⟩ := hT
        refine zReg md0 hX rfl rfl rfl ?_
        refine rThen ?_
        refine rSeq ?_
        refine rSeq ?_
        refine zReg md0 hX rfl rfl rfl ?_
        refine rThen ?_
        refine zCond rfl rfl (fun hc => ?_) (fun hc => ?_)
        · replace hT := sT hc hT
          refine rSeq ?_
          refine zReg md0 hX rfl rfl rfl ?_
          refine rThen ?_
          refine rRet ?_
          refine rThenRet ?_
          refine rInRet ?_
          refine rThenRet ?_
          exact zTo [] 1 hε (hxs20 _ (houts2 _ (Option.some.inj hT).symm))
        · replace hT := sF hc hT
          refine rSkip ?_
          refine rThen ?_
          refine rSeq ?_
          replace hT := sIf hT; obtain ⟨⟨o1, o2, o3⟩, hT⟩ := hT
          refine zReg md0 hX rfl rfl rfl ?_
          refine rLstQ 3 (.pair .bool (.pair (.int .i64) (.int .i64))) [((c1.getD default).1, ((c1.getD default).2.1, (c1.getD default).2.2.1))] rfl rfl rfl ?_
          refine rThen ?_
          refine rSeq ?_
          refine zReg md0 hX rfl rfl rfl ?_
          refine rThen ?_
          refine zCond rfl rfl (fun hc => ?_) (fun hc => ?_)
          · replace hT := sT hc hT
            refine rExit ?_
            refine rInMiss rfl ?_
            refine rThenExit ?_
            exact zTo [] 1 hε (hxs21 _ (houts2 _ (Option.some.inj hT).symm))
          · replace hT := sF hc hT
            refine rSkip ?_
            refine rInNormal ?_
            exact hnexts2 _ (Option.some.inj hT).symm _ (To.mk' [0, 4] 1 hε rfl (by repeat' first | exact True.intro | exact rfl | apply And.intro) (by repeat' first | exact True.intro | exact rfl | apply And.intro))
    · cases h
  · cases h

end Go.Proofs.YtcfffichdcnlgaaDoor
