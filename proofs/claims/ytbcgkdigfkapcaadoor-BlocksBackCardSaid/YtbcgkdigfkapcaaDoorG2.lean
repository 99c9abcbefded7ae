/- Models of functions, and that the program does what they tell. -/
import Derived.Test.YtbcgkdigfkapcaaDoorG1
set_option linter.unusedVariables false
set_option linter.unusedSimpArgs false
namespace Go.Proofs.YtbcgkdigfkapcaaDoor
open Go.X

def blocks_from (N : Nat) (a1 : Bool) : Option Int :=
  bif a1 then
    some 1
  else
    some 0
def sp_blocks_from (N : Nat) : X.Spec := fun args lk => match args with
  | [.v (.c (.bool a1))] => some ⟨(blocks_from N a1).isSome = true, .v (.c (.int .i64 ((blocks_from N a1).getD default))), [], []⟩
  | _ => none
set_option maxRecDepth 100000 in
set_option maxHeartbeats 1000000 in
theorem ok_blocks_from (N : Nat) : FnOK Tryd.prog gt0 52 (sp_blocks_from N) := by
  refine fnOK_handed Tryd.func52 rfl (by kernel_rfl) tt_ok (ktNil) ?_
  intro args lk r h hp
  unfold sp_blocks_from at h
  split at h
  · rename_i a1
    cases h
    obtain ⟨x, hx⟩ := Option.isSome_iff_exists.1 hp
    simp only [hx, Option.getD_some]
    refine hand0 rfl rfl (fun w0 M ε0 hX => ?_)
    refine rCount (fun hε => ?_)
    have hT : blocks_from N a1 = some x := hx; clear hx hp; unfold blocks_from at hT
    refine rSeq ?_
    refine rRegC md0 hX rfl rfl rfl (by repeat' first | exact True.intro | exact rfl | apply And.intro | omega | exact Nat.le_of_ble_eq_true rfl) ?_
    refine rThen ?_
    refine rSeq ?_
    refine rSeq ?_
    refine rRegC md0 hX rfl rfl rfl (by repeat' first | exact True.intro | exact rfl | apply And.intro | omega | exact Nat.le_of_ble_eq_true rfl) ?_
    refine rThen ?_
    refine rCond rfl rfl (by repeat' first | exact True.intro | exact rfl | apply And.intro | omega | exact Nat.le_of_ble_eq_true rfl) (fun hc => ?_) (fun hc => ?_)
    · replace hT := sT hc hT
      refine rSeq ?_
      refine rRegC md0 hX rfl rfl rfl (by repeat' first | exact True.intro | exact rfl | apply And.intro | omega | exact Nat.le_of_ble_eq_true rfl) ?_
      refine rThen ?_
      refine rRet ?_
      refine rThenRet ?_
      have hy := Option.some.inj hT; subst hy
      exact rEnd0 hX rfl (by repeat' first | exact True.intro | exact rfl | apply And.intro | omega | exact Nat.le_of_ble_eq_true rfl) (by repeat' first | exact True.intro | exact rfl | apply And.intro) rfl rfl rfl rfl rfl
    · replace hT := sF hc hT
      refine rSkip ?_
      refine rThen ?_
      refine rSeq ?_
      refine rRegC md0 hX rfl rfl rfl (by repeat' first | exact True.intro | exact rfl | apply And.intro | omega | exact Nat.le_of_ble_eq_true rfl) ?_
      refine rThen ?_
      refine rRet ?_
      have hy := Option.some.inj hT; subst hy
      exact rEnd0 hX rfl (by repeat' first | exact True.intro | exact rfl | apply And.intro | omega | exact Nat.le_of_ble_eq_true rfl) (by repeat' first | exact True.intro | exact rfl | apply And.intro) rfl rfl rfl rfl rfl
  · cases h
def runs_Levels_b1 (N : Nat) (a1 : Nat) (a3 : (List (Bool × (Int × Int)))) (s1 : (Int × Int × (List Int))) : Option ((Int × Int × (List Int)) ⊕ (Unit ⊕ (List Int))) :=
  bif (decide (s1.2.1 < (a1 : Int))) then
    if (0 : Int) ≤ s1.2.1 ∧ s1.2.1 < (a1 : Int) ∧ (s1.2.1).toNat < a3.length then
      let c1 := (tcoef_Right N (a3.getD (s1.2.1).toNat (false, ((0 : Int), (0 : Int)))).1 (a3.getD (s1.2.1).toNat (false, ((0 : Int), (0 : Int)))).2.1 (a3.getD (s1.2.1).toNat (false, ((0 : Int), (0 : Int)))).2.2)
      let x1 := (!((a3.getD (s1.2.1).toNat (false, ((0 : Int), (0 : Int)))).1 == (decide (s1.2.1 = ((a1 : Int) - 1)))))
      let x2 := (bif (!(c1.getD default)) then true else (!((a3.getD (s1.2.1).toNat (false, ((0 : Int), (0 : Int)))).1 == (decide (s1.2.1 = ((a1 : Int) - 1))))))
      let x3 := (!(bif (!(c1.getD default)) then true else (!((a3.getD (s1.2.1).toNat (false, ((0 : Int), (0 : Int)))).1 == (decide (s1.2.1 = ((a1 : Int) - 1)))))))
      let x4 := (decide ((64 : Int) ≤ (s1.1 + (a3.getD (s1.2.1).toNat (false, ((0 : Int), (0 : Int)))).2.1)))
      let x5 := (bif (bif (!(c1.getD default)) then true else (!((a3.getD (s1.2.1).toNat (false, ((0 : Int), (0 : Int)))).1 == (decide (s1.2.1 = ((a1 : Int) - 1)))))) then true else (decide ((64 : Int) ≤ (s1.1 + (a3.getD (s1.2.1).toNat (false, ((0 : Int), (0 : Int)))).2.1))))
      if c1.isSome = true ∧ ((!(!(c1.getD default))) = true → inK .i64 ((a1 : Int) - 1)) ∧ ((!(bif (!(c1.getD default)) then true else (!((a3.getD (s1.2.1).toNat (false, ((0 : Int), (0 : Int)))).1 == (decide (s1.2.1 = ((a1 : Int) - 1))))))) = true → inK .i64 (s1.1 + (a3.getD (s1.2.1).toNat (false, ((0 : Int), (0 : Int)))).2.1)) then
        bif x5 then
          some (.inr (Sum.inl ()))
        else
          if inK .i64 (s1.1 + (a3.getD (s1.2.1).toNat (false, ((0 : Int), (0 : Int)))).2.1) then
            let x6 := (s1.2.2.set (s1.1 + (a3.getD (s1.2.1).toNat (false, ((0 : Int), (0 : Int)))).2.1).toNat (a3.getD (s1.2.1).toNat (false, ((0 : Int), (0 : Int)))).2.2)
            if (0 : Int) ≤ (s1.1 + (a3.getD (s1.2.1).toNat (false, ((0 : Int), (0 : Int)))).2.1) ∧ (s1.1 + (a3.getD (s1.2.1).toNat (false, ((0 : Int), (0 : Int)))).2.1) < 64 ∧ (s1.1 + (a3.getD (s1.2.1).toNat (false, ((0 : Int), (0 : Int)))).2.1).toNat < 64 then
              if inK .i64 ((s1.1 + (a3.getD (s1.2.1).toNat (false, ((0 : Int), (0 : Int)))).2.1) + 1) then
                if inK .i64 (s1.2.1 + 1) then
                  some (.inl (((s1.1 + (a3.getD (s1.2.1).toNat (false, ((0 : Int), (0 : Int)))).2.1) + 1), (s1.2.1 + 1), x6))
                else none
              else none
            else none
          else none
      else none
    else none
  else
    some (.inr (Sum.inr s1.2.2))
def runs_Levels (N : Nat) (a1 : Nat) (a2 : Int) (a3 : (List (Bool × (Int × Int)))) : Option ((List Int) × Int) :=
  bif (bif (decide (a2 ≠ 0)) then (decide (a2 ≠ 1)) else false) then
    some ((List.replicate 64 0), 1)
  else
    (iter (runs_Levels_b1 N a1 a3) N (a2, 0, (List.replicate 64 0))).bind fun w1 =>
      (Sum.elim (fun v1 =>
        some ((List.replicate 64 0), 7)
      )
        (fun v2 =>
          some (v2, 0)
        )
      ) w1
def sp_runs_Levels (N : Nat) : X.Spec := fun args lk => match args with
  | [.v (.c (.sl i0 0 a1 3)), .v (.c (.int .i64 a2))] => (match lk i0 with
    | some (.mem _ _ _ b0) => (match frzB (.pair .bool (.pair (.int .i64) (.int .i64))) b0 with
    | some a3 => some ⟨(runs_Levels N a1 a2 a3).isSome = true, .tup [.agg [.ints 64 .i64 ((runs_Levels N a1 a2 a3).getD default).1], .c (.int .i64 ((runs_Levels N a1 a2 a3).getD default).2)], [], []⟩
    | none => none)
    | _ => none)
  | _ => none
set_option maxRecDepth 100000 in
set_option maxHeartbeats 1000000 in
theorem ok_runs_Levels (N : Nat) : FnOK Tryd.prog gt0 63 (sp_runs_Levels N) := by
  refine fnOK_handed Tryd.func63 rfl (by kernel_rfl) tt_ok (ktCons (ok_tcoef_Right N) (ktNil)) ?_
  intro args lk r h hp
  unfold sp_runs_Levels at h
  split at h
  · rename_i i0 a1 a2
    split at h
    · rename_i _ _ _ b0 hl0
      split at h
      · rename_i a3 hf0
        change (List (Bool × (Int × Int))) at a3
        cases h
        obtain ⟨x, hx⟩ := Option.isSome_iff_exists.1 hp
        simp only [hx, Option.getD_some]
        refine handL [i0] 1 [(0, .mem false 23 none (.lst (.pair .bool (.pair (.int .i64) (.int .i64))) a3))] [.v (.c (.sl 0 0 a1 3)), .v (.c (.int .i64 a2))] rfl rfl rfl ⟨isSome_of hl0, trivial⟩ ⟨⟨rfl, (by repeat' first | exact True.intro | exact rfl | exact ⟨_, rfl, rfl⟩ | apply And.intro | exact Or.inl rfl), _, hl0, sub_frz hf0⟩, trivial⟩ rfl (fun w0 M ε0 hX => ?_)
        refine rCount (fun hε => ?_)
        have hT : runs_Levels N a1 a2 a3 = some x := hx; clear hx hp; unfold runs_Levels at hT
        refine rSeq ?_
        refine rRegC md0 hX rfl rfl rfl (by repeat' first | exact True.intro | exact rfl | apply And.intro | omega | exact Nat.le_of_ble_eq_true rfl) ?_
        refine rThen ?_
        refine rSeq ?_
        refine rSeq ?_
        refine rRegC md0 hX rfl rfl rfl (by (repeat' first | exact True.intro | with_reducible assumption | (with_reducible apply And.intro) | intro _) <;> first | assumption | exact rfl | omega | exact Nat.le_of_ble_eq_true rfl | exact selF (by assumption) | exact selT (by assumption) | exact And.intro rfl rfl | exact And.intro (by assumption) rfl | exact And.intro (by omega) rfl | (simp only [inK] at *; omega) | (simp_all [sel] <;> fail) | fail) ?_
        refine rThen ?_
        refine rCond rfl rfl (by repeat' first | exact True.intro | exact rfl | apply And.intro | omega | exact Nat.le_of_ble_eq_true rfl) (fun hc => ?_) (fun hc => ?_)
        · replace hT := sT hc hT
          refine rSeq ?_
          refine rRegC md0 hX rfl rfl rfl (by repeat' first | exact True.intro | exact rfl | apply And.intro | omega | exact Nat.le_of_ble_eq_true rfl) ?_
          refine rThen ?_
          refine rRet ?_
          refine rThenRet ?_
          have hy := Option.some.inj hT; subst hy
          exact rEnd0 hX rfl (by repeat' first | exact True.intro | exact rfl | apply And.intro | omega | exact Nat.le_of_ble_eq_true rfl) (by repeat' first | exact True.intro | exact rfl | apply And.intro) rfl rfl rfl rfl rfl
        · replace hT := sF hc hT
          refine rSkip ?_
          refine rThen ?_
          refine rSeq ?_
          refine rRegC md0 hX rfl rfl rfl (by repeat' first | exact True.intro | exact rfl | apply And.intro | omega | exact Nat.le_of_ble_eq_true rfl) ?_
          refine rThen ?_
          refine rSeq ?_
          refine rRegC md0 hX rfl rfl rfl (by repeat' first | exact True.intro | exact rfl | apply And.intro | omega | exact Nat.le_of_ble_eq_true rfl) ?_
          refine rThen ?_
          refine rSeq ?_
          refine rSeq ?_
          refine rRegC md0 hX rfl rfl rfl (by repeat' first | exact True.intro | exact rfl | apply And.intro | omega | exact Nat.le_of_ble_eq_true rfl) ?_
          refine rThen ?_
          refine rBlock ?_
          replace hT := sBind hT; obtain ⟨w1, hl, hT⟩ := hT
          refine rJoinA (fun v1 => (Sum.inl v1) = w1) (fun v1 => ⟨[(4, .v (.c (.ptr 1 0 0 0 0 0))), (5, .v (.c (.int .i64 7)))], [(0, .mem false 23 none (.lst (.pair .bool (.pair (.int .i64) (.int .i64))) a3)), (1, .mem true 82 none (.flat [.ints 64 .i64 (List.replicate 64 0)]))], 3⟩) .ret (fun v1 hv => ?_) (fun hxs10 => ?_)
          · subst hv; clear hl; replace hT := (sElimL hT)
            refine rInRet ?_
            refine rThenRet ?_
            have hy := Option.some.inj hT; subst hy
            exact rEnd0 hX rfl (by repeat' first | exact True.intro | exact rfl | apply And.intro | omega | exact Nat.le_of_ble_eq_true rfl) (by repeat' first | exact True.intro | exact rfl | apply And.intro) rfl rfl rfl rfl rfl
          refine rJoinA (fun v2 => (Sum.inr v2) = w1) (fun v2 => ⟨[(4, .v (.c (.ptr 1 0 0 0 0 0))), (5, .v (.c (.int .i64 0))), (6, .v (.c (.ptr 2 0 0 0 0 0)))], [(0, .mem false 23 none (.lst (.pair .bool (.pair (.int .i64) (.int .i64))) a3)), (1, .mem true 82 none (.flat [.ints 64 .i64 (List.replicate 64 0)])), (2, .mem true 82 none (.flat [.ints 64 .i64 v2]))], 3⟩) (.exit 0) (fun v2 hv => ?_) (fun hxs11 => ?_)
          · subst hv; clear hl; replace hT := (sElimR hT)
            refine rInHit ?_
            refine rThen ?_
            refine rSeq ?_
            refine rRegC md0 hX rfl rfl rfl (by repeat' first | exact True.intro | exact rfl | apply And.intro | omega | exact Nat.le_of_ble_eq_true rfl) ?_
            refine rThen ?_
            refine rRet ?_
            have hy := Option.some.inj hT; subst hy
            exact rEnd0 hX rfl (by repeat' first | exact True.intro | exact rfl | apply And.intro | omega | exact Nat.le_of_ble_eq_true rfl) (by repeat' first | exact True.intro | exact rfl | apply And.intro) rfl rfl rfl rfl rfl
          refine rLoopM (runs_Levels_b1 N a1 a3) (fun s1 => ⟨[(0, .v (.c (.sl 0 0 a1 3))), (4, .v (.c (.ptr 1 0 0 0 0 0))), (5, .v (.c (.int .i64 0))), (6, .v (.c (.ptr 2 0 0 0 0 0))), (7, .v (.c (.int .i64 s1.1))), (18, .v (.c (.sl 0 0 a1 3))), (19, .v (.c (.int .i64 (a1 : Int)))), (20, .v (.c (.int .i64 s1.2.1)))], [(0, .mem false 23 none (.lst (.pair .bool (.pair (.int .i64) (.int .i64))) a3)), (1, .mem true 82 none (.flat [.ints 64 .i64 (List.replicate 64 0)])), (2, .mem true 82 none (.flat [.ints 64 .i64 s1.2.2]))], 3⟩) hl (To.mk' [] 1 hε rfl (by repeat' first | exact True.intro | exact rfl | apply And.intro) (by repeat' first | exact True.intro | exact rfl | apply And.intro)) (fun s1 zs1 NNs1 hz hnexts1 houts1 => ?_)
          clear hl hT
          have hT := hz; clear hz
          refine rSeq ?_
          refine rRegC md0 hX rfl rfl rfl (by repeat' first | exact True.intro | exact rfl | apply And.intro | omega | exact Nat.le_of_ble_eq_true rfl) ?_
          refine rThen ?_
          refine rSeq ?_
          refine rCond rfl rfl (by repeat' first | exact True.intro | exact rfl | apply And.intro | omega | exact Nat.le_of_ble_eq_true rfl) (fun hc => ?_) (fun hc => ?_)
          · replace hT := sT hc hT
            refine rSkip ?_
            refine rThen ?_
            refine rSeq ?_
            refine rBlock ?_
            refine rSeq ?_
            replace hT := sIf hT; obtain ⟨⟨o1, o2, o3⟩, hT⟩ := hT
            refine rRegC md0 hX rfl rfl rfl (by (repeat' first | exact True.intro | with_reducible assumption | (with_reducible apply And.intro) | intro _) <;> first | assumption | exact rfl | omega | exact Nat.le_of_ble_eq_true rfl | exact selF (by assumption) | exact selT (by assumption) | exact And.intro rfl rfl | exact And.intro (by assumption) rfl | exact And.intro (by omega) rfl | (simp only [inK] at *; omega) | (simp_all [sel] <;> fail) | fail) ?_
            refine rThen ?_
            refine rSeq ?_
            refine rSeq ?_
            let c1 := (tcoef_Right N (a3.getD (s1.2.1).toNat (false, ((0 : Int), (0 : Int)))).1 (a3.getD (s1.2.1).toNat (false, ((0 : Int), (0 : Int)))).2.1 (a3.getD (s1.2.1).toNat (false, ((0 : Int), (0 : Int)))).2.2)
            let x1 := (!((a3.getD (s1.2.1).toNat (false, ((0 : Int), (0 : Int)))).1 == (decide (s1.2.1 = ((a1 : Int) - 1)))))
            let x2 := (bif (!(c1.getD default)) then true else (!((a3.getD (s1.2.1).toNat (false, ((0 : Int), (0 : Int)))).1 == (decide (s1.2.1 = ((a1 : Int) - 1))))))
            let x3 := (!(bif (!(c1.getD default)) then true else (!((a3.getD (s1.2.1).toNat (false, ((0 : Int), (0 : Int)))).1 == (decide (s1.2.1 = ((a1 : Int) - 1)))))))
            let x4 := (decide ((64 : Int) ≤ (s1.1 + (a3.getD (s1.2.1).toNat (false, ((0 : Int), (0 : Int)))).2.1)))
            let x5 := (bif (bif (!(c1.getD default)) then true else (!((a3.getD (s1.2.1).toNat (false, ((0 : Int), (0 : Int)))).1 == (decide (s1.2.1 = ((a1 : Int) - 1)))))) then true else (decide ((64 : Int) ≤ (s1.1 + (a3.getD (s1.2.1).toNat (false, ((0 : Int), (0 : Int)))).2.1))))
            replace hT := sIf hT; obtain ⟨⟨o1, o2, o3⟩, hT⟩ := hT
            refine rRegC md0 hX rfl rfl rfl (by (repeat' first | exact True.intro | with_reducible assumption | (with_reducible apply And.intro) | intro _) <;> first | assumption | exact o2 (by assumption) | exact o3 (by assumption) | exact rfl | omega | exact Nat.le_of_ble_eq_true rfl | exact selF (by assumption) | exact selT (by assumption) | exact And.intro rfl rfl | exact And.intro (by assumption) rfl | exact And.intro (by omega) rfl | (simp only [inK] at *; omega) | (simp_all [sel] <;> fail) | fail) ?_
            refine rThen ?_
            refine rCond rfl rfl (by repeat' first | exact True.intro | exact rfl | apply And.intro | omega | exact Nat.le_of_ble_eq_true rfl) (fun hc => ?_) (fun hc => ?_)
            · replace hT := sT hc hT
              refine rSeq ?_
              refine rRegC md0 hX rfl rfl rfl (by repeat' first | exact True.intro | exact rfl | apply And.intro | omega | exact Nat.le_of_ble_eq_true rfl) ?_
              refine rThen ?_
              refine rRet ?_
              refine rThenRet ?_
              refine rInRet ?_
              refine rThenRet ?_
              refine rThenRet ?_
              exact rTo (To.mk' [] 1 hε rfl (by repeat' first | exact True.intro | exact rfl | apply And.intro) (by repeat' first | exact True.intro | exact rfl | apply And.intro)) (hxs10 _ (houts1 _ (Option.some.inj hT).symm))
            · replace hT := sF hc hT
              refine rSkip ?_
              refine rThen ?_
              refine rSeq ?_
              replace hT := sIf hT; obtain ⟨o1, hT⟩ := hT
              refine rRegC md0 hX rfl rfl rfl (by (repeat' first | exact True.intro | with_reducible assumption | (with_reducible apply And.intro) | intro _) <;> first | assumption | exact rfl | omega | exact Nat.le_of_ble_eq_true rfl | exact selF (by assumption) | exact selT (by assumption) | exact And.intro rfl rfl | exact And.intro (by assumption) rfl | exact And.intro (by omega) rfl | (simp only [inK] at *; omega) | (simp_all [sel] <;> fail) | fail) ?_
              refine rThen ?_
              refine rSeq ?_
              let x6 := (s1.2.2.set (s1.1 + (a3.getD (s1.2.1).toNat (false, ((0 : Int), (0 : Int)))).2.1).toNat (a3.getD (s1.2.1).toNat (false, ((0 : Int), (0 : Int)))).2.2)
              replace hT := sIf hT; obtain ⟨⟨o1, o2, o3⟩, hT⟩ := hT
              refine rRegC md0 hX rfl rfl rfl (by (repeat' first | exact True.intro | with_reducible assumption | (with_reducible apply And.intro) | intro _) <;> first | assumption | exact rfl | omega | exact Nat.le_of_ble_eq_true rfl | exact selF (by assumption) | exact selT (by assumption) | exact And.intro rfl rfl | exact And.intro (by assumption) rfl | exact And.intro (by omega) rfl | (simp only [inK] at *; omega) | (simp_all [sel] <;> fail) | fail) ?_
              refine rThen ?_
              replace hT := sIf hT; obtain ⟨o1, hT⟩ := hT
              refine rRegC md0 hX rfl rfl rfl (by (repeat' first | exact True.intro | with_reducible assumption | (with_reducible apply And.intro) | intro _) <;> first | assumption | exact rfl | omega | exact Nat.le_of_ble_eq_true rfl | exact selF (by assumption) | exact selT (by assumption) | exact And.intro rfl rfl | exact And.intro (by assumption) rfl | exact And.intro (by omega) rfl | (simp only [inK] at *; omega) | (simp_all [sel] <;> fail) | fail) ?_
              refine rInNormal ?_
              refine rThen ?_
              replace hT := sIf hT; obtain ⟨o1, hT⟩ := hT
              refine rRegC md0 hX rfl rfl rfl (by (repeat' first | exact True.intro | with_reducible assumption | (with_reducible apply And.intro) | intro _) <;> first | assumption | exact rfl | omega | exact Nat.le_of_ble_eq_true rfl | exact selF (by assumption) | exact selT (by assumption) | exact And.intro rfl rfl | exact And.intro (by assumption) rfl | exact And.intro (by omega) rfl | (simp only [inK] at *; omega) | (simp_all [sel] <;> fail) | fail) ?_
              exact hnexts1 _ (Option.some.inj hT).symm _ (To.mk' [] 1 hε rfl (by repeat' first | exact True.intro | exact rfl | apply And.intro) (by repeat' first | exact True.intro | exact rfl | apply And.intro))
          · replace hT := sF hc hT
            refine rExit ?_
            refine rThenExit ?_
            refine rThenExit ?_
            exact rTo (To.mk' [] 1 hε rfl (by repeat' first | exact True.intro | exact rfl | apply And.intro) (by repeat' first | exact True.intro | exact rfl | apply And.intro)) (hxs11 _ (houts1 _ (Option.some.inj hT).symm))
      · cases h
    · cases h
  · cases h
def blocks_may (N : Nat) (a1 : Bool) (a2 : Int) (a3 : Nat) (a4 : (List (Bool × (Int × Int)))) : Option Bool :=
  let x1 := (bif (bif (!(a1 == (decide (a2 ≠ 0)))) then true else (decide (a2 < 0))) then true else (decide ((255 : Int) ≤ a2)))
  bif x1 then
    some false
  else
    let c1 := (blocks_from N a1)
    let c2 := (runs_Levels N a3 (c1.getD default) a4)
    if c1.isSome = true ∧ c2.isSome = true then
      some (decide ((c2.getD default).2 = 0))
    else none
def sp_blocks_may (N : Nat) : X.Spec := fun args lk => match args with
  | [.v (.c (.bool a1)), .v (.c (.int .i64 a2)), .v (.c (.sl i0 0 a3 3))] => (match lk i0 with
    | some (.mem _ _ _ b0) => (match frzB (.pair .bool (.pair (.int .i64) (.int .i64))) b0 with
    | some a4 => some ⟨(blocks_may N a1 a2 a3 a4).isSome = true, .v (.c (.bool ((blocks_may N a1 a2 a3 a4).getD default))), [], []⟩
    | none => none)
    | _ => none)
  | _ => none
set_option maxRecDepth 100000 in
set_option maxHeartbeats 1000000 in
theorem ok_blocks_may (N : Nat) : FnOK Tryd.prog gt0 46 (sp_blocks_may N) := by
  refine fnOK_handed Tryd.func46 rfl (by kernel_rfl) tt_ok (ktCons (ok_runs_Levels N) (ktCons (ok_blocks_from N) (ktNil))) ?_
  intro args lk r h hp
  unfold sp_blocks_may at h
  split at h
  · rename_i a1 a2 i0 a3
    split at h
    · rename_i _ _ _ b0 hl0
      split at h
      · rename_i a4 hf0
        change (List (Bool × (Int × Int))) at a4
        cases h
        obtain ⟨x, hx⟩ := Option.isSome_iff_exists.1 hp
        simp only [hx, Option.getD_some]
        refine handL [i0] 1 [(0, .mem false 23 none (.lst (.pair .bool (.pair (.int .i64) (.int .i64))) a4))] [.v (.c (.bool a1)), .v (.c (.int .i64 a2)), .v (.c (.sl 0 0 a3 3))] rfl rfl rfl ⟨isSome_of hl0, trivial⟩ ⟨⟨rfl, (by repeat' first | exact True.intro | exact rfl | exact ⟨_, rfl, rfl⟩ | apply And.intro | exact Or.inl rfl), _, hl0, sub_frz hf0⟩, trivial⟩ rfl (fun w0 M ε0 hX => ?_)
        refine rCount (fun hε => ?_)
        have hT : blocks_may N a1 a2 a3 a4 = some x := hx; clear hx hp; unfold blocks_may at hT
        refine rSeq ?_
        refine rRegC md0 hX rfl rfl rfl (by repeat' first | exact True.intro | exact rfl | apply And.intro | omega | exact Nat.le_of_ble_eq_true rfl) ?_
        refine rThen ?_
        refine rSeq ?_
        refine rSeq ?_
        let x1 := (bif (bif (!(a1 == (decide (a2 ≠ 0)))) then true else (decide (a2 < 0))) then true else (decide ((255 : Int) ≤ a2)))
        refine rRegC md0 hX rfl rfl rfl (by (repeat' first | exact True.intro | with_reducible assumption | (with_reducible apply And.intro) | intro _) <;> first | assumption | exact rfl | omega | exact Nat.le_of_ble_eq_true rfl | exact selF (by assumption) | exact selT (by assumption) | exact And.intro rfl rfl | exact And.intro (by assumption) rfl | exact And.intro (by omega) rfl | (simp only [inK] at *; omega) | (simp_all [sel] <;> fail) | fail) ?_
        refine rThen ?_
        refine rCond rfl rfl (by repeat' first | exact True.intro | exact rfl | apply And.intro | omega | exact Nat.le_of_ble_eq_true rfl) (fun hc => ?_) (fun hc => ?_)
        · replace hT := sT hc hT
          refine rSeq ?_
          refine rRegC md0 hX rfl rfl rfl (by repeat' first | exact True.intro | exact rfl | apply And.intro | omega | exact Nat.le_of_ble_eq_true rfl) ?_
          refine rThen ?_
          refine rRet ?_
          refine rThenRet ?_
          have hy := Option.some.inj hT; subst hy
          exact rEnd0 hX rfl (by repeat' first | exact True.intro | exact rfl | apply And.intro | omega | exact Nat.le_of_ble_eq_true rfl) (by repeat' first | exact True.intro | exact rfl | apply And.intro) rfl rfl rfl rfl rfl
        · replace hT := sF hc hT
          refine rSkip ?_
          refine rThen ?_
          refine rSeq ?_
          let c1 := (blocks_from N a1)
          let c2 := (runs_Levels N a3 (c1.getD default) a4)
          replace hT := sIf hT; obtain ⟨⟨o1, o2⟩, hT⟩ := hT
          refine rRegC md0 hX rfl rfl rfl (by (repeat' first | exact True.intro | with_reducible assumption | (with_reducible apply And.intro) | intro _) <;> first | assumption | exact rfl | omega | exact Nat.le_of_ble_eq_true rfl | exact selF (by assumption) | exact selT (by assumption) | exact And.intro rfl rfl | exact And.intro (by assumption) rfl | exact And.intro (by omega) rfl | (simp only [inK] at *; omega) | (simp_all [sel] <;> fail) | fail) ?_
          refine rThen ?_
          refine rSeq ?_
          refine rRegC md0 hX rfl rfl rfl (by repeat' first | exact True.intro | exact rfl | apply And.intro | omega | exact Nat.le_of_ble_eq_true rfl) ?_
          refine rThen ?_
          refine rRet ?_
          have hy := Option.some.inj hT; subst hy
          exact rEnd0 hX rfl (by repeat' first | exact True.intro | exact rfl | apply And.intro | omega | exact Nat.le_of_ble_eq_true rfl) (by repeat' first | exact True.intro | exact rfl | apply And.intro) rfl rfl rfl rfl rfl
      · cases h
    · cases h
  · cases h
def overspill_outbits_Writer_bit (N : Nat) (a1 : Bool) (a2 : (List Bool)) : Option (List Bool) :=
  if (a2.length : Int) ≤ 9223372036854775800 then
    if (0 : Int) ≤ (a2.length : Int) then
      joinK (fun (v1 : (Nat × Nat × (List Int))) =>
        if (a1 = true → (0 : Int) ≤ (a2.length : Int)) ∧ (a1 = true → (0 : Int) ≤ ((a2.length : Int) / 8)) ∧ (a1 = true → ((a2.length : Int) / 8) < (v1.1 : Int)) ∧ (a1 = true → ((a2.length : Int) / 8).toNat < v1.2.1) ∧ (a1 = true → inK .i64 ((7 : Int) - ((a2.length : Int) % 8))) ∧ (a1 = true → inK .u64 ((7 : Int) - ((a2.length : Int) % 8))) ∧ (a1 = true → (0 : Int) ≤ ((7 : Int) - ((a2.length : Int) % 8))) ∧ (a1 = true → (((7 : Int) - ((a2.length : Int) % 8))).toNat ≤ 8) ∧ (a1 = true → inK .u8 ((1 : Int) * 2 ^ (Int.toNat ((7 : Int) - ((a2.length : Int) % 8))))) ∧ (a1 = true → (0 : Int) ≤ (v1.2.2.getD ((a2.length : Int) / 8).toNat 0)) ∧ (a1 = true → (0 : Int) ≤ ((1 : Int) * 2 ^ (Int.toNat ((7 : Int) - ((a2.length : Int) % 8))))) then
          let x1 := (bif a1 then (v1.2.2.set ((a2.length : Int) / 8).toNat ((Int.toNat (v1.2.2.getD ((a2.length : Int) / 8).toNat 0) ||| Int.toNat ((1 : Int) * 2 ^ (Int.toNat ((7 : Int) - ((a2.length : Int) % 8)))) : Nat) : Int)) else v1.2.2)
          if inK .i64 ((a2.length : Int) + 1) then
            if v1.2.1 = v1.1 ∧ packB (unpB x1 ((a2.length : Int) + 1)) = x1 ∧ ((unpB x1 ((a2.length : Int) + 1)).length : Int) = ((a2.length : Int) + 1) then
              some (unpB x1 ((a2.length : Int) + 1))
            else none
          else none
        else none
      ) fun k1 =>
        bif (decide (((a2.length : Int) % 8) = 0)) then
          if 1 ≤ 1 ∧ (((a2.length + 7) / 8) + 1) * 1 ≤ 140737488355328 ∧ ((a2.length + 7) / 8) + 1 ≤ 9223372036854775807 then
            k1 ((((a2.length + 7) / 8) + 1), (((a2.length + 7) / 8) + 1), ((packB a2) ++ (((List.replicate 1 0).set 0 0).take 1)))
          else none
        else
          k1 (((a2.length + 7) / 8), ((a2.length + 7) / 8), (packB a2))
    else none
  else none
def sp_overspill_outbits_Writer_bit (N : Nat) : X.Spec := fun args lk => match args with
  | [.v (.c (.ptr i0 0 0 0 0 0)), .v (.c (.bool a1))] => (match lk i0 with
    | some (.obj 5 a2) => some ⟨(overspill_outbits_Writer_bit N a1 a2).isSome = true, .tup [], [], [(i0, .obj 5 ((overspill_outbits_Writer_bit N a1 a2).getD default))]⟩
    | _ => none)
  | _ => none
set_option maxRecDepth 100000 in
set_option maxHeartbeats 1000000 in
theorem ok_overspill_outbits_Writer_bit (N : Nat) : FnOK Tryd.prog gt0 45 (sp_overspill_outbits_Writer_bit N) := by
  refine fnOK_handed Tryd.func45 rfl (by kernel_rfl) tt_ok (ktNil) ?_
  intro args lk r h hp
  unfold sp_overspill_outbits_Writer_bit at h
  split at h
  · rename_i i0 a1
    split at h
    · rename_i a2 hl0
      cases h
      obtain ⟨x, hx⟩ := Option.isSome_iff_exists.1 hp
      simp only [hx, Option.getD_some]
      refine handL [i0] 1 [(0, .obj 5 a2)] [.v (.c (.ptr 0 0 0 0 0 0)), .v (.c (.bool a1))] rfl rfl rfl ⟨isSome_of hl0, trivial⟩ ⟨⟨rfl, (by repeat' first | exact True.intro | exact rfl | exact ⟨_, rfl, rfl⟩ | apply And.intro | exact Or.inl rfl), _, hl0, .inl rfl⟩, trivial⟩ rfl (fun w0 M ε0 hX => ?_)
      refine rCount (fun hε => ?_)
      have hT : overspill_outbits_Writer_bit N a1 a2 = some x := hx; clear hx hp; unfold overspill_outbits_Writer_bit at hT
      replace hT := sIf hT; obtain ⟨p0, hT⟩ := hT
      refine rOpen1 p0 (by (repeat' first | exact True.intro | exact rfl | apply And.intro) <;> first | assumption | rfl) (fun ty0 => ?_)
      refine rSeq ?_
      refine rSeq ?_
      replace hT := sIf hT; obtain ⟨o1, hT⟩ := hT
      refine rRegC md0 hX rfl rfl rfl (by (repeat' first | exact True.intro | with_reducible assumption | (with_reducible apply And.intro) | intro _) <;> first | assumption | exact rfl | omega | exact Nat.le_of_ble_eq_true rfl | exact selF (by assumption) | exact selT (by assumption) | exact And.intro rfl rfl | exact And.intro (by assumption) rfl | exact And.intro (by omega) rfl | (simp only [inK] at *; omega) | (simp_all [sel] <;> fail) | fail) ?_
      refine rThen ?_
      refine rJoinK hT (fun v1 => ⟨[(0, .v (.c (.ptr 0 0 0 0 0 0))), (1, .v (.c (.bool a1)))], [(0, .mem true ty0 none (.flat [.cs [.sl 3 0 v1.1 1, .int .i64 (a2.length : Int)]])), (3, .mem true 5 (some 1) (.flat [.ints v1.2.1 .u8 v1.2.2]))], 4⟩) (fun v1 hT => ?_) (fun k1 hjk1 hT => ?_)
      · skip
        refine rThen ?_
        refine rSeq ?_
        refine rSeq ?_
        refine rRegC md0 hX rfl rfl rfl (by repeat' first | exact True.intro | exact rfl | apply And.intro | omega | exact Nat.le_of_ble_eq_true rfl) ?_
        refine rThen ?_
        replace hT := sIf hT; obtain ⟨⟨q1, q2, q3, q4, q5, q6, q7, q8, q9, q10, q11⟩, hT⟩ := hT
        refine rJoin ⟨[(0, .v (.c (.ptr 0 0 0 0 0 0)))], [(0, .mem true ty0 none (.flat [.cs [.sl 3 0 v1.1 1, .int .i64 (a2.length : Int)]])), (3, .mem true 5 (some 1) (.flat [.ints v1.2.1 .u8 (bif a1 then (v1.2.2.set ((a2.length : Int) / 8).toNat ((Int.toNat (v1.2.2.getD ((a2.length : Int) / 8).toNat 0) ||| Int.toNat ((1 : Int) * 2 ^ (Int.toNat ((7 : Int) - ((a2.length : Int) % 8)))) : Nat) : Int)) else v1.2.2)]))], 4⟩ ?_ (fun hj => ?_)
        · skip
          let x1 := (bif a1 then (v1.2.2.set ((a2.length : Int) / 8).toNat ((Int.toNat (v1.2.2.getD ((a2.length : Int) / 8).toNat 0) ||| Int.toNat ((1 : Int) * 2 ^ (Int.toNat ((7 : Int) - ((a2.length : Int) % 8)))) : Nat) : Int)) else v1.2.2)
          refine rThen ?_
          replace hT := sIf hT; obtain ⟨o1, hT⟩ := hT
          refine rRegC md0 hX rfl rfl rfl (by (repeat' first | exact True.intro | with_reducible assumption | (with_reducible apply And.intro) | intro _) <;> first | assumption | exact rfl | omega | exact Nat.le_of_ble_eq_true rfl | exact selF (by assumption) | exact selT (by assumption) | exact And.intro rfl rfl | exact And.intro (by assumption) rfl | exact And.intro (by omega) rfl | (simp only [inK] at *; omega) | (simp_all [sel] <;> fail) | fail) ?_
          refine rNormal ?_
          replace hT := sIf hT; obtain ⟨⟨p1, p2, p3⟩, hT⟩ := hT
          have hy := Option.some.inj hT; subst hy
          exact rEndObj (unpB x1 ((a2.length : Int) + 1)) hX rfl (by repeat' first | exact True.intro | exact rfl | apply And.intro | omega | exact Nat.le_of_ble_eq_true rfl) rfl rfl rfl rfl rfl (by assumption) rfl (by first | rfl | assumption) (by first | rfl | assumption) rfl rfl
        · clear hT
          refine rCond rfl rfl (by repeat' first | exact True.intro | exact rfl | apply And.intro | omega | exact Nat.le_of_ble_eq_true rfl) (fun hc => ?_) (fun hc => ?_)
          · skip
            have q1 := q1 hc
            have q2 := q2 hc
            have q3 := q3 hc
            have q4 := q4 hc
            have q5 := q5 hc
            have q6 := q6 hc
            have q7 := q7 hc
            have q8 := q8 hc
            have q9 := q9 hc
            have q10 := q10 hc
            have q11 := q11 hc
            refine rDrawM md0 1 [21] hX mixed rfl rfl rfl rfl rfl (by (repeat' first | exact True.intro | with_reducible assumption | (with_reducible apply And.intro) | intro _) <;> first | assumption | exact rfl | omega | exact Nat.le_of_ble_eq_true rfl | exact selF (by assumption) | exact selT (by assumption) | exact And.intro rfl rfl | exact And.intro (by assumption) rfl | exact And.intro (by omega) rfl | (simp only [inK] at *; omega) | (simp_all [sel] <;> fail) | fail) ?_
            exact rTo (To.mk' [] 1 hε rfl (by (repeat' first | exact True.intro | exact rfl | apply And.intro) <;> (repeat' first | exact rfl | refine Eq.trans ?_ (cTr (by assumption)) | refine Eq.trans ?_ (cFr (by assumption)) | refine Eq.trans (cTl (by assumption)) ?_ | refine Eq.trans (cFl (by assumption)) ?_)) (by (repeat' first | exact True.intro | exact rfl | apply And.intro) <;> (repeat' first | exact rfl | refine Eq.trans ?_ (cTr (by assumption)) | refine Eq.trans ?_ (cFr (by assumption)) | refine Eq.trans (cTl (by assumption)) ?_ | refine Eq.trans (cFl (by assumption)) ?_))) hj
          · skip
            refine rSkip ?_
            exact rTo (To.mk' [] 1 hε rfl (by (repeat' first | exact True.intro | exact rfl | apply And.intro) <;> (repeat' first | exact rfl | refine Eq.trans ?_ (cTr (by assumption)) | refine Eq.trans ?_ (cFr (by assumption)) | refine Eq.trans (cTl (by assumption)) ?_ | refine Eq.trans (cFl (by assumption)) ?_)) (by (repeat' first | exact True.intro | exact rfl | apply And.intro) <;> (repeat' first | exact rfl | refine Eq.trans ?_ (cTr (by assumption)) | refine Eq.trans ?_ (cFr (by assumption)) | refine Eq.trans (cTl (by assumption)) ?_ | refine Eq.trans (cFl (by assumption)) ?_))) hj
      · skip
        refine rCond rfl rfl (by repeat' first | exact True.intro | exact rfl | apply And.intro | omega | exact Nat.le_of_ble_eq_true rfl) (fun hc => ?_) (fun hc => ?_)
        · replace hT := sT hc hT
          replace hT := sIf hT; obtain ⟨⟨o1, o2, o3⟩, hT⟩ := hT
          refine rRegC md0 hX rfl rfl rfl (by (repeat' first | exact True.intro | with_reducible assumption | (with_reducible apply And.intro) | intro _) <;> first | assumption | exact rfl | omega | exact Nat.le_of_ble_eq_true rfl | exact selF (by assumption) | exact selT (by assumption) | exact And.intro rfl rfl | exact And.intro (by assumption) rfl | exact And.intro (by omega) rfl | (simp only [inK] at *; omega) | (simp_all [sel] <;> fail) | fail) ?_
          exact rTo (To.mk' [] 1 hε rfl (by repeat' first | exact True.intro | exact rfl | apply And.intro) (by repeat' first | exact True.intro | exact rfl | apply And.intro)) (hjk1 _ hT)
        · replace hT := sF hc hT
          refine rSkip ?_
          exact rTo (To.mk' [0, 1, 0, 1] 1 hε rfl (by repeat' first | exact True.intro | exact rfl | apply And.intro) (by repeat' first | exact True.intro | exact rfl | apply And.intro)) (hjk1 _ hT)
    · cases h
  · cases h
def overspill_outbits_Writer_Put_b1 (N : Nat) (a1 : Int) (s1 : (Int × (List Bool))) : Option ((Int × (List Bool)) ⊕ (List Bool)) :=
  bif (decide ((0 : Int) ≤ s1.1)) then
    let c2 := (overspill_outbits_Writer_bit N (decide (((Int.toNat (a1 / 2 ^ (Int.toNat s1.1)) &&& Int.toNat 1 : Nat) : Int) = 1)) s1.2)
    if inK .u64 s1.1 ∧ (0 : Int) ≤ s1.1 ∧ (s1.1).toNat ≤ 64 ∧ (0 : Int) ≤ (a1 / 2 ^ (Int.toNat s1.1)) ∧ c2.isSome = true then
      if inK .i64 (s1.1 - 1) then
        some (.inl ((s1.1 - 1), (c2.getD default)))
      else none
    else none
  else
    some (.inr s1.2)
def overspill_outbits_Writer_Put (N : Nat) (a1 : Int) (a2 : Int) (a3 : (List Bool)) : Option (Int × (List Bool)) :=
  let c1 := (outbits_fits N a1 a2)
  if ((!false) = true → c1.isSome = true) then
    bif (bif false then true else (!(c1.getD default))) then
      some (1, a3)
    else
      if inK .i64 (a2 - 1) then
        (iter (overspill_outbits_Writer_Put_b1 N a1) N ((a2 - 1), a3)).bind fun v1 =>
          some (0, v1)
      else none
  else none
def sp_overspill_outbits_Writer_Put (N : Nat) : X.Spec := fun args lk => match args with
  | [.v (.c (.ptr i0 0 0 0 0 0)), .v (.c (.int .i64 a1)), .v (.c (.int .i64 a2))] => (match lk i0 with
    | some (.obj 5 a3) => some ⟨(overspill_outbits_Writer_Put N a1 a2 a3).isSome = true, .v (.c (.int .i64 ((overspill_outbits_Writer_Put N a1 a2 a3).getD default).1)), [], [(i0, .obj 5 ((overspill_outbits_Writer_Put N a1 a2 a3).getD default).2)]⟩
    | _ => none)
  | _ => none
set_option maxRecDepth 100000 in
set_option maxHeartbeats 1000000 in
theorem ok_overspill_outbits_Writer_Put (N : Nat) : FnOK Tryd.prog gt0 47 (sp_overspill_outbits_Writer_Put N) := by
  refine fnOK_handed Tryd.func47 rfl (by kernel_rfl) tt_ok (ktCons (ok_overspill_outbits_Writer_bit N) (ktCons (ok_outbits_fits N) (ktNil))) ?_
  intro args lk r h hp
  unfold sp_overspill_outbits_Writer_Put at h
  split at h
  · rename_i i0 a1 a2
    split at h
    · rename_i a3 hl0
      cases h
      obtain ⟨x, hx⟩ := Option.isSome_iff_exists.1 hp
      simp only [hx, Option.getD_some]
      refine handL [i0] 1 [(0, .obj 5 a3)] [.v (.c (.ptr 0 0 0 0 0 0)), .v (.c (.int .i64 a1)), .v (.c (.int .i64 a2))] rfl rfl rfl ⟨isSome_of hl0, trivial⟩ ⟨⟨rfl, (by repeat' first | exact True.intro | exact rfl | exact ⟨_, rfl, rfl⟩ | apply And.intro | exact Or.inl rfl), _, hl0, .inl rfl⟩, trivial⟩ rfl (fun w0 M ε0 hX => ?_)
      refine rCount (fun hε => ?_)
      have hT : overspill_outbits_Writer_Put N a1 a2 a3 = some x := hx; clear hx hp; unfold overspill_outbits_Writer_Put at hT
      refine rSeq ?_
      refine rRegC md0 hX rfl rfl rfl (by repeat' first | exact True.intro | exact rfl | apply And.intro | omega | exact Nat.le_of_ble_eq_true rfl) ?_
      refine rThen ?_
      refine rSeq ?_
      refine rSeq ?_
      let c1 := (outbits_fits N a1 a2)
      replace hT := sIf hT; obtain ⟨o1, hT⟩ := hT
      refine rRegC md0 hX rfl rfl rfl (by (repeat' first | exact True.intro | with_reducible assumption | (with_reducible apply And.intro) | intro _) <;> first | assumption | exact o1 (by assumption) | exact rfl | omega | exact Nat.le_of_ble_eq_true rfl | exact selF (by assumption) | exact selT (by assumption) | exact And.intro rfl rfl | exact And.intro (by assumption) rfl | exact And.intro (by omega) rfl | (simp only [inK] at *; omega) | (simp_all [sel] <;> fail) | fail) ?_
      refine rThen ?_
      refine rCond rfl rfl (by repeat' first | exact True.intro | exact rfl | apply And.intro | omega | exact Nat.le_of_ble_eq_true rfl) (fun hc => ?_) (fun hc => ?_)
      · replace hT := sT hc hT
        refine rSeq ?_
        refine rRegC md0 hX rfl rfl rfl (by repeat' first | exact True.intro | exact rfl | apply And.intro | omega | exact Nat.le_of_ble_eq_true rfl) ?_
        refine rThen ?_
        refine rRet ?_
        refine rThenRet ?_
        have hy := Option.some.inj hT; subst hy
        exact rEndA [] [] [(0, .obj 5 a3)] (.v (.c (.int .i64 1))) hX rfl (by repeat' first | exact True.intro | exact rfl | apply And.intro | omega | exact Nat.le_of_ble_eq_true rfl) (by repeat' first | exact True.intro | exact rfl | apply And.intro) rfl rfl rfl (by repeat' first | exact True.intro | exact rfl | exact ⟨_, rfl, rfl⟩ | apply And.intro | exact Or.inl rfl) rfl rfl (by repeat' first | exact True.intro | exact rfl | exact ⟨_, rfl, rfl⟩ | apply And.intro | exact Or.inl rfl) rfl rfl
      · replace hT := sF hc hT
        refine rSkip ?_
        refine rThen ?_
        refine rSeq ?_
        refine rSeq ?_
        replace hT := sIf hT; obtain ⟨o1, hT⟩ := hT
        refine rRegC md0 hX rfl rfl rfl (by (repeat' first | exact True.intro | with_reducible assumption | (with_reducible apply And.intro) | intro _) <;> first | assumption | exact rfl | omega | exact Nat.le_of_ble_eq_true rfl | exact selF (by assumption) | exact selT (by assumption) | exact And.intro rfl rfl | exact And.intro (by assumption) rfl | exact And.intro (by omega) rfl | (simp only [inK] at *; omega) | (simp_all [sel] <;> fail) | fail) ?_
        refine rThen ?_
        refine rBlock ?_
        replace hT := sBind hT; obtain ⟨w1, hl, hT⟩ := hT
        refine rJoinA (fun v1 => v1 = w1) (fun v1 => ⟨[(6, .v (.c (.int .i64 0)))], [(0, .obj 5 v1)], 1⟩) (.exit 0) (fun v1 hv => ?_) (fun hxs10 => ?_)
        · subst hv; clear hl
          refine rInHit ?_
          refine rThen ?_
          refine rSeq ?_
          refine rRegC md0 hX rfl rfl rfl (by repeat' first | exact True.intro | exact rfl | apply And.intro | omega | exact Nat.le_of_ble_eq_true rfl) ?_
          refine rThen ?_
          refine rRet ?_
          have hy := Option.some.inj hT; subst hy
          exact rEndA [] [] [(0, .obj 5 v1)] (.v (.c (.int .i64 0))) hX rfl (by repeat' first | exact True.intro | exact rfl | apply And.intro | omega | exact Nat.le_of_ble_eq_true rfl) (by repeat' first | exact True.intro | exact rfl | apply And.intro) rfl rfl rfl (by repeat' first | exact True.intro | exact rfl | exact ⟨_, rfl, rfl⟩ | apply And.intro | exact Or.inl rfl) rfl rfl (by repeat' first | exact True.intro | exact rfl | exact ⟨_, rfl, rfl⟩ | apply And.intro | exact Or.inl rfl) rfl rfl
        refine rLoopM (overspill_outbits_Writer_Put_b1 N a1) (fun s1 => ⟨[(0, .v (.c (.ptr 0 0 0 0 0 0))), (1, .v (.c (.int .i64 a1))), (6, .v (.c (.int .i64 0))), (7, .v (.c (.int .i64 s1.1)))], [(0, .obj 5 s1.2)], 1⟩) hl (To.mk' [] 1 hε rfl (by repeat' first | exact True.intro | exact rfl | apply And.intro) (by repeat' first | exact True.intro | exact rfl | apply And.intro)) (fun s1 zs1 NNs1 hz hnexts1 houts1 => ?_)
        clear hl hT
        have hT := hz; clear hz
        refine rSeq ?_
        refine rSeq ?_
        refine rRegC md0 hX rfl rfl rfl (by repeat' first | exact True.intro | exact rfl | apply And.intro | omega | exact Nat.le_of_ble_eq_true rfl) ?_
        refine rThen ?_
        refine rCond rfl rfl (by repeat' first | exact True.intro | exact rfl | apply And.intro | omega | exact Nat.le_of_ble_eq_true rfl) (fun hc => ?_) (fun hc => ?_)
        · replace hT := sT hc hT
          refine rSkip ?_
          refine rThen ?_
          refine rSeq ?_
          refine rBlock ?_
          let c2 := (overspill_outbits_Writer_bit N (decide (((Int.toNat (a1 / 2 ^ (Int.toNat s1.1)) &&& Int.toNat 1 : Nat) : Int) = 1)) s1.2)
          replace hT := sIf hT; obtain ⟨⟨o1, o2, o3, o4, o5⟩, hT⟩ := hT
          refine rRegC md0 hX rfl rfl rfl (by (repeat' first | exact True.intro | with_reducible assumption | (with_reducible apply And.intro) | intro _) <;> first | assumption | exact rfl | omega | exact Nat.le_of_ble_eq_true rfl | exact selF (by assumption) | exact selT (by assumption) | exact And.intro rfl rfl | exact And.intro (by assumption) rfl | exact And.intro (by omega) rfl | (simp only [inK] at *; omega) | (simp_all [sel] <;> fail) | fail) ?_
          refine rInNormal ?_
          refine rThen ?_
          replace hT := sIf hT; obtain ⟨o1, hT⟩ := hT
          refine rRegC md0 hX rfl rfl rfl (by (repeat' first | exact True.intro | with_reducible assumption | (with_reducible apply And.intro) | intro _) <;> first | assumption | exact rfl | omega | exact Nat.le_of_ble_eq_true rfl | exact selF (by assumption) | exact selT (by assumption) | exact And.intro rfl rfl | exact And.intro (by assumption) rfl | exact And.intro (by omega) rfl | (simp only [inK] at *; omega) | (simp_all [sel] <;> fail) | fail) ?_
          exact hnexts1 _ (Option.some.inj hT).symm _ (To.mk' [] 1 hε rfl (by repeat' first | exact True.intro | exact rfl | apply And.intro) (by repeat' first | exact True.intro | exact rfl | apply And.intro))
        · replace hT := sF hc hT
          refine rExit ?_
          refine rThenExit ?_
          refine rThenExit ?_
          exact rTo (To.mk' [] 1 hε rfl (by repeat' first | exact True.intro | exact rfl | apply And.intro) (by repeat' first | exact True.intro | exact rfl | apply And.intro)) (hxs10 _ (houts1 _ (Option.some.inj hT).symm))
    · cases h
  · cases h
def outbits_plain_b1 (N : Nat) (a1 : ByteArray) (s1 : Nat) : Option (Nat ⊕ (Unit ⊕ Unit)) :=
  if (ByteArray.size a1 : Int) ≤ 9223372036854775807 then
    bif (decide (s1 < ByteArray.size a1)) then
      let x1 := (bif (decide (((Utf8.decode a1 s1).1 : Int) ≠ 48)) then (decide (((Utf8.decode a1 s1).1 : Int) ≠ 49)) else false)
      bif x1 then
        some (.inr (Sum.inl ()))
      else
        some (.inl (s1 + (Utf8.decode a1 s1).2))
    else
      some (.inr (Sum.inr ()))
  else none
def outbits_plain (N : Nat) (a1 : ByteArray) : Option Bool :=
  (iter (outbits_plain_b1 N a1) N 0).bind fun w1 =>
    (Sum.elim (fun v1 =>
      some false
    )
      (fun v2 =>
        some true
      )
    ) w1
def sp_outbits_plain (N : Nat) : X.Spec := fun args lk => match args with
  | [.v (.c (.str a1))] => some ⟨(outbits_plain N a1).isSome = true, .v (.c (.bool ((outbits_plain N a1).getD default))), [], []⟩
  | _ => none
set_option maxRecDepth 100000 in
set_option maxHeartbeats 1000000 in
theorem ok_outbits_plain (N : Nat) : FnOK Tryd.prog gt0 44 (sp_outbits_plain N) := by
  refine fnOK_handed Tryd.func44 rfl (by kernel_rfl) tt_ok (ktNil) ?_
  intro args lk r h hp
  unfold sp_outbits_plain at h
  split at h
  · rename_i a1
    cases h
    obtain ⟨x, hx⟩ := Option.isSome_iff_exists.1 hp
    simp only [hx, Option.getD_some]
    refine hand0 rfl rfl (fun w0 M ε0 hX => ?_)
    refine rCount (fun hε => ?_)
    have hT : outbits_plain N a1 = some x := hx; clear hx hp; unfold outbits_plain at hT
    refine rSeq ?_
    refine rRegC md0 hX rfl rfl rfl (by repeat' first | exact True.intro | exact rfl | apply And.intro | omega | exact Nat.le_of_ble_eq_true rfl) ?_
    refine rThen ?_
    refine rSeq ?_
    refine rSeq ?_
    refine rRegC md0 hX rfl rfl rfl (by repeat' first | exact True.intro | exact rfl | apply And.intro | omega | exact Nat.le_of_ble_eq_true rfl) ?_
    refine rThen ?_
    refine rBlock ?_
    replace hT := sBind hT; obtain ⟨w1, hl, hT⟩ := hT
    refine rJoinA (fun v1 => (Sum.inl v1) = w1) (fun v1 => ⟨[(2, .v (.c (.bool false)))], [], 1⟩) .ret (fun v1 hv => ?_) (fun hxs10 => ?_)
    · subst hv; clear hl; replace hT := (sElimL hT)
      refine rInRet ?_
      refine rThenRet ?_
      have hy := Option.some.inj hT; subst hy
      exact rEnd0 hX rfl (by repeat' first | exact True.intro | exact rfl | apply And.intro | omega | exact Nat.le_of_ble_eq_true rfl) (by repeat' first | exact True.intro | exact rfl | apply And.intro) rfl rfl rfl rfl rfl
    refine rJoinA (fun v2 => (Sum.inr v2) = w1) (fun v2 => ⟨[(2, .v (.c (.bool false)))], [], 1⟩) (.exit 0) (fun v2 hv => ?_) (fun hxs11 => ?_)
    · subst hv; clear hl; replace hT := (sElimR hT)
      refine rInHit ?_
      refine rThen ?_
      refine rSeq ?_
      refine rRegC md0 hX rfl rfl rfl (by repeat' first | exact True.intro | exact rfl | apply And.intro | omega | exact Nat.le_of_ble_eq_true rfl) ?_
      refine rThen ?_
      refine rRet ?_
      have hy := Option.some.inj hT; subst hy
      exact rEnd0 hX rfl (by repeat' first | exact True.intro | exact rfl | apply And.intro | omega | exact Nat.le_of_ble_eq_true rfl) (by repeat' first | exact True.intro | exact rfl | apply And.intro) rfl rfl rfl rfl rfl
    refine rLoopM (outbits_plain_b1 N a1) (fun s1 => ⟨[(2, .v (.c (.bool false))), (6, .v (.c (.ptr 0 0 0 0 0 0)))], [(0, .iter a1 s1)], 1⟩) hl (To.mk' [] 0 hε rfl (by repeat' first | exact True.intro | exact rfl | apply And.intro) (by repeat' first | exact True.intro | exact rfl | apply And.intro)) (fun s1 zs1 NNs1 hz hnexts1 houts1 => ?_)
    clear hl hT
    have hT := hz; clear hz
    refine rSeq ?_
    refine rRegSL ?_
    replace hT := sIf hT; obtain ⟨o1, hT⟩ := hT
    refine rSLNext rfl rfl rfl rfl rfl rfl (by repeat' first | exact True.intro | exact rfl | apply And.intro | omega | exact Nat.le_of_ble_eq_true rfl) rfl o1 rfl rfl (fun hb => ?_) (fun hb => ?_)
    · replace hT := sT (decide_eq_true hb) hT
      refine rSLDone md0 hX rfl rfl rfl (by (repeat' first | exact True.intro | with_reducible assumption | (with_reducible apply And.intro) | intro _) <;> first | assumption | exact rfl | omega | exact Nat.le_of_ble_eq_true rfl | exact selF (by assumption) | exact selT (by assumption) | exact And.intro rfl rfl | exact And.intro (by assumption) rfl | exact And.intro (by omega) rfl | (simp only [inK] at *; omega) | (simp_all [sel] <;> fail) | fail) ?_
      refine rThen ?_
      refine rSeq ?_
      refine rCondT rfl rfl (by (repeat' first | exact True.intro | with_reducible assumption | (with_reducible apply And.intro) | intro _) <;> first | assumption | exact rfl | omega | exact Nat.le_of_ble_eq_true rfl | exact selF (by assumption) | exact selT (by assumption) | exact And.intro rfl rfl | exact And.intro (by assumption) rfl | exact And.intro (by omega) rfl | (simp only [inK] at *; omega) | (simp_all [sel] <;> fail) | fail) rfl ?_
      refine rSkip ?_
      refine rThen ?_
      refine rBlock ?_
      refine rSeq ?_
      refine rRegC md0 hX rfl rfl rfl (by repeat' first | exact True.intro | exact rfl | apply And.intro | omega | exact Nat.le_of_ble_eq_true rfl) ?_
      refine rThen ?_
      refine rSeq ?_
      let x1 := (bif (decide (((Utf8.decode a1 s1).1 : Int) ≠ 48)) then (decide (((Utf8.decode a1 s1).1 : Int) ≠ 49)) else false)
      refine rRegC md0 hX rfl rfl rfl (by (repeat' first | exact True.intro | with_reducible assumption | (with_reducible apply And.intro) | intro _) <;> first | assumption | exact rfl | omega | exact Nat.le_of_ble_eq_true rfl | exact selF (by assumption) | exact selT (by assumption) | exact And.intro rfl rfl | exact And.intro (by assumption) rfl | exact And.intro (by omega) rfl | (simp only [inK] at *; omega) | (simp_all [sel] <;> fail) | fail) ?_
      refine rThen ?_
      refine rCond rfl rfl (by repeat' first | exact True.intro | exact rfl | apply And.intro | omega | exact Nat.le_of_ble_eq_true rfl) (fun hc => ?_) (fun hc => ?_)
      · replace hT := sT hc hT
        refine rSeq ?_
        refine rRegC md0 hX rfl rfl rfl (by repeat' first | exact True.intro | exact rfl | apply And.intro | omega | exact Nat.le_of_ble_eq_true rfl) ?_
        refine rThen ?_
        refine rRet ?_
        refine rInRet ?_
        refine rThenRet ?_
        exact rTo (To.mk' [] 0 hε rfl (by repeat' first | exact True.intro | exact rfl | apply And.intro) (by repeat' first | exact True.intro | exact rfl | apply And.intro)) (hxs10 _ (houts1 _ (Option.some.inj hT).symm))
      · replace hT := sF hc hT
        refine rSkip ?_
        refine rInNormal ?_
        exact hnexts1 _ (Option.some.inj hT).symm _ (To.mk' [] 0 hε rfl (by repeat' first | exact True.intro | exact rfl | apply And.intro) (by repeat' first | exact True.intro | exact rfl | apply And.intro))
    · replace hT := sF (decide_eq_false hb) hT
      refine rSLDone md0 hX rfl rfl rfl (by (repeat' first | exact True.intro | with_reducible assumption | (with_reducible apply And.intro) | intro _) <;> first | assumption | exact rfl | omega | exact Nat.le_of_ble_eq_true rfl | exact selF (by assumption) | exact selT (by assumption) | exact And.intro rfl rfl | exact And.intro (by assumption) rfl | exact And.intro (by omega) rfl | (simp only [inK] at *; omega) | (simp_all [sel] <;> fail) | fail) ?_
      refine rThen ?_
      refine rSeq ?_
      refine rCondF rfl rfl (by (repeat' first | exact True.intro | with_reducible assumption | (with_reducible apply And.intro) | intro _) <;> first | assumption | exact rfl | omega | exact Nat.le_of_ble_eq_true rfl | exact selF (by assumption) | exact selT (by assumption) | exact And.intro rfl rfl | exact And.intro (by assumption) rfl | exact And.intro (by omega) rfl | (simp only [inK] at *; omega) | (simp_all [sel] <;> fail) | fail) rfl ?_
      refine rExit ?_
      refine rThenExit ?_
      refine rThenExit ?_
      exact rTo (To.mk' [] 0 hε rfl (by repeat' first | exact True.intro | exact rfl | apply And.intro) (by repeat' first | exact True.intro | exact rfl | apply And.intro)) (hxs11 _ (houts1 _ (Option.some.inj hT).symm))
  · cases h
def overspill_outbits_Writer_Add_b1 (N : Nat) (a1 : ByteArray) (s1 : ((List Bool) × Nat)) : Option (((List Bool) × Nat) ⊕ (List Bool)) :=
  if (ByteArray.size a1 : Int) ≤ 9223372036854775807 then
    bif (decide (s1.2 < ByteArray.size a1)) then
      let c2 := (overspill_outbits_Writer_bit N (decide (((Utf8.decode a1 s1.2).1 : Int) = 49)) s1.1)
      if c2.isSome = true then
        some (.inl ((c2.getD default), (s1.2 + (Utf8.decode a1 s1.2).2)))
      else none
    else
      some (.inr s1.1)
  else none
def overspill_outbits_Writer_Add (N : Nat) (a1 : ByteArray) (a2 : (List Bool)) : Option (Int × (List Bool)) :=
  let c1 := (outbits_plain N a1)
  if ((!false) = true → c1.isSome = true) then
    bif (bif false then true else (!(c1.getD default))) then
      some (1, a2)
    else
      (iter (overspill_outbits_Writer_Add_b1 N a1) N (a2, 0)).bind fun v1 =>
        some (0, v1)
  else none
def sp_overspill_outbits_Writer_Add (N : Nat) : X.Spec := fun args lk => match args with
  | [.v (.c (.ptr i0 0 0 0 0 0)), .v (.c (.str a1))] => (match lk i0 with
    | some (.obj 5 a2) => some ⟨(overspill_outbits_Writer_Add N a1 a2).isSome = true, .v (.c (.int .i64 ((overspill_outbits_Writer_Add N a1 a2).getD default).1)), [], [(i0, .obj 5 ((overspill_outbits_Writer_Add N a1 a2).getD default).2)]⟩
    | _ => none)
  | _ => none
set_option maxRecDepth 100000 in
set_option maxHeartbeats 1000000 in
theorem ok_overspill_outbits_Writer_Add (N : Nat) : FnOK Tryd.prog gt0 24 (sp_overspill_outbits_Writer_Add N) := by
  refine fnOK_handed Tryd.func24 rfl (by kernel_rfl) tt_ok (ktCons (ok_overspill_outbits_Writer_bit N) (ktCons (ok_outbits_plain N) (ktNil))) ?_
  intro args lk r h hp
  unfold sp_overspill_outbits_Writer_Add at h
  split at h
  · rename_i i0 a1
    split at h
    · rename_i a2 hl0
      cases h
      obtain ⟨x, hx⟩ := Option.isSome_iff_exists.1 hp
      simp only [hx, Option.getD_some]
      refine handL [i0] 1 [(0, .obj 5 a2)] [.v (.c (.ptr 0 0 0 0 0 0)), .v (.c (.str a1))] rfl rfl rfl ⟨isSome_of hl0, trivial⟩ ⟨⟨rfl, (by repeat' first | exact True.intro | exact rfl | exact ⟨_, rfl, rfl⟩ | apply And.intro | exact Or.inl rfl), _, hl0, .inl rfl⟩, trivial⟩ rfl (fun w0 M ε0 hX => ?_)
      refine rCount (fun hε => ?_)
      have hT : overspill_outbits_Writer_Add N a1 a2 = some x := hx; clear hx hp; unfold overspill_outbits_Writer_Add at hT
      refine rSeq ?_
      refine rRegC md0 hX rfl rfl rfl (by repeat' first | exact True.intro | exact rfl | apply And.intro | omega | exact Nat.le_of_ble_eq_true rfl) ?_
      refine rThen ?_
      refine rSeq ?_
      refine rSeq ?_
      let c1 := (outbits_plain N a1)
      replace hT := sIf hT; obtain ⟨o1, hT⟩ := hT
      refine rRegC md0 hX rfl rfl rfl (by (repeat' first | exact True.intro | with_reducible assumption | (with_reducible apply And.intro) | intro _) <;> first | assumption | exact o1 (by assumption) | exact rfl | omega | exact Nat.le_of_ble_eq_true rfl | exact selF (by assumption) | exact selT (by assumption) | exact And.intro rfl rfl | exact And.intro (by assumption) rfl | exact And.intro (by omega) rfl | (simp only [inK] at *; omega) | (simp_all [sel] <;> fail) | fail) ?_
      refine rThen ?_
      refine rCond rfl rfl (by repeat' first | exact True.intro | exact rfl | apply And.intro | omega | exact Nat.le_of_ble_eq_true rfl) (fun hc => ?_) (fun hc => ?_)
      · replace hT := sT hc hT
        refine rSeq ?_
        refine rRegC md0 hX rfl rfl rfl (by repeat' first | exact True.intro | exact rfl | apply And.intro | omega | exact Nat.le_of_ble_eq_true rfl) ?_
        refine rThen ?_
        refine rRet ?_
        refine rThenRet ?_
        have hy := Option.some.inj hT; subst hy
        exact rEndA [] [] [(0, .obj 5 a2)] (.v (.c (.int .i64 1))) hX rfl (by repeat' first | exact True.intro | exact rfl | apply And.intro | omega | exact Nat.le_of_ble_eq_true rfl) (by repeat' first | exact True.intro | exact rfl | apply And.intro) rfl rfl rfl (by repeat' first | exact True.intro | exact rfl | exact ⟨_, rfl, rfl⟩ | apply And.intro | exact Or.inl rfl) rfl rfl (by repeat' first | exact True.intro | exact rfl | exact ⟨_, rfl, rfl⟩ | apply And.intro | exact Or.inl rfl) rfl rfl
      · replace hT := sF hc hT
        refine rSkip ?_
        refine rThen ?_
        refine rSeq ?_
        refine rSeq ?_
        refine rRegC md0 hX rfl rfl rfl (by repeat' first | exact True.intro | exact rfl | apply And.intro | omega | exact Nat.le_of_ble_eq_true rfl) ?_
        refine rThen ?_
        refine rBlock ?_
        replace hT := sBind hT; obtain ⟨w1, hl, hT⟩ := hT
        refine rJoinA (fun v1 => v1 = w1) (fun v1 => ⟨[(4, .v (.c (.int .i64 0)))], [(0, .obj 5 v1)], 2⟩) (.exit 0) (fun v1 hv => ?_) (fun hxs10 => ?_)
        · subst hv; clear hl
          refine rInHit ?_
          refine rThen ?_
          refine rSeq ?_
          refine rRegC md0 hX rfl rfl rfl (by repeat' first | exact True.intro | exact rfl | apply And.intro | omega | exact Nat.le_of_ble_eq_true rfl) ?_
          refine rThen ?_
          refine rRet ?_
          have hy := Option.some.inj hT; subst hy
          exact rEndA [] [] [(0, .obj 5 v1)] (.v (.c (.int .i64 0))) hX rfl (by repeat' first | exact True.intro | exact rfl | apply And.intro | omega | exact Nat.le_of_ble_eq_true rfl) (by repeat' first | exact True.intro | exact rfl | apply And.intro) rfl rfl rfl (by repeat' first | exact True.intro | exact rfl | exact ⟨_, rfl, rfl⟩ | apply And.intro | exact Or.inl rfl) rfl rfl (by repeat' first | exact True.intro | exact rfl | exact ⟨_, rfl, rfl⟩ | apply And.intro | exact Or.inl rfl) rfl rfl
        refine rLoopM (overspill_outbits_Writer_Add_b1 N a1) (fun s1 => ⟨[(0, .v (.c (.ptr 0 0 0 0 0 0))), (4, .v (.c (.int .i64 0))), (15, .v (.c (.ptr 1 0 0 0 0 0)))], [(0, .obj 5 s1.1), (1, .iter a1 s1.2)], 2⟩) hl (To.mk' [] 1 hε rfl (by repeat' first | exact True.intro | exact rfl | apply And.intro) (by repeat' first | exact True.intro | exact rfl | apply And.intro)) (fun s1 zs1 NNs1 hz hnexts1 houts1 => ?_)
        clear hl hT
        have hT := hz; clear hz
        refine rSeq ?_
        refine rRegSL ?_
        replace hT := sIf hT; obtain ⟨o1, hT⟩ := hT
        refine rSLNext rfl rfl rfl rfl rfl rfl (by repeat' first | exact True.intro | exact rfl | apply And.intro | omega | exact Nat.le_of_ble_eq_true rfl) rfl o1 rfl rfl (fun hb => ?_) (fun hb => ?_)
        · replace hT := sT (decide_eq_true hb) hT
          refine rSLDone md0 hX rfl rfl rfl (by (repeat' first | exact True.intro | with_reducible assumption | (with_reducible apply And.intro) | intro _) <;> first | assumption | exact rfl | omega | exact Nat.le_of_ble_eq_true rfl | exact selF (by assumption) | exact selT (by assumption) | exact And.intro rfl rfl | exact And.intro (by assumption) rfl | exact And.intro (by omega) rfl | (simp only [inK] at *; omega) | (simp_all [sel] <;> fail) | fail) ?_
          refine rThen ?_
          refine rSeq ?_
          refine rCondT rfl rfl (by (repeat' first | exact True.intro | with_reducible assumption | (with_reducible apply And.intro) | intro _) <;> first | assumption | exact rfl | omega | exact Nat.le_of_ble_eq_true rfl | exact selF (by assumption) | exact selT (by assumption) | exact And.intro rfl rfl | exact And.intro (by assumption) rfl | exact And.intro (by omega) rfl | (simp only [inK] at *; omega) | (simp_all [sel] <;> fail) | fail) rfl ?_
          refine rSkip ?_
          refine rThen ?_
          refine rBlock ?_
          refine rSeq ?_
          refine rRegC md0 hX rfl rfl rfl (by repeat' first | exact True.intro | exact rfl | apply And.intro | omega | exact Nat.le_of_ble_eq_true rfl) ?_
          refine rThen ?_
          let c2 := (overspill_outbits_Writer_bit N (decide (((Utf8.decode a1 s1.2).1 : Int) = 49)) s1.1)
          replace hT := sIf hT; obtain ⟨o1, hT⟩ := hT
          refine rRegC md0 hX rfl rfl rfl (by (repeat' first | exact True.intro | with_reducible assumption | (with_reducible apply And.intro) | intro _) <;> first | assumption | exact rfl | omega | exact Nat.le_of_ble_eq_true rfl | exact selF (by assumption) | exact selT (by assumption) | exact And.intro rfl rfl | exact And.intro (by assumption) rfl | exact And.intro (by omega) rfl | (simp only [inK] at *; omega) | (simp_all [sel] <;> fail) | fail) ?_
          refine rInNormal ?_
          exact hnexts1 _ (Option.some.inj hT).symm _ (To.mk' [] 1 hε rfl (by repeat' first | exact True.intro | exact rfl | apply And.intro) (by repeat' first | exact True.intro | exact rfl | apply And.intro))
        · replace hT := sF (decide_eq_false hb) hT
          refine rSLDone md0 hX rfl rfl rfl (by (repeat' first | exact True.intro | with_reducible assumption | (with_reducible apply And.intro) | intro _) <;> first | assumption | exact rfl | omega | exact Nat.le_of_ble_eq_true rfl | exact selF (by assumption) | exact selT (by assumption) | exact And.intro rfl rfl | exact And.intro (by assumption) rfl | exact And.intro (by omega) rfl | (simp only [inK] at *; omega) | (simp_all [sel] <;> fail) | fail) ?_
          refine rThen ?_
          refine rSeq ?_
          refine rCondF rfl rfl (by (repeat' first | exact True.intro | with_reducible assumption | (with_reducible apply And.intro) | intro _) <;> first | assumption | exact rfl | omega | exact Nat.le_of_ble_eq_true rfl | exact selF (by assumption) | exact selT (by assumption) | exact And.intro rfl rfl | exact And.intro (by assumption) rfl | exact And.intro (by omega) rfl | (simp only [inK] at *; omega) | (simp_all [sel] <;> fail) | fail) rfl ?_
          refine rExit ?_
          refine rThenExit ?_
          refine rThenExit ?_
          exact rTo (To.mk' [] 1 hε rfl (by repeat' first | exact True.intro | exact rfl | apply And.intro) (by repeat' first | exact True.intro | exact rfl | apply And.intro)) (hxs10 _ (houts1 _ (Option.some.inj hT).symm))
    · cases h
  · cases h
def blocks_Put_b1 (N : Nat) (a3 : Nat) (a5 : (List (Bool × (Int × Int)))) (s1 : (Int × (List Bool))) : Option ((Int × (List Bool)) ⊕ (List Bool)) :=
  bif (decide (s1.1 < (a3 : Int))) then
    if (0 : Int) ≤ s1.1 ∧ s1.1 < (a3 : Int) ∧ (s1.1).toNat < a5.length then
      let c3 := (tcoef_Row N (a5.getD (s1.1).toNat (false, ((0 : Int), (0 : Int)))).1 (a5.getD (s1.1).toNat (false, ((0 : Int), (0 : Int)))).2.1 (a5.getD (s1.1).toNat (false, ((0 : Int), (0 : Int)))).2.2)
      if c3.isSome = true then
        let c4 := (overspill_outbits_Writer_Add N (c3.getD default).1 s1.2)
        if c4.isSome = true then
          if inK .i64 (s1.1 + 1) then
            some (.inl ((s1.1 + 1), (c4.getD default).2))
          else none
        else none
      else none
    else none
  else
    some (.inr s1.2)
def blocks_Put (N : Nat) (a1 : Bool) (a2 : Int) (a3 : Nat) (a4 : (List Bool)) (a5 : (List (Bool × (Int × Int)))) : Option (Int × (List Bool)) :=
  let c1 := (blocks_may N a1 a2 a3 a5)
  if c1.isSome = true then
    bif (!(c1.getD default)) then
      some (7, a4)
    else
      let c2 := (overspill_outbits_Writer_Put N (bif (decide (a2 = 128)) then 255 else a2) 8 a4)
      if (a1 = true → c2.isSome = true) then
        (iter (blocks_Put_b1 N a3 a5) N (0, (bif a1 then (c2.getD default).2 else a4))).bind fun v1 =>
          some (0, v1)
      else none
  else none
def sp_blocks_Put (N : Nat) : X.Spec := fun args lk => match args with
  | [.v (.c (.ptr i0 0 0 0 0 0)), .v (.c (.bool a1)), .v (.c (.int .i64 a2)), .v (.c (.sl i1 0 a3 3))] => (match lk i0 with
    | some (.obj 5 a4) => (match lk i1 with
    | some (.mem _ _ _ b1) => (match frzB (.pair .bool (.pair (.int .i64) (.int .i64))) b1 with
    | some a5 => (match Nat.beq i0 i1 with
    | false => some ⟨(blocks_Put N a1 a2 a3 a4 a5).isSome = true, .v (.c (.int .i64 ((blocks_Put N a1 a2 a3 a4 a5).getD default).1)), [], [(i0, .obj 5 ((blocks_Put N a1 a2 a3 a4 a5).getD default).2)]⟩
    | true => none)
    | none => none)
    | _ => none)
    | _ => none)
  | _ => none
set_option maxRecDepth 100000 in
set_option maxHeartbeats 1000000 in
theorem ok_blocks_Put (N : Nat) : FnOK Tryd.prog gt0 25 (sp_blocks_Put N) := by
  refine fnOK_handed Tryd.func25 rfl (by kernel_rfl) tt_ok (ktCons (ok_overspill_outbits_Writer_Add N) (ktCons (ok_tcoef_Row N) (ktCons (ok_overspill_outbits_Writer_Put N) (ktCons (ok_blocks_may N) (ktNil))))) ?_
  intro args lk r h hp
  unfold sp_blocks_Put at h
  split at h
  · rename_i i0 a1 a2 i1 a3
    split at h
    · rename_i a4 hl0
      split at h
      · rename_i _ _ _ b1 hl1
        split at h
        · rename_i a5 hf1
          split at h
          · rename_i hb0_1
            change (List (Bool × (Int × Int))) at a5
            cases h
            obtain ⟨x, hx⟩ := Option.isSome_iff_exists.1 hp
            simp only [hx, Option.getD_some]
            refine handL [i0, i1] 2 [(0, .obj 5 a4), (1, .mem false 23 none (.lst (.pair .bool (.pair (.int .i64) (.int .i64))) a5))] [.v (.c (.ptr 0 0 0 0 0 0)), .v (.c (.bool a1)), .v (.c (.int .i64 a2)), .v (.c (.sl 1 0 a3 3))] rfl rfl rfl ⟨isSome_of hl1, isSome_of hl0, trivial⟩ ⟨⟨rfl, (by repeat' first | exact True.intro | exact rfl | exact ⟨_, rfl, rfl⟩ | apply And.intro | exact Or.inl rfl), _, hl0, .inl rfl⟩, ⟨rfl, (by repeat' first | exact True.intro | exact rfl | exact ⟨_, rfl, rfl⟩ | apply And.intro | exact Or.inl rfl), _, hl1, sub_frz hf1⟩, trivial⟩ (by simp [apartB, allB, rn, nth, E.own, hb0_1, beq_ff hb0_1]) (fun w0 M ε0 hX => ?_)
            refine rCount (fun hε => ?_)
            have hT : blocks_Put N a1 a2 a3 a4 a5 = some x := hx; clear hx hp; unfold blocks_Put at hT
            refine rSeq ?_
            refine rRegC md0 hX rfl rfl rfl (by repeat' first | exact True.intro | exact rfl | apply And.intro | omega | exact Nat.le_of_ble_eq_true rfl) ?_
            refine rThen ?_
            refine rSeq ?_
            refine rBlock ?_
            refine rSeq ?_
            refine rRegC md0 hX rfl rfl rfl (by repeat' first | exact True.intro | exact rfl | apply And.intro | omega | exact Nat.le_of_ble_eq_true rfl) ?_
            refine rThen ?_
            refine rCondF rfl rfl (by (repeat' first | exact True.intro | with_reducible assumption | (with_reducible apply And.intro) | intro _) <;> first | assumption | exact rfl | omega | exact Nat.le_of_ble_eq_true rfl | exact selF (by assumption) | exact selT (by assumption) | exact And.intro rfl rfl | exact And.intro (by assumption) rfl | exact And.intro (by omega) rfl | (simp only [inK] at *; omega) | (simp_all [sel] <;> fail) | fail) rfl ?_
            refine rSeq ?_
            let c1 := (blocks_may N a1 a2 a3 a5)
            replace hT := sIf hT; obtain ⟨o1, hT⟩ := hT
            refine rRegC md0 hX rfl rfl rfl (by (repeat' first | exact True.intro | with_reducible assumption | (with_reducible apply And.intro) | intro _) <;> first | assumption | exact rfl | omega | exact Nat.le_of_ble_eq_true rfl | exact selF (by assumption) | exact selT (by assumption) | exact And.intro rfl rfl | exact And.intro (by assumption) rfl | exact And.intro (by omega) rfl | (simp only [inK] at *; omega) | (simp_all [sel] <;> fail) | fail) ?_
            refine rThen ?_
            refine rCond rfl rfl (by repeat' first | exact True.intro | exact rfl | apply And.intro | omega | exact Nat.le_of_ble_eq_true rfl) (fun hc => ?_) (fun hc => ?_)
            · replace hT := sT hc hT
              refine rSeq ?_
              refine rRegC md0 hX rfl rfl rfl (by repeat' first | exact True.intro | exact rfl | apply And.intro | omega | exact Nat.le_of_ble_eq_true rfl) ?_
              refine rThen ?_
              refine rRet ?_
              refine rInRet ?_
              refine rThenRet ?_
              have hy := Option.some.inj hT; subst hy
              exact rEndA [] [] [(0, .obj 5 a4)] (.v (.c (.int .i64 7))) hX rfl (by repeat' first | exact True.intro | exact rfl | apply And.intro | omega | exact Nat.le_of_ble_eq_true rfl) (by repeat' first | exact True.intro | exact rfl | apply And.intro) rfl rfl rfl (by repeat' first | exact True.intro | exact rfl | exact ⟨_, rfl, rfl⟩ | apply And.intro | exact Or.inl rfl) rfl rfl (by repeat' first | exact True.intro | exact rfl | exact ⟨_, rfl, rfl⟩ | apply And.intro | exact Or.inl rfl) rfl rfl
            · replace hT := sF hc hT
              refine rSkip ?_
              refine rInNormal ?_
              refine rThen ?_
              refine rSeq ?_
              refine rSeq ?_
              refine rRegC md0 hX rfl rfl rfl (by repeat' first | exact True.intro | exact rfl | apply And.intro | omega | exact Nat.le_of_ble_eq_true rfl) ?_
              refine rThen ?_
              refine rJoin ⟨[(0, .v (.c (.ptr 0 0 0 0 0 0))), (1, .v (.c (.bool a1))), (2, .v (.c (.int .i64 (bif (decide (a2 = 128)) then 255 else a2)))), (3, .v (.c (.sl 1 0 a3 3))), (8, .v (.c (.int .i64 0)))], [(0, .obj 5 a4), (1, .mem false 23 none (.lst (.pair .bool (.pair (.int .i64) (.int .i64))) a5))], 2⟩ ?_ (fun hj => ?_)
              · skip
                refine rThen ?_
                refine rSeq ?_
                refine rSeq ?_
                refine rRegC md0 hX rfl rfl rfl (by repeat' first | exact True.intro | exact rfl | apply And.intro | omega | exact Nat.le_of_ble_eq_true rfl) ?_
                refine rThen ?_
                let c2 := (overspill_outbits_Writer_Put N (bif (decide (a2 = 128)) then 255 else a2) 8 a4)
                replace hT := sIf hT; obtain ⟨q1, hT⟩ := hT
                refine rJoin ⟨[(0, .v (.c (.ptr 0 0 0 0 0 0))), (3, .v (.c (.sl 1 0 a3 3))), (8, .v (.c (.int .i64 0)))], [(0, .obj 5 (bif a1 then (c2.getD default).2 else a4)), (1, .mem false 23 none (.lst (.pair .bool (.pair (.int .i64) (.int .i64))) a5))], 2⟩ ?_ (fun hj => ?_)
                · skip
                  refine rThen ?_
                  refine rSeq ?_
                  refine rSeq ?_
                  refine rRegC md0 hX rfl rfl rfl (by repeat' first | exact True.intro | exact rfl | apply And.intro | omega | exact Nat.le_of_ble_eq_true rfl) ?_
                  refine rThen ?_
                  refine rBlock ?_
                  replace hT := sBind hT; obtain ⟨w1, hl, hT⟩ := hT
                  refine rJoinA (fun v1 => v1 = w1) (fun v1 => ⟨[(8, .v (.c (.int .i64 0)))], [(0, .obj 5 v1), (1, .mem false 23 none (.lst (.pair .bool (.pair (.int .i64) (.int .i64))) a5))], 2⟩) (.exit 1) (fun v1 hv => ?_) (fun hxs10 => ?_)
                  · subst hv; clear hl
                    refine rInHit ?_
                    refine rThen ?_
                    refine rSeq ?_
                    refine rRegC md0 hX rfl rfl rfl (by repeat' first | exact True.intro | exact rfl | apply And.intro | omega | exact Nat.le_of_ble_eq_true rfl) ?_
                    refine rThen ?_
                    refine rRet ?_
                    have hy := Option.some.inj hT; subst hy
                    exact rEndA [] [] [(0, .obj 5 v1)] (.v (.c (.int .i64 0))) hX rfl (by repeat' first | exact True.intro | exact rfl | apply And.intro | omega | exact Nat.le_of_ble_eq_true rfl) (by repeat' first | exact True.intro | exact rfl | apply And.intro) rfl rfl rfl (by repeat' first | exact True.intro | exact rfl | exact ⟨_, rfl, rfl⟩ | apply And.intro | exact Or.inl rfl) rfl rfl (by repeat' first | exact True.intro | exact rfl | exact ⟨_, rfl, rfl⟩ | apply And.intro | exact Or.inl rfl) rfl rfl
                  refine rLoopM (blocks_Put_b1 N a3 a5) (fun s1 => ⟨[(0, .v (.c (.ptr 0 0 0 0 0 0))), (8, .v (.c (.int .i64 0))), (28, .v (.c (.sl 1 0 a3 3))), (29, .v (.c (.int .i64 (a3 : Int)))), (30, .v (.c (.int .i64 s1.1)))], [(0, .obj 5 s1.2), (1, .mem false 23 none (.lst (.pair .bool (.pair (.int .i64) (.int .i64))) a5))], 2⟩) hl (To.mk' [] 2 hε rfl (by repeat' first | exact True.intro | exact rfl | apply And.intro) (by repeat' first | exact True.intro | exact rfl | apply And.intro)) (fun s1 zs1 NNs1 hz hnexts1 houts1 => ?_)
                  clear hl hT
                  have hT := hz; clear hz
                  refine rSeq ?_
                  refine rRegC md0 hX rfl rfl rfl (by repeat' first | exact True.intro | exact rfl | apply And.intro | omega | exact Nat.le_of_ble_eq_true rfl) ?_
                  refine rThen ?_
                  refine rSeq ?_
                  refine rCond rfl rfl (by repeat' first | exact True.intro | exact rfl | apply And.intro | omega | exact Nat.le_of_ble_eq_true rfl) (fun hc => ?_) (fun hc => ?_)
                  · replace hT := sT hc hT
                    refine rSkip ?_
                    refine rThen ?_
                    refine rSeq ?_
                    refine rBlock ?_
                    refine rSeq ?_
                    replace hT := sIf hT; obtain ⟨⟨o1, o2, o3⟩, hT⟩ := hT
                    refine rRegC md0 hX rfl rfl rfl (by (repeat' first | exact True.intro | with_reducible assumption | (with_reducible apply And.intro) | intro _) <;> first | assumption | exact rfl | omega | exact Nat.le_of_ble_eq_true rfl | exact selF (by assumption) | exact selT (by assumption) | exact And.intro rfl rfl | exact And.intro (by assumption) rfl | exact And.intro (by omega) rfl | (simp only [inK] at *; omega) | (simp_all [sel] <;> fail) | fail) ?_
                    refine rThen ?_
                    refine rSeq ?_
                    let c3 := (tcoef_Row N (a5.getD (s1.1).toNat (false, ((0 : Int), (0 : Int)))).1 (a5.getD (s1.1).toNat (false, ((0 : Int), (0 : Int)))).2.1 (a5.getD (s1.1).toNat (false, ((0 : Int), (0 : Int)))).2.2)
                    replace hT := sIf hT; obtain ⟨o1, hT⟩ := hT
                    refine rRegC md0 hX rfl rfl rfl (by (repeat' first | exact True.intro | with_reducible assumption | (with_reducible apply And.intro) | intro _) <;> first | assumption | exact rfl | omega | exact Nat.le_of_ble_eq_true rfl | exact selF (by assumption) | exact selT (by assumption) | exact And.intro rfl rfl | exact And.intro (by assumption) rfl | exact And.intro (by omega) rfl | (simp only [inK] at *; omega) | (simp_all [sel] <;> fail) | fail) ?_
                    refine rThen ?_
                    let c4 := (overspill_outbits_Writer_Add N (c3.getD default).1 s1.2)
                    replace hT := sIf hT; obtain ⟨o1, hT⟩ := hT
                    refine rRegC md0 hX rfl rfl rfl (by (repeat' first | exact True.intro | with_reducible assumption | (with_reducible apply And.intro) | intro _) <;> first | assumption | exact rfl | omega | exact Nat.le_of_ble_eq_true rfl | exact selF (by assumption) | exact selT (by assumption) | exact And.intro rfl rfl | exact And.intro (by assumption) rfl | exact And.intro (by omega) rfl | (simp only [inK] at *; omega) | (simp_all [sel] <;> fail) | fail) ?_
                    refine rInNormal ?_
                    refine rThen ?_
                    replace hT := sIf hT; obtain ⟨o1, hT⟩ := hT
                    refine rRegC md0 hX rfl rfl rfl (by (repeat' first | exact True.intro | with_reducible assumption | (with_reducible apply And.intro) | intro _) <;> first | assumption | exact rfl | omega | exact Nat.le_of_ble_eq_true rfl | exact selF (by assumption) | exact selT (by assumption) | exact And.intro rfl rfl | exact And.intro (by assumption) rfl | exact And.intro (by omega) rfl | (simp only [inK] at *; omega) | (simp_all [sel] <;> fail) | fail) ?_
                    exact hnexts1 _ (Option.some.inj hT).symm _ (To.mk' [] 2 hε rfl (by repeat' first | exact True.intro | exact rfl | apply And.intro) (by repeat' first | exact True.intro | exact rfl | apply And.intro))
                  · replace hT := sF hc hT
                    refine rExit ?_
                    refine rThenExit ?_
                    refine rThenExit ?_
                    exact rTo (To.mk' [] 2 hε rfl (by repeat' first | exact True.intro | exact rfl | apply And.intro) (by repeat' first | exact True.intro | exact rfl | apply And.intro)) (hxs10 _ (houts1 _ (Option.some.inj hT).symm))
                · clear hT
                  refine rCond rfl rfl (by repeat' first | exact True.intro | exact rfl | apply And.intro | omega | exact Nat.le_of_ble_eq_true rfl) (fun hc => ?_) (fun hc => ?_)
                  · skip
                    have q1 := q1 hc
                    refine rRegC md0 hX rfl rfl rfl (by (repeat' first | exact True.intro | with_reducible assumption | (with_reducible apply And.intro) | intro _) <;> first | assumption | exact rfl | omega | exact Nat.le_of_ble_eq_true rfl | exact selF (by assumption) | exact selT (by assumption) | exact And.intro rfl rfl | exact And.intro (by assumption) rfl | exact And.intro (by omega) rfl | (simp only [inK] at *; omega) | (simp_all [sel] <;> fail) | fail) ?_
                    exact rTo (To.mk' [] 2 hε rfl (by (repeat' first | exact True.intro | exact rfl | apply And.intro) <;> (repeat' first | exact rfl | refine Eq.trans ?_ (cTr (by assumption)) | refine Eq.trans ?_ (cFr (by assumption)) | refine Eq.trans (cTl (by assumption)) ?_ | refine Eq.trans (cFl (by assumption)) ?_)) (by (repeat' first | exact True.intro | exact rfl | apply And.intro) <;> (repeat' first | exact rfl | refine Eq.trans ?_ (cTr (by assumption)) | refine Eq.trans ?_ (cFr (by assumption)) | refine Eq.trans (cTl (by assumption)) ?_ | refine Eq.trans (cFl (by assumption)) ?_))) hj
                  · skip
                    refine rSkip ?_
                    exact rTo (To.mk' [] 2 hε rfl (by (repeat' first | exact True.intro | exact rfl | apply And.intro) <;> (repeat' first | exact rfl | refine Eq.trans ?_ (cTr (by assumption)) | refine Eq.trans ?_ (cFr (by assumption)) | refine Eq.trans (cTl (by assumption)) ?_ | refine Eq.trans (cFl (by assumption)) ?_)) (by (repeat' first | exact True.intro | exact rfl | apply And.intro) <;> (repeat' first | exact rfl | refine Eq.trans ?_ (cTr (by assumption)) | refine Eq.trans ?_ (cFr (by assumption)) | refine Eq.trans (cTl (by assumption)) ?_ | refine Eq.trans (cFl (by assumption)) ?_))) hj
              · clear hT
                refine rCond rfl rfl (by repeat' first | exact True.intro | exact rfl | apply And.intro | omega | exact Nat.le_of_ble_eq_true rfl) (fun hc => ?_) (fun hc => ?_)
                · skip
                  refine rRegC md0 hX rfl rfl rfl (by repeat' first | exact True.intro | exact rfl | apply And.intro | omega | exact Nat.le_of_ble_eq_true rfl) ?_
                  exact rTo (To.mk' [] 2 hε rfl (by (repeat' first | exact True.intro | exact rfl | apply And.intro) <;> (repeat' first | exact rfl | refine Eq.trans ?_ (cTr (by assumption)) | refine Eq.trans ?_ (cFr (by assumption)) | refine Eq.trans (cTl (by assumption)) ?_ | refine Eq.trans (cFl (by assumption)) ?_)) (by (repeat' first | exact True.intro | exact rfl | apply And.intro) <;> (repeat' first | exact rfl | refine Eq.trans ?_ (cTr (by assumption)) | refine Eq.trans ?_ (cFr (by assumption)) | refine Eq.trans (cTl (by assumption)) ?_ | refine Eq.trans (cFl (by assumption)) ?_))) hj
                · skip
                  refine rSkip ?_
                  exact rTo (To.mk' [] 2 hε rfl (by (repeat' first | exact True.intro | exact rfl | apply And.intro) <;> (repeat' first | exact rfl | refine Eq.trans ?_ (cTr (by assumption)) | refine Eq.trans ?_ (cFr (by assumption)) | refine Eq.trans (cTl (by assumption)) ?_ | refine Eq.trans (cFl (by assumption)) ?_)) (by (repeat' first | exact True.intro | exact rfl | apply And.intro) <;> (repeat' first | exact rfl | refine Eq.trans ?_ (cTr (by assumption)) | refine Eq.trans ?_ (cFr (by assumption)) | refine Eq.trans (cTl (by assumption)) ?_ | refine Eq.trans (cFl (by assumption)) ?_))) hj
          · cases h
        · cases h
      · cases h
    · cases h
  · cases h
def overspill_outbits_Writer_Text (N : Nat) (a1 : (List Bool)) : Option (ByteArray × (List Bool)) :=
  if (a1.length : Int) ≤ 9223372036854775800 then
    if (((a1.length + 7) / 8) : Int) ≤ 9223372036854775807 then
      some ((bytesOf ((packB a1).take ((a1.length + 7) / 8))), a1)
    else none
  else none
def sp_overspill_outbits_Writer_Text (N : Nat) : X.Spec := fun args lk => match args with
  | [.v (.c (.ptr i0 0 0 0 0 0))] => (match lk i0 with
    | some (.obj 5 a1) => some ⟨(overspill_outbits_Writer_Text N a1).isSome = true, .v (.c (.str ((overspill_outbits_Writer_Text N a1).getD default).1)), [], [(i0, .obj 5 ((overspill_outbits_Writer_Text N a1).getD default).2)]⟩
    | _ => none)
  | _ => none
set_option maxRecDepth 100000 in
set_option maxHeartbeats 1000000 in
theorem ok_overspill_outbits_Writer_Text (N : Nat) : FnOK Tryd.prog gt0 29 (sp_overspill_outbits_Writer_Text N) := by
  refine fnOK_handed Tryd.func29 rfl (by kernel_rfl) tt_ok (ktNil) ?_
  intro args lk r h hp
  unfold sp_overspill_outbits_Writer_Text at h
  split at h
  · rename_i i0
    split at h
    · rename_i a1 hl0
      cases h
      obtain ⟨x, hx⟩ := Option.isSome_iff_exists.1 hp
      simp only [hx, Option.getD_some]
      refine handL [i0] 1 [(0, .obj 5 a1)] [.v (.c (.ptr 0 0 0 0 0 0))] rfl rfl rfl ⟨isSome_of hl0, trivial⟩ ⟨⟨rfl, (by repeat' first | exact True.intro | exact rfl | exact ⟨_, rfl, rfl⟩ | apply And.intro | exact Or.inl rfl), _, hl0, .inl rfl⟩, trivial⟩ rfl (fun w0 M ε0 hX => ?_)
      refine rCount (fun hε => ?_)
      have hT : overspill_outbits_Writer_Text N a1 = some x := hx; clear hx hp; unfold overspill_outbits_Writer_Text at hT
      replace hT := sIf hT; obtain ⟨p0, hT⟩ := hT
      refine rOpen1 p0 (by (repeat' first | exact True.intro | exact rfl | apply And.intro) <;> first | assumption | rfl) (fun ty0 => ?_)
      refine rSeq ?_
      refine rRegC md0 hX rfl rfl rfl (by repeat' first | exact True.intro | exact rfl | apply And.intro | omega | exact Nat.le_of_ble_eq_true rfl) ?_
      refine rThen ?_
      refine rSeq ?_
      refine rSeq ?_
      refine rRegC md0 hX rfl rfl rfl (by repeat' first | exact True.intro | exact rfl | apply And.intro | omega | exact Nat.le_of_ble_eq_true rfl) ?_
      refine rThen ?_
      refine rCondF rfl rfl (by (repeat' first | exact True.intro | with_reducible assumption | (with_reducible apply And.intro) | intro _) <;> first | assumption | exact rfl | omega | exact Nat.le_of_ble_eq_true rfl | exact selF (by assumption) | exact selT (by assumption) | exact And.intro rfl rfl | exact And.intro (by assumption) rfl | exact And.intro (by omega) rfl | (simp only [inK] at *; omega) | (simp_all [sel] <;> fail) | fail) rfl ?_
      refine rSkip ?_
      refine rThen ?_
      refine rSeq ?_
      replace hT := sIf hT; obtain ⟨o1, hT⟩ := hT
      refine rRegC md0 hX rfl rfl rfl (by (repeat' first | exact True.intro | with_reducible assumption | (with_reducible apply And.intro) | intro _) <;> first | assumption | exact rfl | omega | exact Nat.le_of_ble_eq_true rfl | exact selF (by assumption) | exact selT (by assumption) | exact And.intro rfl rfl | exact And.intro (by assumption) rfl | exact And.intro (by omega) rfl | (simp only [inK] at *; omega) | (simp_all [sel] <;> fail) | fail) ?_
      refine rThen ?_
      refine rRet ?_
      have hy := Option.some.inj hT; subst hy
      exact rEndObj a1 hX rfl (by repeat' first | exact True.intro | exact rfl | apply And.intro | omega | exact Nat.le_of_ble_eq_true rfl) rfl rfl rfl rfl rfl rfl rfl (by first | rfl | assumption) (by first | rfl | assumption) rfl rfl
    · cases h
  · cases h
def blocks_first (N : Nat) (a1 : ByteArray) (a2 : Int) : Option (Int × Int × ByteArray × Int) :=
  let c1 := (overspill_inbits_Reader_Take N 8 a1 a2)
  if c1.isSome = true then
    bif (decide ((c1.getD default).2.1 ≠ 0)) then
      some (0, (c1.getD default).2.1, (c1.getD default).2.2.1, (c1.getD default).2.2.2)
    else
      let x1 := (bif (decide ((c1.getD default).1 = 0)) then (decide ((c1.getD default).1 = 0)) else (decide ((c1.getD default).1 = 128)))
      bif x1 then
        some (0, 7, (c1.getD default).2.2.1, (c1.getD default).2.2.2)
      else
        bif (decide ((c1.getD default).1 = 255)) then
          some (128, 0, (c1.getD default).2.2.1, (c1.getD default).2.2.2)
        else
          some ((c1.getD default).1, 0, (c1.getD default).2.2.1, (c1.getD default).2.2.2)
  else none
def sp_blocks_first (N : Nat) : X.Spec := fun args lk => match args with
  | [.v (.c (.ptr i0 0 0 0 0 0))] => (match lk i0 with
    | some (.mem true 71 none (.flat [.cs [.str a1, .int .i64 a2]])) => some ⟨(blocks_first N a1 a2).isSome = true, .tup [.c (.int .i64 ((blocks_first N a1 a2).getD default).1), .c (.int .i64 ((blocks_first N a1 a2).getD default).2.1)], [], [(i0, .mem true 71 none (.flat [.cs [.str ((blocks_first N a1 a2).getD default).2.2.1, .int .i64 ((blocks_first N a1 a2).getD default).2.2.2]]))]⟩
    | _ => none)
  | _ => none
set_option maxRecDepth 100000 in
set_option maxHeartbeats 1000000 in
theorem ok_blocks_first (N : Nat) : FnOK Tryd.prog gt0 50 (sp_blocks_first N) := by
  refine fnOK_handed Tryd.func50 rfl (by kernel_rfl) tt_ok (ktCons (ok_overspill_inbits_Reader_Take N) (ktNil)) ?_
  intro args lk r h hp
  unfold sp_blocks_first at h
  split at h
  · rename_i i0
    split at h
    · rename_i a1 a2 hl0
      cases h
      obtain ⟨x, hx⟩ := Option.isSome_iff_exists.1 hp
      simp only [hx, Option.getD_some]
      refine handL [i0] 1 [(0, .mem true 71 none (.flat [.cs [.str a1, .int .i64 a2]]))] [.v (.c (.ptr 0 0 0 0 0 0))] rfl rfl rfl ⟨isSome_of hl0, trivial⟩ ⟨⟨rfl, (by repeat' first | exact True.intro | exact rfl | exact ⟨_, rfl, rfl⟩ | apply And.intro | exact Or.inl rfl), _, hl0, .inl rfl⟩, trivial⟩ rfl (fun w0 M ε0 hX => ?_)
      refine rCount (fun hε => ?_)
      have hT : blocks_first N a1 a2 = some x := hx; clear hx hp; unfold blocks_first at hT
      refine rSeq ?_
      refine rRegC md0 hX rfl rfl rfl (by repeat' first | exact True.intro | exact rfl | apply And.intro | omega | exact Nat.le_of_ble_eq_true rfl) ?_
      refine rThen ?_
      refine rSeq ?_
      let c1 := (overspill_inbits_Reader_Take N 8 a1 a2)
      replace hT := sIf hT; obtain ⟨o1, hT⟩ := hT
      refine rRegC md0 hX rfl rfl rfl (by (repeat' first | exact True.intro | with_reducible assumption | (with_reducible apply And.intro) | intro _) <;> first | assumption | exact rfl | omega | exact Nat.le_of_ble_eq_true rfl | exact selF (by assumption) | exact selT (by assumption) | exact And.intro rfl rfl | exact And.intro (by assumption) rfl | exact And.intro (by omega) rfl | (simp only [inK] at *; omega) | (simp_all [sel] <;> fail) | fail) ?_
      refine rThen ?_
      refine rSeq ?_
      refine rBlock ?_
      refine rSeq ?_
      refine rRegC md0 hX rfl rfl rfl (by repeat' first | exact True.intro | exact rfl | apply And.intro | omega | exact Nat.le_of_ble_eq_true rfl) ?_
      refine rThen ?_
      refine rCond rfl rfl (by repeat' first | exact True.intro | exact rfl | apply And.intro | omega | exact Nat.le_of_ble_eq_true rfl) (fun hc => ?_) (fun hc => ?_)
      · replace hT := sT hc hT
        refine rSeq ?_
        refine rRegC md0 hX rfl rfl rfl (by repeat' first | exact True.intro | exact rfl | apply And.intro | omega | exact Nat.le_of_ble_eq_true rfl) ?_
        refine rThen ?_
        refine rRet ?_
        refine rInRet ?_
        refine rThenRet ?_
        have hy := Option.some.inj hT; subst hy
        exact rEndA [] [] [(0, .mem true 71 none (.flat [.cs [.str (c1.getD default).2.2.1, .int .i64 (c1.getD default).2.2.2]]))] (.tup [.c (.int .i64 0), .c (.int .i64 (c1.getD default).2.1)]) hX rfl (by repeat' first | exact True.intro | exact rfl | apply And.intro | omega | exact Nat.le_of_ble_eq_true rfl) (by repeat' first | exact True.intro | exact rfl | apply And.intro) rfl rfl rfl (by repeat' first | exact True.intro | exact rfl | exact ⟨_, rfl, rfl⟩ | apply And.intro | exact Or.inl rfl) rfl rfl (by repeat' first | exact True.intro | exact rfl | exact ⟨_, rfl, rfl⟩ | apply And.intro | exact Or.inl rfl) rfl rfl
      · replace hT := sF hc hT
        refine rSeq ?_
        refine rSeq ?_
        refine rRegC md0 hX rfl rfl rfl (by repeat' first | exact True.intro | exact rfl | apply And.intro | omega | exact Nat.le_of_ble_eq_true rfl) ?_
        refine rThen ?_
        refine rJoin ⟨[(2, .v (.c (.int .i64 0))), (3, .v (.c (.int .i64 0))), (4, .v (.c (.int .i64 (c1.getD default).1))), (15, .v (.c (.bool (bif (decide ((c1.getD default).1 = 0)) then (decide ((c1.getD default).1 = 0)) else (decide ((c1.getD default).1 = 128))))))], [(0, .mem true 71 none (.flat [.cs [.str (c1.getD default).2.2.1, .int .i64 (c1.getD default).2.2.2]]))], 1⟩ ?_ (fun hj => ?_)
        · skip
          let x1 := (bif (decide ((c1.getD default).1 = 0)) then (decide ((c1.getD default).1 = 0)) else (decide ((c1.getD default).1 = 128)))
          refine rThen ?_
          refine rCond rfl rfl (by repeat' first | exact True.intro | exact rfl | apply And.intro | omega | exact Nat.le_of_ble_eq_true rfl) (fun hc => ?_) (fun hc => ?_)
          · replace hT := sT hc hT
            refine rSeq ?_
            refine rRegC md0 hX rfl rfl rfl (by repeat' first | exact True.intro | exact rfl | apply And.intro | omega | exact Nat.le_of_ble_eq_true rfl) ?_
            refine rThen ?_
            refine rRet ?_
            refine rInRet ?_
            refine rThenRet ?_
            have hy := Option.some.inj hT; subst hy
            exact rEndA [] [] [(0, .mem true 71 none (.flat [.cs [.str (c1.getD default).2.2.1, .int .i64 (c1.getD default).2.2.2]]))] (.tup [.c (.int .i64 0), .c (.int .i64 7)]) hX rfl (by repeat' first | exact True.intro | exact rfl | apply And.intro | omega | exact Nat.le_of_ble_eq_true rfl) (by repeat' first | exact True.intro | exact rfl | apply And.intro) rfl rfl rfl (by repeat' first | exact True.intro | exact rfl | exact ⟨_, rfl, rfl⟩ | apply And.intro | exact Or.inl rfl) rfl rfl (by repeat' first | exact True.intro | exact rfl | exact ⟨_, rfl, rfl⟩ | apply And.intro | exact Or.inl rfl) rfl rfl
          · replace hT := sF hc hT
            refine rSeq ?_
            refine rRegC md0 hX rfl rfl rfl (by repeat' first | exact True.intro | exact rfl | apply And.intro | omega | exact Nat.le_of_ble_eq_true rfl) ?_
            refine rThen ?_
            refine rCond rfl rfl (by repeat' first | exact True.intro | exact rfl | apply And.intro | omega | exact Nat.le_of_ble_eq_true rfl) (fun hc => ?_) (fun hc => ?_)
            · replace hT := sT hc hT
              refine rSeq ?_
              refine rRegC md0 hX rfl rfl rfl (by repeat' first | exact True.intro | exact rfl | apply And.intro | omega | exact Nat.le_of_ble_eq_true rfl) ?_
              refine rThen ?_
              refine rRet ?_
              refine rInRet ?_
              refine rThenRet ?_
              have hy := Option.some.inj hT; subst hy
              exact rEndA [] [] [(0, .mem true 71 none (.flat [.cs [.str (c1.getD default).2.2.1, .int .i64 (c1.getD default).2.2.2]]))] (.tup [.c (.int .i64 128), .c (.int .i64 0)]) hX rfl (by repeat' first | exact True.intro | exact rfl | apply And.intro | omega | exact Nat.le_of_ble_eq_true rfl) (by repeat' first | exact True.intro | exact rfl | apply And.intro) rfl rfl rfl (by repeat' first | exact True.intro | exact rfl | exact ⟨_, rfl, rfl⟩ | apply And.intro | exact Or.inl rfl) rfl rfl (by repeat' first | exact True.intro | exact rfl | exact ⟨_, rfl, rfl⟩ | apply And.intro | exact Or.inl rfl) rfl rfl
            · replace hT := sF hc hT
              refine rSkip ?_
              refine rInNormal ?_
              refine rThen ?_
              refine rSeq ?_
              refine rRegC md0 hX rfl rfl rfl (by repeat' first | exact True.intro | exact rfl | apply And.intro | omega | exact Nat.le_of_ble_eq_true rfl) ?_
              refine rThen ?_
              refine rRet ?_
              have hy := Option.some.inj hT; subst hy
              exact rEndA [] [] [(0, .mem true 71 none (.flat [.cs [.str (c1.getD default).2.2.1, .int .i64 (c1.getD default).2.2.2]]))] (.tup [.c (.int .i64 (c1.getD default).1), .c (.int .i64 0)]) hX rfl (by repeat' first | exact True.intro | exact rfl | apply And.intro | omega | exact Nat.le_of_ble_eq_true rfl) (by repeat' first | exact True.intro | exact rfl | apply And.intro) rfl rfl rfl (by repeat' first | exact True.intro | exact rfl | exact ⟨_, rfl, rfl⟩ | apply And.intro | exact Or.inl rfl) rfl rfl (by repeat' first | exact True.intro | exact rfl | exact ⟨_, rfl, rfl⟩ | apply And.intro | exact Or.inl rfl) rfl rfl
        · clear hT
          refine rCond rfl rfl (by repeat' first | exact True.intro | exact rfl | apply And.intro | omega | exact Nat.le_of_ble_eq_true rfl) (fun hc => ?_) (fun hc => ?_)
          · skip
            refine rSkip ?_
            exact rTo (To.mk' [] 1 hε rfl (by (repeat' first | exact True.intro | exact rfl | apply And.intro) <;> (repeat' first | exact rfl | refine Eq.trans ?_ (cTr (by assumption)) | refine Eq.trans ?_ (cFr (by assumption)) | refine Eq.trans (cTl (by assumption)) ?_ | refine Eq.trans (cFl (by assumption)) ?_)) (by (repeat' first | exact True.intro | exact rfl | apply And.intro) <;> (repeat' first | exact rfl | refine Eq.trans ?_ (cTr (by assumption)) | refine Eq.trans ?_ (cFr (by assumption)) | refine Eq.trans (cTl (by assumption)) ?_ | refine Eq.trans (cFl (by assumption)) ?_))) hj
          · skip
            refine rRegC md0 hX rfl rfl rfl (by repeat' first | exact True.intro | exact rfl | apply And.intro | omega | exact Nat.le_of_ble_eq_true rfl) ?_
            exact rTo (To.mk' [] 1 hε rfl (by (repeat' first | exact True.intro | exact rfl | apply And.intro) <;> (repeat' first | exact rfl | refine Eq.trans ?_ (cTr (by assumption)) | refine Eq.trans ?_ (cFr (by assumption)) | refine Eq.trans (cTl (by assumption)) ?_ | refine Eq.trans (cFl (by assumption)) ?_)) (by (repeat' first | exact True.intro | exact rfl | apply And.intro) <;> (repeat' first | exact rfl | refine Eq.trans ?_ (cTr (by assumption)) | refine Eq.trans ?_ (cFr (by assumption)) | refine Eq.trans (cTl (by assumption)) ?_ | refine Eq.trans (cFl (by assumption)) ?_))) hj
    · cases h
  · cases h
def blocks_events_b1 (N : Nat) (s2 : (Int × Nat × ByteArray × Int × (List (Bool × (Int × Int))))) : Option ((Int × Nat × ByteArray × Int × (List (Bool × (Int × Int)))) ⊕ ((Int × ByteArray × Int) ⊕ (Nat × (List (Bool × (Int × Int))) × ByteArray × Int))) :=
  let c1 := (tcoef_Take N s2.2.2.1 s2.2.2.2.1)
  if c1.isSome = true then
    bif (decide ((c1.getD default).2.2.2.1 ≠ 0)) then
      some (.inr (Sum.inl ((c1.getD default).2.2.2.1, (c1.getD default).2.2.2.2.1, (c1.getD default).2.2.2.2.2)))
    else
      if inK .i64 ((c1.getD default).2.1 + 1) ∧ inK .i64 (s2.1 + ((c1.getD default).2.1 + 1)) then
        bif (decide ((64 : Int) < (s2.1 + ((c1.getD default).2.1 + 1)))) then
          some (.inr (Sum.inl (7, (c1.getD default).2.2.2.2.1, (c1.getD default).2.2.2.2.2)))
        else
          if s2.2.2.2.2.length = s2.2.1 ∧ (s2.2.1 + 1) * 24 ≤ 140737488355328 ∧ s2.2.1 + 1 ≤ 9223372036854775807 then
            bif (c1.getD default).1 then
              some (.inr (Sum.inr ((s2.2.1 + 1), (s2.2.2.2.2 ++ [((c1.getD default).1, ((c1.getD default).2.1, (c1.getD default).2.2.1))]), (c1.getD default).2.2.2.2.1, (c1.getD default).2.2.2.2.2)))
            else
              some (.inl ((s2.1 + ((c1.getD default).2.1 + 1)), (s2.2.1 + 1), (c1.getD default).2.2.2.2.1, (c1.getD default).2.2.2.2.2, (s2.2.2.2.2 ++ [((c1.getD default).1, ((c1.getD default).2.1, (c1.getD default).2.2.1))])))
          else none
      else none
  else none
def blocks_events (N : Nat) (a1 : Int) (a2 : ByteArray) (a3 : Int) : Option ((List (Bool × (Int × Int))) × Int × ByteArray × Int) :=
  (iter (blocks_events_b1 N) N (a1, 0, a2, a3, [])).bind fun w1 =>
    (Sum.elim (fun v1 =>
      some ([], v1.1, v1.2.1, v1.2.2)
    )
      (fun v2 =>
        if v2.1 = v2.2.1.length then
          some (v2.2.1, 0, v2.2.2.1, v2.2.2.2)
        else none
      )
    ) w1
def sp_blocks_events (N : Nat) : X.Spec := fun args lk => match args with
  | [.v (.c (.ptr i0 0 0 0 0 0)), .v (.c (.int .i64 a1))] => (match lk i0 with
    | some (.mem true 71 none (.flat [.cs [.str a2, .int .i64 a3]])) => some ⟨(blocks_events N a1 a2 a3).isSome = true, .tup [.c (.fz (.pair .bool (.pair (.int .i64) (.int .i64))) ((blocks_events N a1 a2 a3).getD default).1), .c (.int .i64 ((blocks_events N a1 a2 a3).getD default).2.1)], [], [(i0, .mem true 71 none (.flat [.cs [.str ((blocks_events N a1 a2 a3).getD default).2.2.1, .int .i64 ((blocks_events N a1 a2 a3).getD default).2.2.2]]))]⟩
    | _ => none)
  | _ => none
set_option maxRecDepth 100000 in
set_option maxHeartbeats 1000000 in
theorem ok_blocks_events (N : Nat) : FnOK Tryd.prog gt0 51 (sp_blocks_events N) := by
  refine fnOK_handed Tryd.func51 rfl (by kernel_rfl) tt_ok (ktCons (ok_tcoef_Take N) (ktNil)) ?_
  intro args lk r h hp
  unfold sp_blocks_events at h
  split at h
  · rename_i i0 a1
    split at h
    · rename_i a2 a3 hl0
      cases h
      obtain ⟨x, hx⟩ := Option.isSome_iff_exists.1 hp
      simp only [hx, Option.getD_some]
      refine handL [i0] 1 [(0, .mem true 71 none (.flat [.cs [.str a2, .int .i64 a3]]))] [.v (.c (.ptr 0 0 0 0 0 0)), .v (.c (.int .i64 a1))] rfl rfl rfl ⟨isSome_of hl0, trivial⟩ ⟨⟨rfl, (by repeat' first | exact True.intro | exact rfl | exact ⟨_, rfl, rfl⟩ | apply And.intro | exact Or.inl rfl), _, hl0, .inl rfl⟩, trivial⟩ rfl (fun w0 M ε0 hX => ?_)
      refine rCount (fun hε => ?_)
      have hT : blocks_events N a1 a2 a3 = some x := hx; clear hx hp; unfold blocks_events at hT
      refine rSeq ?_
      refine rRegC md0 hX rfl rfl rfl (by repeat' first | exact True.intro | exact rfl | apply And.intro | omega | exact Nat.le_of_ble_eq_true rfl) ?_
      refine rThen ?_
      refine rScope ?_
      refine rSeq ?_
      refine rRegC md0 hX rfl rfl rfl (by repeat' first | exact True.intro | exact rfl | apply And.intro | omega | exact Nat.le_of_ble_eq_true rfl) ?_
      refine rThen ?_
      refine rSeq ?_
      refine rLabel ?_
      refine rThen ?_
      refine rSeq ?_
      refine rBlock ?_
      refine rNil 23 3 (.lst (.pair .bool (.pair (.int .i64) (.int .i64))) []) [(0, .v (.c (.ptr 0 0 0 0 0 0))), (1, .v (.c (.int .i64 a1))), (4, .v (.c (.val (.slice none 0 0)))), (5, .v (.c (.int .i64 0))), (6, .v (.c (.sl 1 0 0 3)))] [(0, .mem true 71 none (.flat [.cs [.str a2, .int .i64 a3]]))] (nil_lst _) (by (repeat' first | exact True.intro | exact rfl | apply And.intro) <;> first | assumption | rfl) (by (repeat' first | exact True.intro | exact rfl | apply And.intro) <;> first | assumption | rfl) ?_
      replace hT := sBind hT; obtain ⟨w1, hl, hT⟩ := hT
      refine rJoinA (fun v1 => (Sum.inl v1) = w1) (fun v1 => ⟨[(4, .v (.c (.val (.slice none 0 0)))), (5, .v (.c (.int .i64 v1.1)))], [(0, .mem true 71 none (.flat [.cs [.str v1.2.1, .int .i64 v1.2.2]]))], 2⟩) .ret (fun v1 hv => ?_) (fun hxs20 => ?_)
      · subst hv; clear hl; replace hT := (sElimL hT)
        refine rInRet ?_
        refine rThenRet ?_
        refine rNoGotoRet ?_
        have hy := Option.some.inj hT; subst hy
        exact rEndA [] [] [(0, .mem true 71 none (.flat [.cs [.str v1.2.1, .int .i64 v1.2.2]]))] (.tup [.c (.fz (.pair .bool (.pair (.int .i64) (.int .i64))) []), .c (.int .i64 v1.1)]) hX rfl (by repeat' first | exact True.intro | exact rfl | apply And.intro | omega | exact Nat.le_of_ble_eq_true rfl) (by repeat' first | exact True.intro | exact rfl | apply And.intro) rfl rfl rfl (by repeat' first | exact True.intro | exact rfl | exact ⟨_, rfl, rfl⟩ | apply And.intro | exact Or.inl rfl) rfl rfl (by repeat' first | exact True.intro | exact rfl | exact ⟨_, rfl, rfl⟩ | apply And.intro | exact Or.inl rfl) rfl rfl
      refine rJoinA (fun v2 => (Sum.inr v2) = w1) (fun v2 => ⟨[(4, .v (.c (.val (.slice none 0 0)))), (5, .v (.c (.int .i64 0))), (6, .v (.c (.sl 4 0 v2.1 3)))], [(0, .mem true 71 none (.flat [.cs [.str v2.2.2.1, .int .i64 v2.2.2.2]])), (4, .mem true 23 (some 3) (.lst (.pair .bool (.pair (.int .i64) (.int .i64))) v2.2.1))], 5⟩) (.exit 0) (fun v2 hv => ?_) (fun hxs21 => ?_)
      · subst hv; clear hl; replace hT := (sElimR hT)
        refine rInHit ?_
        refine rThen ?_
        refine rSeq ?_
        refine rRegC md0 hX rfl rfl rfl (by repeat' first | exact True.intro | exact rfl | apply And.intro | omega | exact Nat.le_of_ble_eq_true rfl) ?_
        refine rThen ?_
        refine rRet ?_
        refine rNoGotoRet ?_
        replace hT := sIf hT; obtain ⟨p1, hT⟩ := hT
        refine rFreezeQ 4 (.pair .bool (.pair (.int .i64) (.int .i64))) v2.2.1 [(4, .v (.c (.fz (.pair .bool (.pair (.int .i64) (.int .i64))) v2.2.1))), (5, .v (.c (.int .i64 0)))] [(0, .mem true 71 none (.flat [.cs [.str v2.2.2.1, .int .i64 v2.2.2.2]]))] rfl rfl (by (repeat' first | exact True.intro | exact rfl | apply And.intro) <;> first | assumption | rfl) (by (repeat' first | exact True.intro | exact rfl | apply And.intro) <;> first | assumption | rfl) ?_
        have hy := Option.some.inj hT; subst hy
        exact rEndA [] [] [(0, .mem true 71 none (.flat [.cs [.str v2.2.2.1, .int .i64 v2.2.2.2]]))] (.tup [.c (.fz (.pair .bool (.pair (.int .i64) (.int .i64))) v2.2.1), .c (.int .i64 0)]) hX rfl (by repeat' first | exact True.intro | exact rfl | apply And.intro | omega | exact Nat.le_of_ble_eq_true rfl) (by repeat' first | exact True.intro | exact rfl | apply And.intro) rfl rfl rfl (by repeat' first | exact True.intro | exact rfl | exact ⟨_, rfl, rfl⟩ | apply And.intro | exact Or.inl rfl) rfl rfl (by repeat' first | exact True.intro | exact rfl | exact ⟨_, rfl, rfl⟩ | apply And.intro | exact Or.inl rfl) rfl rfl
      refine rLoopM (blocks_events_b1 N) (fun s2 => ⟨[(0, .v (.c (.ptr 0 0 0 0 0 0))), (1, .v (.c (.int .i64 s2.1))), (4, .v (.c (.val (.slice none 0 0)))), (5, .v (.c (.int .i64 0))), (6, .v (.c (.sl 1 0 s2.2.1 3)))], [(0, .mem true 71 none (.flat [.cs [.str s2.2.2.1, .int .i64 s2.2.2.2.1]])), (1, .mem true 23 (some 3) (.lst (.pair .bool (.pair (.int .i64) (.int .i64))) s2.2.2.2.2))], 2⟩) hl (To.mk' [] 1 hε rfl (by repeat' first | exact True.intro | exact rfl | apply And.intro) (by repeat' first | exact True.intro | exact rfl | apply And.intro)) (fun s2 zs2 NNs2 hz hnexts2 houts2 => ?_)
      clear hl hT
      have hT := hz; clear hz
      refine rBlock ?_
      refine rSeq ?_
      let c1 := (tcoef_Take N s2.2.2.1 s2.2.2.2.1)
      replace hT := sIf hT; obtain ⟨o1, hT⟩ := hT
      refine rRegC md0 hX rfl rfl rfl (by (repeat' first | exact True.intro | with_reducible assumption | (with_reducible apply And.intro) | intro _) <;> first | assumption | exact rfl | omega | exact Nat.le_of_ble_eq_true rfl | exact selF (by assumption) | exact selT (by assumption) | exact And.intro rfl rfl | exact And.intro (by assumption) rfl | exact And.intro (by omega) rfl | (simp only [inK] at *; omega) | (simp_all [sel] <;> fail) | fail) ?_
      refine rThen ?_
      refine rSeq ?_
      refine rSeq ?_
      refine rRegC md0 hX rfl rfl rfl (by repeat' first | exact True.intro | exact rfl | apply And.intro | omega | exact Nat.le_of_ble_eq_true rfl) ?_
      refine rThen ?_
      refine rCond rfl rfl (by repeat' first | exact True.intro | exact rfl | apply And.intro | omega | exact Nat.le_of_ble_eq_true rfl) (fun hc => ?_) (fun hc => ?_)
      · replace hT := sT hc hT
        refine rSeq ?_
        refine rRegC md0 hX rfl rfl rfl (by repeat' first | exact True.intro | exact rfl | apply And.intro | omega | exact Nat.le_of_ble_eq_true rfl) ?_
        refine rThen ?_
        refine rRet ?_
        refine rThenRet ?_
        refine rInRet ?_
        refine rThenRet ?_
        exact rTo (To.mk' [] 1 hε rfl (by repeat' first | exact True.intro | exact rfl | apply And.intro) (by repeat' first | exact True.intro | exact rfl | apply And.intro)) (hxs20 _ (houts2 _ (Option.some.inj hT).symm))
      · replace hT := sF hc hT
        refine rSkip ?_
        refine rThen ?_
        refine rSeq ?_
        replace hT := sIf hT; obtain ⟨⟨o1, o2⟩, hT⟩ := hT
        refine rRegC md0 hX rfl rfl rfl (by (repeat' first | exact True.intro | with_reducible assumption | (with_reducible apply And.intro) | intro _) <;> first | assumption | exact rfl | omega | exact Nat.le_of_ble_eq_true rfl | exact selF (by assumption) | exact selT (by assumption) | exact And.intro rfl rfl | exact And.intro (by assumption) rfl | exact And.intro (by omega) rfl | (simp only [inK] at *; omega) | (simp_all [sel] <;> fail) | fail) ?_
        refine rThen ?_
        refine rSeq ?_
        refine rSeq ?_
        refine rRegC md0 hX rfl rfl rfl (by repeat' first | exact True.intro | exact rfl | apply And.intro | omega | exact Nat.le_of_ble_eq_true rfl) ?_
        refine rThen ?_
        refine rCond rfl rfl (by repeat' first | exact True.intro | exact rfl | apply And.intro | omega | exact Nat.le_of_ble_eq_true rfl) (fun hc => ?_) (fun hc => ?_)
        · replace hT := sT hc hT
          refine rSeq ?_
          refine rRegC md0 hX rfl rfl rfl (by repeat' first | exact True.intro | exact rfl | apply And.intro | omega | exact Nat.le_of_ble_eq_true rfl) ?_
          refine rThen ?_
          refine rRet ?_
          refine rThenRet ?_
          refine rInRet ?_
          refine rThenRet ?_
          exact rTo (To.mk' [] 1 hε rfl (by repeat' first | exact True.intro | exact rfl | apply And.intro) (by repeat' first | exact True.intro | exact rfl | apply And.intro)) (hxs20 _ (houts2 _ (Option.some.inj hT).symm))
        · replace hT := sF hc hT
          refine rSkip ?_
          refine rThen ?_
          refine rSeq ?_
          replace hT := sIf hT; obtain ⟨⟨o1, o2, o3⟩, hT⟩ := hT
          refine rRegC md0 hX rfl rfl rfl (by (repeat' first | exact True.intro | with_reducible assumption | (with_reducible apply And.intro) | intro _) <;> first | assumption | exact rfl | omega | exact Nat.le_of_ble_eq_true rfl | exact selF (by assumption) | exact selT (by assumption) | exact And.intro rfl rfl | exact And.intro (by assumption) rfl | exact And.intro (by omega) rfl | (simp only [inK] at *; omega) | (simp_all [sel] <;> fail) | fail) ?_
          refine rLstQ 3 (.pair .bool (.pair (.int .i64) (.int .i64))) [((c1.getD default).1, ((c1.getD default).2.1, (c1.getD default).2.2.1))] rfl rfl rfl ?_
          refine rThen ?_
          refine rSeq ?_
          refine rRegC md0 hX rfl rfl rfl (by repeat' first | exact True.intro | exact rfl | apply And.intro | omega | exact Nat.le_of_ble_eq_true rfl) ?_
          refine rThen ?_
          refine rCond rfl rfl (by repeat' first | exact True.intro | exact rfl | apply And.intro | omega | exact Nat.le_of_ble_eq_true rfl) (fun hc => ?_) (fun hc => ?_)
          · replace hT := sT hc hT
            refine rExit ?_
            refine rInMiss rfl ?_
            refine rThenExit ?_
            exact rTo (To.mk' [] 1 hε rfl (by repeat' first | exact True.intro | exact rfl | apply And.intro) (by repeat' first | exact True.intro | exact rfl | apply And.intro)) (hxs21 _ (houts2 _ (Option.some.inj hT).symm))
          · replace hT := sF hc hT
            refine rSkip ?_
            refine rInNormal ?_
            exact hnexts2 _ (Option.some.inj hT).symm _ (To.mk' [0, 4] 1 hε rfl (by repeat' first | exact True.intro | exact rfl | apply And.intro) (by repeat' first | exact True.intro | exact rfl | apply And.intro))
    · cases h
  · cases h
def blocks_Take (N : Nat) (a1 : Bool) (a2 : Bool) (a3 : ByteArray) (a4 : Int) : Option (Int × (List (Bool × (Int × Int))) × Int × ByteArray × Int) :=
  let c1 := (overspill_inbits_Reader_At N a3 a4)
  if c1.isSome = true then
    let c2 := (blocks_first N a3 a4)
    if (a1 = true → c2.isSome = true) then
      let c3 := (blocks_from N a1)
      let c4 := (blocks_events N (c3.getD default) (bif a1 then (c2.getD default).2.2.1 else a3) (bif a1 then (c2.getD default).2.2.2 else a4))
      if ((bif (decide ((bif a1 then (c2.getD default).2.1 else 0) = 0)) then a2 else false) = true → c3.isSome = true) ∧ ((bif (decide ((bif a1 then (c2.getD default).2.1 else 0) = 0)) then a2 else false) = true → c4.isSome = true) then
        let x1 := (bif (bif (decide ((bif a1 then (c2.getD default).2.1 else 0) = 0)) then a2 else false) then (c4.getD default).2.1 else (bif a1 then (c2.getD default).2.1 else 0))
        let x2 := (bif (bif (decide ((bif a1 then (c2.getD default).2.1 else 0) = 0)) then a2 else false) then (c4.getD default).1 else [])
        let x3 := (bif (bif (decide ((bif a1 then (c2.getD default).2.1 else 0) = 0)) then a2 else false) then (c4.getD default).2.2.1 else (bif a1 then (c2.getD default).2.2.1 else a3))
        let x4 := (bif (bif (decide ((bif a1 then (c2.getD default).2.1 else 0) = 0)) then a2 else false) then (c4.getD default).2.2.2 else (bif a1 then (c2.getD default).2.2.2 else a4))
        bif (decide (x1 ≠ 0)) then
          let c5 := (overspill_inbits_Reader_Seek N (c1.getD default) x3 x4)
          if c5.isSome = true then
            some (0, [], x1, (c5.getD default).2.1, (c5.getD default).2.2)
          else none
        else
          some ((bif a1 then (c2.getD default).1 else 0), x2, 0, x3, x4)
      else none
    else none
  else none
def sp_blocks_Take (N : Nat) : X.Spec := fun args lk => match args with
  | [.v (.c (.ptr i0 0 0 0 0 0)), .v (.c (.bool a1)), .v (.c (.bool a2))] => (match lk i0 with
    | some (.mem true 71 none (.flat [.cs [.str a3, .int .i64 a4]])) => some ⟨(blocks_Take N a1 a2 a3 a4).isSome = true, .tup [.c (.int .i64 ((blocks_Take N a1 a2 a3 a4).getD default).1), .c (.fz (.pair .bool (.pair (.int .i64) (.int .i64))) ((blocks_Take N a1 a2 a3 a4).getD default).2.1), .c (.int .i64 ((blocks_Take N a1 a2 a3 a4).getD default).2.2.1)], [], [(i0, .mem true 71 none (.flat [.cs [.str ((blocks_Take N a1 a2 a3 a4).getD default).2.2.2.1, .int .i64 ((blocks_Take N a1 a2 a3 a4).getD default).2.2.2.2]]))]⟩
    | _ => none)
  | _ => none
set_option maxRecDepth 100000 in
set_option maxHeartbeats 1000000 in
theorem ok_blocks_Take (N : Nat) : FnOK Tryd.prog gt0 30 (sp_blocks_Take N) := by
  refine fnOK_handed Tryd.func30 rfl (by kernel_rfl) tt_ok (ktCons (ok_overspill_inbits_Reader_Seek N) (ktCons (ok_blocks_events N) (ktCons (ok_blocks_from N) (ktCons (ok_blocks_first N) (ktCons (ok_overspill_inbits_Reader_At N) (ktNil)))))) ?_
  intro args lk r h hp
  unfold sp_blocks_Take at h
  split at h
  · rename_i i0 a1 a2
    split at h
    · rename_i a3 a4 hl0
      cases h
      obtain ⟨x, hx⟩ := Option.isSome_iff_exists.1 hp
      simp only [hx, Option.getD_some]
      refine handL [i0] 1 [(0, .mem true 71 none (.flat [.cs [.str a3, .int .i64 a4]]))] [.v (.c (.ptr 0 0 0 0 0 0)), .v (.c (.bool a1)), .v (.c (.bool a2))] rfl rfl rfl ⟨isSome_of hl0, trivial⟩ ⟨⟨rfl, (by repeat' first | exact True.intro | exact rfl | exact ⟨_, rfl, rfl⟩ | apply And.intro | exact Or.inl rfl), _, hl0, .inl rfl⟩, trivial⟩ rfl (fun w0 M ε0 hX => ?_)
      refine rCount (fun hε => ?_)
      have hT : blocks_Take N a1 a2 a3 a4 = some x := hx; clear hx hp; unfold blocks_Take at hT
      refine rSeq ?_
      refine rRegC md0 hX rfl rfl rfl (by repeat' first | exact True.intro | exact rfl | apply And.intro | omega | exact Nat.le_of_ble_eq_true rfl) ?_
      refine rThen ?_
      refine rSeq ?_
      refine rSeq ?_
      refine rRegC md0 hX rfl rfl rfl (by repeat' first | exact True.intro | exact rfl | apply And.intro | omega | exact Nat.le_of_ble_eq_true rfl) ?_
      refine rThen ?_
      refine rCondF rfl rfl (by (repeat' first | exact True.intro | with_reducible assumption | (with_reducible apply And.intro) | intro _) <;> first | assumption | exact rfl | omega | exact Nat.le_of_ble_eq_true rfl | exact selF (by assumption) | exact selT (by assumption) | exact And.intro rfl rfl | exact And.intro (by assumption) rfl | exact And.intro (by omega) rfl | (simp only [inK] at *; omega) | (simp_all [sel] <;> fail) | fail) rfl ?_
      refine rSkip ?_
      refine rThen ?_
      refine rSeq ?_
      let c1 := (overspill_inbits_Reader_At N a3 a4)
      replace hT := sIf hT; obtain ⟨o1, hT⟩ := hT
      refine rRegC md0 hX rfl rfl rfl (by (repeat' first | exact True.intro | with_reducible assumption | (with_reducible apply And.intro) | intro _) <;> first | assumption | exact rfl | omega | exact Nat.le_of_ble_eq_true rfl | exact selF (by assumption) | exact selT (by assumption) | exact And.intro rfl rfl | exact And.intro (by assumption) rfl | exact And.intro (by omega) rfl | (simp only [inK] at *; omega) | (simp_all [sel] <;> fail) | fail) ?_
      refine rThen ?_
      refine rSeq ?_
      refine rRegC md0 hX rfl rfl rfl (by repeat' first | exact True.intro | exact rfl | apply And.intro | omega | exact Nat.le_of_ble_eq_true rfl) ?_
      refine rThen ?_
      refine rSeq ?_
      refine rSeq ?_
      refine rRegC md0 hX rfl rfl rfl (by repeat' first | exact True.intro | exact rfl | apply And.intro | omega | exact Nat.le_of_ble_eq_true rfl) ?_
      refine rThen ?_
      let c2 := (blocks_first N a3 a4)
      replace hT := sIf hT; obtain ⟨q3, hT⟩ := hT
      refine rJoin ⟨[(0, .v (.c (.ptr 0 0 0 0 0 0))), (1, .v (.c (.bool a1))), (2, .v (.c (.bool a2))), (6, .v (.c (.int .i64 0))), (7, .v (.c (.val (.slice none 0 0)))), (8, .v (.c (.int .i64 0))), (9, .v (.c (.int .i64 (c1.getD default)))), (10, .v (.c (.int .i64 (bif a1 then (c2.getD default).1 else 0)))), (11, .v (.c (.int .i64 (bif a1 then (c2.getD default).2.1 else 0)))), (12, .v (.c (.val (.slice none 0 0))))], [(0, .mem true 71 none (.flat [.cs [.str (bif a1 then (c2.getD default).2.2.1 else a3), .int .i64 (bif a1 then (c2.getD default).2.2.2 else a4)]]))], 1⟩ ?_ (fun hj => ?_)
      · skip
        refine rThen ?_
        refine rSeq ?_
        refine rSeq ?_
        refine rRegC md0 hX rfl rfl rfl (by (repeat' first | exact True.intro | with_reducible assumption | (with_reducible apply And.intro) | intro _) <;> first | assumption | exact rfl | omega | exact Nat.le_of_ble_eq_true rfl | exact selF (by assumption) | exact selT (by assumption) | exact And.intro rfl rfl | exact And.intro (by assumption) rfl | exact And.intro (by omega) rfl | (simp only [inK] at *; omega) | (simp_all [sel] <;> fail) | fail) ?_
        refine rThen ?_
        let c3 := (blocks_from N a1)
        let c4 := (blocks_events N (c3.getD default) (bif a1 then (c2.getD default).2.2.1 else a3) (bif a1 then (c2.getD default).2.2.2 else a4))
        replace hT := sIf hT; obtain ⟨⟨q1, q2⟩, hT⟩ := hT
        refine rJoin ⟨[(0, .v (.c (.ptr 0 0 0 0 0 0))), (6, .v (.c (.int .i64 0))), (7, .v (.c (.val (.slice none 0 0)))), (8, .v (.c (.int .i64 0))), (9, .v (.c (.int .i64 (c1.getD default)))), (10, .v (.c (.int .i64 (bif a1 then (c2.getD default).1 else 0)))), (11, .v (.c (.int .i64 (bif (bif (decide ((bif a1 then (c2.getD default).2.1 else 0) = 0)) then a2 else false) then (c4.getD default).2.1 else (bif a1 then (c2.getD default).2.1 else 0))))), (12, .v (.c (.fz (.pair .bool (.pair (.int .i64) (.int .i64))) (bif (bif (decide ((bif a1 then (c2.getD default).2.1 else 0) = 0)) then a2 else false) then (c4.getD default).1 else []))))], [(0, .mem true 71 none (.flat [.cs [.str (bif (bif (decide ((bif a1 then (c2.getD default).2.1 else 0) = 0)) then a2 else false) then (c4.getD default).2.2.1 else (bif a1 then (c2.getD default).2.2.1 else a3)), .int .i64 (bif (bif (decide ((bif a1 then (c2.getD default).2.1 else 0) = 0)) then a2 else false) then (c4.getD default).2.2.2 else (bif a1 then (c2.getD default).2.2.2 else a4))]]))], 1⟩ ?_ (fun hj => ?_)
        · skip
          let x1 := (bif (bif (decide ((bif a1 then (c2.getD default).2.1 else 0) = 0)) then a2 else false) then (c4.getD default).2.1 else (bif a1 then (c2.getD default).2.1 else 0))
          let x2 := (bif (bif (decide ((bif a1 then (c2.getD default).2.1 else 0) = 0)) then a2 else false) then (c4.getD default).1 else [])
          let x3 := (bif (bif (decide ((bif a1 then (c2.getD default).2.1 else 0) = 0)) then a2 else false) then (c4.getD default).2.2.1 else (bif a1 then (c2.getD default).2.2.1 else a3))
          let x4 := (bif (bif (decide ((bif a1 then (c2.getD default).2.1 else 0) = 0)) then a2 else false) then (c4.getD default).2.2.2 else (bif a1 then (c2.getD default).2.2.2 else a4))
          refine rThen ?_
          refine rSeq ?_
          refine rSeq ?_
          refine rRegC md0 hX rfl rfl rfl (by repeat' first | exact True.intro | exact rfl | apply And.intro | omega | exact Nat.le_of_ble_eq_true rfl) ?_
          refine rThen ?_
          refine rCond rfl rfl (by repeat' first | exact True.intro | exact rfl | apply And.intro | omega | exact Nat.le_of_ble_eq_true rfl) (fun hc => ?_) (fun hc => ?_)
          · replace hT := sT hc hT
            refine rSeq ?_
            let c5 := (overspill_inbits_Reader_Seek N (c1.getD default) x3 x4)
            replace hT := sIf hT; obtain ⟨o1, hT⟩ := hT
            refine rRegC md0 hX rfl rfl rfl (by (repeat' first | exact True.intro | with_reducible assumption | (with_reducible apply And.intro) | intro _) <;> first | assumption | exact rfl | omega | exact Nat.le_of_ble_eq_true rfl | exact selF (by assumption) | exact selT (by assumption) | exact And.intro rfl rfl | exact And.intro (by assumption) rfl | exact And.intro (by omega) rfl | (simp only [inK] at *; omega) | (simp_all [sel] <;> fail) | fail) ?_
            refine rThen ?_
            refine rSeq ?_
            refine rRegC md0 hX rfl rfl rfl (by repeat' first | exact True.intro | exact rfl | apply And.intro | omega | exact Nat.le_of_ble_eq_true rfl) ?_
            refine rThen ?_
            refine rRet ?_
            refine rThenRet ?_
            have hy := Option.some.inj hT; subst hy
            exact rEndA [] [] [(0, .mem true 71 none (.flat [.cs [.str (c5.getD default).2.1, .int .i64 (c5.getD default).2.2]]))] (.tup [.c (.int .i64 0), .c (.fz (.pair .bool (.pair (.int .i64) (.int .i64))) []), .c (.int .i64 x1)]) hX rfl (by repeat' first | exact True.intro | exact rfl | apply And.intro | omega | exact Nat.le_of_ble_eq_true rfl) (by repeat' first | exact True.intro | exact rfl | apply And.intro) rfl rfl rfl (by repeat' first | exact True.intro | exact rfl | exact ⟨_, rfl, rfl⟩ | apply And.intro | exact Or.inl rfl) rfl rfl (by repeat' first | exact True.intro | exact rfl | exact ⟨_, rfl, rfl⟩ | apply And.intro | exact Or.inl rfl) rfl rfl
          · replace hT := sF hc hT
            refine rSkip ?_
            refine rThen ?_
            refine rSeq ?_
            refine rRegC md0 hX rfl rfl rfl (by repeat' first | exact True.intro | exact rfl | apply And.intro | omega | exact Nat.le_of_ble_eq_true rfl) ?_
            refine rThen ?_
            refine rRet ?_
            have hy := Option.some.inj hT; subst hy
            exact rEndA [] [] [(0, .mem true 71 none (.flat [.cs [.str x3, .int .i64 x4]]))] (.tup [.c (.int .i64 (bif a1 then (c2.getD default).1 else 0)), .c (.fz (.pair .bool (.pair (.int .i64) (.int .i64))) x2), .c (.int .i64 0)]) hX rfl (by repeat' first | exact True.intro | exact rfl | apply And.intro | omega | exact Nat.le_of_ble_eq_true rfl) (by repeat' first | exact True.intro | exact rfl | apply And.intro) rfl rfl rfl (by repeat' first | exact True.intro | exact rfl | exact ⟨_, rfl, rfl⟩ | apply And.intro | exact Or.inl rfl) rfl rfl (by repeat' first | exact True.intro | exact rfl | exact ⟨_, rfl, rfl⟩ | apply And.intro | exact Or.inl rfl) rfl rfl
        · clear hT
          refine rCond rfl rfl (by repeat' first | exact True.intro | exact rfl | apply And.intro | omega | exact Nat.le_of_ble_eq_true rfl) (fun hc => ?_) (fun hc => ?_)
          · skip
            have q1 := q1 hc
            have q2 := q2 hc
            refine rRegC md0 hX rfl rfl rfl (by (repeat' first | exact True.intro | with_reducible assumption | (with_reducible apply And.intro) | intro _) <;> first | assumption | exact rfl | omega | exact Nat.le_of_ble_eq_true rfl | exact selF (by assumption) | exact selT (by assumption) | exact And.intro rfl rfl | exact And.intro (by assumption) rfl | exact And.intro (by omega) rfl | (simp only [inK] at *; omega) | (simp_all [sel] <;> fail) | fail) ?_
            exact rTo (To.mk' [] 1 hε rfl (by (repeat' first | exact True.intro | exact rfl | apply And.intro) <;> (repeat' first | exact rfl | refine Eq.trans ?_ (cTr (by assumption)) | refine Eq.trans ?_ (cFr (by assumption)) | refine Eq.trans (cTl (by assumption)) ?_ | refine Eq.trans (cFl (by assumption)) ?_)) (by (repeat' first | exact True.intro | exact rfl | apply And.intro) <;> (repeat' first | exact rfl | refine Eq.trans ?_ (cTr (by assumption)) | refine Eq.trans ?_ (cFr (by assumption)) | refine Eq.trans (cTl (by assumption)) ?_ | refine Eq.trans (cFl (by assumption)) ?_))) hj
          · skip
            refine rSkip ?_
            exact rTo (To.mk' [] 1 hε rfl (by (repeat' first | exact True.intro | exact rfl | apply And.intro) <;> (repeat' first | exact rfl | refine Eq.trans ?_ (cTr (by assumption)) | refine Eq.trans ?_ (cFr (by assumption)) | refine Eq.trans (cTl (by assumption)) ?_ | refine Eq.trans (cFl (by assumption)) ?_)) (by (repeat' first | exact True.intro | exact rfl | apply And.intro) <;> (repeat' first | exact rfl | refine Eq.trans ?_ (cTr (by assumption)) | refine Eq.trans ?_ (cFr (by assumption)) | refine Eq.trans (cTl (by assumption)) ?_ | refine Eq.trans (cFl (by assumption)) ?_))) hj
      · clear hT
        refine rCond rfl rfl (by repeat' first | exact True.intro | exact rfl | apply And.intro | omega | exact Nat.le_of_ble_eq_true rfl) (fun hc => ?_) (fun hc => ?_)
        · skip
          have q3 := q3 hc
          refine rRegC md0 hX rfl rfl rfl (by (repeat' first | exact True.intro | with_reducible assumption | (with_reducible apply And.intro) | intro _) <;> first | assumption | exact rfl | omega | exact Nat.le_of_ble_eq_true rfl | exact selF (by assumption) | exact selT (by assumption) | exact And.intro rfl rfl | exact And.intro (by assumption) rfl | exact And.intro (by omega) rfl | (simp only [inK] at *; omega) | (simp_all [sel] <;> fail) | fail) ?_
          exact rTo (To.mk' [] 1 hε rfl (by (repeat' first | exact True.intro | exact rfl | apply And.intro) <;> (repeat' first | exact rfl | refine Eq.trans ?_ (cTr (by assumption)) | refine Eq.trans ?_ (cFr (by assumption)) | refine Eq.trans (cTl (by assumption)) ?_ | refine Eq.trans (cFl (by assumption)) ?_)) (by (repeat' first | exact True.intro | exact rfl | apply And.intro) <;> (repeat' first | exact rfl | refine Eq.trans ?_ (cTr (by assumption)) | refine Eq.trans ?_ (cFr (by assumption)) | refine Eq.trans (cTl (by assumption)) ?_ | refine Eq.trans (cFl (by assumption)) ?_))) hj
        · skip
          refine rSkip ?_
          exact rTo (To.mk' [] 1 hε rfl (by (repeat' first | exact True.intro | exact rfl | apply And.intro) <;> (repeat' first | exact rfl | refine Eq.trans ?_ (cTr (by assumption)) | refine Eq.trans ?_ (cFr (by assumption)) | refine Eq.trans (cTl (by assumption)) ?_ | refine Eq.trans (cFl (by assumption)) ?_)) (by (repeat' first | exact True.intro | exact rfl | apply And.intro) <;> (repeat' first | exact rfl | refine Eq.trans ?_ (cTr (by assumption)) | refine Eq.trans ?_ (cFr (by assumption)) | refine Eq.trans (cTl (by assumption)) ?_ | refine Eq.trans (cFl (by assumption)) ?_))) hj
    · cases h
  · cases h
def overspill_outbits_Writer_Len (N : Nat) (a1 : (List Bool)) : Option (Int × (List Bool)) :=
  if (a1.length : Int) ≤ 9223372036854775800 then
    some ((a1.length : Int), a1)
  else none
def sp_overspill_outbits_Writer_Len (N : Nat) : X.Spec := fun args lk => match args with
  | [.v (.c (.ptr i0 0 0 0 0 0))] => (match lk i0 with
    | some (.obj 5 a1) => some ⟨(overspill_outbits_Writer_Len N a1).isSome = true, .v (.c (.int .i64 ((overspill_outbits_Writer_Len N a1).getD default).1)), [], [(i0, .obj 5 ((overspill_outbits_Writer_Len N a1).getD default).2)]⟩
    | _ => none)
  | _ => none
set_option maxRecDepth 100000 in
set_option maxHeartbeats 1000000 in
theorem ok_overspill_outbits_Writer_Len (N : Nat) : FnOK Tryd.prog gt0 27 (sp_overspill_outbits_Writer_Len N) := by
  refine fnOK_handed Tryd.func27 rfl (by kernel_rfl) tt_ok (ktNil) ?_
  intro args lk r h hp
  unfold sp_overspill_outbits_Writer_Len at h
  split at h
  · rename_i i0
    split at h
    · rename_i a1 hl0
      cases h
      obtain ⟨x, hx⟩ := Option.isSome_iff_exists.1 hp
      simp only [hx, Option.getD_some]
      refine handL [i0] 1 [(0, .obj 5 a1)] [.v (.c (.ptr 0 0 0 0 0 0))] rfl rfl rfl ⟨isSome_of hl0, trivial⟩ ⟨⟨rfl, (by repeat' first | exact True.intro | exact rfl | exact ⟨_, rfl, rfl⟩ | apply And.intro | exact Or.inl rfl), _, hl0, .inl rfl⟩, trivial⟩ rfl (fun w0 M ε0 hX => ?_)
      refine rCount (fun hε => ?_)
      have hT : overspill_outbits_Writer_Len N a1 = some x := hx; clear hx hp; unfold overspill_outbits_Writer_Len at hT
      replace hT := sIf hT; obtain ⟨p0, hT⟩ := hT
      refine rOpen1 p0 (by (repeat' first | exact True.intro | exact rfl | apply And.intro) <;> first | assumption | rfl) (fun ty0 => ?_)
      refine rSeq ?_
      refine rRegC md0 hX rfl rfl rfl (by repeat' first | exact True.intro | exact rfl | apply And.intro | omega | exact Nat.le_of_ble_eq_true rfl) ?_
      refine rThen ?_
      refine rSeq ?_
      refine rSeq ?_
      refine rRegC md0 hX rfl rfl rfl (by repeat' first | exact True.intro | exact rfl | apply And.intro | omega | exact Nat.le_of_ble_eq_true rfl) ?_
      refine rThen ?_
      refine rCondF rfl rfl (by (repeat' first | exact True.intro | with_reducible assumption | (with_reducible apply And.intro) | intro _) <;> first | assumption | exact rfl | omega | exact Nat.le_of_ble_eq_true rfl | exact selF (by assumption) | exact selT (by assumption) | exact And.intro rfl rfl | exact And.intro (by assumption) rfl | exact And.intro (by omega) rfl | (simp only [inK] at *; omega) | (simp_all [sel] <;> fail) | fail) rfl ?_
      refine rSkip ?_
      refine rThen ?_
      refine rSeq ?_
      refine rRegC md0 hX rfl rfl rfl (by repeat' first | exact True.intro | exact rfl | apply And.intro | omega | exact Nat.le_of_ble_eq_true rfl) ?_
      refine rThen ?_
      refine rRet ?_
      have hy := Option.some.inj hT; subst hy
      exact rEndObj a1 hX rfl (by repeat' first | exact True.intro | exact rfl | apply And.intro | omega | exact Nat.le_of_ble_eq_true rfl) rfl rfl rfl rfl rfl rfl rfl (by first | rfl | assumption) (by first | rfl | assumption) rfl rfl
    · cases h
  · cases h
def law15_lives (N : Nat) : Option Bool :=
  let c1 := (outbits_New N)
  if c1.isSome = true then
    let c2 := (blocks_Put N true 128 1 (c1.getD default) [(true, ((0 : Int), (1 : Int)))])
    if c2.isSome = true then
      let c3 := (overspill_outbits_Writer_Text N (c2.getD default).2)
      let c4 := (inbits_New N (c3.getD default).1)
      let c5 := (blocks_Take N true true (c4.getD default).1 (c4.getD default).2)
      if c3.isSome = true ∧ c4.isSome = true ∧ c5.isSome = true then
        joinK (fun (v1 : Bool) =>
          some v1
        ) fun k1 =>
          let c7 := (overspill_outbits_Writer_Len N (c3.getD default).2)
          if ((decide ((c2.getD default).1 = 0)) = true → c7.isSome = true) then
            bif (decide ((c2.getD default).1 = 0)) then
              let x1 := (bif (bif (bif (bif (decide ((c2.getD default).1 = 0)) then (decide ((c7.getD default).1 = 13)) else false) then (decide ((c5.getD default).1 = 128)) else false) then (decide (((c5.getD default).2.1.length : Int) = 1)) else false) then (decide ((c5.getD default).2.2.1 = 0)) else false)
              let x2 := (bif (decide ((c2.getD default).1 = 0)) then (decide ((c7.getD default).1 = 13)) else false)
              let x3 := (bif (bif (decide ((c2.getD default).1 = 0)) then (decide ((c7.getD default).1 = 13)) else false) then (decide ((c5.getD default).1 = 128)) else false)
              let x4 := (bif (bif (bif (decide ((c2.getD default).1 = 0)) then (decide ((c7.getD default).1 = 13)) else false) then (decide ((c5.getD default).1 = 128)) else false) then (decide (((c5.getD default).2.1.length : Int) = 1)) else false)
              k1 x1
            else
              let x5 := (bif (bif (bif (bif (decide ((c2.getD default).1 = 0)) then false else false) then (decide ((c5.getD default).1 = 128)) else false) then (decide (((c5.getD default).2.1.length : Int) = 1)) else false) then (decide ((c5.getD default).2.2.1 = 0)) else false)
              let x6 := (bif (bif (decide ((c2.getD default).1 = 0)) then false else false) then (decide ((c5.getD default).1 = 128)) else false)
              let x7 := (bif (bif (bif (decide ((c2.getD default).1 = 0)) then false else false) then (decide ((c5.getD default).1 = 128)) else false) then (decide (((c5.getD default).2.1.length : Int) = 1)) else false)
              k1 x5
          else none
      else none
    else none
  else none
def sp_law15_lives (N : Nat) : X.Spec := fun args lk => match args with
  | [] => some ⟨(law15_lives N).isSome = true, .v (.c (.bool ((law15_lives N).getD default))), [], []⟩
  | _ => none
set_option maxRecDepth 100000 in
set_option maxHeartbeats 1000000 in
theorem ok_law15_lives (N : Nat) : FnOK Tryd.prog gt0 22 (sp_law15_lives N) := by
  refine fnOK_handed Tryd.func22 rfl (by kernel_rfl) tt_ok (ktCons (ok_overspill_outbits_Writer_Len N) (ktCons (ok_blocks_Take N) (ktCons (ok_inbits_New N) (ktCons (ok_overspill_outbits_Writer_Text N) (ktCons (ok_blocks_Put N) (ktCons (ok_outbits_New N) (ktNil))))))) ?_
  intro args lk r h hp
  unfold sp_law15_lives at h
  split at h
  · skip
    cases h
    obtain ⟨x, hx⟩ := Option.isSome_iff_exists.1 hp
    simp only [hx, Option.getD_some]
    refine hand0 rfl rfl (fun w0 M ε0 hX => ?_)
    refine rCount (fun hε => ?_)
    have hT : law15_lives N = some x := hx; clear hx hp; unfold law15_lives at hT
    refine rSeq ?_
    refine rRegC md0 hX rfl rfl rfl (by repeat' first | exact True.intro | exact rfl | apply And.intro | omega | exact Nat.le_of_ble_eq_true rfl) ?_
    refine rThen ?_
    refine rSeq ?_
    let c1 := (outbits_New N)
    replace hT := sIf hT; obtain ⟨o1, hT⟩ := hT
    refine rRegC md0 hX rfl rfl rfl (by (repeat' first | exact True.intro | with_reducible assumption | (with_reducible apply And.intro) | intro _) <;> first | assumption | exact rfl | omega | exact Nat.le_of_ble_eq_true rfl | exact selF (by assumption) | exact selT (by assumption) | exact And.intro rfl rfl | exact And.intro (by assumption) rfl | exact And.intro (by omega) rfl | (simp only [inK] at *; omega) | (simp_all [sel] <;> fail) | fail) ?_
    refine rThen ?_
    refine rSeq ?_
    let c2 := (blocks_Put N true 128 1 (c1.getD default) [(true, ((0 : Int), (1 : Int)))])
    replace hT := sIf hT; obtain ⟨o1, hT⟩ := hT
    refine rRegC md0 hX rfl rfl rfl (by (repeat' first | exact True.intro | with_reducible assumption | (with_reducible apply And.intro) | intro _) <;> first | assumption | exact rfl | omega | exact Nat.le_of_ble_eq_true rfl | exact selF (by assumption) | exact selT (by assumption) | exact And.intro rfl rfl | exact And.intro (by assumption) rfl | exact And.intro (by omega) rfl | (simp only [inK] at *; omega) | (simp_all [sel] <;> fail) | fail) ?_
    refine rThen ?_
    refine rSeq ?_
    let c3 := (overspill_outbits_Writer_Text N (c2.getD default).2)
    let c4 := (inbits_New N (c3.getD default).1)
    let c5 := (blocks_Take N true true (c4.getD default).1 (c4.getD default).2)
    replace hT := sIf hT; obtain ⟨⟨o1, o2, o3⟩, hT⟩ := hT
    refine rRegC md0 hX rfl rfl rfl (by (repeat' first | exact True.intro | with_reducible assumption | (with_reducible apply And.intro) | intro _) <;> first | assumption | exact rfl | omega | exact Nat.le_of_ble_eq_true rfl | exact selF (by assumption) | exact selT (by assumption) | exact And.intro rfl rfl | exact And.intro (by assumption) rfl | exact And.intro (by omega) rfl | (simp only [inK] at *; omega) | (simp_all [sel] <;> fail) | fail) ?_
    refine rThen ?_
    refine rSeq ?_
    refine rRegSL ?_
    refine rJoinKL hT (fun v1 => ⟨[(0, .v (.c (.bool v1)))], [], 3⟩) (fun v1 hT => ?_) (fun k1 hjk1 hT => ?_)
    · skip
      refine rThen ?_
      refine rRet ?_
      have hy := Option.some.inj hT; subst hy
      exact rEnd0 hX rfl (by repeat' first | exact True.intro | exact rfl | apply And.intro | omega | exact Nat.le_of_ble_eq_true rfl) (by repeat' first | exact True.intro | exact rfl | apply And.intro) rfl rfl rfl rfl rfl
    · skip
      let c7 := (overspill_outbits_Writer_Len N (c3.getD default).2)
      replace hT := sIf hT; obtain ⟨r1, hT⟩ := hT
      refine rSLG md0 hX rfl rfl rfl (by (repeat' first | exact True.intro | with_reducible assumption | (with_reducible apply And.intro) | intro _) <;> first | assumption | exact rfl | omega | exact Nat.le_of_ble_eq_true rfl | exact selF (by assumption) | exact selT (by assumption) | exact And.intro rfl rfl | exact And.intro (by assumption) rfl | exact And.intro (by omega) rfl | (simp only [inK] at *; omega) | (simp_all [sel] <;> fail) | fail) rfl rfl rfl rfl (fun hg => (by (repeat' first | exact True.intro | with_reducible assumption | (with_reducible apply And.intro)) <;> first | exact rfl | assumption | exact r1 hg | omega | exact Nat.le_of_ble_eq_true rfl)) (fun hg => ?_) (fun hg => ?_)
      · replace hT := sT hg hT
        let x1 := (bif (bif (bif (bif (decide ((c2.getD default).1 = 0)) then (decide ((c7.getD default).1 = 13)) else false) then (decide ((c5.getD default).1 = 128)) else false) then (decide (((c5.getD default).2.1.length : Int) = 1)) else false) then (decide ((c5.getD default).2.2.1 = 0)) else false)
        let x2 := (bif (decide ((c2.getD default).1 = 0)) then (decide ((c7.getD default).1 = 13)) else false)
        let x3 := (bif (bif (decide ((c2.getD default).1 = 0)) then (decide ((c7.getD default).1 = 13)) else false) then (decide ((c5.getD default).1 = 128)) else false)
        let x4 := (bif (bif (bif (decide ((c2.getD default).1 = 0)) then (decide ((c7.getD default).1 = 13)) else false) then (decide ((c5.getD default).1 = 128)) else false) then (decide (((c5.getD default).2.1.length : Int) = 1)) else false)
        refine rSLDone md0 hX rfl rfl rfl (by (repeat' first | exact True.intro | with_reducible assumption | (with_reducible apply And.intro) | intro _) <;> first | assumption | exact rfl | omega | exact Nat.le_of_ble_eq_true rfl | exact selF (by assumption) | exact selT (by assumption) | exact And.intro rfl rfl | exact And.intro (by assumption) rfl | exact And.intro (by omega) rfl | (simp only [inK] at *; omega) | (simp_all [sel] <;> fail) | fail) ?_
        exact rTo (To.mk' [] 0 hε rfl (by repeat' first | exact True.intro | exact rfl | apply And.intro) (by repeat' first | exact True.intro | exact rfl | apply And.intro)) (hjk1 _ hT)
      · replace hT := sF hg hT
        refine rSLSkip md0 hX rfl rfl rfl (by (repeat' first | exact True.intro | with_reducible assumption | (with_reducible apply And.intro) | intro _) <;> first | assumption | exact rfl | omega | exact Nat.le_of_ble_eq_true rfl | exact selF (by assumption) | exact selT (by assumption) | exact And.intro rfl rfl | exact And.intro (by assumption) rfl | exact And.intro (by omega) rfl | (simp only [inK] at *; omega) | (simp_all [sel] <;> fail) | fail) rfl rfl rfl (by assumption) ?_
        let x5 := (bif (bif (bif (bif (decide ((c2.getD default).1 = 0)) then false else false) then (decide ((c5.getD default).1 = 128)) else false) then (decide (((c5.getD default).2.1.length : Int) = 1)) else false) then (decide ((c5.getD default).2.2.1 = 0)) else false)
        let x6 := (bif (bif (decide ((c2.getD default).1 = 0)) then false else false) then (decide ((c5.getD default).1 = 128)) else false)
        let x7 := (bif (bif (bif (decide ((c2.getD default).1 = 0)) then false else false) then (decide ((c5.getD default).1 = 128)) else false) then (decide (((c5.getD default).2.1.length : Int) = 1)) else false)
        refine rSLDone md0 hX rfl rfl rfl (by (repeat' first | exact True.intro | with_reducible assumption | (with_reducible apply And.intro) | intro _) <;> first | assumption | exact rfl | omega | exact Nat.le_of_ble_eq_true rfl | exact selF (by assumption) | exact selT (by assumption) | exact And.intro rfl rfl | exact And.intro (by assumption) rfl | exact And.intro (by omega) rfl | (simp only [inK] at *; omega) | (simp_all [sel] <;> fail) | fail) ?_
        exact rTo (To.mk' [] 0 hε rfl (by repeat' first | exact True.intro | exact rfl | apply And.intro) (by repeat' first | exact True.intro | exact rfl | apply And.intro)) (hjk1 _ hT)
  · cases h
def runs_Levels_v1_b1 (N : Nat) (a1 : (List (Bool × (Int × Int)))) (s1 : (Int × Int × (List Int))) : Option ((Int × Int × (List Int)) ⊕ (Unit ⊕ (List Int))) :=
  bif (decide (s1.2.1 < (a1.length : Int))) then
    if (0 : Int) ≤ s1.2.1 ∧ s1.2.1 < (a1.length : Int) then
      let c1 := (tcoef_Right N (a1.getD (s1.2.1).toNat (false, ((0 : Int), (0 : Int)))).1 (a1.getD (s1.2.1).toNat (false, ((0 : Int), (0 : Int)))).2.1 (a1.getD (s1.2.1).toNat (false, ((0 : Int), (0 : Int)))).2.2)
      let x1 := (!((a1.getD (s1.2.1).toNat (false, ((0 : Int), (0 : Int)))).1 == (decide (s1.2.1 = ((a1.length : Int) - 1)))))
      let x2 := (bif (!(c1.getD default)) then true else (!((a1.getD (s1.2.1).toNat (false, ((0 : Int), (0 : Int)))).1 == (decide (s1.2.1 = ((a1.length : Int) - 1))))))
      let x3 := (!(bif (!(c1.getD default)) then true else (!((a1.getD (s1.2.1).toNat (false, ((0 : Int), (0 : Int)))).1 == (decide (s1.2.1 = ((a1.length : Int) - 1)))))))
      let x4 := (decide ((64 : Int) ≤ (s1.1 + (a1.getD (s1.2.1).toNat (false, ((0 : Int), (0 : Int)))).2.1)))
      let x5 := (bif (bif (!(c1.getD default)) then true else (!((a1.getD (s1.2.1).toNat (false, ((0 : Int), (0 : Int)))).1 == (decide (s1.2.1 = ((a1.length : Int) - 1)))))) then true else (decide ((64 : Int) ≤ (s1.1 + (a1.getD (s1.2.1).toNat (false, ((0 : Int), (0 : Int)))).2.1))))
      if c1.isSome = true ∧ ((!(!(c1.getD default))) = true → inK .i64 ((a1.length : Int) - 1)) ∧ ((!(bif (!(c1.getD default)) then true else (!((a1.getD (s1.2.1).toNat (false, ((0 : Int), (0 : Int)))).1 == (decide (s1.2.1 = ((a1.length : Int) - 1))))))) = true → inK .i64 (s1.1 + (a1.getD (s1.2.1).toNat (false, ((0 : Int), (0 : Int)))).2.1)) then
        bif x5 then
          some (.inr (Sum.inl ()))
        else
          if inK .i64 (s1.1 + (a1.getD (s1.2.1).toNat (false, ((0 : Int), (0 : Int)))).2.1) then
            let x6 := (s1.2.2.set (s1.1 + (a1.getD (s1.2.1).toNat (false, ((0 : Int), (0 : Int)))).2.1).toNat (a1.getD (s1.2.1).toNat (false, ((0 : Int), (0 : Int)))).2.2)
            if (0 : Int) ≤ (s1.1 + (a1.getD (s1.2.1).toNat (false, ((0 : Int), (0 : Int)))).2.1) ∧ (s1.1 + (a1.getD (s1.2.1).toNat (false, ((0 : Int), (0 : Int)))).2.1) < 64 ∧ (s1.1 + (a1.getD (s1.2.1).toNat (false, ((0 : Int), (0 : Int)))).2.1).toNat < 64 then
              if inK .i64 ((s1.1 + (a1.getD (s1.2.1).toNat (false, ((0 : Int), (0 : Int)))).2.1) + 1) then
                if inK .i64 (s1.2.1 + 1) then
                  some (.inl (((s1.1 + (a1.getD (s1.2.1).toNat (false, ((0 : Int), (0 : Int)))).2.1) + 1), (s1.2.1 + 1), x6))
                else none
              else none
            else none
          else none
      else none
    else none
  else
    some (.inr (Sum.inr s1.2.2))
def runs_Levels_v1 (N : Nat) (a1 : (List (Bool × (Int × Int)))) (a2 : Int) : Option ((List Int) × Int) :=
  bif (bif (decide (a2 ≠ 0)) then (decide (a2 ≠ 1)) else false) then
    some ((List.replicate 64 0), 1)
  else
    (iter (runs_Levels_v1_b1 N a1) N (a2, 0, (List.replicate 64 0))).bind fun w1 =>
      (Sum.elim (fun v1 =>
        some ((List.replicate 64 0), 7)
      )
        (fun v2 =>
          some (v2, 0)
        )
      ) w1
def sp_runs_Levels_v1 (N : Nat) : X.Spec := fun args lk => match args with
  | [.v (.c (.fz (.pair .bool (.pair (.int .i64) (.int .i64))) a1)), .v (.c (.int .i64 a2))] => some ⟨(runs_Levels_v1 N a1 a2).isSome = true, .tup [.agg [.ints 64 .i64 ((runs_Levels_v1 N a1 a2).getD default).1], .c (.int .i64 ((runs_Levels_v1 N a1 a2).getD default).2)], [], []⟩
  | _ => none
set_option maxRecDepth 100000 in
set_option maxHeartbeats 1000000 in
theorem ok_runs_Levels_v1 (N : Nat) : FnOK Tryd.prog gt0 63 (sp_runs_Levels_v1 N) := by
  refine fnOK_handed Tryd.func63 rfl (by kernel_rfl) tt_ok (ktCons (ok_tcoef_Right N) (ktNil)) ?_
  intro args lk r h hp
  unfold sp_runs_Levels_v1 at h
  split at h
  · rename_i a1 a2
    change (List (Bool × (Int × Int))) at a1
    cases h
    obtain ⟨x, hx⟩ := Option.isSome_iff_exists.1 hp
    simp only [hx, Option.getD_some]
    refine hand0 rfl rfl (fun w0 M ε0 hX => ?_)
    refine rCount (fun hε => ?_)
    have hT : runs_Levels_v1 N a1 a2 = some x := hx; clear hx hp; unfold runs_Levels_v1 at hT
    refine rSeq ?_
    refine rRegC md0 hX rfl rfl rfl (by repeat' first | exact True.intro | exact rfl | apply And.intro | omega | exact Nat.le_of_ble_eq_true rfl) ?_
    refine rThen ?_
    refine rSeq ?_
    refine rSeq ?_
    refine rRegC md0 hX rfl rfl rfl (by (repeat' first | exact True.intro | with_reducible assumption | (with_reducible apply And.intro) | intro _) <;> first | assumption | exact rfl | omega | exact Nat.le_of_ble_eq_true rfl | exact selF (by assumption) | exact selT (by assumption) | exact And.intro rfl rfl | exact And.intro (by assumption) rfl | exact And.intro (by omega) rfl | (simp only [inK] at *; omega) | (simp_all [sel] <;> fail) | fail) ?_
    refine rThen ?_
    refine rCond rfl rfl (by repeat' first | exact True.intro | exact rfl | apply And.intro | omega | exact Nat.le_of_ble_eq_true rfl) (fun hc => ?_) (fun hc => ?_)
    · replace hT := sT hc hT
      refine rSeq ?_
      refine rRegC md0 hX rfl rfl rfl (by repeat' first | exact True.intro | exact rfl | apply And.intro | omega | exact Nat.le_of_ble_eq_true rfl) ?_
      refine rThen ?_
      refine rRet ?_
      refine rThenRet ?_
      have hy := Option.some.inj hT; subst hy
      exact rEnd0 hX rfl (by repeat' first | exact True.intro | exact rfl | apply And.intro | omega | exact Nat.le_of_ble_eq_true rfl) (by repeat' first | exact True.intro | exact rfl | apply And.intro) rfl rfl rfl rfl rfl
    · replace hT := sF hc hT
      refine rSkip ?_
      refine rThen ?_
      refine rSeq ?_
      refine rRegC md0 hX rfl rfl rfl (by repeat' first | exact True.intro | exact rfl | apply And.intro | omega | exact Nat.le_of_ble_eq_true rfl) ?_
      refine rThen ?_
      refine rSeq ?_
      refine rRegC md0 hX rfl rfl rfl (by repeat' first | exact True.intro | exact rfl | apply And.intro | omega | exact Nat.le_of_ble_eq_true rfl) ?_
      refine rThen ?_
      refine rSeq ?_
      refine rSeq ?_
      refine rRegC md0 hX rfl rfl rfl (by repeat' first | exact True.intro | exact rfl | apply And.intro | omega | exact Nat.le_of_ble_eq_true rfl) ?_
      refine rThen ?_
      refine rBlock ?_
      replace hT := sBind hT; obtain ⟨w1, hl, hT⟩ := hT
      refine rJoinA (fun v1 => (Sum.inl v1) = w1) (fun v1 => ⟨[(4, .v (.c (.ptr 0 0 0 0 0 0))), (5, .v (.c (.int .i64 7)))], [(0, .mem true 82 none (.flat [.ints 64 .i64 (List.replicate 64 0)]))], 2⟩) .ret (fun v1 hv => ?_) (fun hxs10 => ?_)
      · subst hv; clear hl; replace hT := (sElimL hT)
        refine rInRet ?_
        refine rThenRet ?_
        have hy := Option.some.inj hT; subst hy
        exact rEnd0 hX rfl (by repeat' first | exact True.intro | exact rfl | apply And.intro | omega | exact Nat.le_of_ble_eq_true rfl) (by repeat' first | exact True.intro | exact rfl | apply And.intro) rfl rfl rfl rfl rfl
      refine rJoinA (fun v2 => (Sum.inr v2) = w1) (fun v2 => ⟨[(4, .v (.c (.ptr 0 0 0 0 0 0))), (5, .v (.c (.int .i64 0))), (6, .v (.c (.ptr 1 0 0 0 0 0)))], [(0, .mem true 82 none (.flat [.ints 64 .i64 (List.replicate 64 0)])), (1, .mem true 82 none (.flat [.ints 64 .i64 v2]))], 2⟩) (.exit 0) (fun v2 hv => ?_) (fun hxs11 => ?_)
      · subst hv; clear hl; replace hT := (sElimR hT)
        refine rInHit ?_
        refine rThen ?_
        refine rSeq ?_
        refine rRegC md0 hX rfl rfl rfl (by repeat' first | exact True.intro | exact rfl | apply And.intro | omega | exact Nat.le_of_ble_eq_true rfl) ?_
        refine rThen ?_
        refine rRet ?_
        have hy := Option.some.inj hT; subst hy
        exact rEnd0 hX rfl (by repeat' first | exact True.intro | exact rfl | apply And.intro | omega | exact Nat.le_of_ble_eq_true rfl) (by repeat' first | exact True.intro | exact rfl | apply And.intro) rfl rfl rfl rfl rfl
      refine rLoopM (runs_Levels_v1_b1 N a1) (fun s1 => ⟨[(0, .v (.c (.fz (.pair .bool (.pair (.int .i64) (.int .i64))) a1))), (4, .v (.c (.ptr 0 0 0 0 0 0))), (5, .v (.c (.int .i64 0))), (6, .v (.c (.ptr 1 0 0 0 0 0))), (7, .v (.c (.int .i64 s1.1))), (18, .v (.c (.fz (.pair .bool (.pair (.int .i64) (.int .i64))) a1))), (19, .v (.c (.int .i64 (a1.length : Int)))), (20, .v (.c (.int .i64 s1.2.1)))], [(0, .mem true 82 none (.flat [.ints 64 .i64 (List.replicate 64 0)])), (1, .mem true 82 none (.flat [.ints 64 .i64 s1.2.2]))], 2⟩) hl (To.mk' [] 0 hε rfl (by repeat' first | exact True.intro | exact rfl | apply And.intro) (by repeat' first | exact True.intro | exact rfl | apply And.intro)) (fun s1 zs1 NNs1 hz hnexts1 houts1 => ?_)
      clear hl hT
      have hT := hz; clear hz
      refine rSeq ?_
      refine rRegC md0 hX rfl rfl rfl (by repeat' first | exact True.intro | exact rfl | apply And.intro | omega | exact Nat.le_of_ble_eq_true rfl) ?_
      refine rThen ?_
      refine rSeq ?_
      refine rCond rfl rfl (by repeat' first | exact True.intro | exact rfl | apply And.intro | omega | exact Nat.le_of_ble_eq_true rfl) (fun hc => ?_) (fun hc => ?_)
      · replace hT := sT hc hT
        refine rSkip ?_
        refine rThen ?_
        refine rSeq ?_
        refine rBlock ?_
        refine rSeq ?_
        replace hT := sIf hT; obtain ⟨⟨o1, o2⟩, hT⟩ := hT
        refine rRegC md0 hX rfl rfl rfl (by (repeat' first | exact True.intro | with_reducible assumption | (with_reducible apply And.intro) | intro _) <;> first | assumption | exact rfl | omega | exact Nat.le_of_ble_eq_true rfl | exact selF (by assumption) | exact selT (by assumption) | exact And.intro rfl rfl | exact And.intro (by assumption) rfl | exact And.intro (by omega) rfl | (simp only [inK] at *; omega) | (simp_all [sel] <;> fail) | fail) ?_
        refine rThen ?_
        refine rSeq ?_
        refine rSeq ?_
        let c1 := (tcoef_Right N (a1.getD (s1.2.1).toNat (false, ((0 : Int), (0 : Int)))).1 (a1.getD (s1.2.1).toNat (false, ((0 : Int), (0 : Int)))).2.1 (a1.getD (s1.2.1).toNat (false, ((0 : Int), (0 : Int)))).2.2)
        let x1 := (!((a1.getD (s1.2.1).toNat (false, ((0 : Int), (0 : Int)))).1 == (decide (s1.2.1 = ((a1.length : Int) - 1)))))
        let x2 := (bif (!(c1.getD default)) then true else (!((a1.getD (s1.2.1).toNat (false, ((0 : Int), (0 : Int)))).1 == (decide (s1.2.1 = ((a1.length : Int) - 1))))))
        let x3 := (!(bif (!(c1.getD default)) then true else (!((a1.getD (s1.2.1).toNat (false, ((0 : Int), (0 : Int)))).1 == (decide (s1.2.1 = ((a1.length : Int) - 1)))))))
        let x4 := (decide ((64 : Int) ≤ (s1.1 + (a1.getD (s1.2.1).toNat (false, ((0 : Int), (0 : Int)))).2.1)))
        let x5 := (bif (bif (!(c1.getD default)) then true else (!((a1.getD (s1.2.1).toNat (false, ((0 : Int), (0 : Int)))).1 == (decide (s1.2.1 = ((a1.length : Int) - 1)))))) then true else (decide ((64 : Int) ≤ (s1.1 + (a1.getD (s1.2.1).toNat (false, ((0 : Int), (0 : Int)))).2.1))))
        replace hT := sIf hT; obtain ⟨⟨o1, o2, o3⟩, hT⟩ := hT
        refine rRegC md0 hX rfl rfl rfl (by (repeat' first | exact True.intro | with_reducible assumption | (with_reducible apply And.intro) | intro _) <;> first | assumption | exact o2 (by assumption) | exact o3 (by assumption) | exact rfl | omega | exact Nat.le_of_ble_eq_true rfl | exact selF (by assumption) | exact selT (by assumption) | exact And.intro rfl rfl | exact And.intro (by assumption) rfl | exact And.intro (by omega) rfl | (simp only [inK] at *; omega) | (simp_all [sel] <;> fail) | fail) ?_
        refine rThen ?_
        refine rCond rfl rfl (by repeat' first | exact True.intro | exact rfl | apply And.intro | omega | exact Nat.le_of_ble_eq_true rfl) (fun hc => ?_) (fun hc => ?_)
        · replace hT := sT hc hT
          refine rSeq ?_
          refine rRegC md0 hX rfl rfl rfl (by repeat' first | exact True.intro | exact rfl | apply And.intro | omega | exact Nat.le_of_ble_eq_true rfl) ?_
          refine rThen ?_
          refine rRet ?_
          refine rThenRet ?_
          refine rInRet ?_
          refine rThenRet ?_
          refine rThenRet ?_
          exact rTo (To.mk' [] 0 hε rfl (by repeat' first | exact True.intro | exact rfl | apply And.intro) (by repeat' first | exact True.intro | exact rfl | apply And.intro)) (hxs10 _ (houts1 _ (Option.some.inj hT).symm))
        · replace hT := sF hc hT
          refine rSkip ?_
          refine rThen ?_
          refine rSeq ?_
          replace hT := sIf hT; obtain ⟨o1, hT⟩ := hT
          refine rRegC md0 hX rfl rfl rfl (by (repeat' first | exact True.intro | with_reducible assumption | (with_reducible apply And.intro) | intro _) <;> first | assumption | exact rfl | omega | exact Nat.le_of_ble_eq_true rfl | exact selF (by assumption) | exact selT (by assumption) | exact And.intro rfl rfl | exact And.intro (by assumption) rfl | exact And.intro (by omega) rfl | (simp only [inK] at *; omega) | (simp_all [sel] <;> fail) | fail) ?_
          refine rThen ?_
          refine rSeq ?_
          let x6 := (s1.2.2.set (s1.1 + (a1.getD (s1.2.1).toNat (false, ((0 : Int), (0 : Int)))).2.1).toNat (a1.getD (s1.2.1).toNat (false, ((0 : Int), (0 : Int)))).2.2)
          replace hT := sIf hT; obtain ⟨⟨o1, o2, o3⟩, hT⟩ := hT
          refine rRegC md0 hX rfl rfl rfl (by (repeat' first | exact True.intro | with_reducible assumption | (with_reducible apply And.intro) | intro _) <;> first | assumption | exact rfl | omega | exact Nat.le_of_ble_eq_true rfl | exact selF (by assumption) | exact selT (by assumption) | exact And.intro rfl rfl | exact And.intro (by assumption) rfl | exact And.intro (by omega) rfl | (simp only [inK] at *; omega) | (simp_all [sel] <;> fail) | fail) ?_
          refine rThen ?_
          replace hT := sIf hT; obtain ⟨o1, hT⟩ := hT
          refine rRegC md0 hX rfl rfl rfl (by (repeat' first | exact True.intro | with_reducible assumption | (with_reducible apply And.intro) | intro _) <;> first | assumption | exact rfl | omega | exact Nat.le_of_ble_eq_true rfl | exact selF (by assumption) | exact selT (by assumption) | exact And.intro rfl rfl | exact And.intro (by assumption) rfl | exact And.intro (by omega) rfl | (simp only [inK] at *; omega) | (simp_all [sel] <;> fail) | fail) ?_
          refine rInNormal ?_
          refine rThen ?_
          replace hT := sIf hT; obtain ⟨o1, hT⟩ := hT
          refine rRegC md0 hX rfl rfl rfl (by (repeat' first | exact True.intro | with_reducible assumption | (with_reducible apply And.intro) | intro _) <;> first | assumption | exact rfl | omega | exact Nat.le_of_ble_eq_true rfl | exact selF (by assumption) | exact selT (by assumption) | exact And.intro rfl rfl | exact And.intro (by assumption) rfl | exact And.intro (by omega) rfl | (simp only [inK] at *; omega) | (simp_all [sel] <;> fail) | fail) ?_
          exact hnexts1 _ (Option.some.inj hT).symm _ (To.mk' [] 0 hε rfl (by repeat' first | exact True.intro | exact rfl | apply And.intro) (by repeat' first | exact True.intro | exact rfl | apply And.intro))
      · replace hT := sF hc hT
        refine rExit ?_
        refine rThenExit ?_
        refine rThenExit ?_
        exact rTo (To.mk' [] 0 hε rfl (by repeat' first | exact True.intro | exact rfl | apply And.intro) (by repeat' first | exact True.intro | exact rfl | apply And.intro)) (hxs11 _ (houts1 _ (Option.some.inj hT).symm))
  · cases h
def blocks_may_v1 (N : Nat) (a1 : Bool) (a2 : Int) (a3 : (List (Bool × (Int × Int)))) : Option Bool :=
  let x1 := (bif (bif (!(a1 == (decide (a2 ≠ 0)))) then true else (decide (a2 < 0))) then true else (decide ((255 : Int) ≤ a2)))
  bif x1 then
    some false
  else
    let c1 := (blocks_from N a1)
    let c2 := (runs_Levels_v1 N a3 (c1.getD default))
    if c1.isSome = true ∧ c2.isSome = true then
      some (decide ((c2.getD default).2 = 0))
    else none
def sp_blocks_may_v1 (N : Nat) : X.Spec := fun args lk => match args with
  | [.v (.c (.bool a1)), .v (.c (.int .i64 a2)), .v (.c (.fz (.pair .bool (.pair (.int .i64) (.int .i64))) a3))] => some ⟨(blocks_may_v1 N a1 a2 a3).isSome = true, .v (.c (.bool ((blocks_may_v1 N a1 a2 a3).getD default))), [], []⟩
  | _ => none
set_option maxRecDepth 100000 in
set_option maxHeartbeats 1000000 in
theorem ok_blocks_may_v1 (N : Nat) : FnOK Tryd.prog gt0 46 (sp_blocks_may_v1 N) := by
  refine fnOK_handed Tryd.func46 rfl (by kernel_rfl) tt_ok (ktCons (ok_runs_Levels_v1 N) (ktCons (ok_blocks_from N) (ktNil))) ?_
  intro args lk r h hp
  unfold sp_blocks_may_v1 at h
  split at h
  · rename_i a1 a2 a3
    change (List (Bool × (Int × Int))) at a3
    cases h
    obtain ⟨x, hx⟩ := Option.isSome_iff_exists.1 hp
    simp only [hx, Option.getD_some]
    refine hand0 rfl rfl (fun w0 M ε0 hX => ?_)
    refine rCount (fun hε => ?_)
    have hT : blocks_may_v1 N a1 a2 a3 = some x := hx; clear hx hp; unfold blocks_may_v1 at hT
    refine rSeq ?_
    refine rRegC md0 hX rfl rfl rfl (by repeat' first | exact True.intro | exact rfl | apply And.intro | omega | exact Nat.le_of_ble_eq_true rfl) ?_
    refine rThen ?_
    refine rSeq ?_
    refine rSeq ?_
    let x1 := (bif (bif (!(a1 == (decide (a2 ≠ 0)))) then true else (decide (a2 < 0))) then true else (decide ((255 : Int) ≤ a2)))
    refine rRegC md0 hX rfl rfl rfl (by (repeat' first | exact True.intro | with_reducible assumption | (with_reducible apply And.intro) | intro _) <;> first | assumption | exact rfl | omega | exact Nat.le_of_ble_eq_true rfl | exact selF (by assumption) | exact selT (by assumption) | exact And.intro rfl rfl | exact And.intro (by assumption) rfl | exact And.intro (by omega) rfl | (simp only [inK] at *; omega) | (simp_all [sel] <;> fail) | fail) ?_
    refine rThen ?_
    refine rCond rfl rfl (by repeat' first | exact True.intro | exact rfl | apply And.intro | omega | exact Nat.le_of_ble_eq_true rfl) (fun hc => ?_) (fun hc => ?_)
    · replace hT := sT hc hT
      refine rSeq ?_
      refine rRegC md0 hX rfl rfl rfl (by repeat' first | exact True.intro | exact rfl | apply And.intro | omega | exact Nat.le_of_ble_eq_true rfl) ?_
      refine rThen ?_
      refine rRet ?_
      refine rThenRet ?_
      have hy := Option.some.inj hT; subst hy
      exact rEnd0 hX rfl (by repeat' first | exact True.intro | exact rfl | apply And.intro | omega | exact Nat.le_of_ble_eq_true rfl) (by repeat' first | exact True.intro | exact rfl | apply And.intro) rfl rfl rfl rfl rfl
    · replace hT := sF hc hT
      refine rSkip ?_
      refine rThen ?_
      refine rSeq ?_
      let c1 := (blocks_from N a1)
      let c2 := (runs_Levels_v1 N a3 (c1.getD default))
      replace hT := sIf hT; obtain ⟨⟨o1, o2⟩, hT⟩ := hT
      refine rRegC md0 hX rfl rfl rfl (by (repeat' first | exact True.intro | with_reducible assumption | (with_reducible apply And.intro) | intro _) <;> first | assumption | exact rfl | omega | exact Nat.le_of_ble_eq_true rfl | exact selF (by assumption) | exact selT (by assumption) | exact And.intro rfl rfl | exact And.intro (by assumption) rfl | exact And.intro (by omega) rfl | (simp only [inK] at *; omega) | (simp_all [sel] <;> fail) | fail) ?_
      refine rThen ?_
      refine rSeq ?_
      refine rRegC md0 hX rfl rfl rfl (by repeat' first | exact True.intro | exact rfl | apply And.intro | omega | exact Nat.le_of_ble_eq_true rfl) ?_
      refine rThen ?_
      refine rRet ?_
      have hy := Option.some.inj hT; subst hy
      exact rEnd0 hX rfl (by repeat' first | exact True.intro | exact rfl | apply And.intro | omega | exact Nat.le_of_ble_eq_true rfl) (by repeat' first | exact True.intro | exact rfl | apply And.intro) rfl rfl rfl rfl rfl
  · cases h
def blocks_Put_v1_b1 (N : Nat) (a3 : (List (Bool × (Int × Int)))) (s1 : (Int × (List Bool))) : Option ((Int × (List Bool)) ⊕ (List Bool)) :=
  bif (decide (s1.1 < (a3.length : Int))) then
    if (0 : Int) ≤ s1.1 ∧ s1.1 < (a3.length : Int) then
      let c3 := (tcoef_Row N (a3.getD (s1.1).toNat (false, ((0 : Int), (0 : Int)))).1 (a3.getD (s1.1).toNat (false, ((0 : Int), (0 : Int)))).2.1 (a3.getD (s1.1).toNat (false, ((0 : Int), (0 : Int)))).2.2)
      if c3.isSome = true then
        let c4 := (overspill_outbits_Writer_Add N (c3.getD default).1 s1.2)
        if c4.isSome = true then
          if inK .i64 (s1.1 + 1) then
            some (.inl ((s1.1 + 1), (c4.getD default).2))
          else none
        else none
      else none
    else none
  else
    some (.inr s1.2)
def blocks_Put_v1 (N : Nat) (a1 : Bool) (a2 : Int) (a3 : (List (Bool × (Int × Int)))) (a4 : (List Bool)) : Option (Int × (List Bool)) :=
  let c1 := (blocks_may_v1 N a1 a2 a3)
  if c1.isSome = true then
    bif (!(c1.getD default)) then
      some (7, a4)
    else
      let c2 := (overspill_outbits_Writer_Put N (bif (decide (a2 = 128)) then 255 else a2) 8 a4)
      if (a1 = true → c2.isSome = true) then
        (iter (blocks_Put_v1_b1 N a3) N (0, (bif a1 then (c2.getD default).2 else a4))).bind fun v1 =>
          some (0, v1)
      else none
  else none
def sp_blocks_Put_v1 (N : Nat) : X.Spec := fun args lk => match args with
  | [.v (.c (.ptr i0 0 0 0 0 0)), .v (.c (.bool a1)), .v (.c (.int .i64 a2)), .v (.c (.fz (.pair .bool (.pair (.int .i64) (.int .i64))) a3))] => (match lk i0 with
    | some (.obj 5 a4) => some ⟨(blocks_Put_v1 N a1 a2 a3 a4).isSome = true, .v (.c (.int .i64 ((blocks_Put_v1 N a1 a2 a3 a4).getD default).1)), [], [(i0, .obj 5 ((blocks_Put_v1 N a1 a2 a3 a4).getD default).2)]⟩
    | _ => none)
  | _ => none
set_option maxRecDepth 100000 in
set_option maxHeartbeats 1000000 in
theorem ok_blocks_Put_v1 (N : Nat) : FnOK Tryd.prog gt0 25 (sp_blocks_Put_v1 N) := by
  refine fnOK_handed Tryd.func25 rfl (by kernel_rfl) tt_ok (ktCons (ok_overspill_outbits_Writer_Add N) (ktCons (ok_tcoef_Row N) (ktCons (ok_overspill_outbits_Writer_Put N) (ktCons (ok_blocks_may_v1 N) (ktNil))))) ?_
  intro args lk r h hp
  unfold sp_blocks_Put_v1 at h
  split at h
  · rename_i i0 a1 a2 a3
    split at h
    · rename_i a4 hl0
      change (List (Bool × (Int × Int))) at a3
      cases h
      obtain ⟨x, hx⟩ := Option.isSome_iff_exists.1 hp
      simp only [hx, Option.getD_some]
      refine handL [i0] 1 [(0, .obj 5 a4)] [.v (.c (.ptr 0 0 0 0 0 0)), .v (.c (.bool a1)), .v (.c (.int .i64 a2)), .v (.c (.fz (.pair .bool (.pair (.int .i64) (.int .i64))) a3))] rfl rfl rfl ⟨isSome_of hl0, trivial⟩ ⟨⟨rfl, (by repeat' first | exact True.intro | exact rfl | exact ⟨_, rfl, rfl⟩ | apply And.intro | exact Or.inl rfl), _, hl0, .inl rfl⟩, trivial⟩ rfl (fun w0 M ε0 hX => ?_)
      refine rCount (fun hε => ?_)
      have hT : blocks_Put_v1 N a1 a2 a3 a4 = some x := hx; clear hx hp; unfold blocks_Put_v1 at hT
      refine rSeq ?_
      refine rRegC md0 hX rfl rfl rfl (by repeat' first | exact True.intro | exact rfl | apply And.intro | omega | exact Nat.le_of_ble_eq_true rfl) ?_
      refine rThen ?_
      refine rSeq ?_
      refine rBlock ?_
      refine rSeq ?_
      refine rRegC md0 hX rfl rfl rfl (by repeat' first | exact True.intro | exact rfl | apply And.intro | omega | exact Nat.le_of_ble_eq_true rfl) ?_
      refine rThen ?_
      refine rCondF rfl rfl (by (repeat' first | exact True.intro | with_reducible assumption | (with_reducible apply And.intro) | intro _) <;> first | assumption | exact rfl | omega | exact Nat.le_of_ble_eq_true rfl | exact selF (by assumption) | exact selT (by assumption) | exact And.intro rfl rfl | exact And.intro (by assumption) rfl | exact And.intro (by omega) rfl | (simp only [inK] at *; omega) | (simp_all [sel] <;> fail) | fail) rfl ?_
      refine rSeq ?_
      let c1 := (blocks_may_v1 N a1 a2 a3)
      replace hT := sIf hT; obtain ⟨o1, hT⟩ := hT
      refine rRegC md0 hX rfl rfl rfl (by (repeat' first | exact True.intro | with_reducible assumption | (with_reducible apply And.intro) | intro _) <;> first | assumption | exact rfl | omega | exact Nat.le_of_ble_eq_true rfl | exact selF (by assumption) | exact selT (by assumption) | exact And.intro rfl rfl | exact And.intro (by assumption) rfl | exact And.intro (by omega) rfl | (simp only [inK] at *; omega) | (simp_all [sel] <;> fail) | fail) ?_
      refine rThen ?_
      refine rCond rfl rfl (by repeat' first | exact True.intro | exact rfl | apply And.intro | omega | exact Nat.le_of_ble_eq_true rfl) (fun hc => ?_) (fun hc => ?_)
      · replace hT := sT hc hT
        refine rSeq ?_
        refine rRegC md0 hX rfl rfl rfl (by repeat' first | exact True.intro | exact rfl | apply And.intro | omega | exact Nat.le_of_ble_eq_true rfl) ?_
        refine rThen ?_
        refine rRet ?_
        refine rInRet ?_
        refine rThenRet ?_
        have hy := Option.some.inj hT; subst hy
        exact rEndA [] [] [(0, .obj 5 a4)] (.v (.c (.int .i64 7))) hX rfl (by repeat' first | exact True.intro | exact rfl | apply And.intro | omega | exact Nat.le_of_ble_eq_true rfl) (by repeat' first | exact True.intro | exact rfl | apply And.intro) rfl rfl rfl (by repeat' first | exact True.intro | exact rfl | exact ⟨_, rfl, rfl⟩ | apply And.intro | exact Or.inl rfl) rfl rfl (by repeat' first | exact True.intro | exact rfl | exact ⟨_, rfl, rfl⟩ | apply And.intro | exact Or.inl rfl) rfl rfl
      · replace hT := sF hc hT
        refine rSkip ?_
        refine rInNormal ?_
        refine rThen ?_
        refine rSeq ?_
        refine rSeq ?_
        refine rRegC md0 hX rfl rfl rfl (by repeat' first | exact True.intro | exact rfl | apply And.intro | omega | exact Nat.le_of_ble_eq_true rfl) ?_
        refine rThen ?_
        refine rJoin ⟨[(0, .v (.c (.ptr 0 0 0 0 0 0))), (1, .v (.c (.bool a1))), (2, .v (.c (.int .i64 (bif (decide (a2 = 128)) then 255 else a2)))), (3, .v (.c (.fz (.pair .bool (.pair (.int .i64) (.int .i64))) a3))), (8, .v (.c (.int .i64 0)))], [(0, .obj 5 a4)], 1⟩ ?_ (fun hj => ?_)
        · skip
          refine rThen ?_
          refine rSeq ?_
          refine rSeq ?_
          refine rRegC md0 hX rfl rfl rfl (by repeat' first | exact True.intro | exact rfl | apply And.intro | omega | exact Nat.le_of_ble_eq_true rfl) ?_
          refine rThen ?_
          let c2 := (overspill_outbits_Writer_Put N (bif (decide (a2 = 128)) then 255 else a2) 8 a4)
          replace hT := sIf hT; obtain ⟨q1, hT⟩ := hT
          refine rJoin ⟨[(0, .v (.c (.ptr 0 0 0 0 0 0))), (3, .v (.c (.fz (.pair .bool (.pair (.int .i64) (.int .i64))) a3))), (8, .v (.c (.int .i64 0)))], [(0, .obj 5 (bif a1 then (c2.getD default).2 else a4))], 1⟩ ?_ (fun hj => ?_)
          · skip
            refine rThen ?_
            refine rSeq ?_
            refine rSeq ?_
            refine rRegC md0 hX rfl rfl rfl (by repeat' first | exact True.intro | exact rfl | apply And.intro | omega | exact Nat.le_of_ble_eq_true rfl) ?_
            refine rThen ?_
            refine rBlock ?_
            replace hT := sBind hT; obtain ⟨w1, hl, hT⟩ := hT
            refine rJoinA (fun v1 => v1 = w1) (fun v1 => ⟨[(8, .v (.c (.int .i64 0)))], [(0, .obj 5 v1)], 1⟩) (.exit 1) (fun v1 hv => ?_) (fun hxs10 => ?_)
            · subst hv; clear hl
              refine rInHit ?_
              refine rThen ?_
              refine rSeq ?_
              refine rRegC md0 hX rfl rfl rfl (by repeat' first | exact True.intro | exact rfl | apply And.intro | omega | exact Nat.le_of_ble_eq_true rfl) ?_
              refine rThen ?_
              refine rRet ?_
              have hy := Option.some.inj hT; subst hy
              exact rEndA [] [] [(0, .obj 5 v1)] (.v (.c (.int .i64 0))) hX rfl (by repeat' first | exact True.intro | exact rfl | apply And.intro | omega | exact Nat.le_of_ble_eq_true rfl) (by repeat' first | exact True.intro | exact rfl | apply And.intro) rfl rfl rfl (by repeat' first | exact True.intro | exact rfl | exact ⟨_, rfl, rfl⟩ | apply And.intro | exact Or.inl rfl) rfl rfl (by repeat' first | exact True.intro | exact rfl | exact ⟨_, rfl, rfl⟩ | apply And.intro | exact Or.inl rfl) rfl rfl
            refine rLoopM (blocks_Put_v1_b1 N a3) (fun s1 => ⟨[(0, .v (.c (.ptr 0 0 0 0 0 0))), (8, .v (.c (.int .i64 0))), (28, .v (.c (.fz (.pair .bool (.pair (.int .i64) (.int .i64))) a3))), (29, .v (.c (.int .i64 (a3.length : Int)))), (30, .v (.c (.int .i64 s1.1)))], [(0, .obj 5 s1.2)], 1⟩) hl (To.mk' [] 1 hε rfl (by repeat' first | exact True.intro | exact rfl | apply And.intro) (by repeat' first | exact True.intro | exact rfl | apply And.intro)) (fun s1 zs1 NNs1 hz hnexts1 houts1 => ?_)
            clear hl hT
            have hT := hz; clear hz
            refine rSeq ?_
            refine rRegC md0 hX rfl rfl rfl (by repeat' first | exact True.intro | exact rfl | apply And.intro | omega | exact Nat.le_of_ble_eq_true rfl) ?_
            refine rThen ?_
            refine rSeq ?_
            refine rCond rfl rfl (by repeat' first | exact True.intro | exact rfl | apply And.intro | omega | exact Nat.le_of_ble_eq_true rfl) (fun hc => ?_) (fun hc => ?_)
            · replace hT := sT hc hT
              refine rSkip ?_
              refine rThen ?_
              refine rSeq ?_
              refine rBlock ?_
              refine rSeq ?_
              replace hT := sIf hT; obtain ⟨⟨o1, o2⟩, hT⟩ := hT
              refine rRegC md0 hX rfl rfl rfl (by (repeat' first | exact True.intro | with_reducible assumption | (with_reducible apply And.intro) | intro _) <;> first | assumption | exact rfl | omega | exact Nat.le_of_ble_eq_true rfl | exact selF (by assumption) | exact selT (by assumption) | exact And.intro rfl rfl | exact And.intro (by assumption) rfl | exact And.intro (by omega) rfl | (simp only [inK] at *; omega) | (simp_all [sel] <;> fail) | fail) ?_
              refine rThen ?_
              refine rSeq ?_
              let c3 := (tcoef_Row N (a3.getD (s1.1).toNat (false, ((0 : Int), (0 : Int)))).1 (a3.getD (s1.1).toNat (false, ((0 : Int), (0 : Int)))).2.1 (a3.getD (s1.1).toNat (false, ((0 : Int), (0 : Int)))).2.2)
              replace hT := sIf hT; obtain ⟨o1, hT⟩ := hT
              refine rRegC md0 hX rfl rfl rfl (by (repeat' first | exact True.intro | with_reducible assumption | (with_reducible apply And.intro) | intro _) <;> first | assumption | exact rfl | omega | exact Nat.le_of_ble_eq_true rfl | exact selF (by assumption) | exact selT (by assumption) | exact And.intro rfl rfl | exact And.intro (by assumption) rfl | exact And.intro (by omega) rfl | (simp only [inK] at *; omega) | (simp_all [sel] <;> fail) | fail) ?_
              refine rThen ?_
              let c4 := (overspill_outbits_Writer_Add N (c3.getD default).1 s1.2)
              replace hT := sIf hT; obtain ⟨o1, hT⟩ := hT
              refine rRegC md0 hX rfl rfl rfl (by (repeat' first | exact True.intro | with_reducible assumption | (with_reducible apply And.intro) | intro _) <;> first | assumption | exact rfl | omega | exact Nat.le_of_ble_eq_true rfl | exact selF (by assumption) | exact selT (by assumption) | exact And.intro rfl rfl | exact And.intro (by assumption) rfl | exact And.intro (by omega) rfl | (simp only [inK] at *; omega) | (simp_all [sel] <;> fail) | fail) ?_
              refine rInNormal ?_
              refine rThen ?_
              replace hT := sIf hT; obtain ⟨o1, hT⟩ := hT
              refine rRegC md0 hX rfl rfl rfl (by (repeat' first | exact True.intro | with_reducible assumption | (with_reducible apply And.intro) | intro _) <;> first | assumption | exact rfl | omega | exact Nat.le_of_ble_eq_true rfl | exact selF (by assumption) | exact selT (by assumption) | exact And.intro rfl rfl | exact And.intro (by assumption) rfl | exact And.intro (by omega) rfl | (simp only [inK] at *; omega) | (simp_all [sel] <;> fail) | fail) ?_
              exact hnexts1 _ (Option.some.inj hT).symm _ (To.mk' [] 1 hε rfl (by repeat' first | exact True.intro | exact rfl | apply And.intro) (by repeat' first | exact True.intro | exact rfl | apply And.intro))
            · replace hT := sF hc hT
              refine rExit ?_
              refine rThenExit ?_
              refine rThenExit ?_
              exact rTo (To.mk' [] 1 hε rfl (by repeat' first | exact True.intro | exact rfl | apply And.intro) (by repeat' first | exact True.intro | exact rfl | apply And.intro)) (hxs10 _ (houts1 _ (Option.some.inj hT).symm))
          · clear hT
            refine rCond rfl rfl (by repeat' first | exact True.intro | exact rfl | apply And.intro | omega | exact Nat.le_of_ble_eq_true rfl) (fun hc => ?_) (fun hc => ?_)
            · skip
              have q1 := q1 hc
              refine rRegC md0 hX rfl rfl rfl (by (repeat' first | exact True.intro | with_reducible assumption | (with_reducible apply And.intro) | intro _) <;> first | assumption | exact rfl | omega | exact Nat.le_of_ble_eq_true rfl | exact selF (by assumption) | exact selT (by assumption) | exact And.intro rfl rfl | exact And.intro (by assumption) rfl | exact And.intro (by omega) rfl | (simp only [inK] at *; omega) | (simp_all [sel] <;> fail) | fail) ?_
              exact rTo (To.mk' [] 1 hε rfl (by (repeat' first | exact True.intro | exact rfl | apply And.intro) <;> (repeat' first | exact rfl | refine Eq.trans ?_ (cTr (by assumption)) | refine Eq.trans ?_ (cFr (by assumption)) | refine Eq.trans (cTl (by assumption)) ?_ | refine Eq.trans (cFl (by assumption)) ?_)) (by (repeat' first | exact True.intro | exact rfl | apply And.intro) <;> (repeat' first | exact rfl | refine Eq.trans ?_ (cTr (by assumption)) | refine Eq.trans ?_ (cFr (by assumption)) | refine Eq.trans (cTl (by assumption)) ?_ | refine Eq.trans (cFl (by assumption)) ?_))) hj
            · skip
              refine rSkip ?_
              exact rTo (To.mk' [] 1 hε rfl (by (repeat' first | exact True.intro | exact rfl | apply And.intro) <;> (repeat' first | exact rfl | refine Eq.trans ?_ (cTr (by assumption)) | refine Eq.trans ?_ (cFr (by assumption)) | refine Eq.trans (cTl (by assumption)) ?_ | refine Eq.trans (cFl (by assumption)) ?_)) (by (repeat' first | exact True.intro | exact rfl | apply And.intro) <;> (repeat' first | exact rfl | refine Eq.trans ?_ (cTr (by assumption)) | refine Eq.trans ?_ (cFr (by assumption)) | refine Eq.trans (cTl (by assumption)) ?_ | refine Eq.trans (cFl (by assumption)) ?_))) hj
        · clear hT
          refine rCond rfl rfl (by repeat' first | exact True.intro | exact rfl | apply And.intro | omega | exact Nat.le_of_ble_eq_true rfl) (fun hc => ?_) (fun hc => ?_)
          · skip
            refine rRegC md0 hX rfl rfl rfl (by repeat' first | exact True.intro | exact rfl | apply And.intro | omega | exact Nat.le_of_ble_eq_true rfl) ?_
            exact rTo (To.mk' [] 1 hε rfl (by (repeat' first | exact True.intro | exact rfl | apply And.intro) <;> (repeat' first | exact rfl | refine Eq.trans ?_ (cTr (by assumption)) | refine Eq.trans ?_ (cFr (by assumption)) | refine Eq.trans (cTl (by assumption)) ?_ | refine Eq.trans (cFl (by assumption)) ?_)) (by (repeat' first | exact True.intro | exact rfl | apply And.intro) <;> (repeat' first | exact rfl | refine Eq.trans ?_ (cTr (by assumption)) | refine Eq.trans ?_ (cFr (by assumption)) | refine Eq.trans (cTl (by assumption)) ?_ | refine Eq.trans (cFl (by assumption)) ?_))) hj
          · skip
            refine rSkip ?_
            exact rTo (To.mk' [] 1 hε rfl (by (repeat' first | exact True.intro | exact rfl | apply And.intro) <;> (repeat' first | exact rfl | refine Eq.trans ?_ (cTr (by assumption)) | refine Eq.trans ?_ (cFr (by assumption)) | refine Eq.trans (cTl (by assumption)) ?_ | refine Eq.trans (cFl (by assumption)) ?_)) (by (repeat' first | exact True.intro | exact rfl | apply And.intro) <;> (repeat' first | exact rfl | refine Eq.trans ?_ (cTr (by assumption)) | refine Eq.trans ?_ (cFr (by assumption)) | refine Eq.trans (cTl (by assumption)) ?_ | refine Eq.trans (cFl (by assumption)) ?_))) hj
    · cases h
  · cases h
def blocks_Put_v2 (N : Nat) (a1 : Bool) (a2 : Int) (a3 : (List (Bool × (Int × Int)))) : Option Int :=
  some 1
def sp_blocks_Put_v2 (N : Nat) : X.Spec := fun args lk => match args with
  | [.v (.c (.val (.pointer none))), .v (.c (.bool a1)), .v (.c (.int .i64 a2)), .v (.c (.fz (.pair .bool (.pair (.int .i64) (.int .i64))) a3))] => some ⟨(blocks_Put_v2 N a1 a2 a3).isSome = true, .v (.c (.int .i64 ((blocks_Put_v2 N a1 a2 a3).getD default))), [], []⟩
  | _ => none
set_option maxRecDepth 100000 in
set_option maxHeartbeats 1000000 in
theorem ok_blocks_Put_v2 (N : Nat) : FnOK Tryd.prog gt0 25 (sp_blocks_Put_v2 N) := by
  refine fnOK_handed Tryd.func25 rfl (by kernel_rfl) tt_ok (ktNil) ?_
  intro args lk r h hp
  unfold sp_blocks_Put_v2 at h
  split at h
  · rename_i a1 a2 a3
    change (List (Bool × (Int × Int))) at a3
    cases h
    obtain ⟨x, hx⟩ := Option.isSome_iff_exists.1 hp
    simp only [hx, Option.getD_some]
    refine hand0 rfl rfl (fun w0 M ε0 hX => ?_)
    refine rCount (fun hε => ?_)
    have hT : blocks_Put_v2 N a1 a2 a3 = some x := hx; clear hx hp; unfold blocks_Put_v2 at hT
    refine rSeq ?_
    refine rRegC md0 hX rfl rfl rfl (by repeat' first | exact True.intro | exact rfl | apply And.intro | omega | exact Nat.le_of_ble_eq_true rfl) ?_
    refine rThen ?_
    refine rSeq ?_
    refine rBlock ?_
    refine rSeq ?_
    refine rRegC md0 hX rfl rfl rfl (by repeat' first | exact True.intro | exact rfl | apply And.intro | omega | exact Nat.le_of_ble_eq_true rfl) ?_
    refine rThen ?_
    refine rCondT rfl rfl (by (repeat' first | exact True.intro | with_reducible assumption | (with_reducible apply And.intro) | intro _) <;> first | assumption | exact rfl | omega | exact Nat.le_of_ble_eq_true rfl | exact selF (by assumption) | exact selT (by assumption) | exact And.intro rfl rfl | exact And.intro (by assumption) rfl | exact And.intro (by omega) rfl | (simp only [inK] at *; omega) | (simp_all [sel] <;> fail) | fail) rfl ?_
    refine rSeq ?_
    refine rRegC md0 hX rfl rfl rfl (by repeat' first | exact True.intro | exact rfl | apply And.intro | omega | exact Nat.le_of_ble_eq_true rfl) ?_
    refine rThen ?_
    refine rRet ?_
    refine rInRet ?_
    refine rThenRet ?_
    have hy := Option.some.inj hT; subst hy
    exact rEnd0 hX rfl (by repeat' first | exact True.intro | exact rfl | apply And.intro | omega | exact Nat.le_of_ble_eq_true rfl) (by repeat' first | exact True.intro | exact rfl | apply And.intro) rfl rfl rfl rfl rfl
  · cases h
def ref15_from (N : Nat) (a1 : Bool) : Option Int :=
  bif a1 then
    some 1
  else
    some 0
def sp_ref15_from (N : Nat) : X.Spec := fun args lk => match args with
  | [.v (.c (.bool a1))] => some ⟨(ref15_from N a1).isSome = true, .v (.c (.int .i64 ((ref15_from N a1).getD default))), [], []⟩
  | _ => none
set_option maxRecDepth 100000 in
set_option maxHeartbeats 1000000 in
theorem ok_ref15_from (N : Nat) : FnOK Tryd.prog gt0 49 (sp_ref15_from N) := by
  refine fnOK_handed Tryd.func49 rfl (by kernel_rfl) tt_ok (ktNil) ?_
  intro args lk r h hp
  unfold sp_ref15_from at h
  split at h
  · rename_i a1
    cases h
    obtain ⟨x, hx⟩ := Option.isSome_iff_exists.1 hp
    simp only [hx, Option.getD_some]
    refine hand0 rfl rfl (fun w0 M ε0 hX => ?_)
    refine rCount (fun hε => ?_)
    have hT : ref15_from N a1 = some x := hx; clear hx hp; unfold ref15_from at hT
    refine rSeq ?_
    refine rRegC md0 hX rfl rfl rfl (by repeat' first | exact True.intro | exact rfl | apply And.intro | omega | exact Nat.le_of_ble_eq_true rfl) ?_
    refine rThen ?_
    refine rSeq ?_
    refine rSeq ?_
    refine rRegC md0 hX rfl rfl rfl (by repeat' first | exact True.intro | exact rfl | apply And.intro | omega | exact Nat.le_of_ble_eq_true rfl) ?_
    refine rThen ?_
    refine rCond rfl rfl (by repeat' first | exact True.intro | exact rfl | apply And.intro | omega | exact Nat.le_of_ble_eq_true rfl) (fun hc => ?_) (fun hc => ?_)
    · replace hT := sT hc hT
      refine rSeq ?_
      refine rRegC md0 hX rfl rfl rfl (by repeat' first | exact True.intro | exact rfl | apply And.intro | omega | exact Nat.le_of_ble_eq_true rfl) ?_
      refine rThen ?_
      refine rRet ?_
      refine rThenRet ?_
      have hy := Option.some.inj hT; subst hy
      exact rEnd0 hX rfl (by repeat' first | exact True.intro | exact rfl | apply And.intro | omega | exact Nat.le_of_ble_eq_true rfl) (by repeat' first | exact True.intro | exact rfl | apply And.intro) rfl rfl rfl rfl rfl
    · replace hT := sF hc hT
      refine rSkip ?_
      refine rThen ?_
      refine rSeq ?_
      refine rRegC md0 hX rfl rfl rfl (by repeat' first | exact True.intro | exact rfl | apply And.intro | omega | exact Nat.le_of_ble_eq_true rfl) ?_
      refine rThen ?_
      refine rRet ?_
      have hy := Option.some.inj hT; subst hy
      exact rEnd0 hX rfl (by repeat' first | exact True.intro | exact rfl | apply And.intro | omega | exact Nat.le_of_ble_eq_true rfl) (by repeat' first | exact True.intro | exact rfl | apply And.intro) rfl rfl rfl rfl rfl
  · cases h
def ref09_Right (N : Nat) (a1 : Bool) (a2 : Int) (a3 : Int) : Option Bool :=
  let x1 := (bif (bif (bif (bif (decide ((0 : Int) ≤ a2)) then (decide (a2 ≤ 63)) else false) then (decide (((-127) : Int) ≤ a3)) else false) then (decide (a3 ≤ 127)) else false) then (decide (a3 ≠ 0)) else false)
  let x2 := (bif (bif (decide ((0 : Int) ≤ a2)) then (decide (a2 ≤ 63)) else false) then (decide (((-127) : Int) ≤ a3)) else false)
  let x3 := (bif (bif (bif (decide ((0 : Int) ≤ a2)) then (decide (a2 ≤ 63)) else false) then (decide (((-127) : Int) ≤ a3)) else false) then (decide (a3 ≤ 127)) else false)
  some x1
def sp_ref09_Right (N : Nat) : X.Spec := fun args lk => match args with
  | [.v (.agg [.cs [.bool a1, .int .i64 a2, .int .i64 a3]])] => some ⟨(ref09_Right N a1 a2 a3).isSome = true, .v (.c (.bool ((ref09_Right N a1 a2 a3).getD default))), [], []⟩
  | _ => none
set_option maxRecDepth 100000 in
set_option maxHeartbeats 1000000 in
theorem ok_ref09_Right (N : Nat) : FnOK Tryd.prog gt0 12 (sp_ref09_Right N) := by
  refine fnOK_handed Tryd.func12 rfl (by kernel_rfl) tt_ok (ktNil) ?_
  intro args lk r h hp
  unfold sp_ref09_Right at h
  split at h
  · rename_i a1 a2 a3
    cases h
    obtain ⟨x, hx⟩ := Option.isSome_iff_exists.1 hp
    simp only [hx, Option.getD_some]
    refine hand0 rfl rfl (fun w0 M ε0 hX => ?_)
    refine rCount (fun hε => ?_)
    have hT : ref09_Right N a1 a2 a3 = some x := hx; clear hx hp; unfold ref09_Right at hT
    refine rSeq ?_
    refine rRegC md0 hX rfl rfl rfl (by repeat' first | exact True.intro | exact rfl | apply And.intro | omega | exact Nat.le_of_ble_eq_true rfl) ?_
    refine rThen ?_
    refine rSeq ?_
    let x1 := (bif (bif (bif (bif (decide ((0 : Int) ≤ a2)) then (decide (a2 ≤ 63)) else false) then (decide (((-127) : Int) ≤ a3)) else false) then (decide (a3 ≤ 127)) else false) then (decide (a3 ≠ 0)) else false)
    let x2 := (bif (bif (decide ((0 : Int) ≤ a2)) then (decide (a2 ≤ 63)) else false) then (decide (((-127) : Int) ≤ a3)) else false)
    let x3 := (bif (bif (bif (decide ((0 : Int) ≤ a2)) then (decide (a2 ≤ 63)) else false) then (decide (((-127) : Int) ≤ a3)) else false) then (decide (a3 ≤ 127)) else false)
    refine rRegC md0 hX rfl rfl rfl (by (repeat' first | exact True.intro | with_reducible assumption | (with_reducible apply And.intro) | intro _) <;> first | assumption | exact rfl | omega | exact Nat.le_of_ble_eq_true rfl | exact selF (by assumption) | exact selT (by assumption) | exact And.intro rfl rfl | exact And.intro (by assumption) rfl | exact And.intro (by omega) rfl | (simp only [inK] at *; omega) | (simp_all [sel] <;> fail) | fail) ?_
    refine rThen ?_
    refine rRet ?_
    have hy := Option.some.inj hT; subst hy
    exact rEnd0 hX rfl (by repeat' first | exact True.intro | exact rfl | apply And.intro | omega | exact Nat.le_of_ble_eq_true rfl) (by repeat' first | exact True.intro | exact rfl | apply And.intro) rfl rfl rfl rfl rfl
  · cases h
def ref10_Levels_b1 (N : Nat) (a1 : (List (Bool × (Int × Int)))) (s1 : (Int × Int × (List Int))) : Option ((Int × Int × (List Int)) ⊕ (Unit ⊕ (List Int))) :=
  bif (decide (s1.2.1 < (a1.length : Int))) then
    let c1 := (ref09_Right N (a1.getD (s1.2.1).toNat (false, ((0 : Int), (0 : Int)))).1 (a1.getD (s1.2.1).toNat (false, ((0 : Int), (0 : Int)))).2.1 (a1.getD (s1.2.1).toNat (false, ((0 : Int), (0 : Int)))).2.2)
    let x1 := (!((a1.getD (s1.2.1).toNat (false, ((0 : Int), (0 : Int)))).1 == (decide ((s1.2.1 + 1) = (a1.length : Int)))))
    let x2 := (bif (!(c1.getD default)) then true else (!((a1.getD (s1.2.1).toNat (false, ((0 : Int), (0 : Int)))).1 == (decide ((s1.2.1 + 1) = (a1.length : Int))))))
    if (0 : Int) ≤ s1.2.1 ∧ s1.2.1 < (a1.length : Int) ∧ c1.isSome = true ∧ ((!(!(c1.getD default))) = true → (0 : Int) ≤ s1.2.1) ∧ ((!(!(c1.getD default))) = true → s1.2.1 < (a1.length : Int)) ∧ ((!(!(c1.getD default))) = true → inK .i64 (s1.2.1 + 1)) then
      bif x2 then
        some (.inr (Sum.inl ()))
      else
        if (0 : Int) ≤ s1.2.1 ∧ s1.2.1 < (a1.length : Int) ∧ inK .i64 (s1.1 + (a1.getD (s1.2.1).toNat (false, ((0 : Int), (0 : Int)))).2.1) ∧ inK .i64 ((s1.1 + (a1.getD (s1.2.1).toNat (false, ((0 : Int), (0 : Int)))).2.1) + 1) then
          let x3 := (decide ((63 : Int) < ((s1.1 + (a1.getD (s1.2.1).toNat (false, ((0 : Int), (0 : Int)))).2.1) + 1)))
          bif x3 then
            some (.inr (Sum.inl ()))
          else
            let x4 := (s1.2.2.set ((s1.1 + (a1.getD (s1.2.1).toNat (false, ((0 : Int), (0 : Int)))).2.1) + 1).toNat (a1.getD (s1.2.1).toNat (false, ((0 : Int), (0 : Int)))).2.2)
            if (0 : Int) ≤ s1.2.1 ∧ s1.2.1 < (a1.length : Int) ∧ (0 : Int) ≤ ((s1.1 + (a1.getD (s1.2.1).toNat (false, ((0 : Int), (0 : Int)))).2.1) + 1) ∧ ((s1.1 + (a1.getD (s1.2.1).toNat (false, ((0 : Int), (0 : Int)))).2.1) + 1) < 64 ∧ ((s1.1 + (a1.getD (s1.2.1).toNat (false, ((0 : Int), (0 : Int)))).2.1) + 1).toNat < 64 then
              if inK .i64 (s1.2.1 + 1) then
                some (.inl (((s1.1 + (a1.getD (s1.2.1).toNat (false, ((0 : Int), (0 : Int)))).2.1) + 1), (s1.2.1 + 1), x4))
              else none
            else none
        else none
    else none
  else
    some (.inr (Sum.inr s1.2.2))
def ref10_Levels (N : Nat) (a1 : (List (Bool × (Int × Int)))) (a2 : Int) : Option ((List Int) × Int) :=
  bif (bif (decide (a2 < 0)) then true else (decide ((1 : Int) < a2))) then
    some ((List.replicate 64 0), 1)
  else
    if inK .i64 (a2 - 1) then
      (iter (ref10_Levels_b1 N a1) N ((a2 - 1), 0, (List.replicate 64 0))).bind fun w1 =>
        (Sum.elim (fun v1 =>
          some ((List.replicate 64 0), 7)
        )
          (fun v2 =>
            some (v2, 0)
          )
        ) w1
    else none
def sp_ref10_Levels (N : Nat) : X.Spec := fun args lk => match args with
  | [.v (.c (.fz (.pair .bool (.pair (.int .i64) (.int .i64))) a1)), .v (.c (.int .i64 a2))] => some ⟨(ref10_Levels N a1 a2).isSome = true, .tup [.agg [.ints 64 .i64 ((ref10_Levels N a1 a2).getD default).1], .c (.int .i64 ((ref10_Levels N a1 a2).getD default).2)], [], []⟩
  | _ => none
set_option maxRecDepth 100000 in
set_option maxHeartbeats 1000000 in
theorem ok_ref10_Levels (N : Nat) : FnOK Tryd.prog gt0 48 (sp_ref10_Levels N) := by
  refine fnOK_handed Tryd.func48 rfl (by kernel_rfl) tt_ok (ktCons (ok_ref09_Right N) (ktNil)) ?_
  intro args lk r h hp
  unfold sp_ref10_Levels at h
  split at h
  · rename_i a1 a2
    change (List (Bool × (Int × Int))) at a1
    cases h
    obtain ⟨x, hx⟩ := Option.isSome_iff_exists.1 hp
    simp only [hx, Option.getD_some]
    refine hand0 rfl rfl (fun w0 M ε0 hX => ?_)
    refine rCount (fun hε => ?_)
    have hT : ref10_Levels N a1 a2 = some x := hx; clear hx hp; unfold ref10_Levels at hT
    refine rSeq ?_
    refine rRegC md0 hX rfl rfl rfl (by repeat' first | exact True.intro | exact rfl | apply And.intro | omega | exact Nat.le_of_ble_eq_true rfl) ?_
    refine rThen ?_
    refine rSeq ?_
    refine rRegC md0 hX rfl rfl rfl (by repeat' first | exact True.intro | exact rfl | apply And.intro | omega | exact Nat.le_of_ble_eq_true rfl) ?_
    refine rThen ?_
    refine rSeq ?_
    refine rSeq ?_
    refine rRegC md0 hX rfl rfl rfl (by (repeat' first | exact True.intro | with_reducible assumption | (with_reducible apply And.intro) | intro _) <;> first | assumption | exact rfl | omega | exact Nat.le_of_ble_eq_true rfl | exact selF (by assumption) | exact selT (by assumption) | exact And.intro rfl rfl | exact And.intro (by assumption) rfl | exact And.intro (by omega) rfl | (simp only [inK] at *; omega) | (simp_all [sel] <;> fail) | fail) ?_
    refine rThen ?_
    refine rCond rfl rfl (by repeat' first | exact True.intro | exact rfl | apply And.intro | omega | exact Nat.le_of_ble_eq_true rfl) (fun hc => ?_) (fun hc => ?_)
    · replace hT := sT hc hT
      refine rSeq ?_
      refine rRegC md0 hX rfl rfl rfl (by repeat' first | exact True.intro | exact rfl | apply And.intro | omega | exact Nat.le_of_ble_eq_true rfl) ?_
      refine rThen ?_
      refine rRet ?_
      refine rThenRet ?_
      have hy := Option.some.inj hT; subst hy
      exact rEnd0 hX rfl (by repeat' first | exact True.intro | exact rfl | apply And.intro | omega | exact Nat.le_of_ble_eq_true rfl) (by repeat' first | exact True.intro | exact rfl | apply And.intro) rfl rfl rfl rfl rfl
    · replace hT := sF hc hT
      refine rSkip ?_
      refine rThen ?_
      refine rSeq ?_
      replace hT := sIf hT; obtain ⟨o1, hT⟩ := hT
      refine rRegC md0 hX rfl rfl rfl (by (repeat' first | exact True.intro | with_reducible assumption | (with_reducible apply And.intro) | intro _) <;> first | assumption | exact rfl | omega | exact Nat.le_of_ble_eq_true rfl | exact selF (by assumption) | exact selT (by assumption) | exact And.intro rfl rfl | exact And.intro (by assumption) rfl | exact And.intro (by omega) rfl | (simp only [inK] at *; omega) | (simp_all [sel] <;> fail) | fail) ?_
      refine rThen ?_
      refine rSeq ?_
      refine rSeq ?_
      refine rRegC md0 hX rfl rfl rfl (by repeat' first | exact True.intro | exact rfl | apply And.intro | omega | exact Nat.le_of_ble_eq_true rfl) ?_
      refine rThen ?_
      refine rBlock ?_
      replace hT := sBind hT; obtain ⟨w1, hl, hT⟩ := hT
      refine rJoinA (fun v1 => (Sum.inl v1) = w1) (fun v1 => ⟨[(4, .v (.c (.ptr 0 0 0 0 0 0))), (5, .v (.c (.int .i64 7)))], [(0, .mem true 82 none (.flat [.ints 64 .i64 (List.replicate 64 0)]))], 2⟩) .ret (fun v1 hv => ?_) (fun hxs10 => ?_)
      · subst hv; clear hl; replace hT := (sElimL hT)
        refine rInRet ?_
        refine rThenRet ?_
        have hy := Option.some.inj hT; subst hy
        exact rEnd0 hX rfl (by repeat' first | exact True.intro | exact rfl | apply And.intro | omega | exact Nat.le_of_ble_eq_true rfl) (by repeat' first | exact True.intro | exact rfl | apply And.intro) rfl rfl rfl rfl rfl
      refine rJoinA (fun v2 => (Sum.inr v2) = w1) (fun v2 => ⟨[(4, .v (.c (.ptr 0 0 0 0 0 0))), (5, .v (.c (.int .i64 0))), (6, .v (.c (.ptr 1 0 0 0 0 0)))], [(0, .mem true 82 none (.flat [.ints 64 .i64 (List.replicate 64 0)])), (1, .mem true 82 none (.flat [.ints 64 .i64 v2]))], 2⟩) (.exit 0) (fun v2 hv => ?_) (fun hxs11 => ?_)
      · subst hv; clear hl; replace hT := (sElimR hT)
        refine rInHit ?_
        refine rThen ?_
        refine rSeq ?_
        refine rRegC md0 hX rfl rfl rfl (by repeat' first | exact True.intro | exact rfl | apply And.intro | omega | exact Nat.le_of_ble_eq_true rfl) ?_
        refine rThen ?_
        refine rRet ?_
        have hy := Option.some.inj hT; subst hy
        exact rEnd0 hX rfl (by repeat' first | exact True.intro | exact rfl | apply And.intro | omega | exact Nat.le_of_ble_eq_true rfl) (by repeat' first | exact True.intro | exact rfl | apply And.intro) rfl rfl rfl rfl rfl
      refine rLoopM (ref10_Levels_b1 N a1) (fun s1 => ⟨[(0, .v (.c (.fz (.pair .bool (.pair (.int .i64) (.int .i64))) a1))), (4, .v (.c (.ptr 0 0 0 0 0 0))), (5, .v (.c (.int .i64 0))), (6, .v (.c (.ptr 1 0 0 0 0 0))), (7, .v (.c (.int .i64 s1.1))), (8, .v (.c (.int .i64 s1.2.1)))], [(0, .mem true 82 none (.flat [.ints 64 .i64 (List.replicate 64 0)])), (1, .mem true 82 none (.flat [.ints 64 .i64 s1.2.2]))], 2⟩) hl (To.mk' [] 0 hε rfl (by repeat' first | exact True.intro | exact rfl | apply And.intro) (by repeat' first | exact True.intro | exact rfl | apply And.intro)) (fun s1 zs1 NNs1 hz hnexts1 houts1 => ?_)
      clear hl hT
      have hT := hz; clear hz
      refine rSeq ?_
      refine rSeq ?_
      refine rRegC md0 hX rfl rfl rfl (by repeat' first | exact True.intro | exact rfl | apply And.intro | omega | exact Nat.le_of_ble_eq_true rfl) ?_
      refine rThen ?_
      refine rCond rfl rfl (by repeat' first | exact True.intro | exact rfl | apply And.intro | omega | exact Nat.le_of_ble_eq_true rfl) (fun hc => ?_) (fun hc => ?_)
      · replace hT := sT hc hT
        refine rSkip ?_
        refine rThen ?_
        refine rSeq ?_
        refine rBlock ?_
        refine rSeq ?_
        refine rSeq ?_
        let c1 := (ref09_Right N (a1.getD (s1.2.1).toNat (false, ((0 : Int), (0 : Int)))).1 (a1.getD (s1.2.1).toNat (false, ((0 : Int), (0 : Int)))).2.1 (a1.getD (s1.2.1).toNat (false, ((0 : Int), (0 : Int)))).2.2)
        let x1 := (!((a1.getD (s1.2.1).toNat (false, ((0 : Int), (0 : Int)))).1 == (decide ((s1.2.1 + 1) = (a1.length : Int)))))
        let x2 := (bif (!(c1.getD default)) then true else (!((a1.getD (s1.2.1).toNat (false, ((0 : Int), (0 : Int)))).1 == (decide ((s1.2.1 + 1) = (a1.length : Int))))))
        replace hT := sIf hT; obtain ⟨⟨o1, o2, o3, o4, o5, o6⟩, hT⟩ := hT
        refine rRegC md0 hX rfl rfl rfl (by (repeat' first | exact True.intro | with_reducible assumption | (with_reducible apply And.intro) | intro _) <;> first | assumption | exact o4 (by assumption) | exact o5 (by assumption) | exact o6 (by assumption) | exact rfl | omega | exact Nat.le_of_ble_eq_true rfl | exact selF (by assumption) | exact selT (by assumption) | exact And.intro rfl rfl | exact And.intro (by assumption) rfl | exact And.intro (by omega) rfl | (simp only [inK] at *; omega) | (simp_all [sel] <;> fail) | fail) ?_
        refine rThen ?_
        refine rCond rfl rfl (by repeat' first | exact True.intro | exact rfl | apply And.intro | omega | exact Nat.le_of_ble_eq_true rfl) (fun hc => ?_) (fun hc => ?_)
        · replace hT := sT hc hT
          refine rSeq ?_
          refine rRegC md0 hX rfl rfl rfl (by repeat' first | exact True.intro | exact rfl | apply And.intro | omega | exact Nat.le_of_ble_eq_true rfl) ?_
          refine rThen ?_
          refine rRet ?_
          refine rThenRet ?_
          refine rInRet ?_
          refine rThenRet ?_
          refine rThenRet ?_
          exact rTo (To.mk' [] 0 hε rfl (by repeat' first | exact True.intro | exact rfl | apply And.intro) (by repeat' first | exact True.intro | exact rfl | apply And.intro)) (hxs10 _ (houts1 _ (Option.some.inj hT).symm))
        · replace hT := sF hc hT
          refine rSkip ?_
          refine rThen ?_
          refine rSeq ?_
          replace hT := sIf hT; obtain ⟨⟨o1, o2, o3, o4⟩, hT⟩ := hT
          refine rRegC md0 hX rfl rfl rfl (by (repeat' first | exact True.intro | with_reducible assumption | (with_reducible apply And.intro) | intro _) <;> first | assumption | exact rfl | omega | exact Nat.le_of_ble_eq_true rfl | exact selF (by assumption) | exact selT (by assumption) | exact And.intro rfl rfl | exact And.intro (by assumption) rfl | exact And.intro (by omega) rfl | (simp only [inK] at *; omega) | (simp_all [sel] <;> fail) | fail) ?_
          refine rThen ?_
          refine rSeq ?_
          refine rSeq ?_
          let x3 := (decide ((63 : Int) < ((s1.1 + (a1.getD (s1.2.1).toNat (false, ((0 : Int), (0 : Int)))).2.1) + 1)))
          refine rRegC md0 hX rfl rfl rfl (by repeat' first | exact True.intro | exact rfl | apply And.intro | omega | exact Nat.le_of_ble_eq_true rfl) ?_
          refine rThen ?_
          refine rCond rfl rfl (by repeat' first | exact True.intro | exact rfl | apply And.intro | omega | exact Nat.le_of_ble_eq_true rfl) (fun hc => ?_) (fun hc => ?_)
          · replace hT := sT hc hT
            refine rSeq ?_
            refine rRegC md0 hX rfl rfl rfl (by repeat' first | exact True.intro | exact rfl | apply And.intro | omega | exact Nat.le_of_ble_eq_true rfl) ?_
            refine rThen ?_
            refine rRet ?_
            refine rThenRet ?_
            refine rInRet ?_
            refine rThenRet ?_
            refine rThenRet ?_
            exact rTo (To.mk' [] 0 hε rfl (by repeat' first | exact True.intro | exact rfl | apply And.intro) (by repeat' first | exact True.intro | exact rfl | apply And.intro)) (hxs10 _ (houts1 _ (Option.some.inj hT).symm))
          · replace hT := sF hc hT
            refine rSkip ?_
            refine rThen ?_
            let x4 := (s1.2.2.set ((s1.1 + (a1.getD (s1.2.1).toNat (false, ((0 : Int), (0 : Int)))).2.1) + 1).toNat (a1.getD (s1.2.1).toNat (false, ((0 : Int), (0 : Int)))).2.2)
            replace hT := sIf hT; obtain ⟨⟨o1, o2, o3, o4, o5⟩, hT⟩ := hT
            refine rRegC md0 hX rfl rfl rfl (by (repeat' first | exact True.intro | with_reducible assumption | (with_reducible apply And.intro) | intro _) <;> first | assumption | exact rfl | omega | exact Nat.le_of_ble_eq_true rfl | exact selF (by assumption) | exact selT (by assumption) | exact And.intro rfl rfl | exact And.intro (by assumption) rfl | exact And.intro (by omega) rfl | (simp only [inK] at *; omega) | (simp_all [sel] <;> fail) | fail) ?_
            refine rInNormal ?_
            refine rThen ?_
            replace hT := sIf hT; obtain ⟨o1, hT⟩ := hT
            refine rRegC md0 hX rfl rfl rfl (by (repeat' first | exact True.intro | with_reducible assumption | (with_reducible apply And.intro) | intro _) <;> first | assumption | exact rfl | omega | exact Nat.le_of_ble_eq_true rfl | exact selF (by assumption) | exact selT (by assumption) | exact And.intro rfl rfl | exact And.intro (by assumption) rfl | exact And.intro (by omega) rfl | (simp only [inK] at *; omega) | (simp_all [sel] <;> fail) | fail) ?_
            exact hnexts1 _ (Option.some.inj hT).symm _ (To.mk' [] 0 hε rfl (by repeat' first | exact True.intro | exact rfl | apply And.intro) (by repeat' first | exact True.intro | exact rfl | apply And.intro))
      · replace hT := sF hc hT
        refine rExit ?_
        refine rThenExit ?_
        refine rThenExit ?_
        exact rTo (To.mk' [] 0 hε rfl (by repeat' first | exact True.intro | exact rfl | apply And.intro) (by repeat' first | exact True.intro | exact rfl | apply And.intro)) (hxs11 _ (houts1 _ (Option.some.inj hT).symm))
  · cases h
def ref15_May (N : Nat) (a1 : Bool) (a2 : Int) (a3 : (List (Bool × (Int × Int)))) : Option Bool :=
  let c1 := (ref15_from N a1)
  let c2 := (ref10_Levels N a3 (c1.getD default))
  if c1.isSome = true ∧ c2.isSome = true then
    bif a1 then
      let x1 := (bif (bif (decide ((c2.getD default).2 = 0)) then (decide ((1 : Int) ≤ a2)) else false) then (decide (a2 ≤ 254)) else false)
      some x1
    else
      some (bif (decide ((c2.getD default).2 = 0)) then (decide (a2 = 0)) else false)
  else none
def sp_ref15_May (N : Nat) : X.Spec := fun args lk => match args with
  | [.v (.c (.bool a1)), .v (.c (.int .i64 a2)), .v (.c (.fz (.pair .bool (.pair (.int .i64) (.int .i64))) a3))] => some ⟨(ref15_May N a1 a2 a3).isSome = true, .v (.c (.bool ((ref15_May N a1 a2 a3).getD default))), [], []⟩
  | _ => none
set_option maxRecDepth 100000 in
set_option maxHeartbeats 1000000 in
theorem ok_ref15_May (N : Nat) : FnOK Tryd.prog gt0 26 (sp_ref15_May N) := by
  refine fnOK_handed Tryd.func26 rfl (by kernel_rfl) tt_ok (ktCons (ok_ref10_Levels N) (ktCons (ok_ref15_from N) (ktNil))) ?_
  intro args lk r h hp
  unfold sp_ref15_May at h
  split at h
  · rename_i a1 a2 a3
    change (List (Bool × (Int × Int))) at a3
    cases h
    obtain ⟨x, hx⟩ := Option.isSome_iff_exists.1 hp
    simp only [hx, Option.getD_some]
    refine hand0 rfl rfl (fun w0 M ε0 hX => ?_)
    refine rCount (fun hε => ?_)
    have hT : ref15_May N a1 a2 a3 = some x := hx; clear hx hp; unfold ref15_May at hT
    refine rSeq ?_
    refine rRegC md0 hX rfl rfl rfl (by repeat' first | exact True.intro | exact rfl | apply And.intro | omega | exact Nat.le_of_ble_eq_true rfl) ?_
    refine rThen ?_
    refine rSeq ?_
    let c1 := (ref15_from N a1)
    let c2 := (ref10_Levels N a3 (c1.getD default))
    replace hT := sIf hT; obtain ⟨⟨o1, o2⟩, hT⟩ := hT
    refine rRegC md0 hX rfl rfl rfl (by (repeat' first | exact True.intro | with_reducible assumption | (with_reducible apply And.intro) | intro _) <;> first | assumption | exact rfl | omega | exact Nat.le_of_ble_eq_true rfl | exact selF (by assumption) | exact selT (by assumption) | exact And.intro rfl rfl | exact And.intro (by assumption) rfl | exact And.intro (by omega) rfl | (simp only [inK] at *; omega) | (simp_all [sel] <;> fail) | fail) ?_
    refine rThen ?_
    refine rSeq ?_
    refine rSeq ?_
    refine rRegC md0 hX rfl rfl rfl (by repeat' first | exact True.intro | exact rfl | apply And.intro | omega | exact Nat.le_of_ble_eq_true rfl) ?_
    refine rThen ?_
    refine rCond rfl rfl (by repeat' first | exact True.intro | exact rfl | apply And.intro | omega | exact Nat.le_of_ble_eq_true rfl) (fun hc => ?_) (fun hc => ?_)
    · replace hT := sT hc hT
      refine rSeq ?_
      let x1 := (bif (bif (decide ((c2.getD default).2 = 0)) then (decide ((1 : Int) ≤ a2)) else false) then (decide (a2 ≤ 254)) else false)
      refine rRegC md0 hX rfl rfl rfl (by (repeat' first | exact True.intro | with_reducible assumption | (with_reducible apply And.intro) | intro _) <;> first | assumption | exact rfl | omega | exact Nat.le_of_ble_eq_true rfl | exact selF (by assumption) | exact selT (by assumption) | exact And.intro rfl rfl | exact And.intro (by assumption) rfl | exact And.intro (by omega) rfl | (simp only [inK] at *; omega) | (simp_all [sel] <;> fail) | fail) ?_
      refine rThen ?_
      refine rRet ?_
      refine rThenRet ?_
      have hy := Option.some.inj hT; subst hy
      exact rEnd0 hX rfl (by repeat' first | exact True.intro | exact rfl | apply And.intro | omega | exact Nat.le_of_ble_eq_true rfl) (by repeat' first | exact True.intro | exact rfl | apply And.intro) rfl rfl rfl rfl rfl
    · replace hT := sF hc hT
      refine rSkip ?_
      refine rThen ?_
      refine rSeq ?_
      refine rRegC md0 hX rfl rfl rfl (by (repeat' first | exact True.intro | with_reducible assumption | (with_reducible apply And.intro) | intro _) <;> first | assumption | exact rfl | omega | exact Nat.le_of_ble_eq_true rfl | exact selF (by assumption) | exact selT (by assumption) | exact And.intro rfl rfl | exact And.intro (by assumption) rfl | exact And.intro (by omega) rfl | (simp only [inK] at *; omega) | (simp_all [sel] <;> fail) | fail) ?_
      refine rThen ?_
      refine rRet ?_
      have hy := Option.some.inj hT; subst hy
      exact rEnd0 hX rfl (by repeat' first | exact True.intro | exact rfl | apply And.intro | omega | exact Nat.le_of_ble_eq_true rfl) (by repeat' first | exact True.intro | exact rfl | apply And.intro) rfl rfl rfl rfl rfl
  · cases h

end Go.Proofs.YtbcgkdigfkapcaaDoor
