/- Models of functions, and that the program does what they tell. -/
import Derived.Test.YtjknjjdijoboiaaG1
set_option linter.unusedVariables false
set_option linter.unusedSimpArgs false
namespace Go.Proofs.Ytjknjjdijoboiaa
open Go.X

def stores_Add_b1 (N : Nat) (a2 : (List (List Int))) (a4 : (List (List Int))) (c3 : (Option (Int × Nat × Nat × Nat × Int × Nat × (List Int) × Nat × (List Int) × Nat × (List Int)))) (s3 : (Int × Bool × (List Int))) : Option ((Int × Bool × (List Int)) ⊕ (Int × Bool × (List Int))) :=
  bif (decide (s3.1 < ((a2.getD 2 []).length : Int))) then
    if (0 : Int) ≤ s3.1 ∧ s3.1 < ((a2.getD 2 []).length : Int) then
      let c4 := (whole_Clip N (((a2.getD 2 []).getD (s3.1).toNat 0) + ((a4.getD 2 []).getD (s3.1).toNat 0)) 0 255)
      if inK .i64 ((a2.getD 2 []).getD (s3.1).toNat 0) ∧ (0 : Int) ≤ s3.1 ∧ s3.1 < ((a4.getD 2 []).length : Int) ∧ inK .i64 (((a2.getD 2 []).getD (s3.1).toNat 0) + ((a4.getD 2 []).getD (s3.1).toNat 0)) ∧ c4.isSome = true ∧ inK .u8 (c4.getD default) ∧ s3.1 < ((c3.getD default).2.2.2.1 : Int) ∧ (s3.1).toNat < (c3.getD default).2.2.2.2.2.2.2.2.2.1 then
        if inK .i64 (s3.1 + 1) then
          some (.inl ((s3.1 + 1), (decide (s3.1 < ((a2.getD 2 []).length : Int))), (s3.2.2.set (s3.1).toNat (c4.getD default))))
        else none
      else none
    else none
  else
    some (.inr (s3.1, (decide (s3.1 < ((a2.getD 2 []).length : Int))), s3.2.2))
def stores_Add_b2 (N : Nat) (a2 : (List (List Int))) (a4 : (List (List Int))) (c3 : (Option (Int × Nat × Nat × Nat × Int × Nat × (List Int) × Nat × (List Int) × Nat × (List Int)))) (s2 : (Int × Bool × (List Int))) : Option ((Int × Bool × (List Int)) ⊕ (Int × Bool × (List Int))) :=
  bif (decide (s2.1 < ((a2.getD 1 []).length : Int))) then
    if (0 : Int) ≤ s2.1 ∧ s2.1 < ((a2.getD 1 []).length : Int) then
      let c5 := (whole_Clip N (((a2.getD 1 []).getD (s2.1).toNat 0) + ((a4.getD 1 []).getD (s2.1).toNat 0)) 0 255)
      if inK .i64 ((a2.getD 1 []).getD (s2.1).toNat 0) ∧ (0 : Int) ≤ s2.1 ∧ s2.1 < ((a4.getD 1 []).length : Int) ∧ inK .i64 (((a2.getD 1 []).getD (s2.1).toNat 0) + ((a4.getD 1 []).getD (s2.1).toNat 0)) ∧ c5.isSome = true ∧ inK .u8 (c5.getD default) ∧ s2.1 < ((c3.getD default).2.2.1 : Int) ∧ (s2.1).toNat < (c3.getD default).2.2.2.2.2.2.2.1 then
        if inK .i64 (s2.1 + 1) then
          some (.inl ((s2.1 + 1), (decide (s2.1 < ((a2.getD 1 []).length : Int))), (s2.2.2.set (s2.1).toNat (c5.getD default))))
        else none
      else none
    else none
  else
    some (.inr (s2.1, (decide (s2.1 < ((a2.getD 1 []).length : Int))), s2.2.2))
def stores_Add_b3 (N : Nat) (a2 : (List (List Int))) (a4 : (List (List Int))) (c3 : (Option (Int × Nat × Nat × Nat × Int × Nat × (List Int) × Nat × (List Int) × Nat × (List Int)))) (s1 : (Int × (List Int))) : Option ((Int × (List Int)) ⊕ (Int × Bool × (List Int))) :=
  bif (decide (s1.1 < ((a2.getD 0 []).length : Int))) then
    if (0 : Int) ≤ s1.1 ∧ s1.1 < ((a2.getD 0 []).length : Int) then
      let c6 := (whole_Clip N (((a2.getD 0 []).getD (s1.1).toNat 0) + ((a4.getD 0 []).getD (s1.1).toNat 0)) 0 255)
      if inK .i64 ((a2.getD 0 []).getD (s1.1).toNat 0) ∧ (0 : Int) ≤ s1.1 ∧ s1.1 < ((a4.getD 0 []).length : Int) ∧ inK .i64 (((a2.getD 0 []).getD (s1.1).toNat 0) + ((a4.getD 0 []).getD (s1.1).toNat 0)) ∧ c6.isSome = true ∧ inK .u8 (c6.getD default) ∧ s1.1 < ((c3.getD default).2.1 : Int) ∧ (s1.1).toNat < (c3.getD default).2.2.2.2.2.1 then
        if inK .i64 (s1.1 + 1) then
          some (.inl ((s1.1 + 1), (s1.2.set (s1.1).toNat (c6.getD default))))
        else none
      else none
    else none
  else
    some (.inr (s1.1, (decide (s1.1 < ((a2.getD 0 []).length : Int))), s1.2))
def stores_Add (N : Nat) (a1 : Int) (a2 : (List (List Int))) (a3 : Int) (a4 : (List (List Int))) : Option (Int × (List (List Int)) × Int) :=
  let c1 := (planes_Right N a1 a2)
  let c2 := (stores_Right N a3 a4)
  let x1 := (bif (bif (!(c1.getD default)) then true else (!(c2.getD default))) then true else (decide (a1 ≠ a3)))
  if c1.isSome = true ∧ ((!(!(c1.getD default))) = true → c2.isSome = true) then
    bif x1 then
      some (0, [[], [], []], 1)
    else
      let c3 := (planes_New_own N a1 0)
      if c3.isSome = true then
        (iter (stores_Add_b3 N a2 a4 c3) N (0, (c3.getD default).2.2.2.2.2.2.1)).bind fun v1 =>
          (iter (stores_Add_b2 N a2 a4 c3) N (0, v1.2.1, (c3.getD default).2.2.2.2.2.2.2.2.1)).bind fun v2 =>
            (iter (stores_Add_b1 N a2 a4 c3) N (0, v2.2.1, (c3.getD default).2.2.2.2.2.2.2.2.2.2)).bind fun v3 =>
              if (c3.getD default).2.1 = v1.2.2.length ∧ (c3.getD default).2.2.1 = v2.2.2.length ∧ (c3.getD default).2.2.2.1 = v3.2.2.length then
                some ((c3.getD default).1, [v1.2.2, v2.2.2, v3.2.2], 0)
              else none
      else none
  else none
def sp_stores_Add (N : Nat) : X.Spec := fun args lk => match args with
  | [.v (.agg [.cs [.int .i64 a1], .fzs 3 (.int .u8) a2]), .v (.agg [.cs [.int .i64 a3], .fzs 3 (.int .i64) a4])] => some ⟨(stores_Add N a1 a2 a3 a4).isSome = true, .tup [.agg [.cs [.int .i64 ((stores_Add N a1 a2 a3 a4).getD default).1], .fzs 3 (.int .u8) ((stores_Add N a1 a2 a3 a4).getD default).2.1], .c (.int .i64 ((stores_Add N a1 a2 a3 a4).getD default).2.2)], [], []⟩
  | _ => none
set_option maxRecDepth 100000 in
set_option maxHeartbeats 1000000 in
theorem ok_stores_Add (N : Nat) : FnOK Try.prog gt0 34 (sp_stores_Add N) := by
  refine fnOK_handed Try.func34 rfl (by kernel_rfl) ttC_ok (ktCons (ok_whole_Clip N) (ktCons (ok_planes_New_own N) (ktCons (ok_stores_Right N) (ktCons (ok_planes_Right N) (ktNil))))) ?_
  intro args lk r h hp
  unfold sp_stores_Add at h
  split at h
  · rename_i a1 a2 a3 a4
    change (List (List Int)) at a2
    change (List (List Int)) at a4
    cases h
    obtain ⟨x, hx⟩ := Option.isSome_iff_exists.1 hp
    simp only [hx, Option.getD_some]
    refine hand0 rfl rfl (fun w0 M ε0 hX => ?_)
    refine rCount (fun hε => ?_)
    have hT : stores_Add N a1 a2 a3 a4 = some x := hx; clear hx hp; unfold stores_Add at hT
    refine rSeq ?_
    refine zReg md0 hX rfl rfl rfl ?_
    refine rThen ?_
    refine rSeq ?_
    refine rSeq ?_
    let c1 := (planes_Right N a1 a2)
    let c2 := (stores_Right N a3 a4)
    let x1 := (bif (bif (!(c1.getD default)) then true else (!(c2.getD default))) then true else (decide (a1 ≠ a3)))
    replace hT := sIf hT; obtain ⟨⟨o1, o2⟩, hT⟩ := hT
    refine rRegC md0 hX rfl rfl rfl (by (repeat' first | exact True.intro | with_reducible assumption | (with_reducible apply And.intro) | intro _) <;> first | assumption | exact o2 (by assumption) | exact rfl | omega | exact Nat.le_of_ble_eq_true rfl | exact selF (by assumption) | exact selT (by assumption) | exact And.intro rfl rfl | exact And.intro (by assumption) rfl | exact And.intro (by omega) rfl | (simp only [inK] at *; omega) | (simp_all [sel] <;> fail) | fail) ?_
    refine rThen ?_
    refine zCond rfl rfl (fun hc => ?_) (fun hc => ?_)
    · replace hT := sT hc hT
      refine rSeq ?_
      refine zReg md0 hX rfl rfl rfl ?_
      refine rThen ?_
      refine rRet ?_
      refine rThenRet ?_
      refine rPackNE 2 (.int .u8) rfl rfl ?_
      have hy := Option.some.inj hT; subst hy
      exact zEnd0 hX rfl
    · replace hT := sF hc hT
      refine rSkip ?_
      refine rThen ?_
      refine rSeq ?_
      let c3 := (planes_New_own N a1 0)
      replace hT := sIf hT; obtain ⟨o1, hT⟩ := hT
      refine zReg md0 hX rfl rfl rfl ?_
      refine rThen ?_
      refine rSeq ?_
      refine rSeq ?_
      refine zReg md0 hX rfl rfl rfl ?_
      refine rThen ?_
      refine rBlock ?_
      refine rRounds 24 ?_
      refine rSeq ?_
      refine zReg md0 hX rfl rfl rfl ?_
      refine rThen ?_
      refine rSeq ?_
      refine rCondT rfl rfl (by (repeat' first | exact True.intro | with_reducible assumption | (with_reducible apply And.intro) | intro _) <;> first | assumption | exact rfl | omega | exact Nat.le_of_ble_eq_true rfl | exact selF (by assumption) | exact selT (by assumption) | exact And.intro rfl rfl | exact And.intro (by assumption) rfl | exact And.intro (by omega) rfl | (simp only [inK] at *; omega) | (simp_all [sel] <;> fail) | fail) rfl ?_
      refine rSkip ?_
      refine rThen ?_
      refine rSeq ?_
      refine rBlock ?_
      refine rSeq ?_
      refine zReg md0 hX rfl rfl rfl ?_
      refine rThen ?_
      refine rSeq ?_
      refine zReg md0 hX rfl rfl rfl ?_
      refine rThen ?_
      refine rBlock ?_
      replace hT := sBind hT; obtain ⟨w1, hl, hT⟩ := hT
      refine rJoinA (fun v1 => v1 = w1) (fun v1 => ⟨[(3, .v (.c (.ptr 1 0 0 0 0 0))), (4, .v (.c (.ptr 2 0 0 0 0 0))), (5, .v (.c (.int .i64 0))), (6, .v (.c (.ptr 6 0 0 0 0 0))), (8, .v (.c (.int .i64 0))), (9, .v (.c (.fz (.int .u8) (a2.getD 0 [])))), (35, .v (.agg [.fzs 3 (.int .u8) a2])), (36, .v (.c (.int .i64 0))), (37, .v (.c (.bool true))), (38, .v (.c (.int .i64 0))), (39, .v (.c (.fz (.int .u8) (a2.getD 0 [])))), (40, .v (.c (.fz (.int .u8) (a2.getD 0 [])))), (41, .v (.c (.int .i64 ((a2.getD 0 []).length : Int)))), (42, .v (.c (.int .i64 v1.1))), (43, .v (.c (.bool v1.2.1)))], [(1, .mem true 64 none (.flat [.cs [.int .i64 a3], .fzs 3 (.int .i64) a4])), (2, .mem true 25 none (.flat [.cs [.int .i64 0, .val (.slice none 0 0), .val (.slice none 0 0), .val (.slice none 0 0)]])), (3, .mem true 5 (some 0) (.flat [.ints (c3.getD default).2.2.2.2.2.1 .u8 v1.2.2])), (4, .mem true 5 (some 0) (.flat [.ints (c3.getD default).2.2.2.2.2.2.2.1 .u8 (c3.getD default).2.2.2.2.2.2.2.2.1])), (5, .mem true 5 (some 0) (.flat [.ints (c3.getD default).2.2.2.2.2.2.2.2.2.1 .u8 (c3.getD default).2.2.2.2.2.2.2.2.2.2])), (6, .mem true 25 none (.flat [.cs [.int .i64 (c3.getD default).1, .sl 3 0 (c3.getD default).2.1 1, .sl 4 0 (c3.getD default).2.2.1 1, .sl 5 0 (c3.getD default).2.2.2.1 1]]))], 7⟩) (.exit 2) (fun v1 hv => ?_) (fun hxs10 => ?_)
      · subst hv; clear hl
        refine rInHit ?_
        refine rInNormal ?_
        refine rThen ?_
        refine zReg md0 hX rfl rfl rfl ?_
        refine rRound ?_
        refine rSeq ?_
        refine zReg md0 hX rfl rfl rfl ?_
        refine rThen ?_
        refine rSeq ?_
        refine rCondT rfl rfl (by (repeat' first | exact True.intro | with_reducible assumption | (with_reducible apply And.intro) | intro _) <;> first | assumption | exact rfl | omega | exact Nat.le_of_ble_eq_true rfl | exact selF (by assumption) | exact selT (by assumption) | exact And.intro rfl rfl | exact And.intro (by assumption) rfl | exact And.intro (by omega) rfl | (simp only [inK] at *; omega) | (simp_all [sel] <;> fail) | fail) rfl ?_
        refine rSkip ?_
        refine rThen ?_
        refine rSeq ?_
        refine rBlock ?_
        refine rSeq ?_
        refine zReg md0 hX rfl rfl rfl ?_
        refine rThen ?_
        refine rSeq ?_
        refine zReg md0 hX rfl rfl rfl ?_
        refine rThen ?_
        refine rBlock ?_
        replace hT := sBind hT; obtain ⟨w2, hl, hT⟩ := hT
        refine rJoinA (fun v2 => v2 = w2) (fun v2 => ⟨[(3, .v (.c (.ptr 1 0 0 0 0 0))), (4, .v (.c (.ptr 2 0 0 0 0 0))), (5, .v (.c (.int .i64 0))), (6, .v (.c (.ptr 6 0 0 0 0 0))), (8, .v (.c (.int .i64 1))), (9, .v (.c (.fz (.int .u8) (a2.getD 1 [])))), (35, .v (.agg [.fzs 3 (.int .u8) a2])), (36, .v (.c (.int .i64 1))), (37, .v (.c (.bool true))), (38, .v (.c (.int .i64 1))), (39, .v (.c (.fz (.int .u8) (a2.getD 1 [])))), (40, .v (.c (.fz (.int .u8) (a2.getD 1 [])))), (41, .v (.c (.int .i64 ((a2.getD 1 []).length : Int)))), (42, .v (.c (.int .i64 v2.1))), (43, .v (.c (.bool v2.2.1))), (66, .v (.c (.int .i64 1)))], [(1, .mem true 64 none (.flat [.cs [.int .i64 a3], .fzs 3 (.int .i64) a4])), (2, .mem true 25 none (.flat [.cs [.int .i64 0, .val (.slice none 0 0), .val (.slice none 0 0), .val (.slice none 0 0)]])), (3, .mem true 5 (some 0) (.flat [.ints (c3.getD default).2.2.2.2.2.1 .u8 v1.2.2])), (4, .mem true 5 (some 0) (.flat [.ints (c3.getD default).2.2.2.2.2.2.2.1 .u8 v2.2.2])), (5, .mem true 5 (some 0) (.flat [.ints (c3.getD default).2.2.2.2.2.2.2.2.2.1 .u8 (c3.getD default).2.2.2.2.2.2.2.2.2.2])), (6, .mem true 25 none (.flat [.cs [.int .i64 (c3.getD default).1, .sl 3 0 (c3.getD default).2.1 1, .sl 4 0 (c3.getD default).2.2.1 1, .sl 5 0 (c3.getD default).2.2.2.1 1]]))], 7⟩) (.exit 2) (fun v2 hv => ?_) (fun hxs20 => ?_)
        · subst hv; clear hl
          refine rInHit ?_
          refine rInNormal ?_
          refine rThen ?_
          refine zReg md0 hX rfl rfl rfl ?_
          refine rRound ?_
          refine rSeq ?_
          refine zReg md0 hX rfl rfl rfl ?_
          refine rThen ?_
          refine rSeq ?_
          refine rCondT rfl rfl (by (repeat' first | exact True.intro | with_reducible assumption | (with_reducible apply And.intro) | intro _) <;> first | assumption | exact rfl | omega | exact Nat.le_of_ble_eq_true rfl | exact selF (by assumption) | exact selT (by assumption) | exact And.intro rfl rfl | exact And.intro (by assumption) rfl | exact And.intro (by omega) rfl | (simp only [inK] at *; omega) | (simp_all [sel] <;> fail) | fail) rfl ?_
          refine rSkip ?_
          refine rThen ?_
          refine rSeq ?_
          refine rBlock ?_
          refine rSeq ?_
          refine zReg md0 hX rfl rfl rfl ?_
          refine rThen ?_
          refine rSeq ?_
          refine zReg md0 hX rfl rfl rfl ?_
          refine rThen ?_
          refine rBlock ?_
          replace hT := sBind hT; obtain ⟨w3, hl, hT⟩ := hT
          refine rJoinA (fun v3 => v3 = w3) (fun v3 => ⟨[(3, .v (.c (.ptr 1 0 0 0 0 0))), (4, .v (.c (.ptr 2 0 0 0 0 0))), (5, .v (.c (.int .i64 0))), (6, .v (.c (.ptr 6 0 0 0 0 0))), (8, .v (.c (.int .i64 2))), (9, .v (.c (.fz (.int .u8) (a2.getD 2 [])))), (35, .v (.agg [.fzs 3 (.int .u8) a2])), (36, .v (.c (.int .i64 2))), (37, .v (.c (.bool true))), (38, .v (.c (.int .i64 2))), (39, .v (.c (.fz (.int .u8) (a2.getD 2 [])))), (40, .v (.c (.fz (.int .u8) (a2.getD 2 [])))), (41, .v (.c (.int .i64 ((a2.getD 2 []).length : Int)))), (42, .v (.c (.int .i64 v3.1))), (43, .v (.c (.bool v3.2.1))), (66, .v (.c (.int .i64 2)))], [(1, .mem true 64 none (.flat [.cs [.int .i64 a3], .fzs 3 (.int .i64) a4])), (2, .mem true 25 none (.flat [.cs [.int .i64 0, .val (.slice none 0 0), .val (.slice none 0 0), .val (.slice none 0 0)]])), (3, .mem true 5 (some 0) (.flat [.ints (c3.getD default).2.2.2.2.2.1 .u8 v1.2.2])), (4, .mem true 5 (some 0) (.flat [.ints (c3.getD default).2.2.2.2.2.2.2.1 .u8 v2.2.2])), (5, .mem true 5 (some 0) (.flat [.ints (c3.getD default).2.2.2.2.2.2.2.2.2.1 .u8 v3.2.2])), (6, .mem true 25 none (.flat [.cs [.int .i64 (c3.getD default).1, .sl 3 0 (c3.getD default).2.1 1, .sl 4 0 (c3.getD default).2.2.1 1, .sl 5 0 (c3.getD default).2.2.2.1 1]]))], 7⟩) (.exit 2) (fun v3 hv => ?_) (fun hxs30 => ?_)
          · subst hv; clear hl
            refine rInHit ?_
            refine rInNormal ?_
            refine rThen ?_
            refine zReg md0 hX rfl rfl rfl ?_
            refine rRound ?_
            refine rSeq ?_
            refine zReg md0 hX rfl rfl rfl ?_
            refine rThen ?_
            refine rSeq ?_
            refine rCondF rfl rfl (by (repeat' first | exact True.intro | with_reducible assumption | (with_reducible apply And.intro) | intro _) <;> first | assumption | exact rfl | omega | exact Nat.le_of_ble_eq_true rfl | exact selF (by assumption) | exact selT (by assumption) | exact And.intro rfl rfl | exact And.intro (by assumption) rfl | exact And.intro (by omega) rfl | (simp only [inK] at *; omega) | (simp_all [sel] <;> fail) | fail) rfl ?_
            refine rExit ?_
            refine rThenExit ?_
            refine rThenExit ?_
            refine rInHit ?_
            refine rThen ?_
            refine rSeq ?_
            refine zReg md0 hX rfl rfl rfl ?_
            refine rThen ?_
            refine rRet ?_
            replace hT := sIf hT; obtain ⟨⟨p1, p2, p3⟩, hT⟩ := hT
            refine rFreezeQ 3 (.int .u8) v1.2.2 [(4, .v (.c (.ptr 2 0 0 0 0 0))), (5, .v (.c (.int .i64 0)))] [(2, .mem true 25 none (.flat [.cs [.int .i64 (c3.getD default).1, .fz (.int .u8) v1.2.2, .sl 4 0 (c3.getD default).2.2.1 1, .sl 5 0 (c3.getD default).2.2.2.1 1]])), (4, .mem true 5 (some 0) (.flat [.ints (c3.getD default).2.2.2.2.2.2.2.1 .u8 v2.2.2])), (5, .mem true 5 (some 0) (.flat [.ints (c3.getD default).2.2.2.2.2.2.2.2.2.1 .u8 v3.2.2]))] rfl rfl (by (repeat' first | exact True.intro | exact rfl | apply And.intro) <;> first | assumption | rfl) (by (repeat' first | exact True.intro | exact rfl | apply And.intro) <;> first | assumption | rfl) ?_
            refine rFreezeQ 4 (.int .u8) v2.2.2 [(4, .v (.c (.ptr 2 0 0 0 0 0))), (5, .v (.c (.int .i64 0)))] [(2, .mem true 25 none (.flat [.cs [.int .i64 (c3.getD default).1, .fz (.int .u8) v1.2.2, .fz (.int .u8) v2.2.2, .sl 5 0 (c3.getD default).2.2.2.1 1]])), (5, .mem true 5 (some 0) (.flat [.ints (c3.getD default).2.2.2.2.2.2.2.2.2.1 .u8 v3.2.2]))] rfl rfl (by (repeat' first | exact True.intro | exact rfl | apply And.intro) <;> first | assumption | rfl) (by (repeat' first | exact True.intro | exact rfl | apply And.intro) <;> first | assumption | rfl) ?_
            refine rFreezeQ 5 (.int .u8) v3.2.2 [(4, .v (.c (.ptr 2 0 0 0 0 0))), (5, .v (.c (.int .i64 0)))] [(2, .mem true 25 none (.flat [.cs [.int .i64 (c3.getD default).1, .fz (.int .u8) v1.2.2, .fz (.int .u8) v2.2.2, .fz (.int .u8) v3.2.2]]))] rfl rfl (by (repeat' first | exact True.intro | exact rfl | apply And.intro) <;> first | assumption | rfl) (by (repeat' first | exact True.intro | exact rfl | apply And.intro) <;> first | assumption | rfl) ?_
            refine rPackE 2 rfl rfl ?_
            have hy := Option.some.inj hT; subst hy
            exact zEnd0 hX rfl
          refine rLoopM (stores_Add_b1 N a2 a4 c3) (fun s3 => ⟨[(3, .v (.c (.ptr 1 0 0 0 0 0))), (4, .v (.c (.ptr 2 0 0 0 0 0))), (5, .v (.c (.int .i64 0))), (6, .v (.c (.ptr 6 0 0 0 0 0))), (8, .v (.c (.int .i64 2))), (9, .v (.c (.fz (.int .u8) (a2.getD 2 [])))), (35, .v (.agg [.fzs 3 (.int .u8) a2])), (36, .v (.c (.int .i64 2))), (37, .v (.c (.bool true))), (38, .v (.c (.int .i64 2))), (39, .v (.c (.fz (.int .u8) (a2.getD 2 [])))), (40, .v (.c (.fz (.int .u8) (a2.getD 2 [])))), (41, .v (.c (.int .i64 ((a2.getD 2 []).length : Int)))), (42, .v (.c (.int .i64 s3.1))), (43, .v (.c (.bool s3.2.1))), (66, .v (.c (.int .i64 2)))], [(1, .mem true 64 none (.flat [.cs [.int .i64 a3], .fzs 3 (.int .i64) a4])), (2, .mem true 25 none (.flat [.cs [.int .i64 0, .val (.slice none 0 0), .val (.slice none 0 0), .val (.slice none 0 0)]])), (3, .mem true 5 (some 0) (.flat [.ints (c3.getD default).2.2.2.2.2.1 .u8 v1.2.2])), (4, .mem true 5 (some 0) (.flat [.ints (c3.getD default).2.2.2.2.2.2.2.1 .u8 v2.2.2])), (5, .mem true 5 (some 0) (.flat [.ints (c3.getD default).2.2.2.2.2.2.2.2.2.1 .u8 s3.2.2])), (6, .mem true 25 none (.flat [.cs [.int .i64 (c3.getD default).1, .sl 3 0 (c3.getD default).2.1 1, .sl 4 0 (c3.getD default).2.2.1 1, .sl 5 0 (c3.getD default).2.2.2.1 1]]))], 7⟩) hl (To.mk' [] 0 hε rfl (by repeat' first | exact True.intro | exact rfl | apply And.intro) (by repeat' first | exact True.intro | exact rfl | apply And.intro)) (fun s3 zs3 NNs3 hz hnexts3 houts3 => ?_)
          clear hl hT
          have hT := hz; clear hz
          refine rSeq ?_
          refine zReg md0 hX rfl rfl rfl ?_
          refine rThen ?_
          refine rSeq ?_
          refine zCond rfl rfl (fun hc => ?_) (fun hc => ?_)
          · replace hT := sT hc hT
            refine rSkip ?_
            refine rThen ?_
            refine rSeq ?_
            refine rBlock ?_
            refine rSeq ?_
            replace hT := sIf hT; obtain ⟨⟨o1, o2⟩, hT⟩ := hT
            refine zReg md0 hX rfl rfl rfl ?_
            refine rThen ?_
            let c4 := (whole_Clip N (((a2.getD 2 []).getD (s3.1).toNat 0) + ((a4.getD 2 []).getD (s3.1).toNat 0)) 0 255)
            replace hT := sIf hT; obtain ⟨⟨o1, o2, o3, o4, o5, o6, o7, o8⟩, hT⟩ := hT
            refine zDraw md0 1 [18] hX mixed rfl rfl rfl rfl rfl ?_
            refine rInNormal ?_
            refine rThen ?_
            replace hT := sIf hT; obtain ⟨o1, hT⟩ := hT
            refine zReg md0 hX rfl rfl rfl ?_
            exact hnexts3 _ (Option.some.inj hT).symm _ (To.mk' [] 0 hε rfl (by repeat' first | exact True.intro | exact rfl | apply And.intro) (by repeat' first | exact True.intro | exact rfl | apply And.intro))
          · replace hT := sF hc hT
            refine rExit ?_
            refine rThenExit ?_
            refine rThenExit ?_
            exact zTo [] 0 hε (hxs30 _ (houts3 _ (Option.some.inj hT).symm))
        refine rLoopM (stores_Add_b2 N a2 a4 c3) (fun s2 => ⟨[(3, .v (.c (.ptr 1 0 0 0 0 0))), (4, .v (.c (.ptr 2 0 0 0 0 0))), (5, .v (.c (.int .i64 0))), (6, .v (.c (.ptr 6 0 0 0 0 0))), (8, .v (.c (.int .i64 1))), (9, .v (.c (.fz (.int .u8) (a2.getD 1 [])))), (35, .v (.agg [.fzs 3 (.int .u8) a2])), (36, .v (.c (.int .i64 1))), (37, .v (.c (.bool true))), (38, .v (.c (.int .i64 1))), (39, .v (.c (.fz (.int .u8) (a2.getD 1 [])))), (40, .v (.c (.fz (.int .u8) (a2.getD 1 [])))), (41, .v (.c (.int .i64 ((a2.getD 1 []).length : Int)))), (42, .v (.c (.int .i64 s2.1))), (43, .v (.c (.bool s2.2.1))), (66, .v (.c (.int .i64 1)))], [(1, .mem true 64 none (.flat [.cs [.int .i64 a3], .fzs 3 (.int .i64) a4])), (2, .mem true 25 none (.flat [.cs [.int .i64 0, .val (.slice none 0 0), .val (.slice none 0 0), .val (.slice none 0 0)]])), (3, .mem true 5 (some 0) (.flat [.ints (c3.getD default).2.2.2.2.2.1 .u8 v1.2.2])), (4, .mem true 5 (some 0) (.flat [.ints (c3.getD default).2.2.2.2.2.2.2.1 .u8 s2.2.2])), (5, .mem true 5 (some 0) (.flat [.ints (c3.getD default).2.2.2.2.2.2.2.2.2.1 .u8 (c3.getD default).2.2.2.2.2.2.2.2.2.2])), (6, .mem true 25 none (.flat [.cs [.int .i64 (c3.getD default).1, .sl 3 0 (c3.getD default).2.1 1, .sl 4 0 (c3.getD default).2.2.1 1, .sl 5 0 (c3.getD default).2.2.2.1 1]]))], 7⟩) hl (To.mk' [] 0 hε rfl (by repeat' first | exact True.intro | exact rfl | apply And.intro) (by repeat' first | exact True.intro | exact rfl | apply And.intro)) (fun s2 zs2 NNs2 hz hnexts2 houts2 => ?_)
        clear hl hT
        have hT := hz; clear hz
        refine rSeq ?_
        refine zReg md0 hX rfl rfl rfl ?_
        refine rThen ?_
        refine rSeq ?_
        refine zCond rfl rfl (fun hc => ?_) (fun hc => ?_)
        · replace hT := sT hc hT
          refine rSkip ?_
          refine rThen ?_
          refine rSeq ?_
          refine rBlock ?_
          refine rSeq ?_
          replace hT := sIf hT; obtain ⟨⟨o1, o2⟩, hT⟩ := hT
          refine zReg md0 hX rfl rfl rfl ?_
          refine rThen ?_
          let c5 := (whole_Clip N (((a2.getD 1 []).getD (s2.1).toNat 0) + ((a4.getD 1 []).getD (s2.1).toNat 0)) 0 255)
          replace hT := sIf hT; obtain ⟨⟨o1, o2, o3, o4, o5, o6, o7, o8⟩, hT⟩ := hT
          refine zDraw md0 1 [18] hX mixed rfl rfl rfl rfl rfl ?_
          refine rInNormal ?_
          refine rThen ?_
          replace hT := sIf hT; obtain ⟨o1, hT⟩ := hT
          refine zReg md0 hX rfl rfl rfl ?_
          exact hnexts2 _ (Option.some.inj hT).symm _ (To.mk' [] 0 hε rfl (by repeat' first | exact True.intro | exact rfl | apply And.intro) (by repeat' first | exact True.intro | exact rfl | apply And.intro))
        · replace hT := sF hc hT
          refine rExit ?_
          refine rThenExit ?_
          refine rThenExit ?_
          exact zTo [] 0 hε (hxs20 _ (houts2 _ (Option.some.inj hT).symm))
      refine rLoopM (stores_Add_b3 N a2 a4 c3) (fun s1 => ⟨[(3, .v (.c (.ptr 1 0 0 0 0 0))), (4, .v (.c (.ptr 2 0 0 0 0 0))), (5, .v (.c (.int .i64 0))), (6, .v (.c (.ptr 6 0 0 0 0 0))), (8, .v (.c (.int .i64 0))), (9, .v (.c (.fz (.int .u8) (a2.getD 0 [])))), (35, .v (.agg [.fzs 3 (.int .u8) a2])), (36, .v (.c (.int .i64 0))), (37, .v (.c (.bool true))), (38, .v (.c (.int .i64 0))), (39, .v (.c (.fz (.int .u8) (a2.getD 0 [])))), (40, .v (.c (.fz (.int .u8) (a2.getD 0 [])))), (41, .v (.c (.int .i64 ((a2.getD 0 []).length : Int)))), (42, .v (.c (.int .i64 s1.1)))], [(1, .mem true 64 none (.flat [.cs [.int .i64 a3], .fzs 3 (.int .i64) a4])), (2, .mem true 25 none (.flat [.cs [.int .i64 0, .val (.slice none 0 0), .val (.slice none 0 0), .val (.slice none 0 0)]])), (3, .mem true 5 (some 0) (.flat [.ints (c3.getD default).2.2.2.2.2.1 .u8 s1.2])), (4, .mem true 5 (some 0) (.flat [.ints (c3.getD default).2.2.2.2.2.2.2.1 .u8 (c3.getD default).2.2.2.2.2.2.2.2.1])), (5, .mem true 5 (some 0) (.flat [.ints (c3.getD default).2.2.2.2.2.2.2.2.2.1 .u8 (c3.getD default).2.2.2.2.2.2.2.2.2.2])), (6, .mem true 25 none (.flat [.cs [.int .i64 (c3.getD default).1, .sl 3 0 (c3.getD default).2.1 1, .sl 4 0 (c3.getD default).2.2.1 1, .sl 5 0 (c3.getD default).2.2.2.1 1]]))], 7⟩) hl (To.mk' [] 0 hε rfl (by repeat' first | exact True.intro | exact rfl | apply And.intro) (by repeat' first | exact True.intro | exact rfl | apply And.intro)) (fun s1 zs1 NNs1 hz hnexts1 houts1 => ?_)
      clear hl hT
      have hT := hz; clear hz
      refine rSeq ?_
      refine zReg md0 hX rfl rfl rfl ?_
      refine rThen ?_
      refine rSeq ?_
      refine zCond rfl rfl (fun hc => ?_) (fun hc => ?_)
      · replace hT := sT hc hT
        refine rSkip ?_
        refine rThen ?_
        refine rSeq ?_
        refine rBlock ?_
        refine rSeq ?_
        replace hT := sIf hT; obtain ⟨⟨o1, o2⟩, hT⟩ := hT
        refine zReg md0 hX rfl rfl rfl ?_
        refine rThen ?_
        let c6 := (whole_Clip N (((a2.getD 0 []).getD (s1.1).toNat 0) + ((a4.getD 0 []).getD (s1.1).toNat 0)) 0 255)
        replace hT := sIf hT; obtain ⟨⟨o1, o2, o3, o4, o5, o6, o7, o8⟩, hT⟩ := hT
        refine zDraw md0 1 [18] hX mixed rfl rfl rfl rfl rfl ?_
        refine rInNormal ?_
        refine rThen ?_
        replace hT := sIf hT; obtain ⟨o1, hT⟩ := hT
        refine zReg md0 hX rfl rfl rfl ?_
        exact hnexts1 _ (Option.some.inj hT).symm _ (To.mk' [] 0 hε rfl (by repeat' first | exact True.intro | exact rfl | apply And.intro) (by repeat' first | exact True.intro | exact rfl | apply And.intro))
      · replace hT := sF hc hT
        refine rExit ?_
        refine rThenExit ?_
        refine rThenExit ?_
        exact zTo [] 0 hε (hxs10 _ (houts1 _ (Option.some.inj hT).symm))
  · cases h
def ref16_Many (N : Nat) (a1 : Int) : Option Int :=
  let c1 := (ref16_Size N a1)
  let c2 := (ref16_Size N a1)
  if c1.isSome = true ∧ (0 : Int) ≤ ((c1.getD default).getD 0 0) ∧ c2.isSome = true ∧ (0 : Int) ≤ ((c2.getD default).getD 1 0) ∧ inK .i64 ((((c1.getD default).getD 0 0) / 16) * (((c2.getD default).getD 1 0) / 16)) then
    some ((((c1.getD default).getD 0 0) / 16) * (((c2.getD default).getD 1 0) / 16))
  else none
def sp_ref16_Many (N : Nat) : X.Spec := fun args lk => match args with
  | [.v (.c (.int .i64 a1))] => some ⟨(ref16_Many N a1).isSome = true, .v (.c (.int .i64 ((ref16_Many N a1).getD default))), [], []⟩
  | _ => none
set_option maxRecDepth 100000 in
set_option maxHeartbeats 1000000 in
theorem ok_ref16_Many (N : Nat) : FnOK Try.prog gt0 16 (sp_ref16_Many N) := by
  refine fnOK_handed Try.func16 rfl (by kernel_rfl) tt_ok (ktCons (ok_ref16_Size N) (ktNil)) ?_
  intro args lk r h hp
  unfold sp_ref16_Many at h
  split at h
  · rename_i a1
    cases h
    obtain ⟨x, hx⟩ := Option.isSome_iff_exists.1 hp
    simp only [hx, Option.getD_some]
    refine hand0 rfl rfl (fun w0 M ε0 hX => ?_)
    refine rCount (fun hε => ?_)
    have hT : ref16_Many N a1 = some x := hx; clear hx hp; unfold ref16_Many at hT
    refine rSeq ?_
    refine zReg md0 hX rfl rfl rfl ?_
    refine rThen ?_
    refine rSeq ?_
    let c1 := (ref16_Size N a1)
    let c2 := (ref16_Size N a1)
    replace hT := sIf hT; obtain ⟨⟨o1, o2, o3, o4, o5⟩, hT⟩ := hT
    refine zReg md0 hX rfl rfl rfl ?_
    refine rThen ?_
    refine rRet ?_
    have hy := Option.some.inj hT; subst hy
    exact zEnd0 hX rfl
  · cases h
def ref34_Right_b2 (N : Nat) (a2 : (List (List Int))) (s1 : Int) (s2 : Int) : Option (Int ⊕ (Unit ⊕ (Int × Int × Bool))) :=
  if (0 : Int) ≤ s1 ∧ s1 < 3 ∧ (s1).toNat < 3 then
    bif (decide (s2 < ((a2.getD (s1).toNat []).length : Int))) then
      let x2 := (bif (decide ((255 : Int) < ((a2.getD (s1).toNat []).getD (s2).toNat 0))) then true else (decide (((a2.getD (s1).toNat []).getD (s2).toNat 0) < (-255))))
      if (0 : Int) ≤ s1 ∧ s1 < 3 ∧ (s1).toNat < 3 ∧ (0 : Int) ≤ s2 ∧ s2 < ((a2.getD (s1).toNat []).length : Int) ∧ ((!(decide ((255 : Int) < ((a2.getD (s1).toNat []).getD (s2).toNat 0)))) = true → (0 : Int) ≤ s1) ∧ ((!(decide ((255 : Int) < ((a2.getD (s1).toNat []).getD (s2).toNat 0)))) = true → s1 < 3) ∧ ((!(decide ((255 : Int) < ((a2.getD (s1).toNat []).getD (s2).toNat 0)))) = true → (s1).toNat < 3) ∧ ((!(decide ((255 : Int) < ((a2.getD (s1).toNat []).getD (s2).toNat 0)))) = true → (0 : Int) ≤ s2) ∧ ((!(decide ((255 : Int) < ((a2.getD (s1).toNat []).getD (s2).toNat 0)))) = true → s2 < ((a2.getD (s1).toNat []).length : Int)) then
        bif x2 then
          some (.inr (Sum.inl ()))
        else
          if inK .i64 (s2 + 1) then
            some (.inl (s2 + 1))
          else none
      else none
    else
      some (.inr (Sum.inr (s2, s2, (decide (s2 < ((a2.getD (s1).toNat []).length : Int))))))
  else none
def ref34_Right_b1 (N : Nat) (a1 : Int) (a2 : (List (List Int))) (s1 : Int) : Option (Int ⊕ (Unit ⊕ Unit)) :=
  bif (decide (s1 < 3)) then
    let c2 := (ref17_Wide N a1 s1)
    let c3 := (ref17_High N a1 s1)
    let x1 := (decide (((a2.getD (s1).toNat []).length : Int) ≠ ((c2.getD default) * (c3.getD default))))
    if (0 : Int) ≤ s1 ∧ s1 < 3 ∧ (s1).toNat < 3 ∧ c2.isSome = true ∧ c3.isSome = true ∧ inK .i64 ((c2.getD default) * (c3.getD default)) then
      bif x1 then
        some (.inr (Sum.inl ()))
      else
        (iter (ref34_Right_b2 N a2 s1) N 0).bind fun w2 =>
          (Sum.elim (fun v3 =>
            some (.inr (Sum.inl ()))
          )
            (fun v4 =>
              if inK .i64 (s1 + 1) then
                some (.inl (s1 + 1))
              else none
            )
          ) w2
    else none
  else
    some (.inr (Sum.inr ()))
def ref34_Right (N : Nat) (a1 : Int) (a2 : (List (List Int))) : Option Bool :=
  let c1 := (ref16_Many N a1)
  if c1.isSome = true then
    bif (decide ((c1.getD default) = 0)) then
      some false
    else
      (iter (ref34_Right_b1 N a1 a2) N 0).bind fun w1 =>
        (Sum.elim (fun v1 =>
          some false
        )
          (fun v2 =>
            some true
          )
        ) w1
  else none
def sp_ref34_Right (N : Nat) : X.Spec := fun args lk => match args with
  | [.v (.agg [.cs [.int .i64 a1], .fzs 3 (.int .i64) a2])] => some ⟨(ref34_Right N a1 a2).isSome = true, .v (.c (.bool ((ref34_Right N a1 a2).getD default))), [], []⟩
  | _ => none
set_option maxRecDepth 100000 in
set_option maxHeartbeats 1000000 in
theorem ok_ref34_Right (N : Nat) : FnOK Try.prog gt0 40 (sp_ref34_Right N) := by
  refine fnOK_handed Try.func40 rfl (by kernel_rfl) tt_ok (ktCons (ok_ref17_High N) (ktCons (ok_ref17_Wide N) (ktCons (ok_ref16_Many N) (ktNil)))) ?_
  intro args lk r h hp
  unfold sp_ref34_Right at h
  split at h
  · rename_i a1 a2
    change (List (List Int)) at a2
    cases h
    obtain ⟨x, hx⟩ := Option.isSome_iff_exists.1 hp
    simp only [hx, Option.getD_some]
    refine hand0 rfl rfl (fun w0 M ε0 hX => ?_)
    refine rCount (fun hε => ?_)
    have hT : ref34_Right N a1 a2 = some x := hx; clear hx hp; unfold ref34_Right at hT
    refine rSeq ?_
    refine zReg md0 hX rfl rfl rfl ?_
    refine rThen ?_
    refine rSeq ?_
    refine rSeq ?_
    let c1 := (ref16_Many N a1)
    replace hT := sIf hT; obtain ⟨o1, hT⟩ := hT
    refine zReg md0 hX rfl rfl rfl ?_
    refine rThen ?_
    refine zCond rfl rfl (fun hc => ?_) (fun hc => ?_)
    · replace hT := sT hc hT
      refine rSeq ?_
      refine zReg md0 hX rfl rfl rfl ?_
      refine rThen ?_
      refine rRet ?_
      refine rThenRet ?_
      have hy := Option.some.inj hT; subst hy
      exact zEnd0 hX rfl
    · replace hT := sF hc hT
      refine rSkip ?_
      refine rThen ?_
      refine rSeq ?_
      refine rSeq ?_
      refine zReg md0 hX rfl rfl rfl ?_
      refine rThen ?_
      refine rBlock ?_
      replace hT := sBind hT; obtain ⟨w1, hl, hT⟩ := hT
      refine rJoinA (fun v1 => (Sum.inl v1) = w1) (fun v1 => ⟨[(2, .v (.c (.bool false)))], [], 1⟩) .ret (fun v1 hv => ?_) (fun hxs10 => ?_)
      · subst hv; clear hl; replace hT := (sElimL hT)
        refine rInRet ?_
        refine rThenRet ?_
        have hy := Option.some.inj hT; subst hy
        exact zEnd0 hX rfl
      refine rJoinA (fun v2 => (Sum.inr v2) = w1) (fun v2 => ⟨[(2, .v (.c (.bool false)))], [], 1⟩) (.exit 0) (fun v2 hv => ?_) (fun hxs11 => ?_)
      · subst hv; clear hl; replace hT := (sElimR hT)
        refine rInHit ?_
        refine rThen ?_
        refine rSeq ?_
        refine zReg md0 hX rfl rfl rfl ?_
        refine rThen ?_
        refine rRet ?_
        have hy := Option.some.inj hT; subst hy
        exact zEnd0 hX rfl
      refine rLoopM (ref34_Right_b1 N a1 a2) (fun s1 => ⟨[(1, .v (.c (.ptr 0 0 0 0 0 0))), (2, .v (.c (.bool false))), (3, .v (.c (.int .i64 s1)))], [(0, .mem true 64 none (.flat [.cs [.int .i64 a1], .fzs 3 (.int .i64) a2]))], 1⟩) hl (To.mk' [] 0 hε rfl (by repeat' first | exact True.intro | exact rfl | apply And.intro) (by repeat' first | exact True.intro | exact rfl | apply And.intro)) (fun s1 zs1 NNs1 hz hnexts1 houts1 => ?_)
      clear hl hT
      have hT := hz; clear hz
      refine rSeq ?_
      refine rSeq ?_
      refine zReg md0 hX rfl rfl rfl ?_
      refine rThen ?_
      refine zCond rfl rfl (fun hc => ?_) (fun hc => ?_)
      · replace hT := sT hc hT
        refine rSkip ?_
        refine rThen ?_
        refine rSeq ?_
        refine rBlock ?_
        refine rSeq ?_
        refine rSeq ?_
        let c2 := (ref17_Wide N a1 s1)
        let c3 := (ref17_High N a1 s1)
        let x1 := (decide (((a2.getD (s1).toNat []).length : Int) ≠ ((c2.getD default) * (c3.getD default))))
        replace hT := sIf hT; obtain ⟨⟨o1, o2, o3, o4, o5, o6⟩, hT⟩ := hT
        refine zDraw md0 0 [] hX mixed rfl rfl rfl rfl rfl ?_
        refine rThen ?_
        refine zCond rfl rfl (fun hc => ?_) (fun hc => ?_)
        · replace hT := sT hc hT
          refine rSeq ?_
          refine zReg md0 hX rfl rfl rfl ?_
          refine rThen ?_
          refine rRet ?_
          refine rThenRet ?_
          refine rInRet ?_
          refine rThenRet ?_
          refine rThenRet ?_
          exact zTo [] 0 hε (hxs10 _ (houts1 _ (Option.some.inj hT).symm))
        · replace hT := sF hc hT
          refine rSkip ?_
          refine rThen ?_
          refine rSeq ?_
          refine zReg md0 hX rfl rfl rfl ?_
          refine rThen ?_
          refine rBlock ?_
          replace hT := sBind hT; obtain ⟨w2, hl, hT⟩ := hT
          refine rJoinA (fun v3 => (Sum.inl v3) = w2) (fun v3 => ⟨[(2, .v (.c (.bool false)))], [], 1⟩) .ret (fun v3 hv => ?_) (fun hxs20 => ?_)
          · subst hv; clear hl; replace hT := (sElimL hT)
            refine rInRet ?_
            refine rInRet ?_
            refine rThenRet ?_
            refine rThenRet ?_
            exact zTo [] 0 hε (hxs10 _ (houts1 _ (Option.some.inj hT).symm))
          refine rJoinA (fun v4 => (Sum.inr v4) = w2) (fun v4 => ⟨[(1, .v (.c (.ptr 0 0 0 0 0 0))), (2, .v (.c (.bool false))), (3, .v (.c (.int .i64 s1))), (4, .v (.c (.int .i64 v4.1))), (9, .v (.c (.int .i64 s1))), (10, .v (.c (.bool (decide (s1 < 3))))), (13, .v (.c (.int .i64 s1))), (14, .v (.c (.ptr 0 0 0 1 0 0))), (15, .v (.c (.ptr 0 0 0 1 1 (s1).toNat))), (16, .v (.c (.fz (.int .i64) (a2.getD (s1).toNat [])))), (17, .v (.c (.int .i64 ((a2.getD (s1).toNat []).length : Int)))), (18, .v (.c (.ptr 0 0 0 0 0 0))), (19, .v (.c (.int .i64 a1))), (20, .v (.c (.int .i64 s1))), (21, .v (.c (.int .i64 (c2.getD default)))), (22, .v (.c (.ptr 0 0 0 0 0 0))), (23, .v (.c (.int .i64 a1))), (24, .v (.c (.int .i64 s1))), (25, .v (.c (.int .i64 (c3.getD default)))), (26, .v (.c (.int .i64 ((c2.getD default) * (c3.getD default))))), (27, .v (.c (.bool x1))), (28, .v (.c (.int .i64 v4.2.1))), (29, .v (.c (.int .i64 s1))), (30, .v (.c (.ptr 0 0 0 1 0 0))), (31, .v (.c (.ptr 0 0 0 1 1 (s1).toNat))), (32, .v (.c (.fz (.int .i64) (a2.getD (s1).toNat [])))), (33, .v (.c (.int .i64 ((a2.getD (s1).toNat []).length : Int)))), (34, .v (.c (.bool v4.2.2)))], [(0, .mem true 64 none (.flat [.cs [.int .i64 a1], .fzs 3 (.int .i64) a2]))], 1⟩) (.exit 2) (fun v4 hv => ?_) (fun hxs21 => ?_)
          · subst hv; clear hl; replace hT := (sElimR hT)
            refine rInHit ?_
            refine rInNormal ?_
            refine rThen ?_
            replace hT := sIf hT; obtain ⟨o1, hT⟩ := hT
            refine zReg md0 hX rfl rfl rfl ?_
            exact hnexts1 _ (Option.some.inj hT).symm _ (To.mk' [] 0 hε rfl (by repeat' first | exact True.intro | exact rfl | apply And.intro) (by repeat' first | exact True.intro | exact rfl | apply And.intro))
          refine rLoopM (ref34_Right_b2 N a2 s1) (fun s2 => ⟨[(1, .v (.c (.ptr 0 0 0 0 0 0))), (2, .v (.c (.bool false))), (3, .v (.c (.int .i64 s1))), (4, .v (.c (.int .i64 s2))), (9, .v (.c (.int .i64 s1))), (10, .v (.c (.bool (decide (s1 < 3))))), (13, .v (.c (.int .i64 s1))), (14, .v (.c (.ptr 0 0 0 1 0 0))), (15, .v (.c (.ptr 0 0 0 1 1 (s1).toNat))), (16, .v (.c (.fz (.int .i64) (a2.getD (s1).toNat [])))), (17, .v (.c (.int .i64 ((a2.getD (s1).toNat []).length : Int)))), (18, .v (.c (.ptr 0 0 0 0 0 0))), (19, .v (.c (.int .i64 a1))), (20, .v (.c (.int .i64 s1))), (21, .v (.c (.int .i64 (c2.getD default)))), (22, .v (.c (.ptr 0 0 0 0 0 0))), (23, .v (.c (.int .i64 a1))), (24, .v (.c (.int .i64 s1))), (25, .v (.c (.int .i64 (c3.getD default)))), (26, .v (.c (.int .i64 ((c2.getD default) * (c3.getD default))))), (27, .v (.c (.bool x1)))], [(0, .mem true 64 none (.flat [.cs [.int .i64 a1], .fzs 3 (.int .i64) a2]))], 1⟩) hl (To.mk' [] 0 hε rfl (by repeat' first | exact True.intro | exact rfl | apply And.intro) (by repeat' first | exact True.intro | exact rfl | apply And.intro)) (fun s2 zs2 NNs2 hz hnexts2 houts2 => ?_)
          clear hl hT
          have hT := hz; clear hz
          refine rSeq ?_
          refine rSeq ?_
          replace hT := sIf hT; obtain ⟨⟨o1, o2, o3⟩, hT⟩ := hT
          refine zReg md0 hX rfl rfl rfl ?_
          refine rThen ?_
          refine zCond rfl rfl (fun hc => ?_) (fun hc => ?_)
          · replace hT := sT hc hT
            refine rSkip ?_
            refine rThen ?_
            refine rSeq ?_
            refine rBlock ?_
            refine rSeq ?_
            let x2 := (bif (decide ((255 : Int) < ((a2.getD (s1).toNat []).getD (s2).toNat 0))) then true else (decide (((a2.getD (s1).toNat []).getD (s2).toNat 0) < (-255))))
            replace hT := sIf hT; obtain ⟨⟨o1, o2, o3, o4, o5, o6, o7, o8, o9, o10⟩, hT⟩ := hT
            refine rRegC md0 hX rfl rfl rfl (by (repeat' first | exact True.intro | with_reducible assumption | (with_reducible apply And.intro) | intro _) <;> first | assumption | exact o6 (by assumption) | exact o7 (by assumption) | exact o8 (by assumption) | exact o9 (by assumption) | exact o10 (by assumption) | exact rfl | omega | exact Nat.le_of_ble_eq_true rfl | exact selF (by assumption) | exact selT (by assumption) | exact And.intro rfl rfl | exact And.intro (by assumption) rfl | exact And.intro (by omega) rfl | (simp only [inK] at *; omega) | (simp_all [sel] <;> fail) | fail) ?_
            refine rThen ?_
            refine zCond rfl rfl (fun hc => ?_) (fun hc => ?_)
            · replace hT := sT hc hT
              refine rSeq ?_
              refine zReg md0 hX rfl rfl rfl ?_
              refine rThen ?_
              refine rRet ?_
              refine rInRet ?_
              refine rThenRet ?_
              refine rThenRet ?_
              exact zTo [] 0 hε (hxs20 _ (houts2 _ (Option.some.inj hT).symm))
            · replace hT := sF hc hT
              refine rSkip ?_
              refine rInNormal ?_
              refine rThen ?_
              replace hT := sIf hT; obtain ⟨o1, hT⟩ := hT
              refine zReg md0 hX rfl rfl rfl ?_
              exact hnexts2 _ (Option.some.inj hT).symm _ (To.mk' [] 0 hε rfl (by repeat' first | exact True.intro | exact rfl | apply And.intro) (by repeat' first | exact True.intro | exact rfl | apply And.intro))
          · replace hT := sF hc hT
            refine rExit ?_
            refine rThenExit ?_
            refine rThenExit ?_
            exact zTo [] 0 hε (hxs21 _ (houts2 _ (Option.some.inj hT).symm))
      · replace hT := sF hc hT
        refine rExit ?_
        refine rThenExit ?_
        refine rThenExit ?_
        exact zTo [] 0 hε (hxs11 _ (houts1 _ (Option.some.inj hT).symm))
  · cases h
def ref34_Weight_b2 (N : Nat) (a2 : (List (List Int))) (s1 : (Int × Int)) (s2 : (Int × Int)) : Option ((Int × Int) ⊕ (Int × Int × Int × Bool)) :=
  if (0 : Int) ≤ s1.2 ∧ s1.2 < 3 ∧ (s1.2).toNat < 3 then
    bif (decide (s2.2 < ((a2.getD (s1.2).toNat []).length : Int))) then
      if (0 : Int) ≤ s1.2 ∧ s1.2 < 3 ∧ (s1.2).toNat < 3 ∧ (0 : Int) ≤ s2.2 ∧ s2.2 < ((a2.getD (s1.2).toNat []).length : Int) then
        if ((decide (((a2.getD (s1.2).toNat []).getD (s2.2).toNat 0) < 0)) = true → inK .i64 (-((a2.getD (s1.2).toNat []).getD (s2.2).toNat 0))) then
          let x1 := (bif (decide (((a2.getD (s1.2).toNat []).getD (s2.2).toNat 0) < 0)) then (-((a2.getD (s1.2).toNat []).getD (s2.2).toNat 0)) else ((a2.getD (s1.2).toNat []).getD (s2.2).toNat 0))
          if inK .i64 (s2.1 + x1) then
            if inK .i64 (s2.2 + 1) then
              some (.inl ((s2.1 + x1), (s2.2 + 1)))
            else none
          else none
        else none
      else none
    else
      some (.inr (s2.1, s2.2, s2.2, (decide (s2.2 < ((a2.getD (s1.2).toNat []).length : Int)))))
  else none
def ref34_Weight_b1 (N : Nat) (a2 : (List (List Int))) (s1 : (Int × Int)) : Option ((Int × Int) ⊕ Int) :=
  bif (decide (s1.2 < 3)) then
    (iter (ref34_Weight_b2 N a2 s1) N (s1.1, 0)).bind fun v2 =>
      if inK .i64 (s1.2 + 1) then
        some (.inl (v2.1, (s1.2 + 1)))
      else none
  else
    some (.inr s1.1)
def ref34_Weight (N : Nat) (a1 : Int) (a2 : (List (List Int))) : Option Int :=
  (iter (ref34_Weight_b1 N a2) N (0, 0)).bind fun v1 =>
    some v1
def sp_ref34_Weight (N : Nat) : X.Spec := fun args lk => match args with
  | [.v (.agg [.cs [.int .i64 a1], .fzs 3 (.int .i64) a2])] => some ⟨(ref34_Weight N a1 a2).isSome = true, .v (.c (.int .i64 ((ref34_Weight N a1 a2).getD default))), [], []⟩
  | _ => none
set_option maxRecDepth 100000 in
set_option maxHeartbeats 1000000 in
theorem ok_ref34_Weight (N : Nat) : FnOK Try.prog gt0 41 (sp_ref34_Weight N) := by
  refine fnOK_handed Try.func41 rfl (by kernel_rfl) tt_ok (ktNil) ?_
  intro args lk r h hp
  unfold sp_ref34_Weight at h
  split at h
  · rename_i a1 a2
    change (List (List Int)) at a2
    cases h
    obtain ⟨x, hx⟩ := Option.isSome_iff_exists.1 hp
    simp only [hx, Option.getD_some]
    refine hand0 rfl rfl (fun w0 M ε0 hX => ?_)
    refine rCount (fun hε => ?_)
    have hT : ref34_Weight N a1 a2 = some x := hx; clear hx hp; unfold ref34_Weight at hT
    refine rSeq ?_
    refine zReg md0 hX rfl rfl rfl ?_
    refine rThen ?_
    refine rSeq ?_
    refine zReg md0 hX rfl rfl rfl ?_
    refine rThen ?_
    refine rSeq ?_
    refine rSeq ?_
    refine zReg md0 hX rfl rfl rfl ?_
    refine rThen ?_
    refine rBlock ?_
    replace hT := sBind hT; obtain ⟨w1, hl, hT⟩ := hT
    refine rJoinA (fun v1 => v1 = w1) (fun v1 => ⟨[(2, .v (.c (.int .i64 0))), (3, .v (.c (.int .i64 v1)))], [], 1⟩) (.exit 0) (fun v1 hv => ?_) (fun hxs10 => ?_)
    · subst hv; clear hl
      refine rInHit ?_
      refine rThen ?_
      refine rSeq ?_
      refine zReg md0 hX rfl rfl rfl ?_
      refine rThen ?_
      refine rRet ?_
      have hy := Option.some.inj hT; subst hy
      exact zEnd0 hX rfl
    refine rLoopM (ref34_Weight_b1 N a2) (fun s1 => ⟨[(1, .v (.c (.ptr 0 0 0 0 0 0))), (2, .v (.c (.int .i64 0))), (3, .v (.c (.int .i64 s1.1))), (4, .v (.c (.int .i64 s1.2)))], [(0, .mem true 64 none (.flat [.cs [.int .i64 a1], .fzs 3 (.int .i64) a2]))], 1⟩) hl (To.mk' [] 0 hε rfl (by repeat' first | exact True.intro | exact rfl | apply And.intro) (by repeat' first | exact True.intro | exact rfl | apply And.intro)) (fun s1 zs1 NNs1 hz hnexts1 houts1 => ?_)
    clear hl hT
    have hT := hz; clear hz
    refine rSeq ?_
    refine rSeq ?_
    refine zReg md0 hX rfl rfl rfl ?_
    refine rThen ?_
    refine zCond rfl rfl (fun hc => ?_) (fun hc => ?_)
    · replace hT := sT hc hT
      refine rSkip ?_
      refine rThen ?_
      refine rSeq ?_
      refine rBlock ?_
      refine rSeq ?_
      refine zReg md0 hX rfl rfl rfl ?_
      refine rThen ?_
      refine rBlock ?_
      replace hT := sBind hT; obtain ⟨w2, hl, hT⟩ := hT
      refine rJoinA (fun v2 => v2 = w2) (fun v2 => ⟨[(1, .v (.c (.ptr 0 0 0 0 0 0))), (2, .v (.c (.int .i64 0))), (3, .v (.c (.int .i64 v2.1))), (4, .v (.c (.int .i64 s1.2))), (5, .v (.c (.int .i64 v2.2.1))), (7, .v (.c (.int .i64 s1.2))), (8, .v (.c (.bool (decide (s1.2 < 3))))), (11, .v (.c (.int .i64 v2.2.2.1))), (12, .v (.c (.int .i64 s1.2))), (13, .v (.c (.ptr 0 0 0 1 0 0))), (14, .v (.c (.ptr 0 0 0 1 1 (s1.2).toNat))), (15, .v (.c (.fz (.int .i64) (a2.getD (s1.2).toNat [])))), (16, .v (.c (.int .i64 ((a2.getD (s1.2).toNat []).length : Int)))), (17, .v (.c (.bool v2.2.2.2)))], [(0, .mem true 64 none (.flat [.cs [.int .i64 a1], .fzs 3 (.int .i64) a2]))], 1⟩) (.exit 2) (fun v2 hv => ?_) (fun hxs20 => ?_)
      · subst hv; clear hl
        refine rInHit ?_
        refine rInNormal ?_
        refine rThen ?_
        replace hT := sIf hT; obtain ⟨o1, hT⟩ := hT
        refine zReg md0 hX rfl rfl rfl ?_
        exact hnexts1 _ (Option.some.inj hT).symm _ (To.mk' [] 0 hε rfl (by repeat' first | exact True.intro | exact rfl | apply And.intro) (by repeat' first | exact True.intro | exact rfl | apply And.intro))
      refine rLoopM (ref34_Weight_b2 N a2 s1) (fun s2 => ⟨[(1, .v (.c (.ptr 0 0 0 0 0 0))), (2, .v (.c (.int .i64 0))), (3, .v (.c (.int .i64 s2.1))), (4, .v (.c (.int .i64 s1.2))), (5, .v (.c (.int .i64 s2.2))), (7, .v (.c (.int .i64 s1.2))), (8, .v (.c (.bool (decide (s1.2 < 3)))))], [(0, .mem true 64 none (.flat [.cs [.int .i64 a1], .fzs 3 (.int .i64) a2]))], 1⟩) hl (To.mk' [] 0 hε rfl (by repeat' first | exact True.intro | exact rfl | apply And.intro) (by repeat' first | exact True.intro | exact rfl | apply And.intro)) (fun s2 zs2 NNs2 hz hnexts2 houts2 => ?_)
      clear hl hT
      have hT := hz; clear hz
      refine rSeq ?_
      refine rSeq ?_
      replace hT := sIf hT; obtain ⟨⟨o1, o2, o3⟩, hT⟩ := hT
      refine zReg md0 hX rfl rfl rfl ?_
      refine rThen ?_
      refine zCond rfl rfl (fun hc => ?_) (fun hc => ?_)
      · replace hT := sT hc hT
        refine rSkip ?_
        refine rThen ?_
        refine rSeq ?_
        refine rBlock ?_
        refine rSeq ?_
        replace hT := sIf hT; obtain ⟨⟨o1, o2, o3, o4, o5⟩, hT⟩ := hT
        refine zReg md0 hX rfl rfl rfl ?_
        refine rThen ?_
        refine rSeq ?_
        refine rSeq ?_
        refine zReg md0 hX rfl rfl rfl ?_
        refine rThen ?_
        replace hT := sIf hT; obtain ⟨q1, hT⟩ := hT
        refine rJoin ⟨[(1, .v (.c (.ptr 0 0 0 0 0 0))), (2, .v (.c (.int .i64 0))), (3, .v (.c (.int .i64 s2.1))), (4, .v (.c (.int .i64 s1.2))), (5, .v (.c (.int .i64 s2.2))), (6, .v (.c (.int .i64 (bif (decide (((a2.getD (s1.2).toNat []).getD (s2.2).toNat 0) < 0)) then (-((a2.getD (s1.2).toNat []).getD (s2.2).toNat 0)) else ((a2.getD (s1.2).toNat []).getD (s2.2).toNat 0))))), (7, .v (.c (.int .i64 s1.2))), (8, .v (.c (.bool (decide (s1.2 < 3))))), (11, .v (.c (.int .i64 s2.2))), (12, .v (.c (.int .i64 s1.2))), (13, .v (.c (.ptr 0 0 0 1 0 0))), (14, .v (.c (.ptr 0 0 0 1 1 (s1.2).toNat))), (15, .v (.c (.fz (.int .i64) (a2.getD (s1.2).toNat [])))), (16, .v (.c (.int .i64 ((a2.getD (s1.2).toNat []).length : Int)))), (17, .v (.c (.bool (decide (s2.2 < ((a2.getD (s1.2).toNat []).length : Int)))))), (20, .v (.c (.int .i64 s1.2))), (21, .v (.c (.ptr 0 0 0 1 0 0))), (22, .v (.c (.ptr 0 0 0 1 1 (s1.2).toNat))), (23, .v (.c (.fz (.int .i64) (a2.getD (s1.2).toNat [])))), (24, .v (.c (.int .i64 s2.2))), (25, .v (.c (.fp (.int .i64) ((a2.getD (s1.2).toNat []).getD (s2.2).toNat 0) 0 0 0))), (26, .v (.c (.int .i64 ((a2.getD (s1.2).toNat []).getD (s2.2).toNat 0)))), (27, .v (.c (.int .i64 ((a2.getD (s1.2).toNat []).getD (s2.2).toNat 0)))), (28, .v (.c (.bool (decide (((a2.getD (s1.2).toNat []).getD (s2.2).toNat 0) < 0)))))], [(0, .mem true 64 none (.flat [.cs [.int .i64 a1], .fzs 3 (.int .i64) a2]))], 1⟩ ?_ (fun hj => ?_)
        · skip
          let x1 := (bif (decide (((a2.getD (s1.2).toNat []).getD (s2.2).toNat 0) < 0)) then (-((a2.getD (s1.2).toNat []).getD (s2.2).toNat 0)) else ((a2.getD (s1.2).toNat []).getD (s2.2).toNat 0))
          refine rThen ?_
          replace hT := sIf hT; obtain ⟨o1, hT⟩ := hT
          refine zReg md0 hX rfl rfl rfl ?_
          refine rInNormal ?_
          refine rThen ?_
          replace hT := sIf hT; obtain ⟨o1, hT⟩ := hT
          refine zReg md0 hX rfl rfl rfl ?_
          exact hnexts2 _ (Option.some.inj hT).symm _ (To.mk' [] 0 hε rfl (by repeat' first | exact True.intro | exact rfl | apply And.intro) (by repeat' first | exact True.intro | exact rfl | apply And.intro))
        · clear hT
          refine zCond rfl rfl (fun hc => ?_) (fun hc => ?_)
          · skip
            have q1 := q1 hc
            refine zReg md0 hX rfl rfl rfl ?_
            exact rTo (To.mk' [] 0 hε rfl (by (repeat' first | exact True.intro | exact rfl | apply And.intro) <;> (repeat' first | exact rfl | refine Eq.trans ?_ (cTr (by assumption)) | refine Eq.trans ?_ (cFr (by assumption)) | refine Eq.trans (cTl (by assumption)) ?_ | refine Eq.trans (cFl (by assumption)) ?_)) (by (repeat' first | exact True.intro | exact rfl | apply And.intro) <;> (repeat' first | exact rfl | refine Eq.trans ?_ (cTr (by assumption)) | refine Eq.trans ?_ (cFr (by assumption)) | refine Eq.trans (cTl (by assumption)) ?_ | refine Eq.trans (cFl (by assumption)) ?_))) hj
          · skip
            refine rSkip ?_
            exact rTo (To.mk' [] 0 hε rfl (by (repeat' first | exact True.intro | exact rfl | apply And.intro) <;> (repeat' first | exact rfl | refine Eq.trans ?_ (cTr (by assumption)) | refine Eq.trans ?_ (cFr (by assumption)) | refine Eq.trans (cTl (by assumption)) ?_ | refine Eq.trans (cFl (by assumption)) ?_)) (by (repeat' first | exact True.intro | exact rfl | apply And.intro) <;> (repeat' first | exact rfl | refine Eq.trans ?_ (cTr (by assumption)) | refine Eq.trans ?_ (cFr (by assumption)) | refine Eq.trans (cTl (by assumption)) ?_ | refine Eq.trans (cFl (by assumption)) ?_))) hj
      · replace hT := sF hc hT
        refine rExit ?_
        refine rThenExit ?_
        refine rThenExit ?_
        exact zTo [] 0 hε (hxs20 _ (houts2 _ (Option.some.inj hT).symm))
    · replace hT := sF hc hT
      refine rExit ?_
      refine rThenExit ?_
      refine rThenExit ?_
      exact zTo [] 0 hε (hxs10 _ (houts1 _ (Option.some.inj hT).symm))
  · cases h
def ref01_Clip (N : Nat) (a1 : Int) (a2 : Int) (a3 : Int) : Option Int :=
  bif (bif (decide (a3 < a2)) then true else (decide (a1 < a2))) then
    some a2
  else
    bif (decide (a3 < a1)) then
      some a3
    else
      some a1
def sp_ref01_Clip (N : Nat) : X.Spec := fun args lk => match args with
  | [.v (.c (.int .i64 a1)), .v (.c (.int .i64 a2)), .v (.c (.int .i64 a3))] => some ⟨(ref01_Clip N a1 a2 a3).isSome = true, .v (.c (.int .i64 ((ref01_Clip N a1 a2 a3).getD default))), [], []⟩
  | _ => none
set_option maxRecDepth 100000 in
set_option maxHeartbeats 1000000 in
theorem ok_ref01_Clip (N : Nat) : FnOK Try.prog gt0 66 (sp_ref01_Clip N) := by
  refine fnOK_handed Try.func66 rfl (by kernel_rfl) tt_ok (ktNil) ?_
  intro args lk r h hp
  unfold sp_ref01_Clip at h
  split at h
  · rename_i a1 a2 a3
    cases h
    obtain ⟨x, hx⟩ := Option.isSome_iff_exists.1 hp
    simp only [hx, Option.getD_some]
    refine hand0 rfl rfl (fun w0 M ε0 hX => ?_)
    refine rCount (fun hε => ?_)
    have hT : ref01_Clip N a1 a2 a3 = some x := hx; clear hx hp; unfold ref01_Clip at hT
    refine rSeq ?_
    refine zReg md0 hX rfl rfl rfl ?_
    refine rThen ?_
    refine rSeq ?_
    refine rSeq ?_
    refine zReg md0 hX rfl rfl rfl ?_
    refine rThen ?_
    refine zCond rfl rfl (fun hc => ?_) (fun hc => ?_)
    · replace hT := sT hc hT
      refine rSeq ?_
      refine zReg md0 hX rfl rfl rfl ?_
      refine rThen ?_
      refine rRet ?_
      refine rThenRet ?_
      have hy := Option.some.inj hT; subst hy
      exact zEnd0 hX rfl
    · replace hT := sF hc hT
      refine rSkip ?_
      refine rThen ?_
      refine rSeq ?_
      refine rSeq ?_
      refine zReg md0 hX rfl rfl rfl ?_
      refine rThen ?_
      refine zCond rfl rfl (fun hc => ?_) (fun hc => ?_)
      · replace hT := sT hc hT
        refine rSeq ?_
        refine zReg md0 hX rfl rfl rfl ?_
        refine rThen ?_
        refine rRet ?_
        refine rThenRet ?_
        have hy := Option.some.inj hT; subst hy
        exact zEnd0 hX rfl
      · replace hT := sF hc hT
        refine rSkip ?_
        refine rThen ?_
        refine rSeq ?_
        refine zReg md0 hX rfl rfl rfl ?_
        refine rThen ?_
        refine rRet ?_
        have hy := Option.some.inj hT; subst hy
        exact zEnd0 hX rfl
  · cases h
def ref17_New_own_b1 (N : Nat) (a2 : Int) (c5 : (Option Int)) (c6 : (Option Int)) (s3 : (Int × (List Int))) : Option ((Int × (List Int)) ⊕ (List Int)) :=
  bif (decide (s3.1 < (((c5.getD default) * (c6.getD default)).toNat : Int))) then
    let c7 := (ref01_Clip N a2 0 255)
    if c7.isSome = true ∧ inK .u8 (c7.getD default) ∧ (0 : Int) ≤ s3.1 ∧ s3.1 < (((c5.getD default) * (c6.getD default)).toNat : Int) ∧ (s3.1).toNat < ((c5.getD default) * (c6.getD default)).toNat then
      if inK .i64 (s3.1 + 1) then
        some (.inl ((s3.1 + 1), (s3.2.set (s3.1).toNat (c7.getD default))))
      else none
    else none
  else
    some (.inr s3.2)
def ref17_New_own_b2 (N : Nat) (a2 : Int) (c3 : (Option Int)) (c4 : (Option Int)) (s2 : (Int × (List Int))) : Option ((Int × (List Int)) ⊕ (List Int)) :=
  bif (decide (s2.1 < (((c3.getD default) * (c4.getD default)).toNat : Int))) then
    let c8 := (ref01_Clip N a2 0 255)
    if c8.isSome = true ∧ inK .u8 (c8.getD default) ∧ (0 : Int) ≤ s2.1 ∧ s2.1 < (((c3.getD default) * (c4.getD default)).toNat : Int) ∧ (s2.1).toNat < ((c3.getD default) * (c4.getD default)).toNat then
      if inK .i64 (s2.1 + 1) then
        some (.inl ((s2.1 + 1), (s2.2.set (s2.1).toNat (c8.getD default))))
      else none
    else none
  else
    some (.inr s2.2)
def ref17_New_own_b3 (N : Nat) (a2 : Int) (c1 : (Option Int)) (c2 : (Option Int)) (s1 : (Int × (List Int))) : Option ((Int × (List Int)) ⊕ (List Int)) :=
  bif (decide (s1.1 < (((c1.getD default) * (c2.getD default)).toNat : Int))) then
    let c9 := (ref01_Clip N a2 0 255)
    if c9.isSome = true ∧ inK .u8 (c9.getD default) ∧ (0 : Int) ≤ s1.1 ∧ s1.1 < (((c1.getD default) * (c2.getD default)).toNat : Int) ∧ (s1.1).toNat < ((c1.getD default) * (c2.getD default)).toNat then
      if inK .i64 (s1.1 + 1) then
        some (.inl ((s1.1 + 1), (s1.2.set (s1.1).toNat (c9.getD default))))
      else none
    else none
  else
    some (.inr s1.2)
def ref17_New_own (N : Nat) (a1 : Int) (a2 : Int) : Option (Int × Nat × Nat × Nat × Nat × (List Int) × Nat × (List Int) × Nat × (List Int)) :=
  let c1 := (ref17_Wide N a1 0)
  let c2 := (ref17_High N a1 0)
  if c1.isSome = true ∧ c2.isSome = true ∧ inK .i64 ((c1.getD default) * (c2.getD default)) ∧ (0 : Int) ≤ ((c1.getD default) * (c2.getD default)) ∧ ((c1.getD default) * (c2.getD default)) * 1 ≤ 140737488355328 then
    (iter (ref17_New_own_b3 N a2 c1 c2) N (0, (List.replicate ((c1.getD default) * (c2.getD default)).toNat 0))).bind fun v1 =>
      let c3 := (ref17_Wide N a1 1)
      let c4 := (ref17_High N a1 1)
      if c3.isSome = true ∧ c4.isSome = true ∧ inK .i64 ((c3.getD default) * (c4.getD default)) ∧ (0 : Int) ≤ ((c3.getD default) * (c4.getD default)) ∧ ((c3.getD default) * (c4.getD default)) * 1 ≤ 140737488355328 then
        (iter (ref17_New_own_b2 N a2 c3 c4) N (0, (List.replicate ((c3.getD default) * (c4.getD default)).toNat 0))).bind fun v2 =>
          let c5 := (ref17_Wide N a1 2)
          let c6 := (ref17_High N a1 2)
          if c5.isSome = true ∧ c6.isSome = true ∧ inK .i64 ((c5.getD default) * (c6.getD default)) ∧ (0 : Int) ≤ ((c5.getD default) * (c6.getD default)) ∧ ((c5.getD default) * (c6.getD default)) * 1 ≤ 140737488355328 then
            (iter (ref17_New_own_b1 N a2 c5 c6) N (0, (List.replicate ((c5.getD default) * (c6.getD default)).toNat 0))).bind fun v3 =>
              some (a1, ((c1.getD default) * (c2.getD default)).toNat, ((c3.getD default) * (c4.getD default)).toNat, ((c5.getD default) * (c6.getD default)).toNat, ((c1.getD default) * (c2.getD default)).toNat, v1, ((c3.getD default) * (c4.getD default)).toNat, v2, ((c5.getD default) * (c6.getD default)).toNat, v3)
          else none
      else none
  else none
def sp_ref17_New_own (N : Nat) : X.Spec := fun args lk => match args with
  | [.v (.c (.int .i64 a1)), .v (.c (.int .i64 a2))] => some ⟨(ref17_New_own N a1 a2).isSome = true, .v (.agg [.cs [.int .i64 ((ref17_New_own N a1 a2).getD default).1, .sl 0 0 ((ref17_New_own N a1 a2).getD default).2.1 1, .sl 1 0 ((ref17_New_own N a1 a2).getD default).2.2.1 1, .sl 2 0 ((ref17_New_own N a1 a2).getD default).2.2.2.1 1]]), [.mem true 5 (some 0) (.flat [.ints ((ref17_New_own N a1 a2).getD default).2.2.2.2.1 .u8 ((ref17_New_own N a1 a2).getD default).2.2.2.2.2.1]), .mem true 5 (some 0) (.flat [.ints ((ref17_New_own N a1 a2).getD default).2.2.2.2.2.2.1 .u8 ((ref17_New_own N a1 a2).getD default).2.2.2.2.2.2.2.1]), .mem true 5 (some 0) (.flat [.ints ((ref17_New_own N a1 a2).getD default).2.2.2.2.2.2.2.2.1 .u8 ((ref17_New_own N a1 a2).getD default).2.2.2.2.2.2.2.2.2])], []⟩
  | _ => none
set_option maxRecDepth 100000 in
set_option maxHeartbeats 1000000 in
theorem ok_ref17_New_own (N : Nat) : FnOK Try.prog gt0 24 (sp_ref17_New_own N) := by
  refine fnOK_handed Try.func24 rfl (by kernel_rfl) ttC_ok (ktCons (ok_ref01_Clip N) (ktCons (ok_ref17_High N) (ktCons (ok_ref17_Wide N) (ktNil)))) ?_
  intro args lk r h hp
  unfold sp_ref17_New_own at h
  split at h
  · rename_i a1 a2
    cases h
    obtain ⟨x, hx⟩ := Option.isSome_iff_exists.1 hp
    simp only [hx, Option.getD_some]
    refine hand0 rfl rfl (fun w0 M ε0 hX => ?_)
    refine rCount (fun hε => ?_)
    have hT : ref17_New_own N a1 a2 = some x := hx; clear hx hp; unfold ref17_New_own at hT
    refine rSeq ?_
    refine zReg md0 hX rfl rfl rfl ?_
    refine rThen ?_
    refine rSeq ?_
    refine zReg md0 hX rfl rfl rfl ?_
    refine rThen ?_
    refine rSeq ?_
    refine rSeq ?_
    refine zReg md0 hX rfl rfl rfl ?_
    refine rThen ?_
    refine rBlock ?_
    refine rRounds 24 ?_
    refine rSeq ?_
    refine rSeq ?_
    refine zReg md0 hX rfl rfl rfl ?_
    refine rThen ?_
    refine rCondT rfl rfl (by (repeat' first | exact True.intro | with_reducible assumption | (with_reducible apply And.intro) | intro _) <;> first | assumption | exact rfl | omega | exact Nat.le_of_ble_eq_true rfl | exact selF (by assumption) | exact selT (by assumption) | exact And.intro rfl rfl | exact And.intro (by assumption) rfl | exact And.intro (by omega) rfl | (simp only [inK] at *; omega) | (simp_all [sel] <;> fail) | fail) rfl ?_
    refine rSkip ?_
    refine rThen ?_
    refine rSeq ?_
    refine rBlock ?_
    refine rSeq ?_
    let c1 := (ref17_Wide N a1 0)
    let c2 := (ref17_High N a1 0)
    replace hT := sIf hT; obtain ⟨⟨o1, o2, o3, o4, o5⟩, hT⟩ := hT
    refine zReg md0 hX rfl rfl rfl ?_
    refine rThen ?_
    refine rSeq ?_
    refine rSeq ?_
    refine zReg md0 hX rfl rfl rfl ?_
    refine rThen ?_
    refine rBlock ?_
    replace hT := sBind hT; obtain ⟨w1, hl, hT⟩ := hT
    refine rJoinA (fun v1 => v1 = w1) (fun v1 => ⟨[(0, .v (.c (.int .i64 a1))), (1, .v (.c (.int .i64 a2))), (4, .v (.c (.ptr 0 0 0 0 0 0))), (5, .v (.c (.ptr 1 0 0 0 0 0))), (6, .v (.c (.int .i64 0))), (7, .v (.c (.sl 2 0 ((c1.getD default) * (c2.getD default)).toNat 1)))], [(0, .mem true 25 none (.flat [.cs [.int .i64 0, .val (.slice none 0 0), .val (.slice none 0 0), .val (.slice none 0 0)]])), (1, .mem true 25 none (.flat [.cs [.int .i64 a1, .val (.slice none 0 0), .val (.slice none 0 0), .val (.slice none 0 0)]])), (2, .mem true 5 (some 1) (.flat [.ints ((c1.getD default) * (c2.getD default)).toNat .u8 v1]))], 3⟩) (.exit 2) (fun v1 hv => ?_) (fun hxs10 => ?_)
    · subst hv; clear hl
      refine rInHit ?_
      refine rThen ?_
      refine zReg md0 hX rfl rfl rfl ?_
      refine rInNormal ?_
      refine rThen ?_
      refine zReg md0 hX rfl rfl rfl ?_
      refine rRound ?_
      refine rSeq ?_
      refine rSeq ?_
      refine zReg md0 hX rfl rfl rfl ?_
      refine rThen ?_
      refine rCondT rfl rfl (by (repeat' first | exact True.intro | with_reducible assumption | (with_reducible apply And.intro) | intro _) <;> first | assumption | exact rfl | omega | exact Nat.le_of_ble_eq_true rfl | exact selF (by assumption) | exact selT (by assumption) | exact And.intro rfl rfl | exact And.intro (by assumption) rfl | exact And.intro (by omega) rfl | (simp only [inK] at *; omega) | (simp_all [sel] <;> fail) | fail) rfl ?_
      refine rSkip ?_
      refine rThen ?_
      refine rSeq ?_
      refine rBlock ?_
      refine rSeq ?_
      let c3 := (ref17_Wide N a1 1)
      let c4 := (ref17_High N a1 1)
      replace hT := sIf hT; obtain ⟨⟨o1, o2, o3, o4, o5⟩, hT⟩ := hT
      refine zReg md0 hX rfl rfl rfl ?_
      refine rThen ?_
      refine rSeq ?_
      refine rSeq ?_
      refine zReg md0 hX rfl rfl rfl ?_
      refine rThen ?_
      refine rBlock ?_
      replace hT := sBind hT; obtain ⟨w2, hl, hT⟩ := hT
      refine rJoinA (fun v2 => v2 = w2) (fun v2 => ⟨[(0, .v (.c (.int .i64 a1))), (1, .v (.c (.int .i64 a2))), (4, .v (.c (.ptr 0 0 0 0 0 0))), (5, .v (.c (.ptr 1 0 0 0 0 0))), (6, .v (.c (.int .i64 1))), (7, .v (.c (.sl 3 0 ((c3.getD default) * (c4.getD default)).toNat 1)))], [(0, .mem true 25 none (.flat [.cs [.int .i64 0, .val (.slice none 0 0), .val (.slice none 0 0), .val (.slice none 0 0)]])), (1, .mem true 25 none (.flat [.cs [.int .i64 a1, .sl 2 0 ((c1.getD default) * (c2.getD default)).toNat 1, .val (.slice none 0 0), .val (.slice none 0 0)]])), (2, .mem true 5 (some 1) (.flat [.ints ((c1.getD default) * (c2.getD default)).toNat .u8 v1])), (3, .mem true 5 (some 1) (.flat [.ints ((c3.getD default) * (c4.getD default)).toNat .u8 v2]))], 4⟩) (.exit 2) (fun v2 hv => ?_) (fun hxs20 => ?_)
      · subst hv; clear hl
        refine rInHit ?_
        refine rThen ?_
        refine zReg md0 hX rfl rfl rfl ?_
        refine rInNormal ?_
        refine rThen ?_
        refine zReg md0 hX rfl rfl rfl ?_
        refine rRound ?_
        refine rSeq ?_
        refine rSeq ?_
        refine zReg md0 hX rfl rfl rfl ?_
        refine rThen ?_
        refine rCondT rfl rfl (by (repeat' first | exact True.intro | with_reducible assumption | (with_reducible apply And.intro) | intro _) <;> first | assumption | exact rfl | omega | exact Nat.le_of_ble_eq_true rfl | exact selF (by assumption) | exact selT (by assumption) | exact And.intro rfl rfl | exact And.intro (by assumption) rfl | exact And.intro (by omega) rfl | (simp only [inK] at *; omega) | (simp_all [sel] <;> fail) | fail) rfl ?_
        refine rSkip ?_
        refine rThen ?_
        refine rSeq ?_
        refine rBlock ?_
        refine rSeq ?_
        let c5 := (ref17_Wide N a1 2)
        let c6 := (ref17_High N a1 2)
        replace hT := sIf hT; obtain ⟨⟨o1, o2, o3, o4, o5⟩, hT⟩ := hT
        refine zReg md0 hX rfl rfl rfl ?_
        refine rThen ?_
        refine rSeq ?_
        refine rSeq ?_
        refine zReg md0 hX rfl rfl rfl ?_
        refine rThen ?_
        refine rBlock ?_
        replace hT := sBind hT; obtain ⟨w3, hl, hT⟩ := hT
        refine rJoinA (fun v3 => v3 = w3) (fun v3 => ⟨[(0, .v (.c (.int .i64 a1))), (1, .v (.c (.int .i64 a2))), (4, .v (.c (.ptr 0 0 0 0 0 0))), (5, .v (.c (.ptr 1 0 0 0 0 0))), (6, .v (.c (.int .i64 2))), (7, .v (.c (.sl 4 0 ((c5.getD default) * (c6.getD default)).toNat 1)))], [(0, .mem true 25 none (.flat [.cs [.int .i64 0, .val (.slice none 0 0), .val (.slice none 0 0), .val (.slice none 0 0)]])), (1, .mem true 25 none (.flat [.cs [.int .i64 a1, .sl 2 0 ((c1.getD default) * (c2.getD default)).toNat 1, .sl 3 0 ((c3.getD default) * (c4.getD default)).toNat 1, .val (.slice none 0 0)]])), (2, .mem true 5 (some 1) (.flat [.ints ((c1.getD default) * (c2.getD default)).toNat .u8 v1])), (3, .mem true 5 (some 1) (.flat [.ints ((c3.getD default) * (c4.getD default)).toNat .u8 v2])), (4, .mem true 5 (some 1) (.flat [.ints ((c5.getD default) * (c6.getD default)).toNat .u8 v3]))], 5⟩) (.exit 2) (fun v3 hv => ?_) (fun hxs30 => ?_)
        · subst hv; clear hl
          refine rInHit ?_
          refine rThen ?_
          refine zReg md0 hX rfl rfl rfl ?_
          refine rInNormal ?_
          refine rThen ?_
          refine zReg md0 hX rfl rfl rfl ?_
          refine rRound ?_
          refine rSeq ?_
          refine rSeq ?_
          refine zReg md0 hX rfl rfl rfl ?_
          refine rThen ?_
          refine rCondF rfl rfl (by (repeat' first | exact True.intro | with_reducible assumption | (with_reducible apply And.intro) | intro _) <;> first | assumption | exact rfl | omega | exact Nat.le_of_ble_eq_true rfl | exact selF (by assumption) | exact selT (by assumption) | exact And.intro rfl rfl | exact And.intro (by assumption) rfl | exact And.intro (by omega) rfl | (simp only [inK] at *; omega) | (simp_all [sel] <;> fail) | fail) rfl ?_
          refine rExit ?_
          refine rThenExit ?_
          refine rThenExit ?_
          refine rInHit ?_
          refine rThen ?_
          refine rSeq ?_
          refine zReg md0 hX rfl rfl rfl ?_
          refine rThen ?_
          refine rRet ?_
          refine rTail0Q 2 rfl rfl ?_
          refine rTail0Q 3 rfl rfl ?_
          refine rTail0Q 4 rfl rfl ?_
          have hy := Option.some.inj hT; subst hy
          exact rEndA [2, 3, 4] [.mem true 5 (some 0) (.flat [.ints ((c1.getD default) * (c2.getD default)).toNat .u8 v1]), .mem true 5 (some 0) (.flat [.ints ((c3.getD default) * (c4.getD default)).toNat .u8 v2]), .mem true 5 (some 0) (.flat [.ints ((c5.getD default) * (c6.getD default)).toNat .u8 v3])] [] (.v (.agg [.cs [.int .i64 a1, .sl 2 0 ((c1.getD default) * (c2.getD default)).toNat 1, .sl 3 0 ((c3.getD default) * (c4.getD default)).toNat 1, .sl 4 0 ((c5.getD default) * (c6.getD default)).toNat 1]])) hX rfl (by repeat' first | exact True.intro | exact rfl | apply And.intro | omega | exact Nat.le_of_ble_eq_true rfl) (by repeat' first | exact True.intro | exact rfl | apply And.intro) rfl rfl rfl (by repeat' first | exact True.intro | exact rfl | exact ⟨_, rfl, rfl⟩ | apply And.intro | exact Or.inl rfl) rfl rfl (by repeat' first | exact True.intro | exact rfl | exact ⟨_, rfl, rfl⟩ | apply And.intro | exact Or.inl rfl) rfl rfl
        refine rLoopM (ref17_New_own_b1 N a2 c5 c6) (fun s3 => ⟨[(0, .v (.c (.int .i64 a1))), (1, .v (.c (.int .i64 a2))), (4, .v (.c (.ptr 0 0 0 0 0 0))), (5, .v (.c (.ptr 1 0 0 0 0 0))), (6, .v (.c (.int .i64 2))), (7, .v (.c (.sl 4 0 ((c5.getD default) * (c6.getD default)).toNat 1))), (8, .v (.c (.int .i64 s3.1)))], [(0, .mem true 25 none (.flat [.cs [.int .i64 0, .val (.slice none 0 0), .val (.slice none 0 0), .val (.slice none 0 0)]])), (1, .mem true 25 none (.flat [.cs [.int .i64 a1, .sl 2 0 ((c1.getD default) * (c2.getD default)).toNat 1, .sl 3 0 ((c3.getD default) * (c4.getD default)).toNat 1, .val (.slice none 0 0)]])), (2, .mem true 5 (some 1) (.flat [.ints ((c1.getD default) * (c2.getD default)).toNat .u8 v1])), (3, .mem true 5 (some 1) (.flat [.ints ((c3.getD default) * (c4.getD default)).toNat .u8 v2])), (4, .mem true 5 (some 1) (.flat [.ints ((c5.getD default) * (c6.getD default)).toNat .u8 s3.2]))], 5⟩) hl (To.mk' [] 0 hε rfl (by repeat' first | exact True.intro | exact rfl | apply And.intro) (by repeat' first | exact True.intro | exact rfl | apply And.intro)) (fun s3 zs3 NNs3 hz hnexts3 houts3 => ?_)
        clear hl hT
        have hT := hz; clear hz
        refine rSeq ?_
        refine rSeq ?_
        refine zReg md0 hX rfl rfl rfl ?_
        refine rThen ?_
        refine zCond rfl rfl (fun hc => ?_) (fun hc => ?_)
        · replace hT := sT hc hT
          refine rSkip ?_
          refine rThen ?_
          refine rSeq ?_
          refine rBlock ?_
          let c7 := (ref01_Clip N a2 0 255)
          replace hT := sIf hT; obtain ⟨⟨o1, o2, o3, o4, o5⟩, hT⟩ := hT
          refine zReg md0 hX rfl rfl rfl ?_
          refine rInNormal ?_
          refine rThen ?_
          replace hT := sIf hT; obtain ⟨o1, hT⟩ := hT
          refine zReg md0 hX rfl rfl rfl ?_
          exact hnexts3 _ (Option.some.inj hT).symm _ (To.mk' [] 0 hε rfl (by repeat' first | exact True.intro | exact rfl | apply And.intro) (by repeat' first | exact True.intro | exact rfl | apply And.intro))
        · replace hT := sF hc hT
          refine rExit ?_
          refine rThenExit ?_
          refine rThenExit ?_
          exact zTo [] 0 hε (hxs30 _ (houts3 _ (Option.some.inj hT).symm))
      refine rLoopM (ref17_New_own_b2 N a2 c3 c4) (fun s2 => ⟨[(0, .v (.c (.int .i64 a1))), (1, .v (.c (.int .i64 a2))), (4, .v (.c (.ptr 0 0 0 0 0 0))), (5, .v (.c (.ptr 1 0 0 0 0 0))), (6, .v (.c (.int .i64 1))), (7, .v (.c (.sl 3 0 ((c3.getD default) * (c4.getD default)).toNat 1))), (8, .v (.c (.int .i64 s2.1)))], [(0, .mem true 25 none (.flat [.cs [.int .i64 0, .val (.slice none 0 0), .val (.slice none 0 0), .val (.slice none 0 0)]])), (1, .mem true 25 none (.flat [.cs [.int .i64 a1, .sl 2 0 ((c1.getD default) * (c2.getD default)).toNat 1, .val (.slice none 0 0), .val (.slice none 0 0)]])), (2, .mem true 5 (some 1) (.flat [.ints ((c1.getD default) * (c2.getD default)).toNat .u8 v1])), (3, .mem true 5 (some 1) (.flat [.ints ((c3.getD default) * (c4.getD default)).toNat .u8 s2.2]))], 4⟩) hl (To.mk' [] 0 hε rfl (by repeat' first | exact True.intro | exact rfl | apply And.intro) (by repeat' first | exact True.intro | exact rfl | apply And.intro)) (fun s2 zs2 NNs2 hz hnexts2 houts2 => ?_)
      clear hl hT
      have hT := hz; clear hz
      refine rSeq ?_
      refine rSeq ?_
      refine zReg md0 hX rfl rfl rfl ?_
      refine rThen ?_
      refine zCond rfl rfl (fun hc => ?_) (fun hc => ?_)
      · replace hT := sT hc hT
        refine rSkip ?_
        refine rThen ?_
        refine rSeq ?_
        refine rBlock ?_
        let c8 := (ref01_Clip N a2 0 255)
        replace hT := sIf hT; obtain ⟨⟨o1, o2, o3, o4, o5⟩, hT⟩ := hT
        refine zReg md0 hX rfl rfl rfl ?_
        refine rInNormal ?_
        refine rThen ?_
        replace hT := sIf hT; obtain ⟨o1, hT⟩ := hT
        refine zReg md0 hX rfl rfl rfl ?_
        exact hnexts2 _ (Option.some.inj hT).symm _ (To.mk' [] 0 hε rfl (by repeat' first | exact True.intro | exact rfl | apply And.intro) (by repeat' first | exact True.intro | exact rfl | apply And.intro))
      · replace hT := sF hc hT
        refine rExit ?_
        refine rThenExit ?_
        refine rThenExit ?_
        exact zTo [] 0 hε (hxs20 _ (houts2 _ (Option.some.inj hT).symm))
    refine rLoopM (ref17_New_own_b3 N a2 c1 c2) (fun s1 => ⟨[(0, .v (.c (.int .i64 a1))), (1, .v (.c (.int .i64 a2))), (4, .v (.c (.ptr 0 0 0 0 0 0))), (5, .v (.c (.ptr 1 0 0 0 0 0))), (6, .v (.c (.int .i64 0))), (7, .v (.c (.sl 2 0 ((c1.getD default) * (c2.getD default)).toNat 1))), (8, .v (.c (.int .i64 s1.1)))], [(0, .mem true 25 none (.flat [.cs [.int .i64 0, .val (.slice none 0 0), .val (.slice none 0 0), .val (.slice none 0 0)]])), (1, .mem true 25 none (.flat [.cs [.int .i64 a1, .val (.slice none 0 0), .val (.slice none 0 0), .val (.slice none 0 0)]])), (2, .mem true 5 (some 1) (.flat [.ints ((c1.getD default) * (c2.getD default)).toNat .u8 s1.2]))], 3⟩) hl (To.mk' [] 0 hε rfl (by repeat' first | exact True.intro | exact rfl | apply And.intro) (by repeat' first | exact True.intro | exact rfl | apply And.intro)) (fun s1 zs1 NNs1 hz hnexts1 houts1 => ?_)
    clear hl hT
    have hT := hz; clear hz
    refine rSeq ?_
    refine rSeq ?_
    refine zReg md0 hX rfl rfl rfl ?_
    refine rThen ?_
    refine zCond rfl rfl (fun hc => ?_) (fun hc => ?_)
    · replace hT := sT hc hT
      refine rSkip ?_
      refine rThen ?_
      refine rSeq ?_
      refine rBlock ?_
      let c9 := (ref01_Clip N a2 0 255)
      replace hT := sIf hT; obtain ⟨⟨o1, o2, o3, o4, o5⟩, hT⟩ := hT
      refine zReg md0 hX rfl rfl rfl ?_
      refine rInNormal ?_
      refine rThen ?_
      replace hT := sIf hT; obtain ⟨o1, hT⟩ := hT
      refine zReg md0 hX rfl rfl rfl ?_
      exact hnexts1 _ (Option.some.inj hT).symm _ (To.mk' [] 0 hε rfl (by repeat' first | exact True.intro | exact rfl | apply And.intro) (by repeat' first | exact True.intro | exact rfl | apply And.intro))
    · replace hT := sF hc hT
      refine rExit ?_
      refine rThenExit ?_
      refine rThenExit ?_
      exact zTo [] 0 hε (hxs10 _ (houts1 _ (Option.some.inj hT).symm))
  · cases h
def ref34_Add_b1 (N : Nat) (a2 : (List (List Int))) (a4 : (List (List Int))) (c1 : (Option (Int × Nat × Nat × Nat × Nat × (List Int) × Nat × (List Int) × Nat × (List Int)))) (s3 : (Int × (List Int))) : Option ((Int × (List Int)) ⊕ (List Int)) :=
  bif (decide (s3.1 < ((a2.getD 2 []).length : Int))) then
    let c2 := (ref01_Clip N (((a2.getD 2 []).getD (s3.1).toNat 0) + ((a4.getD 2 []).getD (s3.1).toNat 0)) 0 255)
    if (0 : Int) ≤ s3.1 ∧ s3.1 < ((a2.getD 2 []).length : Int) ∧ inK .i64 ((a2.getD 2 []).getD (s3.1).toNat 0) ∧ s3.1 < ((a4.getD 2 []).length : Int) ∧ inK .i64 (((a2.getD 2 []).getD (s3.1).toNat 0) + ((a4.getD 2 []).getD (s3.1).toNat 0)) ∧ c2.isSome = true ∧ inK .u8 (c2.getD default) ∧ s3.1 < ((c1.getD default).2.2.2.1 : Int) ∧ (s3.1).toNat < (c1.getD default).2.2.2.2.2.2.2.2.1 then
      if inK .i64 (s3.1 + 1) then
        some (.inl ((s3.1 + 1), (s3.2.set (s3.1).toNat (c2.getD default))))
      else none
    else none
  else
    some (.inr s3.2)
def ref34_Add_b2 (N : Nat) (a2 : (List (List Int))) (a4 : (List (List Int))) (c1 : (Option (Int × Nat × Nat × Nat × Nat × (List Int) × Nat × (List Int) × Nat × (List Int)))) (s2 : (Int × (List Int))) : Option ((Int × (List Int)) ⊕ (List Int)) :=
  bif (decide (s2.1 < ((a2.getD 1 []).length : Int))) then
    let c3 := (ref01_Clip N (((a2.getD 1 []).getD (s2.1).toNat 0) + ((a4.getD 1 []).getD (s2.1).toNat 0)) 0 255)
    if (0 : Int) ≤ s2.1 ∧ s2.1 < ((a2.getD 1 []).length : Int) ∧ inK .i64 ((a2.getD 1 []).getD (s2.1).toNat 0) ∧ s2.1 < ((a4.getD 1 []).length : Int) ∧ inK .i64 (((a2.getD 1 []).getD (s2.1).toNat 0) + ((a4.getD 1 []).getD (s2.1).toNat 0)) ∧ c3.isSome = true ∧ inK .u8 (c3.getD default) ∧ s2.1 < ((c1.getD default).2.2.1 : Int) ∧ (s2.1).toNat < (c1.getD default).2.2.2.2.2.2.1 then
      if inK .i64 (s2.1 + 1) then
        some (.inl ((s2.1 + 1), (s2.2.set (s2.1).toNat (c3.getD default))))
      else none
    else none
  else
    some (.inr s2.2)
def ref34_Add_b3 (N : Nat) (a2 : (List (List Int))) (a4 : (List (List Int))) (c1 : (Option (Int × Nat × Nat × Nat × Nat × (List Int) × Nat × (List Int) × Nat × (List Int)))) (s1 : (Int × (List Int))) : Option ((Int × (List Int)) ⊕ (List Int)) :=
  bif (decide (s1.1 < ((a2.getD 0 []).length : Int))) then
    let c4 := (ref01_Clip N (((a2.getD 0 []).getD (s1.1).toNat 0) + ((a4.getD 0 []).getD (s1.1).toNat 0)) 0 255)
    if (0 : Int) ≤ s1.1 ∧ s1.1 < ((a2.getD 0 []).length : Int) ∧ inK .i64 ((a2.getD 0 []).getD (s1.1).toNat 0) ∧ s1.1 < ((a4.getD 0 []).length : Int) ∧ inK .i64 (((a2.getD 0 []).getD (s1.1).toNat 0) + ((a4.getD 0 []).getD (s1.1).toNat 0)) ∧ c4.isSome = true ∧ inK .u8 (c4.getD default) ∧ s1.1 < ((c1.getD default).2.1 : Int) ∧ (s1.1).toNat < (c1.getD default).2.2.2.2.1 then
      if inK .i64 (s1.1 + 1) then
        some (.inl ((s1.1 + 1), (s1.2.set (s1.1).toNat (c4.getD default))))
      else none
    else none
  else
    some (.inr s1.2)
def ref34_Add (N : Nat) (a1 : Int) (a2 : (List (List Int))) (a3 : Int) (a4 : (List (List Int))) : Option (Int × (List (List Int))) :=
  let c1 := (ref17_New_own N a1 0)
  if c1.isSome = true then
    (iter (ref34_Add_b3 N a2 a4 c1) N (0, (c1.getD default).2.2.2.2.2.1)).bind fun v1 =>
      (iter (ref34_Add_b2 N a2 a4 c1) N (0, (c1.getD default).2.2.2.2.2.2.2.1)).bind fun v2 =>
        (iter (ref34_Add_b1 N a2 a4 c1) N (0, (c1.getD default).2.2.2.2.2.2.2.2.2)).bind fun v3 =>
          if (c1.getD default).2.1 = v1.length ∧ (c1.getD default).2.2.1 = v2.length ∧ (c1.getD default).2.2.2.1 = v3.length then
            some ((c1.getD default).1, [v1, v2, v3])
          else none
  else none
def sp_ref34_Add (N : Nat) : X.Spec := fun args lk => match args with
  | [.v (.agg [.cs [.int .i64 a1], .fzs 3 (.int .u8) a2]), .v (.agg [.cs [.int .i64 a3], .fzs 3 (.int .i64) a4])] => some ⟨(ref34_Add N a1 a2 a3 a4).isSome = true, .v (.agg [.cs [.int .i64 ((ref34_Add N a1 a2 a3 a4).getD default).1], .fzs 3 (.int .u8) ((ref34_Add N a1 a2 a3 a4).getD default).2]), [], []⟩
  | _ => none
set_option maxRecDepth 100000 in
set_option maxHeartbeats 1000000 in
theorem ok_ref34_Add (N : Nat) : FnOK Try.prog gt0 42 (sp_ref34_Add N) := by
  refine fnOK_handed Try.func42 rfl (by kernel_rfl) ttC_ok (ktCons (ok_ref01_Clip N) (ktCons (ok_ref17_New_own N) (ktNil))) ?_
  intro args lk r h hp
  unfold sp_ref34_Add at h
  split at h
  · rename_i a1 a2 a3 a4
    change (List (List Int)) at a2
    change (List (List Int)) at a4
    cases h
    obtain ⟨x, hx⟩ := Option.isSome_iff_exists.1 hp
    simp only [hx, Option.getD_some]
    refine hand0 rfl rfl (fun w0 M ε0 hX => ?_)
    refine rCount (fun hε => ?_)
    have hT : ref34_Add N a1 a2 a3 a4 = some x := hx; clear hx hp; unfold ref34_Add at hT
    refine rSeq ?_
    refine zReg md0 hX rfl rfl rfl ?_
    refine rThen ?_
    refine rSeq ?_
    let c1 := (ref17_New_own N a1 0)
    replace hT := sIf hT; obtain ⟨o1, hT⟩ := hT
    refine zReg md0 hX rfl rfl rfl ?_
    refine rThen ?_
    refine rSeq ?_
    refine rSeq ?_
    refine zReg md0 hX rfl rfl rfl ?_
    refine rThen ?_
    refine rBlock ?_
    refine rRounds 24 ?_
    refine rSeq ?_
    refine rSeq ?_
    refine zReg md0 hX rfl rfl rfl ?_
    refine rThen ?_
    refine rCondT rfl rfl (by (repeat' first | exact True.intro | with_reducible assumption | (with_reducible apply And.intro) | intro _) <;> first | assumption | exact rfl | omega | exact Nat.le_of_ble_eq_true rfl | exact selF (by assumption) | exact selT (by assumption) | exact And.intro rfl rfl | exact And.intro (by assumption) rfl | exact And.intro (by omega) rfl | (simp only [inK] at *; omega) | (simp_all [sel] <;> fail) | fail) rfl ?_
    refine rSkip ?_
    refine rThen ?_
    refine rSeq ?_
    refine rBlock ?_
    refine rSeq ?_
    refine zReg md0 hX rfl rfl rfl ?_
    refine rThen ?_
    refine rBlock ?_
    replace hT := sBind hT; obtain ⟨w1, hl, hT⟩ := hT
    refine rJoinA (fun v1 => v1 = w1) (fun v1 => ⟨[(2, .v (.c (.ptr 0 0 0 0 0 0))), (3, .v (.c (.ptr 1 0 0 0 0 0))), (4, .v (.c (.ptr 2 0 0 0 0 0))), (5, .v (.c (.ptr 6 0 0 0 0 0))), (6, .v (.c (.int .i64 0)))], [(0, .mem true 25 none (.flat [.cs [.int .i64 a1], .fzs 3 (.int .u8) a2])), (1, .mem true 64 none (.flat [.cs [.int .i64 a3], .fzs 3 (.int .i64) a4])), (2, .mem true 25 none (.flat [.cs [.int .i64 0, .val (.slice none 0 0), .val (.slice none 0 0), .val (.slice none 0 0)]])), (3, .mem true 5 (some 0) (.flat [.ints (c1.getD default).2.2.2.2.1 .u8 v1])), (4, .mem true 5 (some 0) (.flat [.ints (c1.getD default).2.2.2.2.2.2.1 .u8 (c1.getD default).2.2.2.2.2.2.2.1])), (5, .mem true 5 (some 0) (.flat [.ints (c1.getD default).2.2.2.2.2.2.2.2.1 .u8 (c1.getD default).2.2.2.2.2.2.2.2.2])), (6, .mem true 25 none (.flat [.cs [.int .i64 (c1.getD default).1, .sl 3 0 (c1.getD default).2.1 1, .sl 4 0 (c1.getD default).2.2.1 1, .sl 5 0 (c1.getD default).2.2.2.1 1]]))], 7⟩) (.exit 2) (fun v1 hv => ?_) (fun hxs10 => ?_)
    · subst hv; clear hl
      refine rInHit ?_
      refine rInNormal ?_
      refine rThen ?_
      refine zReg md0 hX rfl rfl rfl ?_
      refine rRound ?_
      refine rSeq ?_
      refine rSeq ?_
      refine zReg md0 hX rfl rfl rfl ?_
      refine rThen ?_
      refine rCondT rfl rfl (by (repeat' first | exact True.intro | with_reducible assumption | (with_reducible apply And.intro) | intro _) <;> first | assumption | exact rfl | omega | exact Nat.le_of_ble_eq_true rfl | exact selF (by assumption) | exact selT (by assumption) | exact And.intro rfl rfl | exact And.intro (by assumption) rfl | exact And.intro (by omega) rfl | (simp only [inK] at *; omega) | (simp_all [sel] <;> fail) | fail) rfl ?_
      refine rSkip ?_
      refine rThen ?_
      refine rSeq ?_
      refine rBlock ?_
      refine rSeq ?_
      refine zReg md0 hX rfl rfl rfl ?_
      refine rThen ?_
      refine rBlock ?_
      replace hT := sBind hT; obtain ⟨w2, hl, hT⟩ := hT
      refine rJoinA (fun v2 => v2 = w2) (fun v2 => ⟨[(2, .v (.c (.ptr 0 0 0 0 0 0))), (3, .v (.c (.ptr 1 0 0 0 0 0))), (4, .v (.c (.ptr 2 0 0 0 0 0))), (5, .v (.c (.ptr 6 0 0 0 0 0))), (6, .v (.c (.int .i64 1)))], [(0, .mem true 25 none (.flat [.cs [.int .i64 a1], .fzs 3 (.int .u8) a2])), (1, .mem true 64 none (.flat [.cs [.int .i64 a3], .fzs 3 (.int .i64) a4])), (2, .mem true 25 none (.flat [.cs [.int .i64 0, .val (.slice none 0 0), .val (.slice none 0 0), .val (.slice none 0 0)]])), (3, .mem true 5 (some 0) (.flat [.ints (c1.getD default).2.2.2.2.1 .u8 v1])), (4, .mem true 5 (some 0) (.flat [.ints (c1.getD default).2.2.2.2.2.2.1 .u8 v2])), (5, .mem true 5 (some 0) (.flat [.ints (c1.getD default).2.2.2.2.2.2.2.2.1 .u8 (c1.getD default).2.2.2.2.2.2.2.2.2])), (6, .mem true 25 none (.flat [.cs [.int .i64 (c1.getD default).1, .sl 3 0 (c1.getD default).2.1 1, .sl 4 0 (c1.getD default).2.2.1 1, .sl 5 0 (c1.getD default).2.2.2.1 1]]))], 7⟩) (.exit 2) (fun v2 hv => ?_) (fun hxs20 => ?_)
      · subst hv; clear hl
        refine rInHit ?_
        refine rInNormal ?_
        refine rThen ?_
        refine zReg md0 hX rfl rfl rfl ?_
        refine rRound ?_
        refine rSeq ?_
        refine rSeq ?_
        refine zReg md0 hX rfl rfl rfl ?_
        refine rThen ?_
        refine rCondT rfl rfl (by (repeat' first | exact True.intro | with_reducible assumption | (with_reducible apply And.intro) | intro _) <;> first | assumption | exact rfl | omega | exact Nat.le_of_ble_eq_true rfl | exact selF (by assumption) | exact selT (by assumption) | exact And.intro rfl rfl | exact And.intro (by assumption) rfl | exact And.intro (by omega) rfl | (simp only [inK] at *; omega) | (simp_all [sel] <;> fail) | fail) rfl ?_
        refine rSkip ?_
        refine rThen ?_
        refine rSeq ?_
        refine rBlock ?_
        refine rSeq ?_
        refine zReg md0 hX rfl rfl rfl ?_
        refine rThen ?_
        refine rBlock ?_
        replace hT := sBind hT; obtain ⟨w3, hl, hT⟩ := hT
        refine rJoinA (fun v3 => v3 = w3) (fun v3 => ⟨[(2, .v (.c (.ptr 0 0 0 0 0 0))), (3, .v (.c (.ptr 1 0 0 0 0 0))), (4, .v (.c (.ptr 2 0 0 0 0 0))), (5, .v (.c (.ptr 6 0 0 0 0 0))), (6, .v (.c (.int .i64 2)))], [(0, .mem true 25 none (.flat [.cs [.int .i64 a1], .fzs 3 (.int .u8) a2])), (1, .mem true 64 none (.flat [.cs [.int .i64 a3], .fzs 3 (.int .i64) a4])), (2, .mem true 25 none (.flat [.cs [.int .i64 0, .val (.slice none 0 0), .val (.slice none 0 0), .val (.slice none 0 0)]])), (3, .mem true 5 (some 0) (.flat [.ints (c1.getD default).2.2.2.2.1 .u8 v1])), (4, .mem true 5 (some 0) (.flat [.ints (c1.getD default).2.2.2.2.2.2.1 .u8 v2])), (5, .mem true 5 (some 0) (.flat [.ints (c1.getD default).2.2.2.2.2.2.2.2.1 .u8 v3])), (6, .mem true 25 none (.flat [.cs [.int .i64 (c1.getD default).1, .sl 3 0 (c1.getD default).2.1 1, .sl 4 0 (c1.getD default).2.2.1 1, .sl 5 0 (c1.getD default).2.2.2.1 1]]))], 7⟩) (.exit 2) (fun v3 hv => ?_) (fun hxs30 => ?_)
        · subst hv; clear hl
          refine rInHit ?_
          refine rInNormal ?_
          refine rThen ?_
          refine zReg md0 hX rfl rfl rfl ?_
          refine rRound ?_
          refine rSeq ?_
          refine rSeq ?_
          refine zReg md0 hX rfl rfl rfl ?_
          refine rThen ?_
          refine rCondF rfl rfl (by (repeat' first | exact True.intro | with_reducible assumption | (with_reducible apply And.intro) | intro _) <;> first | assumption | exact rfl | omega | exact Nat.le_of_ble_eq_true rfl | exact selF (by assumption) | exact selT (by assumption) | exact And.intro rfl rfl | exact And.intro (by assumption) rfl | exact And.intro (by omega) rfl | (simp only [inK] at *; omega) | (simp_all [sel] <;> fail) | fail) rfl ?_
          refine rExit ?_
          refine rThenExit ?_
          refine rThenExit ?_
          refine rInHit ?_
          refine rThen ?_
          refine rSeq ?_
          refine zReg md0 hX rfl rfl rfl ?_
          refine rThen ?_
          refine rRet ?_
          replace hT := sIf hT; obtain ⟨⟨p1, p2, p3⟩, hT⟩ := hT
          refine rFreezeQ 3 (.int .u8) v1 [(4, .v (.c (.ptr 2 0 0 0 0 0)))] [(2, .mem true 25 none (.flat [.cs [.int .i64 (c1.getD default).1, .fz (.int .u8) v1, .sl 4 0 (c1.getD default).2.2.1 1, .sl 5 0 (c1.getD default).2.2.2.1 1]])), (4, .mem true 5 (some 0) (.flat [.ints (c1.getD default).2.2.2.2.2.2.1 .u8 v2])), (5, .mem true 5 (some 0) (.flat [.ints (c1.getD default).2.2.2.2.2.2.2.2.1 .u8 v3]))] rfl rfl (by (repeat' first | exact True.intro | exact rfl | apply And.intro) <;> first | assumption | rfl) (by (repeat' first | exact True.intro | exact rfl | apply And.intro) <;> first | assumption | rfl) ?_
          refine rFreezeQ 4 (.int .u8) v2 [(4, .v (.c (.ptr 2 0 0 0 0 0)))] [(2, .mem true 25 none (.flat [.cs [.int .i64 (c1.getD default).1, .fz (.int .u8) v1, .fz (.int .u8) v2, .sl 5 0 (c1.getD default).2.2.2.1 1]])), (5, .mem true 5 (some 0) (.flat [.ints (c1.getD default).2.2.2.2.2.2.2.2.1 .u8 v3]))] rfl rfl (by (repeat' first | exact True.intro | exact rfl | apply And.intro) <;> first | assumption | rfl) (by (repeat' first | exact True.intro | exact rfl | apply And.intro) <;> first | assumption | rfl) ?_
          refine rFreezeQ 5 (.int .u8) v3 [(4, .v (.c (.ptr 2 0 0 0 0 0)))] [(2, .mem true 25 none (.flat [.cs [.int .i64 (c1.getD default).1, .fz (.int .u8) v1, .fz (.int .u8) v2, .fz (.int .u8) v3]]))] rfl rfl (by (repeat' first | exact True.intro | exact rfl | apply And.intro) <;> first | assumption | rfl) (by (repeat' first | exact True.intro | exact rfl | apply And.intro) <;> first | assumption | rfl) ?_
          refine rPackE 2 rfl rfl ?_
          have hy := Option.some.inj hT; subst hy
          exact zEnd0 hX rfl
        refine rLoopM (ref34_Add_b1 N a2 a4 c1) (fun s3 => ⟨[(2, .v (.c (.ptr 0 0 0 0 0 0))), (3, .v (.c (.ptr 1 0 0 0 0 0))), (4, .v (.c (.ptr 2 0 0 0 0 0))), (5, .v (.c (.ptr 6 0 0 0 0 0))), (6, .v (.c (.int .i64 2))), (7, .v (.c (.int .i64 s3.1)))], [(0, .mem true 25 none (.flat [.cs [.int .i64 a1], .fzs 3 (.int .u8) a2])), (1, .mem true 64 none (.flat [.cs [.int .i64 a3], .fzs 3 (.int .i64) a4])), (2, .mem true 25 none (.flat [.cs [.int .i64 0, .val (.slice none 0 0), .val (.slice none 0 0), .val (.slice none 0 0)]])), (3, .mem true 5 (some 0) (.flat [.ints (c1.getD default).2.2.2.2.1 .u8 v1])), (4, .mem true 5 (some 0) (.flat [.ints (c1.getD default).2.2.2.2.2.2.1 .u8 v2])), (5, .mem true 5 (some 0) (.flat [.ints (c1.getD default).2.2.2.2.2.2.2.2.1 .u8 s3.2])), (6, .mem true 25 none (.flat [.cs [.int .i64 (c1.getD default).1, .sl 3 0 (c1.getD default).2.1 1, .sl 4 0 (c1.getD default).2.2.1 1, .sl 5 0 (c1.getD default).2.2.2.1 1]]))], 7⟩) hl (To.mk' [] 0 hε rfl (by repeat' first | exact True.intro | exact rfl | apply And.intro) (by repeat' first | exact True.intro | exact rfl | apply And.intro)) (fun s3 zs3 NNs3 hz hnexts3 houts3 => ?_)
        clear hl hT
        have hT := hz; clear hz
        refine rSeq ?_
        refine rSeq ?_
        refine zReg md0 hX rfl rfl rfl ?_
        refine rThen ?_
        refine zCond rfl rfl (fun hc => ?_) (fun hc => ?_)
        · replace hT := sT hc hT
          refine rSkip ?_
          refine rThen ?_
          refine rSeq ?_
          refine rBlock ?_
          let c2 := (ref01_Clip N (((a2.getD 2 []).getD (s3.1).toNat 0) + ((a4.getD 2 []).getD (s3.1).toNat 0)) 0 255)
          replace hT := sIf hT; obtain ⟨⟨o1, o2, o3, o4, o5, o6, o7, o8, o9⟩, hT⟩ := hT
          refine zDraw md0 1 [24] hX mixed rfl rfl rfl rfl rfl ?_
          refine rInNormal ?_
          refine rThen ?_
          replace hT := sIf hT; obtain ⟨o1, hT⟩ := hT
          refine zReg md0 hX rfl rfl rfl ?_
          exact hnexts3 _ (Option.some.inj hT).symm _ (To.mk' [] 0 hε rfl (by repeat' first | exact True.intro | exact rfl | apply And.intro) (by repeat' first | exact True.intro | exact rfl | apply And.intro))
        · replace hT := sF hc hT
          refine rExit ?_
          refine rThenExit ?_
          refine rThenExit ?_
          exact zTo [] 0 hε (hxs30 _ (houts3 _ (Option.some.inj hT).symm))
      refine rLoopM (ref34_Add_b2 N a2 a4 c1) (fun s2 => ⟨[(2, .v (.c (.ptr 0 0 0 0 0 0))), (3, .v (.c (.ptr 1 0 0 0 0 0))), (4, .v (.c (.ptr 2 0 0 0 0 0))), (5, .v (.c (.ptr 6 0 0 0 0 0))), (6, .v (.c (.int .i64 1))), (7, .v (.c (.int .i64 s2.1)))], [(0, .mem true 25 none (.flat [.cs [.int .i64 a1], .fzs 3 (.int .u8) a2])), (1, .mem true 64 none (.flat [.cs [.int .i64 a3], .fzs 3 (.int .i64) a4])), (2, .mem true 25 none (.flat [.cs [.int .i64 0, .val (.slice none 0 0), .val (.slice none 0 0), .val (.slice none 0 0)]])), (3, .mem true 5 (some 0) (.flat [.ints (c1.getD default).2.2.2.2.1 .u8 v1])), (4, .mem true 5 (some 0) (.flat [.ints (c1.getD default).2.2.2.2.2.2.1 .u8 s2.2])), (5, .mem true 5 (some 0) (.flat [.ints (c1.getD default).2.2.2.2.2.2.2.2.1 .u8 (c1.getD default).2.2.2.2.2.2.2.2.2])), (6, .mem true 25 none (.flat [.cs [.int .i64 (c1.getD default).1, .sl 3 0 (c1.getD default).2.1 1, .sl 4 0 (c1.getD default).2.2.1 1, .sl 5 0 (c1.getD default).2.2.2.1 1]]))], 7⟩) hl (To.mk' [] 0 hε rfl (by repeat' first | exact True.intro | exact rfl | apply And.intro) (by repeat' first | exact True.intro | exact rfl | apply And.intro)) (fun s2 zs2 NNs2 hz hnexts2 houts2 => ?_)
      clear hl hT
      have hT := hz; clear hz
      refine rSeq ?_
      refine rSeq ?_
      refine zReg md0 hX rfl rfl rfl ?_
      refine rThen ?_
      refine zCond rfl rfl (fun hc => ?_) (fun hc => ?_)
      · replace hT := sT hc hT
        refine rSkip ?_
        refine rThen ?_
        refine rSeq ?_
        refine rBlock ?_
        let c3 := (ref01_Clip N (((a2.getD 1 []).getD (s2.1).toNat 0) + ((a4.getD 1 []).getD (s2.1).toNat 0)) 0 255)
        replace hT := sIf hT; obtain ⟨⟨o1, o2, o3, o4, o5, o6, o7, o8, o9⟩, hT⟩ := hT
        refine zDraw md0 1 [24] hX mixed rfl rfl rfl rfl rfl ?_
        refine rInNormal ?_
        refine rThen ?_
        replace hT := sIf hT; obtain ⟨o1, hT⟩ := hT
        refine zReg md0 hX rfl rfl rfl ?_
        exact hnexts2 _ (Option.some.inj hT).symm _ (To.mk' [] 0 hε rfl (by repeat' first | exact True.intro | exact rfl | apply And.intro) (by repeat' first | exact True.intro | exact rfl | apply And.intro))
      · replace hT := sF hc hT
        refine rExit ?_
        refine rThenExit ?_
        refine rThenExit ?_
        exact zTo [] 0 hε (hxs20 _ (houts2 _ (Option.some.inj hT).symm))
    refine rLoopM (ref34_Add_b3 N a2 a4 c1) (fun s1 => ⟨[(2, .v (.c (.ptr 0 0 0 0 0 0))), (3, .v (.c (.ptr 1 0 0 0 0 0))), (4, .v (.c (.ptr 2 0 0 0 0 0))), (5, .v (.c (.ptr 6 0 0 0 0 0))), (6, .v (.c (.int .i64 0))), (7, .v (.c (.int .i64 s1.1)))], [(0, .mem true 25 none (.flat [.cs [.int .i64 a1], .fzs 3 (.int .u8) a2])), (1, .mem true 64 none (.flat [.cs [.int .i64 a3], .fzs 3 (.int .i64) a4])), (2, .mem true 25 none (.flat [.cs [.int .i64 0, .val (.slice none 0 0), .val (.slice none 0 0), .val (.slice none 0 0)]])), (3, .mem true 5 (some 0) (.flat [.ints (c1.getD default).2.2.2.2.1 .u8 s1.2])), (4, .mem true 5 (some 0) (.flat [.ints (c1.getD default).2.2.2.2.2.2.1 .u8 (c1.getD default).2.2.2.2.2.2.2.1])), (5, .mem true 5 (some 0) (.flat [.ints (c1.getD default).2.2.2.2.2.2.2.2.1 .u8 (c1.getD default).2.2.2.2.2.2.2.2.2])), (6, .mem true 25 none (.flat [.cs [.int .i64 (c1.getD default).1, .sl 3 0 (c1.getD default).2.1 1, .sl 4 0 (c1.getD default).2.2.1 1, .sl 5 0 (c1.getD default).2.2.2.1 1]]))], 7⟩) hl (To.mk' [] 0 hε rfl (by repeat' first | exact True.intro | exact rfl | apply And.intro) (by repeat' first | exact True.intro | exact rfl | apply And.intro)) (fun s1 zs1 NNs1 hz hnexts1 houts1 => ?_)
    clear hl hT
    have hT := hz; clear hz
    refine rSeq ?_
    refine rSeq ?_
    refine zReg md0 hX rfl rfl rfl ?_
    refine rThen ?_
    refine zCond rfl rfl (fun hc => ?_) (fun hc => ?_)
    · replace hT := sT hc hT
      refine rSkip ?_
      refine rThen ?_
      refine rSeq ?_
      refine rBlock ?_
      let c4 := (ref01_Clip N (((a2.getD 0 []).getD (s1.1).toNat 0) + ((a4.getD 0 []).getD (s1.1).toNat 0)) 0 255)
      replace hT := sIf hT; obtain ⟨⟨o1, o2, o3, o4, o5, o6, o7, o8, o9⟩, hT⟩ := hT
      refine zDraw md0 1 [24] hX mixed rfl rfl rfl rfl rfl ?_
      refine rInNormal ?_
      refine rThen ?_
      replace hT := sIf hT; obtain ⟨o1, hT⟩ := hT
      refine zReg md0 hX rfl rfl rfl ?_
      exact hnexts1 _ (Option.some.inj hT).symm _ (To.mk' [] 0 hε rfl (by repeat' first | exact True.intro | exact rfl | apply And.intro) (by repeat' first | exact True.intro | exact rfl | apply And.intro))
    · replace hT := sF hc hT
      refine rExit ?_
      refine rThenExit ?_
      refine rThenExit ?_
      exact zTo [] 0 hε (hxs10 _ (houts1 _ (Option.some.inj hT).symm))
  · cases h
def ref17_Same_b1 (N : Nat) (a2 : (List (List Int))) (a4 : (List (List Int))) (s1 : Int) : Option (Int ⊕ (Unit ⊕ Unit)) :=
  bif (decide (s1 < 3)) then
    let x1 := (decide (ByteArray.toList (bytesOf (a2.getD (s1).toNat [])) ≠ ByteArray.toList (bytesOf (a4.getD (s1).toNat []))))
    if (0 : Int) ≤ s1 ∧ s1 < 3 ∧ (s1).toNat < 3 then
      bif x1 then
        some (.inr (Sum.inl ()))
      else
        if inK .i64 (s1 + 1) then
          some (.inl (s1 + 1))
        else none
    else none
  else
    some (.inr (Sum.inr ()))
def ref17_Same (N : Nat) (a1 : Int) (a2 : (List (List Int))) (a3 : Int) (a4 : (List (List Int))) : Option Bool :=
  bif (decide (a1 ≠ a3)) then
    some false
  else
    (iter (ref17_Same_b1 N a2 a4) N 0).bind fun w1 =>
      (Sum.elim (fun v1 =>
        some false
      )
        (fun v2 =>
          some true
        )
      ) w1
def sp_ref17_Same (N : Nat) : X.Spec := fun args lk => match args with
  | [.v (.agg [.cs [.int .i64 a1], .fzs 3 (.int .u8) a2]), .v (.agg [.cs [.int .i64 a3], .fzs 3 (.int .u8) a4])] => some ⟨(ref17_Same N a1 a2 a3 a4).isSome = true, .v (.c (.bool ((ref17_Same N a1 a2 a3 a4).getD default))), [], []⟩
  | _ => none
set_option maxRecDepth 100000 in
set_option maxHeartbeats 1000000 in
theorem ok_ref17_Same (N : Nat) : FnOK Try.prog gt0 22 (sp_ref17_Same N) := by
  refine fnOK_handed Try.func22 rfl (by kernel_rfl) tt_ok (ktNil) ?_
  intro args lk r h hp
  unfold sp_ref17_Same at h
  split at h
  · rename_i a1 a2 a3 a4
    change (List (List Int)) at a2
    change (List (List Int)) at a4
    cases h
    obtain ⟨x, hx⟩ := Option.isSome_iff_exists.1 hp
    simp only [hx, Option.getD_some]
    refine hand0 rfl rfl (fun w0 M ε0 hX => ?_)
    refine rCount (fun hε => ?_)
    have hT : ref17_Same N a1 a2 a3 a4 = some x := hx; clear hx hp; unfold ref17_Same at hT
    refine rSeq ?_
    refine zReg md0 hX rfl rfl rfl ?_
    refine rThen ?_
    refine rSeq ?_
    refine rSeq ?_
    refine zReg md0 hX rfl rfl rfl ?_
    refine rThen ?_
    refine zCond rfl rfl (fun hc => ?_) (fun hc => ?_)
    · replace hT := sT hc hT
      refine rSeq ?_
      refine zReg md0 hX rfl rfl rfl ?_
      refine rThen ?_
      refine rRet ?_
      refine rThenRet ?_
      have hy := Option.some.inj hT; subst hy
      exact zEnd0 hX rfl
    · replace hT := sF hc hT
      refine rSkip ?_
      refine rThen ?_
      refine rSeq ?_
      refine rSeq ?_
      refine zReg md0 hX rfl rfl rfl ?_
      refine rThen ?_
      refine rBlock ?_
      replace hT := sBind hT; obtain ⟨w1, hl, hT⟩ := hT
      refine rJoinA (fun v1 => (Sum.inl v1) = w1) (fun v1 => ⟨[(4, .v (.c (.bool false)))], [], 2⟩) .ret (fun v1 hv => ?_) (fun hxs10 => ?_)
      · subst hv; clear hl; replace hT := (sElimL hT)
        refine rInRet ?_
        refine rThenRet ?_
        have hy := Option.some.inj hT; subst hy
        exact zEnd0 hX rfl
      refine rJoinA (fun v2 => (Sum.inr v2) = w1) (fun v2 => ⟨[(4, .v (.c (.bool false)))], [], 2⟩) (.exit 0) (fun v2 hv => ?_) (fun hxs11 => ?_)
      · subst hv; clear hl; replace hT := (sElimR hT)
        refine rInHit ?_
        refine rThen ?_
        refine rSeq ?_
        refine zReg md0 hX rfl rfl rfl ?_
        refine rThen ?_
        refine rRet ?_
        have hy := Option.some.inj hT; subst hy
        exact zEnd0 hX rfl
      refine rLoopM (ref17_Same_b1 N a2 a4) (fun s1 => ⟨[(2, .v (.c (.ptr 0 0 0 0 0 0))), (3, .v (.c (.ptr 1 0 0 0 0 0))), (4, .v (.c (.bool false))), (5, .v (.c (.int .i64 s1)))], [(0, .mem true 25 none (.flat [.cs [.int .i64 a1], .fzs 3 (.int .u8) a2])), (1, .mem true 25 none (.flat [.cs [.int .i64 a3], .fzs 3 (.int .u8) a4]))], 2⟩) hl (To.mk' [] 0 hε rfl (by repeat' first | exact True.intro | exact rfl | apply And.intro) (by repeat' first | exact True.intro | exact rfl | apply And.intro)) (fun s1 zs1 NNs1 hz hnexts1 houts1 => ?_)
      clear hl hT
      have hT := hz; clear hz
      refine rSeq ?_
      refine rSeq ?_
      refine zReg md0 hX rfl rfl rfl ?_
      refine rThen ?_
      refine zCond rfl rfl (fun hc => ?_) (fun hc => ?_)
      · replace hT := sT hc hT
        refine rSkip ?_
        refine rThen ?_
        refine rSeq ?_
        refine rBlock ?_
        refine rSeq ?_
        let x1 := (decide (ByteArray.toList (bytesOf (a2.getD (s1).toNat [])) ≠ ByteArray.toList (bytesOf (a4.getD (s1).toNat []))))
        replace hT := sIf hT; obtain ⟨⟨o1, o2, o3⟩, hT⟩ := hT
        refine zDraw md0 0 [] hX mixed rfl rfl rfl rfl rfl ?_
        refine rThen ?_
        refine zCond rfl rfl (fun hc => ?_) (fun hc => ?_)
        · replace hT := sT hc hT
          refine rSeq ?_
          refine zReg md0 hX rfl rfl rfl ?_
          refine rThen ?_
          refine rRet ?_
          refine rInRet ?_
          refine rThenRet ?_
          refine rThenRet ?_
          exact zTo [] 0 hε (hxs10 _ (houts1 _ (Option.some.inj hT).symm))
        · replace hT := sF hc hT
          refine rSkip ?_
          refine rInNormal ?_
          refine rThen ?_
          replace hT := sIf hT; obtain ⟨o1, hT⟩ := hT
          refine zReg md0 hX rfl rfl rfl ?_
          exact hnexts1 _ (Option.some.inj hT).symm _ (To.mk' [] 0 hε rfl (by repeat' first | exact True.intro | exact rfl | apply And.intro) (by repeat' first | exact True.intro | exact rfl | apply And.intro))
      · replace hT := sF hc hT
        refine rExit ?_
        refine rThenExit ?_
        refine rThenExit ?_
        exact zTo [] 0 hε (hxs11 _ (houts1 _ (Option.some.inj hT).symm))
  · cases h
def stores_New_b1 (N : Nat) (a1 : Int) (s1 : (Int × (List (List Int)))) : Option ((Int × (List (List Int))) ⊕ (List (List Int))) :=
  bif (decide (s1.1 < 3)) then
    let c2 := (formats_Plane N a1 s1.1)
    if c2.isSome = true then
      if inK .i64 ((c2.getD default).1 * (c2.getD default).2) ∧ (0 : Int) ≤ ((c2.getD default).1 * (c2.getD default).2) ∧ ((c2.getD default).1 * (c2.getD default).2) * 8 ≤ 140737488355328 ∧ (0 : Int) ≤ s1.1 ∧ s1.1 < 3 then
        if ((c2.getD default).1 * (c2.getD default).2).toNat = ((List.replicate ((c2.getD default).1 * (c2.getD default).2).toNat 0) : List Int).length then
          if (s1.1).toNat < 3 then
            let x1 := (s1.2.set (s1.1).toNat ((List.replicate ((c2.getD default).1 * (c2.getD default).2).toNat 0) : List Int))
            if inK .i64 (s1.1 + 1) then
              some (.inl ((s1.1 + 1), x1))
            else none
          else none
        else none
      else none
    else none
  else
    some (.inr s1.2)
def stores_New (N : Nat) (a1 : Int) : Option (Int × (List (List Int)) × Int) :=
  let c1 := (formats_Size N a1)
  if c1.isSome = true then
    bif (!(c1.getD default).2.2) then
      some (0, (List.replicate 3 []), 1)
    else
      (iter (stores_New_b1 N a1) N (0, (List.replicate 3 []))).bind fun v1 =>
        some (a1, v1, 0)
  else none
def sp_stores_New (N : Nat) : X.Spec := fun args lk => match args with
  | [.v (.c (.int .i64 a1))] => some ⟨(stores_New N a1).isSome = true, .tup [.agg [.cs [.int .i64 ((stores_New N a1).getD default).1], .fzs 3 (.int .i64) ((stores_New N a1).getD default).2.1], .c (.int .i64 ((stores_New N a1).getD default).2.2)], [], []⟩
  | _ => none
set_option maxRecDepth 100000 in
set_option maxHeartbeats 1000000 in
theorem ok_stores_New (N : Nat) : FnOK Try.prog gt0 43 (sp_stores_New N) := by
  refine fnOK_handed Try.func43 rfl (by kernel_rfl) tt_ok (ktCons (ok_formats_Plane N) (ktCons (ok_formats_Size N) (ktNil))) ?_
  intro args lk r h hp
  unfold sp_stores_New at h
  split at h
  · rename_i a1
    cases h
    obtain ⟨x, hx⟩ := Option.isSome_iff_exists.1 hp
    simp only [hx, Option.getD_some]
    refine hand0 rfl rfl (fun w0 M ε0 hX => ?_)
    refine rCount (fun hε => ?_)
    have hT : stores_New N a1 = some x := hx; clear hx hp; unfold stores_New at hT
    refine rSeq ?_
    refine zReg md0 hX rfl rfl rfl ?_
    refine rThen ?_
    refine rSeq ?_
    refine rSeq ?_
    let c1 := (formats_Size N a1)
    replace hT := sIf hT; obtain ⟨o1, hT⟩ := hT
    refine zReg md0 hX rfl rfl rfl ?_
    refine rThen ?_
    refine rSeq ?_
    refine zReg md0 hX rfl rfl rfl ?_
    refine rThen ?_
    refine zCond rfl rfl (fun hc => ?_) (fun hc => ?_)
    · replace hT := sT hc hT
      refine rSeq ?_
      refine zReg md0 hX rfl rfl rfl ?_
      refine rThen ?_
      refine rRet ?_
      refine rThenRet ?_
      have hy := Option.some.inj hT; subst hy
      exact zEnd0 hX rfl
    · replace hT := sF hc hT
      refine rSkip ?_
      refine rThen ?_
      refine rSeq ?_
      refine zReg md0 hX rfl rfl rfl ?_
      refine rThen ?_
      refine rSeq ?_
      refine rSeq ?_
      refine zReg md0 hX rfl rfl rfl ?_
      refine rThen ?_
      refine rBlock ?_
      replace hT := sBind hT; obtain ⟨w1, hl, hT⟩ := hT
      refine rJoinA (fun v1 => v1 = w1) (fun v1 => ⟨[(2, .v (.c (.ptr 0 0 0 0 0 0))), (3, .v (.c (.int .i64 0))), (7, .v (.c (.ptr 1 0 0 0 0 0)))], [(0, .mem true 64 none (.flat [.cs [.int .i64 0], .fzs 3 (.int .i64) (List.replicate 3 [])])), (1, .mem true 64 none (.flat [.cs [.int .i64 a1], .fzs 3 (.int .i64) v1]))], 2⟩) (.exit 0) (fun v1 hv => ?_) (fun hxs10 => ?_)
      · subst hv; clear hl
        refine rInHit ?_
        refine rThen ?_
        refine rSeq ?_
        refine zReg md0 hX rfl rfl rfl ?_
        refine rThen ?_
        refine rRet ?_
        have hy := Option.some.inj hT; subst hy
        exact zEnd0 hX rfl
      refine rLoopM (stores_New_b1 N a1) (fun s1 => ⟨[(0, .v (.c (.int .i64 a1))), (2, .v (.c (.ptr 0 0 0 0 0 0))), (3, .v (.c (.int .i64 0))), (7, .v (.c (.ptr 1 0 0 0 0 0))), (22, .v (.c (.int .i64 s1.1)))], [(0, .mem true 64 none (.flat [.cs [.int .i64 0], .fzs 3 (.int .i64) (List.replicate 3 [])])), (1, .mem true 64 none (.flat [.cs [.int .i64 a1], .fzs 3 (.int .i64) s1.2]))], 2⟩) hl (To.mk' [] 0 hε rfl (by repeat' first | exact True.intro | exact rfl | apply And.intro) (by repeat' first | exact True.intro | exact rfl | apply And.intro)) (fun s1 zs1 NNs1 hz hnexts1 houts1 => ?_)
      clear hl hT
      have hT := hz; clear hz
      refine rSeq ?_
      refine zReg md0 hX rfl rfl rfl ?_
      refine rThen ?_
      refine rSeq ?_
      refine zCond rfl rfl (fun hc => ?_) (fun hc => ?_)
      · replace hT := sT hc hT
        refine rSkip ?_
        refine rThen ?_
        refine rSeq ?_
        refine rBlock ?_
        refine rSeq ?_
        refine zReg md0 hX rfl rfl rfl ?_
        refine rThen ?_
        refine rSeq ?_
        let c2 := (formats_Plane N a1 s1.1)
        replace hT := sIf hT; obtain ⟨o1, hT⟩ := hT
        refine zReg md0 hX rfl rfl rfl ?_
        refine rThen ?_
        refine rRegSL ?_
        replace hT := sIf hT; obtain ⟨⟨o1, o2, o3, o4, o5⟩, hT⟩ := hT
        refine rSLCut md0 7 hX rfl rfl rfl (by (repeat' first | exact True.intro | with_reducible assumption | (with_reducible apply And.intro) | intro _) <;> first | assumption | exact rfl | omega | exact Nat.le_of_ble_eq_true rfl | exact selF (by assumption) | exact selT (by assumption) | exact And.intro rfl rfl | exact And.intro (by assumption) rfl | exact And.intro (by omega) rfl | (simp only [inK] at *; omega) | (simp_all [sel] <;> fail) | fail) ?_
        replace hT := sIf hT; obtain ⟨f1, hT⟩ := hT
        refine rFreezeL 2 (.int .i64) ((List.replicate ((c2.getD default).1 * (c2.getD default).2).toNat 0) : List Int) [(0, .v (.c (.int .i64 a1))), (2, .v (.c (.ptr 0 0 0 0 0 0))), (3, .v (.c (.int .i64 0))), (7, .v (.c (.ptr 1 0 0 0 0 0))), (8, .v (.c (.int .i64 s1.1))), (9, .v (.c (.int .i64 (c2.getD default).1))), (10, .v (.c (.int .i64 (c2.getD default).2))), (22, .v (.c (.int .i64 s1.1))), (23, .v (.c (.bool (decide (s1.1 < 3))))), (24, .v (.c (.int .i64 s1.1))), (25, .tup [.c (.int .i64 (c2.getD default).1), .c (.int .i64 (c2.getD default).2)]), (26, .v (.c (.int .i64 a1))), (27, .v (.c (.int .i64 s1.1))), (28, .tup [.c (.int .i64 (c2.getD default).1), .c (.int .i64 (c2.getD default).2)]), (29, .v (.c (.int .i64 (c2.getD default).1))), (30, .v (.c (.int .i64 (c2.getD default).2))), (31, .v (.c (.int .i64 s1.1))), (32, .v (.c (.int .i64 (c2.getD default).1))), (33, .v (.c (.int .i64 (c2.getD default).2))), (34, .v (.c (.int .i64 ((c2.getD default).1 * (c2.getD default).2)))), (35, .v (.c (.fz (.int .i64) ((List.replicate ((c2.getD default).1 * (c2.getD default).2).toNat 0) : List Int)))), (36, .v (.c (.ptr 1 0 0 1 0 0))), (37, .v (.c (.ptr 1 0 0 1 1 (s1.1).toNat)))] [(0, .mem true 64 none (.flat [.cs [.int .i64 0], .fzs 3 (.int .i64) (List.replicate 3 [])])), (1, .mem true 64 none (.flat [.cs [.int .i64 a1], .fzs 3 (.int .i64) s1.2]))] rfl rfl (by (repeat' first | exact True.intro | exact rfl | apply And.intro) <;> first | assumption | rfl) (by (repeat' first | exact True.intro | exact rfl | apply And.intro) <;> first | assumption | rfl) ?_
        replace hT := sIf hT; obtain ⟨o1, hT⟩ := hT
        let x1 := (s1.2.set (s1.1).toNat ((List.replicate ((c2.getD default).1 * (c2.getD default).2).toNat 0) : List Int))
        refine rSLDone md0 hX rfl rfl rfl (by (repeat' first | exact True.intro | with_reducible assumption | (with_reducible apply And.intro) | intro _) <;> first | assumption | exact rfl | omega | exact Nat.le_of_ble_eq_true rfl | exact selF (by assumption) | exact selT (by assumption) | exact And.intro rfl rfl | exact And.intro (by assumption) rfl | exact And.intro (by omega) rfl | (simp only [inK] at *; omega) | (simp_all [sel] <;> fail) | fail) ?_
        refine rInNormal ?_
        refine rThen ?_
        replace hT := sIf hT; obtain ⟨o1, hT⟩ := hT
        refine zReg md0 hX rfl rfl rfl ?_
        exact hnexts1 _ (Option.some.inj hT).symm _ (To.mk' [] 0 hε rfl (by repeat' first | exact True.intro | exact rfl | apply And.intro) (by repeat' first | exact True.intro | exact rfl | apply And.intro))
      · replace hT := sF hc hT
        refine rExit ?_
        refine rThenExit ?_
        refine rThenExit ?_
        exact zTo [] 0 hε (hxs10 _ (houts1 _ (Option.some.inj hT).symm))
  · cases h
def ref34_New_b1 (N : Nat) (a1 : Int) (s1 : (Int × (List (List Int)))) : Option ((Int × (List (List Int))) ⊕ (List (List Int))) :=
  bif (decide (s1.1 < 3)) then
    let c1 := (ref17_Wide N a1 s1.1)
    let c2 := (ref17_High N a1 s1.1)
    if c1.isSome = true ∧ c2.isSome = true ∧ inK .i64 ((c1.getD default) * (c2.getD default)) ∧ (0 : Int) ≤ ((c1.getD default) * (c2.getD default)) ∧ ((c1.getD default) * (c2.getD default)) * 8 ≤ 140737488355328 ∧ (0 : Int) ≤ s1.1 ∧ s1.1 < 3 then
      if ((c1.getD default) * (c2.getD default)).toNat = ((List.replicate ((c1.getD default) * (c2.getD default)).toNat 0) : List Int).length then
        if (s1.1).toNat < 3 then
          let x1 := (s1.2.set (s1.1).toNat ((List.replicate ((c1.getD default) * (c2.getD default)).toNat 0) : List Int))
          if inK .i64 (s1.1 + 1) then
            some (.inl ((s1.1 + 1), x1))
          else none
        else none
      else none
    else none
  else
    some (.inr s1.2)
def ref34_New (N : Nat) (a1 : Int) : Option (Int × (List (List Int))) :=
  (iter (ref34_New_b1 N a1) N (0, (List.replicate 3 []))).bind fun v1 =>
    some (a1, v1)
def sp_ref34_New (N : Nat) : X.Spec := fun args lk => match args with
  | [.v (.c (.int .i64 a1))] => some ⟨(ref34_New N a1).isSome = true, .v (.agg [.cs [.int .i64 ((ref34_New N a1).getD default).1], .fzs 3 (.int .i64) ((ref34_New N a1).getD default).2]), [], []⟩
  | _ => none
set_option maxRecDepth 100000 in
set_option maxHeartbeats 1000000 in
theorem ok_ref34_New (N : Nat) : FnOK Try.prog gt0 44 (sp_ref34_New N) := by
  refine fnOK_handed Try.func44 rfl (by kernel_rfl) tt_ok (ktCons (ok_ref17_High N) (ktCons (ok_ref17_Wide N) (ktNil))) ?_
  intro args lk r h hp
  unfold sp_ref34_New at h
  split at h
  · rename_i a1
    cases h
    obtain ⟨x, hx⟩ := Option.isSome_iff_exists.1 hp
    simp only [hx, Option.getD_some]
    refine hand0 rfl rfl (fun w0 M ε0 hX => ?_)
    refine rCount (fun hε => ?_)
    have hT : ref34_New N a1 = some x := hx; clear hx hp; unfold ref34_New at hT
    refine rSeq ?_
    refine zReg md0 hX rfl rfl rfl ?_
    refine rThen ?_
    refine rSeq ?_
    refine zReg md0 hX rfl rfl rfl ?_
    refine rThen ?_
    refine rSeq ?_
    refine rSeq ?_
    refine zReg md0 hX rfl rfl rfl ?_
    refine rThen ?_
    refine rBlock ?_
    replace hT := sBind hT; obtain ⟨w1, hl, hT⟩ := hT
    refine rJoinA (fun v1 => v1 = w1) (fun v1 => ⟨[(2, .v (.c (.ptr 0 0 0 0 0 0))), (3, .v (.c (.ptr 1 0 0 0 0 0)))], [(0, .mem true 64 none (.flat [.cs [.int .i64 0], .fzs 3 (.int .i64) (List.replicate 3 [])])), (1, .mem true 64 none (.flat [.cs [.int .i64 a1], .fzs 3 (.int .i64) v1]))], 2⟩) (.exit 0) (fun v1 hv => ?_) (fun hxs10 => ?_)
    · subst hv; clear hl
      refine rInHit ?_
      refine rThen ?_
      refine rSeq ?_
      refine zReg md0 hX rfl rfl rfl ?_
      refine rThen ?_
      refine rRet ?_
      have hy := Option.some.inj hT; subst hy
      exact zEnd0 hX rfl
    refine rLoopM (ref34_New_b1 N a1) (fun s1 => ⟨[(0, .v (.c (.int .i64 a1))), (2, .v (.c (.ptr 0 0 0 0 0 0))), (3, .v (.c (.ptr 1 0 0 0 0 0))), (4, .v (.c (.int .i64 s1.1)))], [(0, .mem true 64 none (.flat [.cs [.int .i64 0], .fzs 3 (.int .i64) (List.replicate 3 [])])), (1, .mem true 64 none (.flat [.cs [.int .i64 a1], .fzs 3 (.int .i64) s1.2]))], 2⟩) hl (To.mk' [] 0 hε rfl (by repeat' first | exact True.intro | exact rfl | apply And.intro) (by repeat' first | exact True.intro | exact rfl | apply And.intro)) (fun s1 zs1 NNs1 hz hnexts1 houts1 => ?_)
    clear hl hT
    have hT := hz; clear hz
    refine rSeq ?_
    refine rSeq ?_
    refine zReg md0 hX rfl rfl rfl ?_
    refine rThen ?_
    refine zCond rfl rfl (fun hc => ?_) (fun hc => ?_)
    · replace hT := sT hc hT
      refine rSkip ?_
      refine rThen ?_
      refine rSeq ?_
      refine rBlock ?_
      refine rRegSL ?_
      let c1 := (ref17_Wide N a1 s1.1)
      let c2 := (ref17_High N a1 s1.1)
      replace hT := sIf hT; obtain ⟨⟨o1, o2, o3, o4, o5, o6, o7⟩, hT⟩ := hT
      refine rSLCut md0 11 hX rfl rfl rfl (by (repeat' first | exact True.intro | with_reducible assumption | (with_reducible apply And.intro) | intro _) <;> first | assumption | exact rfl | omega | exact Nat.le_of_ble_eq_true rfl | exact selF (by assumption) | exact selT (by assumption) | exact And.intro rfl rfl | exact And.intro (by assumption) rfl | exact And.intro (by omega) rfl | (simp only [inK] at *; omega) | (simp_all [sel] <;> fail) | fail) ?_
      replace hT := sIf hT; obtain ⟨f1, hT⟩ := hT
      refine rFreezeL 2 (.int .i64) ((List.replicate ((c1.getD default) * (c2.getD default)).toNat 0) : List Int) [(0, .v (.c (.int .i64 a1))), (2, .v (.c (.ptr 0 0 0 0 0 0))), (3, .v (.c (.ptr 1 0 0 0 0 0))), (4, .v (.c (.int .i64 s1.1))), (7, .v (.c (.int .i64 s1.1))), (8, .v (.c (.bool (decide (s1.1 < 3))))), (11, .v (.c (.int .i64 s1.1))), (12, .v (.c (.int .i64 a1))), (13, .v (.c (.int .i64 s1.1))), (14, .v (.c (.int .i64 (c1.getD default)))), (15, .v (.c (.int .i64 a1))), (16, .v (.c (.int .i64 s1.1))), (17, .v (.c (.int .i64 (c2.getD default)))), (18, .v (.c (.int .i64 ((c1.getD default) * (c2.getD default))))), (19, .v (.c (.fz (.int .i64) ((List.replicate ((c1.getD default) * (c2.getD default)).toNat 0) : List Int)))), (20, .v (.c (.ptr 1 0 0 1 0 0))), (21, .v (.c (.ptr 1 0 0 1 1 (s1.1).toNat)))] [(0, .mem true 64 none (.flat [.cs [.int .i64 0], .fzs 3 (.int .i64) (List.replicate 3 [])])), (1, .mem true 64 none (.flat [.cs [.int .i64 a1], .fzs 3 (.int .i64) s1.2]))] rfl rfl (by (repeat' first | exact True.intro | exact rfl | apply And.intro) <;> first | assumption | rfl) (by (repeat' first | exact True.intro | exact rfl | apply And.intro) <;> first | assumption | rfl) ?_
      replace hT := sIf hT; obtain ⟨o1, hT⟩ := hT
      let x1 := (s1.2.set (s1.1).toNat ((List.replicate ((c1.getD default) * (c2.getD default)).toNat 0) : List Int))
      refine rSLDone md0 hX rfl rfl rfl (by (repeat' first | exact True.intro | with_reducible assumption | (with_reducible apply And.intro) | intro _) <;> first | assumption | exact rfl | omega | exact Nat.le_of_ble_eq_true rfl | exact selF (by assumption) | exact selT (by assumption) | exact And.intro rfl rfl | exact And.intro (by assumption) rfl | exact And.intro (by omega) rfl | (simp only [inK] at *; omega) | (simp_all [sel] <;> fail) | fail) ?_
      refine rInNormal ?_
      refine rThen ?_
      replace hT := sIf hT; obtain ⟨o1, hT⟩ := hT
      refine zReg md0 hX rfl rfl rfl ?_
      exact hnexts1 _ (Option.some.inj hT).symm _ (To.mk' [] 0 hε rfl (by repeat' first | exact True.intro | exact rfl | apply And.intro) (by repeat' first | exact True.intro | exact rfl | apply And.intro))
    · replace hT := sF hc hT
      refine rExit ?_
      refine rThenExit ?_
      refine rThenExit ?_
      exact zTo [] 0 hε (hxs10 _ (houts1 _ (Option.some.inj hT).symm))
  · cases h
def slices_Equal_int_int_b1 (N : Nat) (a1 : (List Int)) (a2 : (List Int)) (s1 : Int) : Option (Int ⊕ (Unit ⊕ Unit)) :=
  bif (decide (s1 < (a1.length : Int))) then
    if (0 : Int) ≤ s1 ∧ s1 < (a1.length : Int) ∧ s1 < (a2.length : Int) then
      bif (decide ((a1.getD (s1).toNat 0) ≠ (a2.getD (s1).toNat 0))) then
        some (.inr (Sum.inl ()))
      else
        if inK .i64 (s1 + 1) then
          some (.inl (s1 + 1))
        else none
    else none
  else
    some (.inr (Sum.inr ()))
def slices_Equal_int_int (N : Nat) (a1 : (List Int)) (a2 : (List Int)) : Option Bool :=
  bif (decide ((a1.length : Int) ≠ (a2.length : Int))) then
    some false
  else
    (iter (slices_Equal_int_int_b1 N a1 a2) N 0).bind fun w1 =>
      (Sum.elim (fun v1 =>
        some false
      )
        (fun v2 =>
          some true
        )
      ) w1
def sp_slices_Equal_int_int (N : Nat) : X.Spec := fun args lk => match args with
  | [.v (.c (.fz (.int .i64) a1)), .v (.c (.fz (.int .i64) a2))] => some ⟨(slices_Equal_int_int N a1 a2).isSome = true, .v (.c (.bool ((slices_Equal_int_int N a1 a2).getD default))), [], []⟩
  | _ => none
set_option maxRecDepth 100000 in
set_option maxHeartbeats 1000000 in
theorem ok_slices_Equal_int_int (N : Nat) : FnOK Try.prog gt0 70 (sp_slices_Equal_int_int N) := by
  refine fnOK_handed Try.func70 rfl (by kernel_rfl) tt_ok (ktNil) ?_
  intro args lk r h hp
  unfold sp_slices_Equal_int_int at h
  split at h
  · rename_i a1 a2
    change (List Int) at a1
    change (List Int) at a2
    cases h
    obtain ⟨x, hx⟩ := Option.isSome_iff_exists.1 hp
    simp only [hx, Option.getD_some]
    refine hand0 rfl rfl (fun w0 M ε0 hX => ?_)
    refine rCount (fun hε => ?_)
    have hT : slices_Equal_int_int N a1 a2 = some x := hx; clear hx hp; unfold slices_Equal_int_int at hT
    refine rSeq ?_
    refine zReg md0 hX rfl rfl rfl ?_
    refine rThen ?_
    refine rSeq ?_
    refine rSeq ?_
    refine zReg md0 hX rfl rfl rfl ?_
    refine rThen ?_
    refine zCond rfl rfl (fun hc => ?_) (fun hc => ?_)
    · replace hT := sT hc hT
      refine rSeq ?_
      refine zReg md0 hX rfl rfl rfl ?_
      refine rThen ?_
      refine rRet ?_
      refine rThenRet ?_
      have hy := Option.some.inj hT; subst hy
      exact zEnd0 hX rfl
    · replace hT := sF hc hT
      refine rSkip ?_
      refine rThen ?_
      refine rSeq ?_
      refine rSeq ?_
      refine zReg md0 hX rfl rfl rfl ?_
      refine rThen ?_
      refine rBlock ?_
      replace hT := sBind hT; obtain ⟨w1, hl, hT⟩ := hT
      refine rJoinA (fun v1 => (Sum.inl v1) = w1) (fun v1 => ⟨[(4, .v (.c (.bool false)))], [], 0⟩) .ret (fun v1 hv => ?_) (fun hxs10 => ?_)
      · subst hv; clear hl; replace hT := (sElimL hT)
        refine rInRet ?_
        refine rThenRet ?_
        have hy := Option.some.inj hT; subst hy
        exact zEnd0 hX rfl
      refine rJoinA (fun v2 => (Sum.inr v2) = w1) (fun v2 => ⟨[(4, .v (.c (.bool false)))], [], 0⟩) (.exit 0) (fun v2 hv => ?_) (fun hxs11 => ?_)
      · subst hv; clear hl; replace hT := (sElimR hT)
        refine rInHit ?_
        refine rThen ?_
        refine rSeq ?_
        refine zReg md0 hX rfl rfl rfl ?_
        refine rThen ?_
        refine rRet ?_
        have hy := Option.some.inj hT; subst hy
        exact zEnd0 hX rfl
      refine rLoopM (slices_Equal_int_int_b1 N a1 a2) (fun s1 => ⟨[(0, .v (.c (.fz (.int .i64) a1))), (1, .v (.c (.fz (.int .i64) a2))), (4, .v (.c (.bool false))), (12, .v (.c (.int .i64 (a1.length : Int)))), (13, .v (.c (.int .i64 s1)))], [], 0⟩) hl (To.mk' [] 0 hε rfl (by repeat' first | exact True.intro | exact rfl | apply And.intro) (by repeat' first | exact True.intro | exact rfl | apply And.intro)) (fun s1 zs1 NNs1 hz hnexts1 houts1 => ?_)
      clear hl hT
      have hT := hz; clear hz
      refine rSeq ?_
      refine zReg md0 hX rfl rfl rfl ?_
      refine rThen ?_
      refine rSeq ?_
      refine zCond rfl rfl (fun hc => ?_) (fun hc => ?_)
      · replace hT := sT hc hT
        refine rSkip ?_
        refine rThen ?_
        refine rSeq ?_
        refine rBlock ?_
        refine rSeq ?_
        refine zReg md0 hX rfl rfl rfl ?_
        refine rThen ?_
        refine rSeq ?_
        replace hT := sIf hT; obtain ⟨⟨o1, o2, o3⟩, hT⟩ := hT
        refine zDraw md0 0 [] hX mixed rfl rfl rfl rfl rfl ?_
        refine rThen ?_
        refine zCond rfl rfl (fun hc => ?_) (fun hc => ?_)
        · replace hT := sT hc hT
          refine rSeq ?_
          refine zReg md0 hX rfl rfl rfl ?_
          refine rThen ?_
          refine rRet ?_
          refine rInRet ?_
          refine rThenRet ?_
          refine rThenRet ?_
          exact zTo [] 0 hε (hxs10 _ (houts1 _ (Option.some.inj hT).symm))
        · replace hT := sF hc hT
          refine rSkip ?_
          refine rInNormal ?_
          refine rThen ?_
          replace hT := sIf hT; obtain ⟨o1, hT⟩ := hT
          refine zReg md0 hX rfl rfl rfl ?_
          exact hnexts1 _ (Option.some.inj hT).symm _ (To.mk' [] 0 hε rfl (by repeat' first | exact True.intro | exact rfl | apply And.intro) (by repeat' first | exact True.intro | exact rfl | apply And.intro))
      · replace hT := sF hc hT
        refine rExit ?_
        refine rThenExit ?_
        refine rThenExit ?_
        exact zTo [] 0 hε (hxs11 _ (houts1 _ (Option.some.inj hT).symm))
  · cases h
def stores_Same_b1 (N : Nat) (a2 : (List (List Int))) (a4 : (List (List Int))) (s1 : (Bool × Int)) : Option ((Bool × Int) ⊕ Bool) :=
  bif (decide (s1.2 < 3)) then
    if (0 : Int) ≤ s1.2 ∧ s1.2 < 3 ∧ (s1.2).toNat < 3 then
      let c1 := (slices_Equal_int_int N (a2.getD (s1.2).toNat []) (a4.getD (s1.2).toNat []))
      if (s1.1 = true → (0 : Int) ≤ s1.2) ∧ (s1.1 = true → s1.2 < 3) ∧ (s1.1 = true → (s1.2).toNat < 3) ∧ (s1.1 = true → c1.isSome = true) then
        if inK .i64 (s1.2 + 1) then
          some (.inl ((bif s1.1 then (c1.getD default) else false), (s1.2 + 1)))
        else none
      else none
    else none
  else
    some (.inr s1.1)
def stores_Same (N : Nat) (a1 : Int) (a2 : (List (List Int))) (a3 : Int) (a4 : (List (List Int))) : Option Bool :=
  (iter (stores_Same_b1 N a2 a4) N ((decide (a1 = a3)), 0)).bind fun v1 =>
    some v1
def sp_stores_Same (N : Nat) : X.Spec := fun args lk => match args with
  | [.v (.agg [.cs [.int .i64 a1], .fzs 3 (.int .i64) a2]), .v (.agg [.cs [.int .i64 a3], .fzs 3 (.int .i64) a4])] => some ⟨(stores_Same N a1 a2 a3 a4).isSome = true, .v (.c (.bool ((stores_Same N a1 a2 a3 a4).getD default))), [], []⟩
  | _ => none
set_option maxRecDepth 100000 in
set_option maxHeartbeats 1000000 in
theorem ok_stores_Same (N : Nat) : FnOK Try.prog gt0 45 (sp_stores_Same N) := by
  refine fnOK_handed Try.func45 rfl (by kernel_rfl) tt_ok (ktCons (ok_slices_Equal_int_int N) (ktNil)) ?_
  intro args lk r h hp
  unfold sp_stores_Same at h
  split at h
  · rename_i a1 a2 a3 a4
    change (List (List Int)) at a2
    change (List (List Int)) at a4
    cases h
    obtain ⟨x, hx⟩ := Option.isSome_iff_exists.1 hp
    simp only [hx, Option.getD_some]
    refine hand0 rfl rfl (fun w0 M ε0 hX => ?_)
    refine rCount (fun hε => ?_)
    have hT : stores_Same N a1 a2 a3 a4 = some x := hx; clear hx hp; unfold stores_Same at hT
    refine rSeq ?_
    refine zReg md0 hX rfl rfl rfl ?_
    refine rThen ?_
    refine rSeq ?_
    refine zReg md0 hX rfl rfl rfl ?_
    refine rThen ?_
    refine rSeq ?_
    refine rSeq ?_
    refine zReg md0 hX rfl rfl rfl ?_
    refine rThen ?_
    refine rBlock ?_
    replace hT := sBind hT; obtain ⟨w1, hl, hT⟩ := hT
    refine rJoinA (fun v1 => v1 = w1) (fun v1 => ⟨[(4, .v (.c (.bool false))), (5, .v (.c (.bool v1)))], [], 2⟩) (.exit 0) (fun v1 hv => ?_) (fun hxs10 => ?_)
    · subst hv; clear hl
      refine rInHit ?_
      refine rThen ?_
      refine rSeq ?_
      refine zReg md0 hX rfl rfl rfl ?_
      refine rThen ?_
      refine rRet ?_
      have hy := Option.some.inj hT; subst hy
      exact zEnd0 hX rfl
    refine rLoopM (stores_Same_b1 N a2 a4) (fun s1 => ⟨[(3, .v (.c (.ptr 1 0 0 0 0 0))), (4, .v (.c (.bool false))), (5, .v (.c (.bool s1.1))), (14, .v (.agg [.fzs 3 (.int .i64) a2])), (15, .v (.c (.int .i64 s1.2)))], [(1, .mem true 64 none (.flat [.cs [.int .i64 a3], .fzs 3 (.int .i64) a4]))], 2⟩) hl (To.mk' [] 0 hε rfl (by repeat' first | exact True.intro | exact rfl | apply And.intro) (by repeat' first | exact True.intro | exact rfl | apply And.intro)) (fun s1 zs1 NNs1 hz hnexts1 houts1 => ?_)
    clear hl hT
    have hT := hz; clear hz
    refine rSeq ?_
    refine zReg md0 hX rfl rfl rfl ?_
    refine rThen ?_
    refine rSeq ?_
    refine zCond rfl rfl (fun hc => ?_) (fun hc => ?_)
    · replace hT := sT hc hT
      refine rSkip ?_
      refine rThen ?_
      refine rSeq ?_
      refine rBlock ?_
      refine rSeq ?_
      replace hT := sIf hT; obtain ⟨⟨o1, o2, o3⟩, hT⟩ := hT
      refine zReg md0 hX rfl rfl rfl ?_
      refine rThen ?_
      let c1 := (slices_Equal_int_int N (a2.getD (s1.2).toNat []) (a4.getD (s1.2).toNat []))
      replace hT := sIf hT; obtain ⟨⟨o1, o2, o3, o4⟩, hT⟩ := hT
      refine rRegC md0 hX rfl rfl rfl (by (repeat' first | exact True.intro | with_reducible assumption | (with_reducible apply And.intro) | intro _) <;> first | assumption | exact o1 (by assumption) | exact o2 (by assumption) | exact o3 (by assumption) | exact o4 (by assumption) | exact rfl | omega | exact Nat.le_of_ble_eq_true rfl | exact selF (by assumption) | exact selT (by assumption) | exact And.intro rfl rfl | exact And.intro (by assumption) rfl | exact And.intro (by omega) rfl | (simp only [inK] at *; omega) | (simp_all [sel] <;> fail) | fail) ?_
      refine rInNormal ?_
      refine rThen ?_
      replace hT := sIf hT; obtain ⟨o1, hT⟩ := hT
      refine zReg md0 hX rfl rfl rfl ?_
      exact hnexts1 _ (Option.some.inj hT).symm _ (To.mk' [] 0 hε rfl (by repeat' first | exact True.intro | exact rfl | apply And.intro) (by repeat' first | exact True.intro | exact rfl | apply And.intro))
    · replace hT := sF hc hT
      refine rExit ?_
      refine rThenExit ?_
      refine rThenExit ?_
      exact zTo [] 0 hε (hxs10 _ (houts1 _ (Option.some.inj hT).symm))
  · cases h
def law34_StoresDiffs (N : Nat) (a1 : Int) (a2 : (List (List Int))) (a3 : Int) (a4 : (List (List Int))) (a5 : Int) (a6 : (List (List Int))) : Option Bool :=
  let c1 := (law17_Light N a1 a2)
  let c2 := (law17_Light N a3 a4)
  let c3 := (law34_Light N a5 a6)
  let x4 := (bif (bif (bif (!(c1.getD default)) then true else (!(c2.getD default))) then true else (!(c3.getD default))) then true else (bif (decide ((3 : Int) ≤ a5)) then (decide (a5 ≤ 5)) else false))
  if c1.isSome = true ∧ ((!(!(c1.getD default))) = true → c2.isSome = true) ∧ ((!(bif (!(c1.getD default)) then true else (!(c2.getD default)))) = true → c3.isSome = true) ∧ ((!(bif (bif (!(c1.getD default)) then true else (!(c2.getD default))) then true else (!(c3.getD default)))) = true → ((decide ((3 : Int) ≤ a5)) = true → ((!(bif (bif (!(c1.getD default)) then true else (!(c2.getD default))) then true else (!(c3.getD default)))) && (decide ((3 : Int) ≤ a5))) = true)) then
    bif x4 then
      let c4 := (law34_lives N)
      if c4.isSome = true then
        some (c4.getD default)
      else none
    else
      let c5 := (stores_Diff N a1 a2 a3 a4)
      if c5.isSome = true then
        let c6 := (ref17_Right N a1 a2)
        let c7 := (ref17_Right N a3 a4)
        let x5 := (bif (bif (c6.getD default) then (c7.getD default) else false) then (decide (a1 = a3)) else false)
        if c6.isSome = true ∧ ((c6.getD default) = true → c7.isSome = true) then
          joinK (fun (v1 : Unit) =>
            let c8 := (stores_Add N a1 a2 a5 a6)
            if c8.isSome = true then
              let c9 := (ref34_Right N a5 a6)
              if c9.isSome = true then
                let c10 := (ref34_Weight N a5 a6)
                if ((c9.getD default) = true → c10.isSome = true) then
                  let c11 := (ref17_Right N a1 a2)
                  let c12 := (ref34_Right N a5 a6)
                  let x6 := (bif (bif (c11.getD default) then (c12.getD default) else false) then (decide (a1 = a5)) else false)
                  if c11.isSome = true ∧ ((c11.getD default) = true → c12.isSome = true) then
                    joinK (fun (v2 : Unit) =>
                      let c13 := (stores_New N a5)
                      if c13.isSome = true then
                        let c14 := (ref16_Many N a5)
                        if c14.isSome = true then
                          joinK (fun (v3 : Unit) =>
                            let c15 := (stores_Right N a5 a6)
                            let c16 := (ref34_Right N a5 a6)
                            let c17 := (stores_Weight N a5 a6)
                            let c18 := (stores_Same N a5 a6 a5 a6)
                            let c19 := (stores_Same N a5 a6 (c5.getD default).1 (c5.getD default).2.1)
                            let c20 := (ref34_Same N a5 a6 (c5.getD default).1 (c5.getD default).2.1)
                            let c21 := (law34_lives N)
                            let x7 := (bif (bif (bif (bif ((c15.getD default) == (c16.getD default)) then (decide ((c17.getD default) = (bif (c9.getD default) then (c10.getD default) else 0))) else false) then (c18.getD default) else false) then ((c19.getD default) == (c20.getD default)) else false) then (c21.getD default) else false)
                            if c15.isSome = true ∧ c16.isSome = true ∧ (((c15.getD default) == (c16.getD default)) = true → c17.isSome = true) ∧ ((bif ((c15.getD default) == (c16.getD default)) then (decide ((c17.getD default) = (bif (c9.getD default) then (c10.getD default) else 0))) else false) = true → c18.isSome = true) ∧ ((bif (bif ((c15.getD default) == (c16.getD default)) then (decide ((c17.getD default) = (bif (c9.getD default) then (c10.getD default) else 0))) else false) then (c18.getD default) else false) = true → c19.isSome = true) ∧ ((bif (bif ((c15.getD default) == (c16.getD default)) then (decide ((c17.getD default) = (bif (c9.getD default) then (c10.getD default) else 0))) else false) then (c18.getD default) else false) = true → c20.isSome = true) ∧ ((bif (bif (bif ((c15.getD default) == (c16.getD default)) then (decide ((c17.getD default) = (bif (c9.getD default) then (c10.getD default) else 0))) else false) then (c18.getD default) else false) then ((c19.getD default) == (c20.getD default)) else false) = true → c21.isSome = true) then
                              some x7
                            else none
                          ) fun k3 =>
                            bif (decide ((c14.getD default) = 0)) then
                              let c22 := (ref34_Same N (c13.getD default).1 (c13.getD default).2.1 0 (List.replicate 3 []))
                              if ((!(decide ((c13.getD default).2.2 ≠ 1))) = true → c22.isSome = true) then
                                bif (bif (decide ((c13.getD default).2.2 ≠ 1)) then true else (!(c22.getD default))) then
                                  some false
                                else
                                  k3 ()
                              else none
                            else
                              let c23 := (ref34_New N a5)
                              let c24 := (ref34_Same N (c13.getD default).1 (c13.getD default).2.1 (c23.getD default).1 (c23.getD default).2)
                              if ((!(decide ((c13.getD default).2.2 ≠ 0))) = true → c23.isSome = true) ∧ ((!(decide ((c13.getD default).2.2 ≠ 0))) = true → c24.isSome = true) then
                                bif (bif (decide ((c13.getD default).2.2 ≠ 0)) then true else (!(c24.getD default))) then
                                  some false
                                else
                                  k3 ()
                              else none
                        else none
                      else none
                    ) fun k2 =>
                      bif x6 then
                        let c25 := (ref34_Add N a1 a2 a5 a6)
                        let c26 := (ref17_Same N (c8.getD default).1 (c8.getD default).2.1 (c25.getD default).1 (c25.getD default).2)
                        if ((!(decide ((c8.getD default).2.2 ≠ 0))) = true → c25.isSome = true) ∧ ((!(decide ((c8.getD default).2.2 ≠ 0))) = true → c26.isSome = true) then
                          bif (bif (decide ((c8.getD default).2.2 ≠ 0)) then true else (!(c26.getD default))) then
                            some false
                          else
                            k2 ()
                        else none
                      else
                        let c27 := (ref17_Same N (c8.getD default).1 (c8.getD default).2.1 0 (List.replicate 3 []))
                        if ((!(decide ((c8.getD default).2.2 ≠ 1))) = true → c27.isSome = true) then
                          bif (bif (decide ((c8.getD default).2.2 ≠ 1)) then true else (!(c27.getD default))) then
                            some false
                          else
                            k2 ()
                        else none
                  else none
                else none
              else none
            else none
          ) fun k1 =>
            bif x5 then
              let c28 := (ref34_Diff N a1 a2 a3 a4)
              let c29 := (ref34_Same N (c5.getD default).1 (c5.getD default).2.1 (c28.getD default).1 (c28.getD default).2)
              if ((!(decide ((c5.getD default).2.2 ≠ 0))) = true → c28.isSome = true) ∧ ((!(decide ((c5.getD default).2.2 ≠ 0))) = true → c29.isSome = true) then
                bif (bif (decide ((c5.getD default).2.2 ≠ 0)) then true else (!(c29.getD default))) then
                  some false
                else
                  k1 ()
              else none
            else
              let c30 := (ref34_Same N (c5.getD default).1 (c5.getD default).2.1 0 (List.replicate 3 []))
              if ((!(decide ((c5.getD default).2.2 ≠ 1))) = true → c30.isSome = true) then
                bif (bif (decide ((c5.getD default).2.2 ≠ 1)) then true else (!(c30.getD default))) then
                  some false
                else
                  k1 ()
              else none
        else none
      else none
  else none
def sp_law34_StoresDiffs (N : Nat) : X.Spec := fun args lk => match args with
  | [.v (.agg [.cs [.int .i64 a1], .fzs 3 (.int .u8) a2]), .v (.agg [.cs [.int .i64 a3], .fzs 3 (.int .u8) a4]), .v (.agg [.cs [.int .i64 a5], .fzs 3 (.int .i64) a6])] => some ⟨(law34_StoresDiffs N a1 a2 a3 a4 a5 a6).isSome = true, .v (.c (.bool ((law34_StoresDiffs N a1 a2 a3 a4 a5 a6).getD default))), [], []⟩
  | _ => none
set_option maxRecDepth 100000 in
set_option maxHeartbeats 1000000 in
theorem ok_law34_StoresDiffs (N : Nat) : FnOK Try.prog gt0 9 (sp_law34_StoresDiffs N) := by
  refine fnOK_handed Try.func9 rfl (by kernel_rfl) tt_ok (ktCons (ok_ref34_Diff N) (ktCons (ok_ref17_Same N) (ktCons (ok_ref34_Add N) (ktCons (ok_ref34_New N) (ktCons (ok_ref34_Same N) (ktCons (ok_stores_Same N) (ktCons (ok_stores_Weight N) (ktCons (ok_stores_Right N) (ktCons (ok_ref16_Many N) (ktCons (ok_stores_New N) (ktCons (ok_ref34_Weight N) (ktCons (ok_ref34_Right N) (ktCons (ok_stores_Add N) (ktCons (ok_ref17_Right N) (ktCons (ok_stores_Diff N) (ktCons (ok_law34_lives N) (ktCons (ok_law34_Light N) (ktCons (ok_law17_Light N) (ktNil))))))))))))))))))) ?_
  intro args lk r h hp
  unfold sp_law34_StoresDiffs at h
  split at h
  · rename_i a1 a2 a3 a4 a5 a6
    change (List (List Int)) at a2
    change (List (List Int)) at a4
    change (List (List Int)) at a6
    cases h
    obtain ⟨x, hx⟩ := Option.isSome_iff_exists.1 hp
    simp only [hx, Option.getD_some]
    refine hand0 rfl rfl (fun w0 M ε0 hX => ?_)
    refine rCount (fun hε => ?_)
    have hT : law34_StoresDiffs N a1 a2 a3 a4 a5 a6 = some x := hx; clear hx hp; unfold law34_StoresDiffs at hT
    refine rSeq ?_
    refine zReg md0 hX rfl rfl rfl ?_
    refine rThen ?_
    refine rSeq ?_
    refine rSeq ?_
    let c1 := (law17_Light N a1 a2)
    let c2 := (law17_Light N a3 a4)
    let c3 := (law34_Light N a5 a6)
    let x4 := (bif (bif (bif (!(c1.getD default)) then true else (!(c2.getD default))) then true else (!(c3.getD default))) then true else (bif (decide ((3 : Int) ≤ a5)) then (decide (a5 ≤ 5)) else false))
    replace hT := sIf hT; obtain ⟨⟨o1, o2, o3, o4⟩, hT⟩ := hT
    refine rRegC md0 hX rfl rfl rfl (by (repeat' first | exact True.intro | with_reducible assumption | (with_reducible apply And.intro) | intro _) <;> first | assumption | exact o2 (by assumption) | exact o3 (by assumption) | exact o4 (by assumption) (by assumption) | exact rfl | omega | exact Nat.le_of_ble_eq_true rfl | exact selF (by assumption) | exact selT (by assumption) | exact And.intro rfl rfl | exact And.intro (by assumption) rfl | exact And.intro (by omega) rfl | (simp only [inK] at *; omega) | (simp_all [sel] <;> fail) | fail) ?_
    refine rThen ?_
    refine zCond rfl rfl (fun hc => ?_) (fun hc => ?_)
    · replace hT := sT hc hT
      refine rSeq ?_
      let c4 := (law34_lives N)
      replace hT := sIf hT; obtain ⟨o1, hT⟩ := hT
      refine zReg md0 hX rfl rfl rfl ?_
      refine rThen ?_
      refine rRet ?_
      refine rThenRet ?_
      have hy := Option.some.inj hT; subst hy
      exact zEnd0 hX rfl
    · replace hT := sF hc hT
      refine rSkip ?_
      refine rThen ?_
      refine rSeq ?_
      let c5 := (stores_Diff N a1 a2 a3 a4)
      replace hT := sIf hT; obtain ⟨o1, hT⟩ := hT
      refine zReg md0 hX rfl rfl rfl ?_
      refine rThen ?_
      refine rSeq ?_
      refine rSeq ?_
      let c6 := (ref17_Right N a1 a2)
      let c7 := (ref17_Right N a3 a4)
      let x5 := (bif (bif (c6.getD default) then (c7.getD default) else false) then (decide (a1 = a3)) else false)
      replace hT := sIf hT; obtain ⟨⟨o1, o2⟩, hT⟩ := hT
      refine rRegC md0 hX rfl rfl rfl (by (repeat' first | exact True.intro | with_reducible assumption | (with_reducible apply And.intro) | intro _) <;> first | assumption | exact o2 (by assumption) | exact rfl | omega | exact Nat.le_of_ble_eq_true rfl | exact selF (by assumption) | exact selT (by assumption) | exact And.intro rfl rfl | exact And.intro (by assumption) rfl | exact And.intro (by omega) rfl | (simp only [inK] at *; omega) | (simp_all [sel] <;> fail) | fail) ?_
      refine rThen ?_
      refine rJoinK hT (fun v1 => ⟨[(3, .v (.c (.ptr 0 0 0 0 0 0))), (5, .v (.c (.ptr 2 0 0 0 0 0))), (6, .v (.c (.bool false))), (7, .v (.c (.ptr 3 0 0 0 0 0)))], [(0, .mem true 25 none (.flat [.cs [.int .i64 a1], .fzs 3 (.int .u8) a2])), (2, .mem true 64 none (.flat [.cs [.int .i64 a5], .fzs 3 (.int .i64) a6])), (3, .mem true 64 none (.flat [.cs [.int .i64 (c5.getD default).1], .fzs 3 (.int .i64) (c5.getD default).2.1]))], 4⟩) (fun v1 hT => ?_) (fun k1 hjk1 hT => ?_)
      · skip
        refine rThen ?_
        refine rSeq ?_
        let c8 := (stores_Add N a1 a2 a5 a6)
        replace hT := sIf hT; obtain ⟨o1, hT⟩ := hT
        refine zReg md0 hX rfl rfl rfl ?_
        refine rThen ?_
        refine rSeq ?_
        refine zReg md0 hX rfl rfl rfl ?_
        refine rThen ?_
        refine rSeq ?_
        refine rSeq ?_
        let c9 := (ref34_Right N a5 a6)
        replace hT := sIf hT; obtain ⟨o1, hT⟩ := hT
        refine zReg md0 hX rfl rfl rfl ?_
        refine rThen ?_
        let c10 := (ref34_Weight N a5 a6)
        replace hT := sIf hT; obtain ⟨q1, hT⟩ := hT
        refine rJoin ⟨[(3, .v (.c (.ptr 0 0 0 0 0 0))), (5, .v (.c (.ptr 2 0 0 0 0 0))), (6, .v (.c (.bool false))), (7, .v (.c (.ptr 3 0 0 0 0 0))), (9, .v (.c (.ptr 4 0 0 0 0 0))), (10, .v (.c (.int .i64 (c8.getD default).2.2))), (11, .v (.c (.int .i64 (bif (c9.getD default) then (c10.getD default) else 0))))], [(0, .mem true 25 none (.flat [.cs [.int .i64 a1], .fzs 3 (.int .u8) a2])), (2, .mem true 64 none (.flat [.cs [.int .i64 a5], .fzs 3 (.int .i64) a6])), (3, .mem true 64 none (.flat [.cs [.int .i64 (c5.getD default).1], .fzs 3 (.int .i64) (c5.getD default).2.1])), (4, .mem true 25 none (.flat [.cs [.int .i64 (c8.getD default).1], .fzs 3 (.int .u8) (c8.getD default).2.1]))], 5⟩ ?_ (fun hj => ?_)
        · skip
          refine rThen ?_
          refine rSeq ?_
          refine rSeq ?_
          let c11 := (ref17_Right N a1 a2)
          let c12 := (ref34_Right N a5 a6)
          let x6 := (bif (bif (c11.getD default) then (c12.getD default) else false) then (decide (a1 = a5)) else false)
          replace hT := sIf hT; obtain ⟨⟨o1, o2⟩, hT⟩ := hT
          refine rRegC md0 hX rfl rfl rfl (by (repeat' first | exact True.intro | with_reducible assumption | (with_reducible apply And.intro) | intro _) <;> first | assumption | exact o2 (by assumption) | exact rfl | omega | exact Nat.le_of_ble_eq_true rfl | exact selF (by assumption) | exact selT (by assumption) | exact And.intro rfl rfl | exact And.intro (by assumption) rfl | exact And.intro (by omega) rfl | (simp only [inK] at *; omega) | (simp_all [sel] <;> fail) | fail) ?_
          refine rThen ?_
          refine rJoinK hT (fun v2 => ⟨[(5, .v (.c (.ptr 2 0 0 0 0 0))), (6, .v (.c (.bool false))), (7, .v (.c (.ptr 3 0 0 0 0 0))), (11, .v (.c (.int .i64 (bif (c9.getD default) then (c10.getD default) else 0))))], [(2, .mem true 64 none (.flat [.cs [.int .i64 a5], .fzs 3 (.int .i64) a6])), (3, .mem true 64 none (.flat [.cs [.int .i64 (c5.getD default).1], .fzs 3 (.int .i64) (c5.getD default).2.1]))], 5⟩) (fun v2 hT => ?_) (fun k2 hjk2 hT => ?_)
          · skip
            refine rThen ?_
            refine rSeq ?_
            let c13 := (stores_New N a5)
            replace hT := sIf hT; obtain ⟨o1, hT⟩ := hT
            refine zReg md0 hX rfl rfl rfl ?_
            refine rThen ?_
            refine rSeq ?_
            refine rSeq ?_
            let c14 := (ref16_Many N a5)
            replace hT := sIf hT; obtain ⟨o1, hT⟩ := hT
            refine zReg md0 hX rfl rfl rfl ?_
            refine rThen ?_
            refine rJoinK hT (fun v3 => ⟨[(5, .v (.c (.ptr 2 0 0 0 0 0))), (6, .v (.c (.bool false))), (7, .v (.c (.ptr 3 0 0 0 0 0))), (11, .v (.c (.int .i64 (bif (c9.getD default) then (c10.getD default) else 0))))], [(2, .mem true 64 none (.flat [.cs [.int .i64 a5], .fzs 3 (.int .i64) a6])), (3, .mem true 64 none (.flat [.cs [.int .i64 (c5.getD default).1], .fzs 3 (.int .i64) (c5.getD default).2.1]))], 6⟩) (fun v3 hT => ?_) (fun k3 hjk3 hT => ?_)
            · skip
              refine rThen ?_
              refine rSeq ?_
              let c15 := (stores_Right N a5 a6)
              let c16 := (ref34_Right N a5 a6)
              let c17 := (stores_Weight N a5 a6)
              let c18 := (stores_Same N a5 a6 a5 a6)
              let c19 := (stores_Same N a5 a6 (c5.getD default).1 (c5.getD default).2.1)
              let c20 := (ref34_Same N a5 a6 (c5.getD default).1 (c5.getD default).2.1)
              let c21 := (law34_lives N)
              let x7 := (bif (bif (bif (bif ((c15.getD default) == (c16.getD default)) then (decide ((c17.getD default) = (bif (c9.getD default) then (c10.getD default) else 0))) else false) then (c18.getD default) else false) then ((c19.getD default) == (c20.getD default)) else false) then (c21.getD default) else false)
              replace hT := sIf hT; obtain ⟨⟨o1, o2, o3, o4, o5, o6, o7⟩, hT⟩ := hT
              refine rDrawM md0 0 [] hX mixed rfl rfl rfl rfl rfl (by (repeat' first | exact True.intro | with_reducible assumption | (with_reducible apply And.intro) | intro _) <;> first | assumption | exact o3 (by assumption) | exact o4 (by assumption) | exact o5 (by assumption) | exact o6 (by assumption) | exact o7 (by assumption) | exact rfl | omega | exact Nat.le_of_ble_eq_true rfl | exact selF (by assumption) | exact selT (by assumption) | exact And.intro rfl rfl | exact And.intro (by assumption) rfl | exact And.intro (by omega) rfl | (simp only [inK] at *; omega) | (simp_all [sel] <;> fail) | fail) ?_
              refine rThen ?_
              refine rRet ?_
              have hy := Option.some.inj hT; subst hy
              exact zEnd0 hX rfl
            · skip
              refine zCond rfl rfl (fun hc => ?_) (fun hc => ?_)
              · replace hT := sT hc hT
                refine rSeq ?_
                let c22 := (ref34_Same N (c13.getD default).1 (c13.getD default).2.1 0 (List.replicate 3 []))
                replace hT := sIf hT; obtain ⟨o1, hT⟩ := hT
                refine rRegC md0 hX rfl rfl rfl (by (repeat' first | exact True.intro | with_reducible assumption | (with_reducible apply And.intro) | intro _) <;> first | assumption | exact o1 (by assumption) | exact rfl | omega | exact Nat.le_of_ble_eq_true rfl | exact selF (by assumption) | exact selT (by assumption) | exact And.intro rfl rfl | exact And.intro (by assumption) rfl | exact And.intro (by omega) rfl | (simp only [inK] at *; omega) | (simp_all [sel] <;> fail) | fail) ?_
                refine rThen ?_
                refine zCond rfl rfl (fun hc => ?_) (fun hc => ?_)
                · replace hT := sT hc hT
                  refine rSeq ?_
                  refine zReg md0 hX rfl rfl rfl ?_
                  refine rThen ?_
                  refine rRet ?_
                  refine rThenRet ?_
                  have hy := Option.some.inj hT; subst hy
                  exact zEnd0 hX rfl
                · replace hT := sF hc hT
                  refine rSkip ?_
                  exact zTo [] 0 hε (hjk3 _ hT)
              · replace hT := sF hc hT
                refine rSeq ?_
                let c23 := (ref34_New N a5)
                let c24 := (ref34_Same N (c13.getD default).1 (c13.getD default).2.1 (c23.getD default).1 (c23.getD default).2)
                replace hT := sIf hT; obtain ⟨⟨o1, o2⟩, hT⟩ := hT
                refine rDrawM md0 0 [] hX mixed rfl rfl rfl rfl rfl (by (repeat' first | exact True.intro | with_reducible assumption | (with_reducible apply And.intro) | intro _) <;> first | assumption | exact o1 (by assumption) | exact o2 (by assumption) | exact rfl | omega | exact Nat.le_of_ble_eq_true rfl | exact selF (by assumption) | exact selT (by assumption) | exact And.intro rfl rfl | exact And.intro (by assumption) rfl | exact And.intro (by omega) rfl | (simp only [inK] at *; omega) | (simp_all [sel] <;> fail) | fail) ?_
                refine rThen ?_
                refine zCond rfl rfl (fun hc => ?_) (fun hc => ?_)
                · replace hT := sT hc hT
                  refine rSeq ?_
                  refine zReg md0 hX rfl rfl rfl ?_
                  refine rThen ?_
                  refine rRet ?_
                  refine rThenRet ?_
                  have hy := Option.some.inj hT; subst hy
                  exact zEnd0 hX rfl
                · replace hT := sF hc hT
                  refine rSkip ?_
                  exact zTo [] 0 hε (hjk3 _ hT)
          · skip
            refine zCond rfl rfl (fun hc => ?_) (fun hc => ?_)
            · replace hT := sT hc hT
              refine rSeq ?_
              let c25 := (ref34_Add N a1 a2 a5 a6)
              let c26 := (ref17_Same N (c8.getD default).1 (c8.getD default).2.1 (c25.getD default).1 (c25.getD default).2)
              replace hT := sIf hT; obtain ⟨⟨o1, o2⟩, hT⟩ := hT
              refine rDrawM md0 0 [] hX mixed rfl rfl rfl rfl rfl (by (repeat' first | exact True.intro | with_reducible assumption | (with_reducible apply And.intro) | intro _) <;> first | assumption | exact o1 (by assumption) | exact o2 (by assumption) | exact rfl | omega | exact Nat.le_of_ble_eq_true rfl | exact selF (by assumption) | exact selT (by assumption) | exact And.intro rfl rfl | exact And.intro (by assumption) rfl | exact And.intro (by omega) rfl | (simp only [inK] at *; omega) | (simp_all [sel] <;> fail) | fail) ?_
              refine rThen ?_
              refine zCond rfl rfl (fun hc => ?_) (fun hc => ?_)
              · replace hT := sT hc hT
                refine rSeq ?_
                refine zReg md0 hX rfl rfl rfl ?_
                refine rThen ?_
                refine rRet ?_
                refine rThenRet ?_
                have hy := Option.some.inj hT; subst hy
                exact zEnd0 hX rfl
              · replace hT := sF hc hT
                refine rSkip ?_
                exact zTo [] 0 hε (hjk2 _ hT)
            · replace hT := sF hc hT
              refine rSeq ?_
              let c27 := (ref17_Same N (c8.getD default).1 (c8.getD default).2.1 0 (List.replicate 3 []))
              replace hT := sIf hT; obtain ⟨o1, hT⟩ := hT
              refine rRegC md0 hX rfl rfl rfl (by (repeat' first | exact True.intro | with_reducible assumption | (with_reducible apply And.intro) | intro _) <;> first | assumption | exact o1 (by assumption) | exact rfl | omega | exact Nat.le_of_ble_eq_true rfl | exact selF (by assumption) | exact selT (by assumption) | exact And.intro rfl rfl | exact And.intro (by assumption) rfl | exact And.intro (by omega) rfl | (simp only [inK] at *; omega) | (simp_all [sel] <;> fail) | fail) ?_
              refine rThen ?_
              refine zCond rfl rfl (fun hc => ?_) (fun hc => ?_)
              · replace hT := sT hc hT
                refine rSeq ?_
                refine zReg md0 hX rfl rfl rfl ?_
                refine rThen ?_
                refine rRet ?_
                refine rThenRet ?_
                have hy := Option.some.inj hT; subst hy
                exact zEnd0 hX rfl
              · replace hT := sF hc hT
                refine rSkip ?_
                exact zTo [] 0 hε (hjk2 _ hT)
        · clear hT
          refine zCond rfl rfl (fun hc => ?_) (fun hc => ?_)
          · skip
            have q1 := q1 hc
            refine zReg md0 hX rfl rfl rfl ?_
            exact rTo (To.mk' [] 0 hε rfl (by (repeat' first | exact True.intro | exact rfl | apply And.intro) <;> (repeat' first | exact rfl | refine Eq.trans ?_ (cTr (by assumption)) | refine Eq.trans ?_ (cFr (by assumption)) | refine Eq.trans (cTl (by assumption)) ?_ | refine Eq.trans (cFl (by assumption)) ?_)) (by (repeat' first | exact True.intro | exact rfl | apply And.intro) <;> (repeat' first | exact rfl | refine Eq.trans ?_ (cTr (by assumption)) | refine Eq.trans ?_ (cFr (by assumption)) | refine Eq.trans (cTl (by assumption)) ?_ | refine Eq.trans (cFl (by assumption)) ?_))) hj
          · skip
            refine rSkip ?_
            exact rTo (To.mk' [] 0 hε rfl (by (repeat' first | exact True.intro | exact rfl | apply And.intro) <;> (repeat' first | exact rfl | refine Eq.trans ?_ (cTr (by assumption)) | refine Eq.trans ?_ (cFr (by assumption)) | refine Eq.trans (cTl (by assumption)) ?_ | refine Eq.trans (cFl (by assumption)) ?_)) (by (repeat' first | exact True.intro | exact rfl | apply And.intro) <;> (repeat' first | exact rfl | refine Eq.trans ?_ (cTr (by assumption)) | refine Eq.trans ?_ (cFr (by assumption)) | refine Eq.trans (cTl (by assumption)) ?_ | refine Eq.trans (cFl (by assumption)) ?_))) hj
      · skip
        refine zCond rfl rfl (fun hc => ?_) (fun hc => ?_)
        · replace hT := sT hc hT
          refine rSeq ?_
          let c28 := (ref34_Diff N a1 a2 a3 a4)
          let c29 := (ref34_Same N (c5.getD default).1 (c5.getD default).2.1 (c28.getD default).1 (c28.getD default).2)
          replace hT := sIf hT; obtain ⟨⟨o1, o2⟩, hT⟩ := hT
          refine rDrawM md0 0 [] hX mixed rfl rfl rfl rfl rfl (by (repeat' first | exact True.intro | with_reducible assumption | (with_reducible apply And.intro) | intro _) <;> first | assumption | exact o1 (by assumption) | exact o2 (by assumption) | exact rfl | omega | exact Nat.le_of_ble_eq_true rfl | exact selF (by assumption) | exact selT (by assumption) | exact And.intro rfl rfl | exact And.intro (by assumption) rfl | exact And.intro (by omega) rfl | (simp only [inK] at *; omega) | (simp_all [sel] <;> fail) | fail) ?_
          refine rThen ?_
          refine zCond rfl rfl (fun hc => ?_) (fun hc => ?_)
          · replace hT := sT hc hT
            refine rSeq ?_
            refine zReg md0 hX rfl rfl rfl ?_
            refine rThen ?_
            refine rRet ?_
            refine rThenRet ?_
            have hy := Option.some.inj hT; subst hy
            exact zEnd0 hX rfl
          · replace hT := sF hc hT
            refine rSkip ?_
            exact zTo [] 0 hε (hjk1 _ hT)
        · replace hT := sF hc hT
          refine rSeq ?_
          let c30 := (ref34_Same N (c5.getD default).1 (c5.getD default).2.1 0 (List.replicate 3 []))
          replace hT := sIf hT; obtain ⟨o1, hT⟩ := hT
          refine rRegC md0 hX rfl rfl rfl (by (repeat' first | exact True.intro | with_reducible assumption | (with_reducible apply And.intro) | intro _) <;> first | assumption | exact o1 (by assumption) | exact rfl | omega | exact Nat.le_of_ble_eq_true rfl | exact selF (by assumption) | exact selT (by assumption) | exact And.intro rfl rfl | exact And.intro (by assumption) rfl | exact And.intro (by omega) rfl | (simp only [inK] at *; omega) | (simp_all [sel] <;> fail) | fail) ?_
          refine rThen ?_
          refine zCond rfl rfl (fun hc => ?_) (fun hc => ?_)
          · replace hT := sT hc hT
            refine rSeq ?_
            refine zReg md0 hX rfl rfl rfl ?_
            refine rThen ?_
            refine rRet ?_
            refine rThenRet ?_
            have hy := Option.some.inj hT; subst hy
            exact zEnd0 hX rfl
          · replace hT := sF hc hT
            refine rSkip ?_
            exact zTo [] 0 hε (hjk1 _ hT)
  · cases h

end Go.Proofs.Ytjknjjdijoboiaa
