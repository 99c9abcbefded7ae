/- Models of functions, and that the program does what they tell. -/
import Derived.Test.YtjknjjdijoboiaaL1
set_option linter.unusedVariables false
set_option linter.unusedSimpArgs false
namespace Go.Proofs.Ytjknjjdijoboiaa
open Go.X

def overspill_planes_Canvas_Lay_v2_b2 (N : Nat) (a2 : (List Int)) (a4 : Nat) (a5 : Nat) (a6 : Nat) (a7 : Nat) (a9 : Nat) (a11 : Nat) (s1 : (Int × (List Int) × (List Int) × (List Int))) (c2 : (Option (Int × Int × Int))) (s2 : (Int × Int × Int × Int × Int × (List Int) × (List Int) × (List Int))) : Option ((Int × Int × Int × Int × Int × (List Int) × (List Int) × (List Int)) ⊕ (Int × Int × Int × Int × Int × Bool × (List Int) × (List Int) × (List Int))) :=
  bif (decide (s2.2.2.2.2.1 < 64)) then
    if (0 : Int) ≤ s2.2.2.2.2.1 ∧ s2.2.2.2.2.1 < 64 ∧ (s2.2.2.2.2.1).toNat < 64 then
      bif (decide (s2.1 = 0)) then
        let c3 := (whole_Clip N (((a2.drop (64 * (s1.1).toNat)).take 64).getD (s2.2.2.2.2.1).toNat 0) 0 255)
        let x2 := (s2.2.2.2.2.2.1.set (((c2.getD default).2.1 + ((s2.2.2.2.2.1 / 8) * (c2.getD default).2.2)) + (s2.2.2.2.2.1 % 8)).toNat (c3.getD default))
        if (0 : Int) ≤ s2.2.2.2.2.1 ∧ inK .i64 ((s2.2.2.2.2.1 / 8) * (c2.getD default).2.2) ∧ inK .i64 ((c2.getD default).2.1 + ((s2.2.2.2.2.1 / 8) * (c2.getD default).2.2)) ∧ inK .i64 (((c2.getD default).2.1 + ((s2.2.2.2.2.1 / 8) * (c2.getD default).2.2)) + (s2.2.2.2.2.1 % 8)) ∧ c3.isSome = true ∧ inK .u8 (c3.getD default) ∧ (0 : Int) ≤ (((c2.getD default).2.1 + ((s2.2.2.2.2.1 / 8) * (c2.getD default).2.2)) + (s2.2.2.2.2.1 % 8)) ∧ (((c2.getD default).2.1 + ((s2.2.2.2.2.1 / 8) * (c2.getD default).2.2)) + (s2.2.2.2.2.1 % 8)) < (a4 : Int) ∧ (((c2.getD default).2.1 + ((s2.2.2.2.2.1 / 8) * (c2.getD default).2.2)) + (s2.2.2.2.2.1 % 8)).toNat < a7 then
          if inK .i64 (s2.2.2.2.2.1 + 1) then
            some (.inl (0, s2.2.1, s2.2.2.1, s2.2.2.2.1, (s2.2.2.2.2.1 + 1), x2, s2.2.2.2.2.2.2.1, s2.2.2.2.2.2.2.2))
          else none
        else none
      else
        bif (decide (s2.1 = 1)) then
          let c4 := (whole_Clip N (((a2.drop (64 * (s1.1).toNat)).take 64).getD (s2.2.2.2.2.1).toNat 0) 0 255)
          let x4 := (s2.2.2.2.2.2.2.1.set (((c2.getD default).2.1 + ((s2.2.2.2.2.1 / 8) * (c2.getD default).2.2)) + (s2.2.2.2.2.1 % 8)).toNat (c4.getD default))
          if (0 : Int) ≤ s2.2.2.2.2.1 ∧ inK .i64 ((s2.2.2.2.2.1 / 8) * (c2.getD default).2.2) ∧ inK .i64 ((c2.getD default).2.1 + ((s2.2.2.2.2.1 / 8) * (c2.getD default).2.2)) ∧ inK .i64 (((c2.getD default).2.1 + ((s2.2.2.2.2.1 / 8) * (c2.getD default).2.2)) + (s2.2.2.2.2.1 % 8)) ∧ c4.isSome = true ∧ inK .u8 (c4.getD default) ∧ (0 : Int) ≤ (((c2.getD default).2.1 + ((s2.2.2.2.2.1 / 8) * (c2.getD default).2.2)) + (s2.2.2.2.2.1 % 8)) ∧ (((c2.getD default).2.1 + ((s2.2.2.2.2.1 / 8) * (c2.getD default).2.2)) + (s2.2.2.2.2.1 % 8)) < (a5 : Int) ∧ (((c2.getD default).2.1 + ((s2.2.2.2.2.1 / 8) * (c2.getD default).2.2)) + (s2.2.2.2.2.1 % 8)).toNat < a9 then
            if inK .i64 (s2.2.2.2.2.1 + 1) then
              some (.inl (1, s2.2.1, s2.2.2.1, s2.2.2.2.1, (s2.2.2.2.2.1 + 1), s2.2.2.2.2.2.1, x4, s2.2.2.2.2.2.2.2))
            else none
          else none
        else
          bif (decide (s2.1 = 2)) then
            let c5 := (whole_Clip N (((a2.drop (64 * (s1.1).toNat)).take 64).getD (s2.2.2.2.2.1).toNat 0) 0 255)
            let x6 := (s2.2.2.2.2.2.2.2.set (((c2.getD default).2.1 + ((s2.2.2.2.2.1 / 8) * (c2.getD default).2.2)) + (s2.2.2.2.2.1 % 8)).toNat (c5.getD default))
            if (0 : Int) ≤ s2.2.2.2.2.1 ∧ inK .i64 ((s2.2.2.2.2.1 / 8) * (c2.getD default).2.2) ∧ inK .i64 ((c2.getD default).2.1 + ((s2.2.2.2.2.1 / 8) * (c2.getD default).2.2)) ∧ inK .i64 (((c2.getD default).2.1 + ((s2.2.2.2.2.1 / 8) * (c2.getD default).2.2)) + (s2.2.2.2.2.1 % 8)) ∧ c5.isSome = true ∧ inK .u8 (c5.getD default) ∧ (0 : Int) ≤ (((c2.getD default).2.1 + ((s2.2.2.2.2.1 / 8) * (c2.getD default).2.2)) + (s2.2.2.2.2.1 % 8)) ∧ (((c2.getD default).2.1 + ((s2.2.2.2.2.1 / 8) * (c2.getD default).2.2)) + (s2.2.2.2.2.1 % 8)) < (a6 : Int) ∧ (((c2.getD default).2.1 + ((s2.2.2.2.2.1 / 8) * (c2.getD default).2.2)) + (s2.2.2.2.2.1 % 8)).toNat < a11 then
              if inK .i64 (s2.2.2.2.2.1 + 1) then
                some (.inl (2, s2.2.1, s2.2.2.1, s2.2.2.2.1, (s2.2.2.2.2.1 + 1), s2.2.2.2.2.2.1, s2.2.2.2.2.2.2.1, x6))
              else none
            else none
          else
            none
    else none
  else
    some (.inr (s2.1, s2.2.1, s2.2.2.1, s2.2.2.2.1, s2.2.2.2.2.1, (decide (s2.2.2.2.2.1 < 64)), s2.2.2.2.2.2.1, s2.2.2.2.2.2.2.1, s2.2.2.2.2.2.2.2))
def overspill_planes_Canvas_Lay_v2_b1 (N : Nat) (a1 : Int) (a2 : (List Int)) (a3 : Int) (a4 : Nat) (a5 : Nat) (a6 : Nat) (a7 : Nat) (a9 : Nat) (a11 : Nat) (s1 : (Int × (List Int) × (List Int) × (List Int))) : Option ((Int × (List Int) × (List Int) × (List Int)) ⊕ ((List Int) × (List Int) × (List Int))) :=
  bif (decide (s1.1 < 6)) then
    let c2 := (planes_place N a3 a1 s1.1)
    if c2.isSome = true then
      if (0 : Int) ≤ s1.1 ∧ s1.1 < 6 ∧ (64 * (s1.1).toNat) + 64 ≤ 384 then
        (iter (overspill_planes_Canvas_Lay_v2_b2 N a2 a4 a5 a6 a7 a9 a11 s1 c2) N ((c2.getD default).1, (c2.getD default).1, (c2.getD default).1, (c2.getD default).1, 0, s1.2.1, s1.2.2.1, s1.2.2.2)).bind fun v2 =>
          if inK .i64 (s1.1 + 1) then
            some (.inl ((s1.1 + 1), v2.2.2.2.2.2.2.1, v2.2.2.2.2.2.2.2.1, v2.2.2.2.2.2.2.2.2))
          else none
      else none
    else none
  else
    some (.inr (s1.2.1, s1.2.2.1, s1.2.2.2))
def overspill_planes_Canvas_Lay_v2 (N : Nat) (a1 : Int) (a2 : (List Int)) (a3 : Int) (a4 : Nat) (a5 : Nat) (a6 : Nat) (a7 : Nat) (a8 : (List Int)) (a9 : Nat) (a10 : (List Int)) (a11 : Nat) (a12 : (List Int)) : Option (Int × Nat × (List Int) × Nat × (List Int) × Nat × (List Int)) :=
  let c1 := (planes_has N a3 a1)
  if ((!false) = true → c1.isSome = true) then
    bif (!(c1.getD default)) then
      some (1, a7, a8, a9, a10, a11, a12)
    else
      (iter (overspill_planes_Canvas_Lay_v2_b1 N a1 a2 a3 a4 a5 a6 a7 a9 a11) N (0, a8, a10, a12)).bind fun v1 =>
        some (0, a7, v1.1, a9, v1.2.1, a11, v1.2.2)
  else none
def sp_overspill_planes_Canvas_Lay_v2 (N : Nat) : X.Spec := fun args lk => match args with
  | [.v (.c (.ptr i0 0 0 0 0 0)), .v (.c (.int .i64 a1)), .v (.agg [.ints 384 .i64 a2])] => (match lk i0 with
    | some (.mem _ _ _ (.flat [.cs [.int .i64 a3], .cs [.sl i1 0 a4 1, .sl i2 0 a5 1, .sl i3 0 a6 1]])) => (match lk i1 with
    | some (.mem true 5 (some 0) (.flat [.ints a7 .u8 a8])) => (match lk i2 with
    | some (.mem true 5 (some 0) (.flat [.ints a9 .u8 a10])) => (match lk i3 with
    | some (.mem true 5 (some 0) (.flat [.ints a11 .u8 a12])) => (match Nat.beq i0 i1 with
    | false => (match Nat.beq i0 i2 with
    | false => (match Nat.beq i0 i3 with
    | false => (match Nat.beq i1 i2 with
    | false => (match Nat.beq i1 i3 with
    | false => (match Nat.beq i2 i3 with
    | false => some ⟨(overspill_planes_Canvas_Lay_v2 N a1 a2 a3 a4 a5 a6 a7 a8 a9 a10 a11 a12).isSome = true, .v (.c (.int .i64 ((overspill_planes_Canvas_Lay_v2 N a1 a2 a3 a4 a5 a6 a7 a8 a9 a10 a11 a12).getD default).1)), [], [(i1, .mem true 5 (some 0) (.flat [.ints ((overspill_planes_Canvas_Lay_v2 N a1 a2 a3 a4 a5 a6 a7 a8 a9 a10 a11 a12).getD default).2.1 .u8 ((overspill_planes_Canvas_Lay_v2 N a1 a2 a3 a4 a5 a6 a7 a8 a9 a10 a11 a12).getD default).2.2.1])), (i2, .mem true 5 (some 0) (.flat [.ints ((overspill_planes_Canvas_Lay_v2 N a1 a2 a3 a4 a5 a6 a7 a8 a9 a10 a11 a12).getD default).2.2.2.1 .u8 ((overspill_planes_Canvas_Lay_v2 N a1 a2 a3 a4 a5 a6 a7 a8 a9 a10 a11 a12).getD default).2.2.2.2.1])), (i3, .mem true 5 (some 0) (.flat [.ints ((overspill_planes_Canvas_Lay_v2 N a1 a2 a3 a4 a5 a6 a7 a8 a9 a10 a11 a12).getD default).2.2.2.2.2.1 .u8 ((overspill_planes_Canvas_Lay_v2 N a1 a2 a3 a4 a5 a6 a7 a8 a9 a10 a11 a12).getD default).2.2.2.2.2.2]))]⟩
    | true => none)
    | true => none)
    | true => none)
    | true => none)
    | true => none)
    | true => none)
    | _ => none)
    | _ => none)
    | _ => none)
    | _ => none)
  | _ => none
set_option maxRecDepth 100000 in
set_option maxHeartbeats 1000000 in
theorem ok_overspill_planes_Canvas_Lay_v2 (N : Nat) : FnOK Try.prog gt0 28 (sp_overspill_planes_Canvas_Lay_v2 N) := by
  refine fnOK_handed Try.func28 rfl (by kernel_rfl) ttC_ok (ktCons (ok_whole_Clip N) (ktCons (ok_planes_place N) (ktCons (ok_planes_has N) (ktNil)))) ?_
  intro args lk r h hp
  unfold sp_overspill_planes_Canvas_Lay_v2 at h
  split at h
  · rename_i i0 a1 a2
    split at h
    · rename_i _ _ _ a3 i1 a4 i2 a5 i3 a6 hl0
      split at h
      · rename_i a7 a8 hl1
        split at h
        · rename_i a9 a10 hl2
          split at h
          · rename_i a11 a12 hl3
            split at h
            · rename_i hb0_1
              split at h
              · rename_i hb0_2
                split at h
                · rename_i hb0_3
                  split at h
                  · rename_i hb1_2
                    split at h
                    · rename_i hb1_3
                      split at h
                      · rename_i hb2_3
                        change (List Int) at a2
                        change (List Int) at a8
                        change (List Int) at a10
                        change (List Int) at a12
                        cases h
                        obtain ⟨x, hx⟩ := Option.isSome_iff_exists.1 hp
                        simp only [hx, Option.getD_some]
                        refine handL [i0, i1, i2, i3] 4 [(0, .mem false 53 none (.flat [.cs [.int .i64 a3], .cs [.sl 1 0 a4 1, .sl 2 0 a5 1, .sl 3 0 a6 1]])), (1, .mem true 5 (some 0) (.flat [.ints a7 .u8 a8])), (2, .mem true 5 (some 0) (.flat [.ints a9 .u8 a10])), (3, .mem true 5 (some 0) (.flat [.ints a11 .u8 a12]))] [.v (.c (.ptr 0 0 0 0 0 0)), .v (.c (.int .i64 a1)), .v (.agg [.ints 384 .i64 a2])] rfl rfl rfl ⟨isSome_of hl3, isSome_of hl2, isSome_of hl1, isSome_of hl0, trivial⟩ ⟨⟨rfl, (by repeat' first | exact True.intro | exact rfl | exact ⟨_, rfl, rfl⟩ | apply And.intro | exact Or.inl rfl), _, hl0, sub_ro⟩, ⟨rfl, (by repeat' first | exact True.intro | exact rfl | exact ⟨_, rfl, rfl⟩ | apply And.intro | exact Or.inl rfl), _, hl1, .inl rfl⟩, ⟨rfl, (by repeat' first | exact True.intro | exact rfl | exact ⟨_, rfl, rfl⟩ | apply And.intro | exact Or.inl rfl), _, hl2, .inl rfl⟩, ⟨rfl, (by repeat' first | exact True.intro | exact rfl | exact ⟨_, rfl, rfl⟩ | apply And.intro | exact Or.inl rfl), _, hl3, .inl rfl⟩, trivial⟩ (by simp [apartB, allB, rn, nth, E.own, hb0_1, beq_ff hb0_1, hb0_2, beq_ff hb0_2, hb0_3, beq_ff hb0_3, hb1_2, beq_ff hb1_2, hb1_3, beq_ff hb1_3, hb2_3, beq_ff hb2_3]) (fun w0 M ε0 hX => ?_)
                        refine rCount (fun hε => ?_)
                        have hT : overspill_planes_Canvas_Lay_v2 N a1 a2 a3 a4 a5 a6 a7 a8 a9 a10 a11 a12 = some x := hx; clear hx hp; unfold overspill_planes_Canvas_Lay_v2 at hT
                        refine rSeq ?_
                        refine zReg md0 hX rfl rfl rfl ?_
                        refine rThen ?_
                        refine rSeq ?_
                        refine rSeq ?_
                        let c1 := (planes_has N a3 a1)
                        replace hT := sIf hT; obtain ⟨o1, hT⟩ := hT
                        refine rRegC md0 hX rfl rfl rfl (by (repeat' first | exact True.intro | with_reducible assumption | (with_reducible apply And.intro) | intro _) <;> first | assumption | exact o1 (by assumption) | exact rfl | omega | exact Nat.le_of_ble_eq_true rfl | exact selF (by assumption) | exact selT (by assumption) | exact And.intro rfl rfl | exact And.intro (by assumption) rfl | exact And.intro (by omega) rfl | (simp only [inK] at *; omega) | (simp_all [sel] <;> fail) | fail) ?_
                        refine rThen ?_
                        refine zCond rfl rfl (fun hc => ?_) (fun hc => ?_)
                        · replace hT := sT hc hT
                          refine rSeq ?_
                          refine zReg md0 hX rfl rfl rfl ?_
                          refine rThen ?_
                          refine rRet ?_
                          refine rThenRet ?_
                          have hy := Option.some.inj hT; subst hy
                          exact rEndA [] [] [(1, .mem true 5 (some 0) (.flat [.ints a7 .u8 a8])), (2, .mem true 5 (some 0) (.flat [.ints a9 .u8 a10])), (3, .mem true 5 (some 0) (.flat [.ints a11 .u8 a12]))] (.v (.c (.int .i64 1))) hX rfl (by repeat' first | exact True.intro | exact rfl | apply And.intro | omega | exact Nat.le_of_ble_eq_true rfl) (by repeat' first | exact True.intro | exact rfl | apply And.intro) rfl rfl rfl (by repeat' first | exact True.intro | exact rfl | exact ⟨_, rfl, rfl⟩ | apply And.intro | exact Or.inl rfl) rfl rfl (by repeat' first | exact True.intro | exact rfl | exact ⟨_, rfl, rfl⟩ | apply And.intro | exact Or.inl rfl) rfl rfl
                        · replace hT := sF hc hT
                          refine rSkip ?_
                          refine rThen ?_
                          refine rSeq ?_
                          refine rSeq ?_
                          refine zReg md0 hX rfl rfl rfl ?_
                          refine rThen ?_
                          refine rBlock ?_
                          replace hT := sBind hT; obtain ⟨w1, hl, hT⟩ := hT
                          refine rJoinA (fun v1 => v1 = w1) (fun v1 => ⟨[(6, .v (.c (.int .i64 0)))], [(0, .mem false 53 none (.flat [.cs [.int .i64 a3], .cs [.sl 1 0 a4 1, .sl 2 0 a5 1, .sl 3 0 a6 1]])), (1, .mem true 5 (some 0) (.flat [.ints a7 .u8 v1.1])), (2, .mem true 5 (some 0) (.flat [.ints a9 .u8 v1.2.1])), (3, .mem true 5 (some 0) (.flat [.ints a11 .u8 v1.2.2]))], 5⟩) (.exit 0) (fun v1 hv => ?_) (fun hxs10 => ?_)
                          · subst hv; clear hl
                            refine rInHit ?_
                            refine rThen ?_
                            refine rSeq ?_
                            refine zReg md0 hX rfl rfl rfl ?_
                            refine rThen ?_
                            refine rRet ?_
                            have hy := Option.some.inj hT; subst hy
                            exact rEndA [] [] [(1, .mem true 5 (some 0) (.flat [.ints a7 .u8 v1.1])), (2, .mem true 5 (some 0) (.flat [.ints a9 .u8 v1.2.1])), (3, .mem true 5 (some 0) (.flat [.ints a11 .u8 v1.2.2]))] (.v (.c (.int .i64 0))) hX rfl (by repeat' first | exact True.intro | exact rfl | apply And.intro | omega | exact Nat.le_of_ble_eq_true rfl) (by repeat' first | exact True.intro | exact rfl | apply And.intro) rfl rfl rfl (by repeat' first | exact True.intro | exact rfl | exact ⟨_, rfl, rfl⟩ | apply And.intro | exact Or.inl rfl) rfl rfl (by repeat' first | exact True.intro | exact rfl | exact ⟨_, rfl, rfl⟩ | apply And.intro | exact Or.inl rfl) rfl rfl
                          refine rLoopM (overspill_planes_Canvas_Lay_v2_b1 N a1 a2 a3 a4 a5 a6 a7 a9 a11) (fun s1 => ⟨[(0, .v (.c (.ptr 0 0 0 0 0 0))), (1, .v (.c (.int .i64 a1))), (5, .v (.c (.ptr 4 0 0 0 0 0))), (6, .v (.c (.int .i64 0))), (25, .v (.c (.int .i64 s1.1)))], [(0, .mem false 53 none (.flat [.cs [.int .i64 a3], .cs [.sl 1 0 a4 1, .sl 2 0 a5 1, .sl 3 0 a6 1]])), (1, .mem true 5 (some 0) (.flat [.ints a7 .u8 s1.2.1])), (2, .mem true 5 (some 0) (.flat [.ints a9 .u8 s1.2.2.1])), (3, .mem true 5 (some 0) (.flat [.ints a11 .u8 s1.2.2.2])), (4, .mem true 31 none (.flat [.ints 384 .i64 a2]))], 5⟩) hl (To.mk' [] 4 hε rfl (by repeat' first | exact True.intro | exact rfl | apply And.intro) (by repeat' first | exact True.intro | exact rfl | apply And.intro)) (fun s1 zs1 NNs1 hz hnexts1 houts1 => ?_)
                          clear hl hT
                          have hT := hz; clear hz
                          refine rSeq ?_
                          refine zReg md0 hX rfl rfl rfl ?_
                          refine rThen ?_
                          refine rSeq ?_
                          refine zCond rfl rfl (fun hc => ?_) (fun hc => ?_)
                          · replace hT := sT hc hT
                            refine rSkip ?_
                            refine rThen ?_
                            refine rSeq ?_
                            refine rBlock ?_
                            refine rSeq ?_
                            refine zReg md0 hX rfl rfl rfl ?_
                            refine rThen ?_
                            refine rSeq ?_
                            let c2 := (planes_place N a3 a1 s1.1)
                            replace hT := sIf hT; obtain ⟨o1, hT⟩ := hT
                            refine zReg md0 hX rfl rfl rfl ?_
                            refine rThen ?_
                            refine rSeq ?_
                            replace hT := sIf hT; obtain ⟨⟨o1, o2, o3⟩, hT⟩ := hT
                            refine zReg md0 hX rfl rfl rfl ?_
                            refine rThen ?_
                            refine rBlock ?_
                            replace hT := sBind hT; obtain ⟨w2, hl, hT⟩ := hT
                            refine rJoinA (fun v2 => v2 = w2) (fun v2 => ⟨[(0, .v (.c (.ptr 0 0 0 0 0 0))), (1, .v (.c (.int .i64 a1))), (5, .v (.c (.ptr 4 0 0 0 0 0))), (6, .v (.c (.int .i64 0))), (7, .v (.c (.int .i64 s1.1))), (8, .v (.c (.int .i64 v2.1))), (9, .v (.c (.int .i64 (c2.getD default).2.1))), (10, .v (.c (.int .i64 (c2.getD default).2.2))), (25, .v (.c (.int .i64 s1.1))), (26, .v (.c (.bool (decide (s1.1 < 6))))), (27, .v (.c (.int .i64 s1.1))), (28, .tup [.c (.int .i64 v2.2.1), .c (.int .i64 (c2.getD default).2.1), .c (.int .i64 (c2.getD default).2.2)]), (29, .v (.c (.ptr 0 0 0 0 0 0))), (30, .v (.c (.ptr 0 0 0 0 0 0))), (31, .v (.c (.ptr 0 0 0 0 0 0))), (32, .v (.c (.ptr 0 0 0 0 0 0))), (33, .v (.c (.int .i64 a3))), (34, .v (.c (.int .i64 a1))), (35, .v (.c (.int .i64 s1.1))), (36, .tup [.c (.int .i64 v2.2.2.1), .c (.int .i64 (c2.getD default).2.1), .c (.int .i64 (c2.getD default).2.2)]), (37, .v (.c (.int .i64 v2.2.2.2.1))), (38, .v (.c (.int .i64 (c2.getD default).2.1))), (39, .v (.c (.int .i64 (c2.getD default).2.2))), (40, .v (.c (.int .i64 s1.1))), (41, .v (.c (.ptr 4 0 0 0 64 (s1.1).toNat))), (42, .v (.agg [.ints 64 .i64 ((a2.drop (64 * (s1.1).toNat)).take 64)])), (43, .v (.c (.int .i64 v2.2.2.2.2.1))), (44, .v (.c (.bool v2.2.2.2.2.2.1)))], [(0, .mem false 53 none (.flat [.cs [.int .i64 a3], .cs [.sl 1 0 a4 1, .sl 2 0 a5 1, .sl 3 0 a6 1]])), (1, .mem true 5 (some 0) (.flat [.ints a7 .u8 v2.2.2.2.2.2.2.1])), (2, .mem true 5 (some 0) (.flat [.ints a9 .u8 v2.2.2.2.2.2.2.2.1])), (3, .mem true 5 (some 0) (.flat [.ints a11 .u8 v2.2.2.2.2.2.2.2.2])), (4, .mem true 31 none (.flat [.ints 384 .i64 a2]))], 5⟩) (.exit 2) (fun v2 hv => ?_) (fun hxs20 => ?_)
                            · subst hv; clear hl
                              refine rInHit ?_
                              refine rInNormal ?_
                              refine rThen ?_
                              replace hT := sIf hT; obtain ⟨o1, hT⟩ := hT
                              refine zReg md0 hX rfl rfl rfl ?_
                              exact hnexts1 _ (Option.some.inj hT).symm _ (To.mk' [] 4 hε rfl (by repeat' first | exact True.intro | exact rfl | apply And.intro) (by repeat' first | exact True.intro | exact rfl | apply And.intro))
                            refine rLoopM (overspill_planes_Canvas_Lay_v2_b2 N a2 a4 a5 a6 a7 a9 a11 s1 c2) (fun s2 => ⟨[(0, .v (.c (.ptr 0 0 0 0 0 0))), (1, .v (.c (.int .i64 a1))), (5, .v (.c (.ptr 4 0 0 0 0 0))), (6, .v (.c (.int .i64 0))), (7, .v (.c (.int .i64 s1.1))), (8, .v (.c (.int .i64 s2.1))), (9, .v (.c (.int .i64 (c2.getD default).2.1))), (10, .v (.c (.int .i64 (c2.getD default).2.2))), (25, .v (.c (.int .i64 s1.1))), (26, .v (.c (.bool (decide (s1.1 < 6))))), (27, .v (.c (.int .i64 s1.1))), (28, .tup [.c (.int .i64 s2.2.1), .c (.int .i64 (c2.getD default).2.1), .c (.int .i64 (c2.getD default).2.2)]), (29, .v (.c (.ptr 0 0 0 0 0 0))), (30, .v (.c (.ptr 0 0 0 0 0 0))), (31, .v (.c (.ptr 0 0 0 0 0 0))), (32, .v (.c (.ptr 0 0 0 0 0 0))), (33, .v (.c (.int .i64 a3))), (34, .v (.c (.int .i64 a1))), (35, .v (.c (.int .i64 s1.1))), (36, .tup [.c (.int .i64 s2.2.2.1), .c (.int .i64 (c2.getD default).2.1), .c (.int .i64 (c2.getD default).2.2)]), (37, .v (.c (.int .i64 s2.2.2.2.1))), (38, .v (.c (.int .i64 (c2.getD default).2.1))), (39, .v (.c (.int .i64 (c2.getD default).2.2))), (40, .v (.c (.int .i64 s1.1))), (41, .v (.c (.ptr 4 0 0 0 64 (s1.1).toNat))), (42, .v (.agg [.ints 64 .i64 ((a2.drop (64 * (s1.1).toNat)).take 64)])), (43, .v (.c (.int .i64 s2.2.2.2.2.1)))], [(0, .mem false 53 none (.flat [.cs [.int .i64 a3], .cs [.sl 1 0 a4 1, .sl 2 0 a5 1, .sl 3 0 a6 1]])), (1, .mem true 5 (some 0) (.flat [.ints a7 .u8 s2.2.2.2.2.2.1])), (2, .mem true 5 (some 0) (.flat [.ints a9 .u8 s2.2.2.2.2.2.2.1])), (3, .mem true 5 (some 0) (.flat [.ints a11 .u8 s2.2.2.2.2.2.2.2])), (4, .mem true 31 none (.flat [.ints 384 .i64 a2]))], 5⟩) hl (To.mk' [] 4 hε rfl (by repeat' first | exact True.intro | exact rfl | apply And.intro) (by repeat' first | exact True.intro | exact rfl | apply And.intro)) (fun s2 zs2 NNs2 hz hnexts2 houts2 => ?_)
                            clear hl hT
                            have hT := hz; clear hz
                            refine rSeq ?_
                            refine zReg md0 hX rfl rfl rfl ?_
                            refine rThen ?_
                            refine rSeq ?_
                            refine zCond rfl rfl (fun hc => ?_) (fun hc => ?_)
                            · replace hT := sT hc hT
                              refine rSkip ?_
                              refine rThen ?_
                              refine rSeq ?_
                              refine rBlock ?_
                              refine rSeq ?_
                              replace hT := sIf hT; obtain ⟨⟨o1, o2, o3⟩, hT⟩ := hT
                              refine zReg md0 hX rfl rfl rfl ?_
                              refine rThen ?_
                              refine rToW (T := ⟨[(0, .v (.c (.ptr 0 0 0 0 0 0))), (1, .v (.c (.int .i64 a1))), (5, .v (.c (.ptr 4 0 0 0 0 0))), (6, .v (.c (.int .i64 0))), (7, .v (.c (.int .i64 s1.1))), (8, .v (.c (.int .i64 s2.1))), (9, .v (.c (.int .i64 (c2.getD default).2.1))), (10, .v (.c (.int .i64 (c2.getD default).2.2))), (11, .v (.c (.int .i64 s2.2.2.2.2.1))), (12, .v (.c (.int .i64 (((a2.drop (64 * (s1.1).toNat)).take 64).getD (s2.2.2.2.2.1).toNat 0)))), (25, .v (.c (.int .i64 s1.1))), (26, .v (.c (.bool (decide (s1.1 < 6))))), (27, .v (.c (.int .i64 s1.1))), (28, .tup [.c (.int .i64 s2.2.1), .c (.int .i64 (c2.getD default).2.1), .c (.int .i64 (c2.getD default).2.2)]), (29, .v (.c (.ptr 0 0 0 0 0 0))), (30, .v (.c (.ptr 0 0 0 0 0 0))), (31, .v (.c (.ptr 0 0 0 0 0 0))), (32, .v (.c (.ptr 0 0 0 0 0 0))), (33, .v (.c (.int .i64 a3))), (34, .v (.c (.int .i64 a1))), (35, .v (.c (.int .i64 s1.1))), (36, .tup [.c (.int .i64 s2.2.2.1), .c (.int .i64 (c2.getD default).2.1), .c (.int .i64 (c2.getD default).2.2)]), (37, .v (.c (.int .i64 s2.2.2.2.1))), (38, .v (.c (.int .i64 (c2.getD default).2.1))), (39, .v (.c (.int .i64 (c2.getD default).2.2))), (40, .v (.c (.int .i64 s1.1))), (41, .v (.c (.ptr 4 0 0 0 64 (s1.1).toNat))), (42, .v (.agg [.ints 64 .i64 ((a2.drop (64 * (s1.1).toNat)).take 64)])), (43, .v (.c (.int .i64 s2.2.2.2.2.1))), (44, .v (.c (.bool (decide (s2.2.2.2.2.1 < 64))))), (45, .v (.c (.int .i64 s2.2.2.2.2.1))), (46, .v (.c (.int .i64 (((a2.drop (64 * (s1.1).toNat)).take 64).getD (s2.2.2.2.2.1).toNat 0))))], [(0, .mem false 53 none (.flat [.cs [.int .i64 a3], .cs [.sl 1 0 a4 1, .sl 2 0 a5 1, .sl 3 0 a6 1]])), (1, .mem true 5 (some 0) (.flat [.ints a7 .u8 s2.2.2.2.2.2.1])), (2, .mem true 5 (some 0) (.flat [.ints a9 .u8 s2.2.2.2.2.2.2.1])), (3, .mem true 5 (some 0) (.flat [.ints a11 .u8 s2.2.2.2.2.2.2.2])), (4, .mem true 31 none (.flat [.ints 384 .i64 a2]))], 5⟩) (To.mk' [] 4 hε rfl (by repeat' first | exact True.intro | exact rfl | apply And.intro) (by repeat' first | exact True.intro | exact rfl | apply And.intro)) ?_
                              cases hs0 : (decide (s2.1 = 0))
                              · replace hT := sF hs0 hT
                                cases hs1 : (decide (s2.1 = 1))
                                · replace hT := sF hs1 hT
                                  cases hs2 : (decide (s2.1 = 2))
                                  · replace hT := sF hs2 hT
                                    cases hT
                                  · replace hT := sT hs2 hT
                                    rw [of_decide_eq_true hs2]
                                    let c5 := (whole_Clip N (((a2.drop (64 * (s1.1).toNat)).take 64).getD (s2.2.2.2.2.1).toNat 0) 0 255)
                                    let x6 := (s2.2.2.2.2.2.2.2.set (((c2.getD default).2.1 + ((s2.2.2.2.2.1 / 8) * (c2.getD default).2.2)) + (s2.2.2.2.2.1 % 8)).toNat (c5.getD default))
                                    replace hT := sIf hT; obtain ⟨⟨o1, o2, o3, o4, o5, o6, o7, o8, o9⟩, hT⟩ := hT
                                    refine zDraw md0 1 [20] hX mixed rfl rfl rfl rfl rfl ?_
                                    refine rInNormal ?_
                                    refine rThen ?_
                                    replace hT := sIf hT; obtain ⟨o1, hT⟩ := hT
                                    refine zReg md0 hX rfl rfl rfl ?_
                                    exact hnexts2 _ (Option.some.inj hT).symm _ (To.mk' [] 4 hε rfl (by repeat' first | exact True.intro | exact rfl | apply And.intro) (by repeat' first | exact True.intro | exact rfl | apply And.intro))
                                · replace hT := sT hs1 hT
                                  rw [of_decide_eq_true hs1]
                                  let c4 := (whole_Clip N (((a2.drop (64 * (s1.1).toNat)).take 64).getD (s2.2.2.2.2.1).toNat 0) 0 255)
                                  let x4 := (s2.2.2.2.2.2.2.1.set (((c2.getD default).2.1 + ((s2.2.2.2.2.1 / 8) * (c2.getD default).2.2)) + (s2.2.2.2.2.1 % 8)).toNat (c4.getD default))
                                  replace hT := sIf hT; obtain ⟨⟨o1, o2, o3, o4, o5, o6, o7, o8, o9⟩, hT⟩ := hT
                                  refine zDraw md0 1 [20] hX mixed rfl rfl rfl rfl rfl ?_
                                  refine rInNormal ?_
                                  refine rThen ?_
                                  replace hT := sIf hT; obtain ⟨o1, hT⟩ := hT
                                  refine zReg md0 hX rfl rfl rfl ?_
                                  exact hnexts2 _ (Option.some.inj hT).symm _ (To.mk' [] 4 hε rfl (by repeat' first | exact True.intro | exact rfl | apply And.intro) (by repeat' first | exact True.intro | exact rfl | apply And.intro))
                              · replace hT := sT hs0 hT
                                rw [of_decide_eq_true hs0]
                                let c3 := (whole_Clip N (((a2.drop (64 * (s1.1).toNat)).take 64).getD (s2.2.2.2.2.1).toNat 0) 0 255)
                                let x2 := (s2.2.2.2.2.2.1.set (((c2.getD default).2.1 + ((s2.2.2.2.2.1 / 8) * (c2.getD default).2.2)) + (s2.2.2.2.2.1 % 8)).toNat (c3.getD default))
                                replace hT := sIf hT; obtain ⟨⟨o1, o2, o3, o4, o5, o6, o7, o8, o9⟩, hT⟩ := hT
                                refine zDraw md0 1 [20] hX mixed rfl rfl rfl rfl rfl ?_
                                refine rInNormal ?_
                                refine rThen ?_
                                replace hT := sIf hT; obtain ⟨o1, hT⟩ := hT
                                refine zReg md0 hX rfl rfl rfl ?_
                                exact hnexts2 _ (Option.some.inj hT).symm _ (To.mk' [] 4 hε rfl (by repeat' first | exact True.intro | exact rfl | apply And.intro) (by repeat' first | exact True.intro | exact rfl | apply And.intro))
                            · replace hT := sF hc hT
                              refine rExit ?_
                              refine rThenExit ?_
                              refine rThenExit ?_
                              exact zTo [] 4 hε (hxs20 _ (houts2 _ (Option.some.inj hT).symm))
                          · replace hT := sF hc hT
                            refine rExit ?_
                            refine rThenExit ?_
                            refine rThenExit ?_
                            exact zTo [] 4 hε (hxs10 _ (houts1 _ (Option.some.inj hT).symm))
                      · cases h
                    · cases h
                  · cases h
                · cases h
              · cases h
            · cases h
          · cases h
        · cases h
      · cases h
    · cases h
  · cases h
def ref17_Same (N : Nat) (a1 : Int) (a2 : (List (List Int))) (a3 : Int) (a4 : Nat) (a5 : Nat) (a6 : Nat) (a7 : Nat) (a8 : (List Int)) (a9 : Nat) (a10 : (List Int)) (a11 : Nat) (a12 : (List Int)) : Option Bool :=
  bif (decide (a1 ≠ a3)) then
    some false
  else
    let x1 := (decide (ByteArray.toList (bytesOf (a2.getD 0 [])) ≠ ByteArray.toList (bytesOf (a8.take a4))))
    if a4 ≤ a7 ∧ (a4 : Int) ≤ 9223372036854775807 then
      bif x1 then
        some false
      else
        let x2 := (decide (ByteArray.toList (bytesOf (a2.getD 1 [])) ≠ ByteArray.toList (bytesOf (a10.take a5))))
        if a5 ≤ a9 ∧ (a5 : Int) ≤ 9223372036854775807 then
          bif x2 then
            some false
          else
            let x3 := (decide (ByteArray.toList (bytesOf (a2.getD 2 [])) ≠ ByteArray.toList (bytesOf (a12.take a6))))
            if a6 ≤ a11 ∧ (a6 : Int) ≤ 9223372036854775807 then
              bif x3 then
                some false
              else
                some true
            else none
        else none
    else none
def sp_ref17_Same (N : Nat) : X.Spec := fun args lk => match args with
  | [.v (.agg [.cs [.int .i64 a1], .fzs 3 (.int .u8) a2]), .v (.agg [.cs [.int .i64 a3, .sl i0 0 a4 1, .sl i1 0 a5 1, .sl i2 0 a6 1]])] => (match lk i0 with
    | some (.mem _ _ _ (.flat [.ints a7 .u8 a8])) => (match lk i1 with
    | some (.mem _ _ _ (.flat [.ints a9 .u8 a10])) => (match lk i2 with
    | some (.mem _ _ _ (.flat [.ints a11 .u8 a12])) => some ⟨(ref17_Same N a1 a2 a3 a4 a5 a6 a7 a8 a9 a10 a11 a12).isSome = true, .v (.c (.bool ((ref17_Same N a1 a2 a3 a4 a5 a6 a7 a8 a9 a10 a11 a12).getD default))), [], []⟩
    | _ => none)
    | _ => none)
    | _ => none)
  | _ => none
set_option maxRecDepth 100000 in
set_option maxHeartbeats 1000000 in
theorem ok_ref17_Same (N : Nat) : FnOK Try.prog gt0 22 (sp_ref17_Same N) := by
  refine fnOK_handed Try.func22 rfl (by kernel_rfl) ttC_ok (ktNil) ?_
  intro args lk r h hp
  unfold sp_ref17_Same at h
  split at h
  · rename_i a1 a2 a3 i0 a4 i1 a5 i2 a6
    split at h
    · rename_i _ _ _ a7 a8 hl0
      split at h
      · rename_i _ _ _ a9 a10 hl1
        split at h
        · rename_i _ _ _ a11 a12 hl2
          change (List (List Int)) at a2
          change (List Int) at a8
          change (List Int) at a10
          change (List Int) at a12
          cases h
          obtain ⟨x, hx⟩ := Option.isSome_iff_exists.1 hp
          simp only [hx, Option.getD_some]
          refine handL [i0, i1, i2] 3 [(0, .mem false 5 none (.flat [.ints a7 .u8 a8])), (1, .mem false 5 none (.flat [.ints a9 .u8 a10])), (2, .mem false 5 none (.flat [.ints a11 .u8 a12]))] [.v (.agg [.cs [.int .i64 a1], .fzs 3 (.int .u8) a2]), .v (.agg [.cs [.int .i64 a3, .sl 0 0 a4 1, .sl 1 0 a5 1, .sl 2 0 a6 1]])] rfl rfl rfl ⟨isSome_of hl2, isSome_of hl1, isSome_of hl0, trivial⟩ ⟨⟨rfl, (by repeat' first | exact True.intro | exact rfl | exact ⟨_, rfl, rfl⟩ | apply And.intro | exact Or.inl rfl), _, hl0, sub_ro⟩, ⟨rfl, (by repeat' first | exact True.intro | exact rfl | exact ⟨_, rfl, rfl⟩ | apply And.intro | exact Or.inl rfl), _, hl1, sub_ro⟩, ⟨rfl, (by repeat' first | exact True.intro | exact rfl | exact ⟨_, rfl, rfl⟩ | apply And.intro | exact Or.inl rfl), _, hl2, sub_ro⟩, trivial⟩ rfl (fun w0 M ε0 hX => ?_)
          refine rCount (fun hε => ?_)
          have hT : ref17_Same N a1 a2 a3 a4 a5 a6 a7 a8 a9 a10 a11 a12 = some x := hx; clear hx hp; unfold ref17_Same at hT
          refine rSeq ?_
          refine zReg md0 hX rfl rfl rfl ?_
          refine rThen ?_
          refine rSeq ?_
          refine rSeq ?_
          refine zReg md0 hX rfl rfl rfl ?_
          refine rThen ?_
          refine zCond rfl rfl (fun hc => ?_) (fun hc => ?_)
          · replace hT := sT hc hT
            refine rSeq ?_
            refine zReg md0 hX rfl rfl rfl ?_
            refine rThen ?_
            refine rRet ?_
            refine rThenRet ?_
            have hy := Option.some.inj hT; subst hy
            exact zEnd0 hX rfl
          · replace hT := sF hc hT
            refine rSkip ?_
            refine rThen ?_
            refine rSeq ?_
            refine rSeq ?_
            refine zReg md0 hX rfl rfl rfl ?_
            refine rThen ?_
            refine rBlock ?_
            refine rRounds 24 ?_
            refine rSeq ?_
            refine rSeq ?_
            refine zReg md0 hX rfl rfl rfl ?_
            refine rThen ?_
            refine rCondT rfl rfl (by (repeat' first | exact True.intro | with_reducible assumption | (with_reducible apply And.intro) | intro _) <;> first | assumption | exact rfl | omega | exact Nat.le_of_ble_eq_true rfl | exact selF (by assumption) | exact selT (by assumption) | exact And.intro rfl rfl | exact And.intro (by assumption) rfl | exact And.intro (by omega) rfl | (simp only [inK] at *; omega) | (simp_all [sel] <;> fail) | fail) rfl ?_
            refine rSkip ?_
            refine rThen ?_
            refine rSeq ?_
            refine rBlock ?_
            refine rSeq ?_
            let x1 := (decide (ByteArray.toList (bytesOf (a2.getD 0 [])) ≠ ByteArray.toList (bytesOf (a8.take a4))))
            replace hT := sIf hT; obtain ⟨⟨o1, o2⟩, hT⟩ := hT
            refine zDraw md0 0 [] hX mixed rfl rfl rfl rfl rfl ?_
            refine rThen ?_
            refine zCond rfl rfl (fun hc => ?_) (fun hc => ?_)
            · replace hT := sT hc hT
              refine rSeq ?_
              refine zReg md0 hX rfl rfl rfl ?_
              refine rThen ?_
              refine rRet ?_
              refine rInRet ?_
              refine rThenRet ?_
              refine rThenRet ?_
              refine rInRet ?_
              refine rThenRet ?_
              have hy := Option.some.inj hT; subst hy
              exact zEnd0 hX rfl
            · replace hT := sF hc hT
              refine rSkip ?_
              refine rInNormal ?_
              refine rThen ?_
              refine zReg md0 hX rfl rfl rfl ?_
              refine rRound ?_
              refine rSeq ?_
              refine rSeq ?_
              refine zReg md0 hX rfl rfl rfl ?_
              refine rThen ?_
              refine rCondT rfl rfl (by (repeat' first | exact True.intro | with_reducible assumption | (with_reducible apply And.intro) | intro _) <;> first | assumption | exact rfl | omega | exact Nat.le_of_ble_eq_true rfl | exact selF (by assumption) | exact selT (by assumption) | exact And.intro rfl rfl | exact And.intro (by assumption) rfl | exact And.intro (by omega) rfl | (simp only [inK] at *; omega) | (simp_all [sel] <;> fail) | fail) rfl ?_
              refine rSkip ?_
              refine rThen ?_
              refine rSeq ?_
              refine rBlock ?_
              refine rSeq ?_
              let x2 := (decide (ByteArray.toList (bytesOf (a2.getD 1 [])) ≠ ByteArray.toList (bytesOf (a10.take a5))))
              replace hT := sIf hT; obtain ⟨⟨o1, o2⟩, hT⟩ := hT
              refine zDraw md0 0 [] hX mixed rfl rfl rfl rfl rfl ?_
              refine rThen ?_
              refine zCond rfl rfl (fun hc => ?_) (fun hc => ?_)
              · replace hT := sT hc hT
                refine rSeq ?_
                refine zReg md0 hX rfl rfl rfl ?_
                refine rThen ?_
                refine rRet ?_
                refine rInRet ?_
                refine rThenRet ?_
                refine rThenRet ?_
                refine rInRet ?_
                refine rThenRet ?_
                have hy := Option.some.inj hT; subst hy
                exact zEnd0 hX rfl
              · replace hT := sF hc hT
                refine rSkip ?_
                refine rInNormal ?_
                refine rThen ?_
                refine zReg md0 hX rfl rfl rfl ?_
                refine rRound ?_
                refine rSeq ?_
                refine rSeq ?_
                refine zReg md0 hX rfl rfl rfl ?_
                refine rThen ?_
                refine rCondT rfl rfl (by (repeat' first | exact True.intro | with_reducible assumption | (with_reducible apply And.intro) | intro _) <;> first | assumption | exact rfl | omega | exact Nat.le_of_ble_eq_true rfl | exact selF (by assumption) | exact selT (by assumption) | exact And.intro rfl rfl | exact And.intro (by assumption) rfl | exact And.intro (by omega) rfl | (simp only [inK] at *; omega) | (simp_all [sel] <;> fail) | fail) rfl ?_
                refine rSkip ?_
                refine rThen ?_
                refine rSeq ?_
                refine rBlock ?_
                refine rSeq ?_
                let x3 := (decide (ByteArray.toList (bytesOf (a2.getD 2 [])) ≠ ByteArray.toList (bytesOf (a12.take a6))))
                replace hT := sIf hT; obtain ⟨⟨o1, o2⟩, hT⟩ := hT
                refine zDraw md0 0 [] hX mixed rfl rfl rfl rfl rfl ?_
                refine rThen ?_
                refine zCond rfl rfl (fun hc => ?_) (fun hc => ?_)
                · replace hT := sT hc hT
                  refine rSeq ?_
                  refine zReg md0 hX rfl rfl rfl ?_
                  refine rThen ?_
                  refine rRet ?_
                  refine rInRet ?_
                  refine rThenRet ?_
                  refine rThenRet ?_
                  refine rInRet ?_
                  refine rThenRet ?_
                  have hy := Option.some.inj hT; subst hy
                  exact zEnd0 hX rfl
                · replace hT := sF hc hT
                  refine rSkip ?_
                  refine rInNormal ?_
                  refine rThen ?_
                  refine zReg md0 hX rfl rfl rfl ?_
                  refine rRound ?_
                  refine rSeq ?_
                  refine rSeq ?_
                  refine zReg md0 hX rfl rfl rfl ?_
                  refine rThen ?_
                  refine rCondF rfl rfl (by (repeat' first | exact True.intro | with_reducible assumption | (with_reducible apply And.intro) | intro _) <;> first | assumption | exact rfl | omega | exact Nat.le_of_ble_eq_true rfl | exact selF (by assumption) | exact selT (by assumption) | exact And.intro rfl rfl | exact And.intro (by assumption) rfl | exact And.intro (by omega) rfl | (simp only [inK] at *; omega) | (simp_all [sel] <;> fail) | fail) rfl ?_
                  refine rExit ?_
                  refine rThenExit ?_
                  refine rThenExit ?_
                  refine rInHit ?_
                  refine rThen ?_
                  refine rSeq ?_
                  refine zReg md0 hX rfl rfl rfl ?_
                  refine rThen ?_
                  refine rRet ?_
                  have hy := Option.some.inj hT; subst hy
                  exact zEnd0 hX rfl
        · cases h
      · cases h
    · cases h
  · cases h
def ref16_Across (N : Nat) (a1 : Int) : Option Int :=
  let c1 := (ref16_Size N a1)
  if c1.isSome = true ∧ (0 : Int) ≤ ((c1.getD default).getD 0 0) then
    some (((c1.getD default).getD 0 0) / 16)
  else none
def sp_ref16_Across (N : Nat) : X.Spec := fun args lk => match args with
  | [.v (.c (.int .i64 a1))] => some ⟨(ref16_Across N a1).isSome = true, .v (.c (.int .i64 ((ref16_Across N a1).getD default))), [], []⟩
  | _ => none
set_option maxRecDepth 100000 in
set_option maxHeartbeats 1000000 in
theorem ok_ref16_Across (N : Nat) : FnOK Try.prog gt0 57 (sp_ref16_Across N) := by
  refine fnOK_handed Try.func57 rfl (by kernel_rfl) tt_ok (ktCons (ok_ref16_Size N) (ktNil)) ?_
  intro args lk r h hp
  unfold sp_ref16_Across at h
  split at h
  · rename_i a1
    cases h
    obtain ⟨x, hx⟩ := Option.isSome_iff_exists.1 hp
    simp only [hx, Option.getD_some]
    refine hand0 rfl rfl (fun w0 M ε0 hX => ?_)
    refine rCount (fun hε => ?_)
    have hT : ref16_Across N a1 = some x := hx; clear hx hp; unfold ref16_Across at hT
    refine rSeq ?_
    refine zReg md0 hX rfl rfl rfl ?_
    refine rThen ?_
    refine rSeq ?_
    let c1 := (ref16_Size N a1)
    replace hT := sIf hT; obtain ⟨⟨o1, o2⟩, hT⟩ := hT
    refine zReg md0 hX rfl rfl rfl ?_
    refine rThen ?_
    refine rRet ?_
    have hy := Option.some.inj hT; subst hy
    exact zEnd0 hX rfl
  · cases h
def ref17_Place (N : Nat) (a1 : Int) (a2 : Int) (a3 : Int) (a4 : Int) : Option (Int × Int × Int) :=
  let c1 := (ref16_Across N a1)
  if c1.isSome = true ∧ (0 : Int) ≤ a2 ∧ (0 : Int) < (c1.getD default) then
    let c2 := (ref16_Across N a1)
    if c2.isSome = true ∧ (0 : Int) ≤ a2 ∧ (0 : Int) < (c2.getD default) then
      bif (decide (a3 < 4)) then
        if inK .i64 ((16 : Int) * (a2 % (c1.getD default))) ∧ (0 : Int) ≤ a3 ∧ inK .i64 ((8 : Int) * (a3 % 2)) ∧ inK .i64 (((16 : Int) * (a2 % (c1.getD default))) + ((8 : Int) * (a3 % 2))) ∧ (0 : Int) ≤ a4 ∧ inK .i64 ((((16 : Int) * (a2 % (c1.getD default))) + ((8 : Int) * (a3 % 2))) + (a4 % 8)) ∧ inK .i64 ((16 : Int) * (a2 / (c2.getD default))) ∧ inK .i64 ((8 : Int) * (a3 / 2)) ∧ inK .i64 (((16 : Int) * (a2 / (c2.getD default))) + ((8 : Int) * (a3 / 2))) ∧ inK .i64 ((((16 : Int) * (a2 / (c2.getD default))) + ((8 : Int) * (a3 / 2))) + (a4 / 8)) then
          some (0, ((((16 : Int) * (a2 % (c1.getD default))) + ((8 : Int) * (a3 % 2))) + (a4 % 8)), ((((16 : Int) * (a2 / (c2.getD default))) + ((8 : Int) * (a3 / 2))) + (a4 / 8)))
        else none
      else
        if inK .i64 (a3 - 3) ∧ inK .i64 ((8 : Int) * (a2 % (c1.getD default))) ∧ (0 : Int) ≤ a4 ∧ inK .i64 (((8 : Int) * (a2 % (c1.getD default))) + (a4 % 8)) ∧ inK .i64 ((8 : Int) * (a2 / (c2.getD default))) ∧ inK .i64 (((8 : Int) * (a2 / (c2.getD default))) + (a4 / 8)) then
          some ((a3 - 3), (((8 : Int) * (a2 % (c1.getD default))) + (a4 % 8)), (((8 : Int) * (a2 / (c2.getD default))) + (a4 / 8)))
        else none
    else none
  else none
def sp_ref17_Place (N : Nat) : X.Spec := fun args lk => match args with
  | [.v (.c (.int .i64 a1)), .v (.c (.int .i64 a2)), .v (.c (.int .i64 a3)), .v (.c (.int .i64 a4))] => some ⟨(ref17_Place N a1 a2 a3 a4).isSome = true, .tup [.c (.int .i64 ((ref17_Place N a1 a2 a3 a4).getD default).1), .c (.int .i64 ((ref17_Place N a1 a2 a3 a4).getD default).2.1), .c (.int .i64 ((ref17_Place N a1 a2 a3 a4).getD default).2.2)], [], []⟩
  | _ => none
set_option maxRecDepth 100000 in
set_option maxHeartbeats 1000000 in
theorem ok_ref17_Place (N : Nat) : FnOK Try.prog gt0 59 (sp_ref17_Place N) := by
  refine fnOK_handed Try.func59 rfl (by kernel_rfl) tt_ok (ktCons (ok_ref16_Across N) (ktNil)) ?_
  intro args lk r h hp
  unfold sp_ref17_Place at h
  split at h
  · rename_i a1 a2 a3 a4
    cases h
    obtain ⟨x, hx⟩ := Option.isSome_iff_exists.1 hp
    simp only [hx, Option.getD_some]
    refine hand0 rfl rfl (fun w0 M ε0 hX => ?_)
    refine rCount (fun hε => ?_)
    have hT : ref17_Place N a1 a2 a3 a4 = some x := hx; clear hx hp; unfold ref17_Place at hT
    refine rSeq ?_
    refine zReg md0 hX rfl rfl rfl ?_
    refine rThen ?_
    refine rSeq ?_
    let c1 := (ref16_Across N a1)
    replace hT := sIf hT; obtain ⟨⟨o1, o2, o3⟩, hT⟩ := hT
    refine zReg md0 hX rfl rfl rfl ?_
    refine rThen ?_
    refine rSeq ?_
    let c2 := (ref16_Across N a1)
    replace hT := sIf hT; obtain ⟨⟨o1, o2, o3⟩, hT⟩ := hT
    refine zReg md0 hX rfl rfl rfl ?_
    refine rThen ?_
    refine rSeq ?_
    refine rSeq ?_
    refine zReg md0 hX rfl rfl rfl ?_
    refine rThen ?_
    refine zCond rfl rfl (fun hc => ?_) (fun hc => ?_)
    · replace hT := sT hc hT
      refine rSeq ?_
      replace hT := sIf hT; obtain ⟨⟨o1, o2, o3, o4, o5, o6, o7, o8, o9, o10⟩, hT⟩ := hT
      refine zReg md0 hX rfl rfl rfl ?_
      refine rThen ?_
      refine rRet ?_
      refine rThenRet ?_
      have hy := Option.some.inj hT; subst hy
      exact zEnd0 hX rfl
    · replace hT := sF hc hT
      refine rSkip ?_
      refine rThen ?_
      refine rSeq ?_
      replace hT := sIf hT; obtain ⟨⟨o1, o2, o3, o4, o5, o6⟩, hT⟩ := hT
      refine zReg md0 hX rfl rfl rfl ?_
      refine rThen ?_
      refine rRet ?_
      have hy := Option.some.inj hT; subst hy
      exact zEnd0 hX rfl
  · cases h
def ref17_Lay_b2 (N : Nat) (a1 : Int) (a2 : Nat) (a3 : Nat) (a4 : Nat) (a5 : Int) (a6 : (List Int)) (a7 : Nat) (a9 : Nat) (a11 : Nat) (s1 : (Int × (List Int) × (List Int) × (List Int))) (s2 : (Int × (List Int) × (List Int) × (List Int))) : Option ((Int × (List Int) × (List Int) × (List Int)) ⊕ (Int × Int × Bool × (List Int) × (List Int) × (List Int))) :=
  bif (decide (s2.1 < 64)) then
    let c1 := (ref17_Place N a1 a5 s1.1 s2.1)
    if c1.isSome = true then
      bif (decide ((c1.getD default).1 = 0)) then
        let c2 := (ref17_Wide N a1 0)
        let c3 := (ref01_Clip N (a6.getD ((s1.1).toNat * 64 + (s2.1).toNat) 0) 0 255)
        let x1 := (s2.2.1.set (((c1.getD default).2.2 * (c2.getD default)) + (c1.getD default).2.1).toNat (c3.getD default))
        if c2.isSome = true ∧ inK .i64 ((c1.getD default).2.2 * (c2.getD default)) ∧ inK .i64 (((c1.getD default).2.2 * (c2.getD default)) + (c1.getD default).2.1) ∧ (0 : Int) ≤ s1.1 ∧ s1.1 < 6 ∧ (0 : Int) ≤ s2.1 ∧ s2.1 < 64 ∧ ((s1.1).toNat * 64 + (s2.1).toNat) < 384 ∧ c3.isSome = true ∧ inK .u8 (c3.getD default) ∧ (0 : Int) ≤ (((c1.getD default).2.2 * (c2.getD default)) + (c1.getD default).2.1) ∧ (((c1.getD default).2.2 * (c2.getD default)) + (c1.getD default).2.1) < (a2 : Int) ∧ (((c1.getD default).2.2 * (c2.getD default)) + (c1.getD default).2.1).toNat < a7 then
          if inK .i64 (s2.1 + 1) then
            some (.inl ((s2.1 + 1), x1, s2.2.2.1, s2.2.2.2))
          else none
        else none
      else
        bif (decide ((c1.getD default).1 = 1)) then
          let c4 := (ref17_Wide N a1 1)
          let c5 := (ref01_Clip N (a6.getD ((s1.1).toNat * 64 + (s2.1).toNat) 0) 0 255)
          let x2 := (s2.2.2.1.set (((c1.getD default).2.2 * (c4.getD default)) + (c1.getD default).2.1).toNat (c5.getD default))
          if c4.isSome = true ∧ inK .i64 ((c1.getD default).2.2 * (c4.getD default)) ∧ inK .i64 (((c1.getD default).2.2 * (c4.getD default)) + (c1.getD default).2.1) ∧ (0 : Int) ≤ s1.1 ∧ s1.1 < 6 ∧ (0 : Int) ≤ s2.1 ∧ s2.1 < 64 ∧ ((s1.1).toNat * 64 + (s2.1).toNat) < 384 ∧ c5.isSome = true ∧ inK .u8 (c5.getD default) ∧ (0 : Int) ≤ (((c1.getD default).2.2 * (c4.getD default)) + (c1.getD default).2.1) ∧ (((c1.getD default).2.2 * (c4.getD default)) + (c1.getD default).2.1) < (a3 : Int) ∧ (((c1.getD default).2.2 * (c4.getD default)) + (c1.getD default).2.1).toNat < a9 then
            if inK .i64 (s2.1 + 1) then
              some (.inl ((s2.1 + 1), s2.2.1, x2, s2.2.2.2))
            else none
          else none
        else
          bif (decide ((c1.getD default).1 = 2)) then
            let c6 := (ref17_Wide N a1 2)
            let c7 := (ref01_Clip N (a6.getD ((s1.1).toNat * 64 + (s2.1).toNat) 0) 0 255)
            let x3 := (s2.2.2.2.set (((c1.getD default).2.2 * (c6.getD default)) + (c1.getD default).2.1).toNat (c7.getD default))
            if c6.isSome = true ∧ inK .i64 ((c1.getD default).2.2 * (c6.getD default)) ∧ inK .i64 (((c1.getD default).2.2 * (c6.getD default)) + (c1.getD default).2.1) ∧ (0 : Int) ≤ s1.1 ∧ s1.1 < 6 ∧ (0 : Int) ≤ s2.1 ∧ s2.1 < 64 ∧ ((s1.1).toNat * 64 + (s2.1).toNat) < 384 ∧ c7.isSome = true ∧ inK .u8 (c7.getD default) ∧ (0 : Int) ≤ (((c1.getD default).2.2 * (c6.getD default)) + (c1.getD default).2.1) ∧ (((c1.getD default).2.2 * (c6.getD default)) + (c1.getD default).2.1) < (a4 : Int) ∧ (((c1.getD default).2.2 * (c6.getD default)) + (c1.getD default).2.1).toNat < a11 then
              if inK .i64 (s2.1 + 1) then
                some (.inl ((s2.1 + 1), s2.2.1, s2.2.2.1, x3))
              else none
            else none
          else
            none
    else none
  else
    some (.inr (s2.1, s2.1, (decide (s2.1 < 64)), s2.2.1, s2.2.2.1, s2.2.2.2))
def ref17_Lay_b1 (N : Nat) (a1 : Int) (a2 : Nat) (a3 : Nat) (a4 : Nat) (a5 : Int) (a6 : (List Int)) (a7 : Nat) (a9 : Nat) (a11 : Nat) (s1 : (Int × (List Int) × (List Int) × (List Int))) : Option ((Int × (List Int) × (List Int) × (List Int)) ⊕ ((List Int) × (List Int) × (List Int))) :=
  bif (decide (s1.1 < 6)) then
    (iter (ref17_Lay_b2 N a1 a2 a3 a4 a5 a6 a7 a9 a11 s1) N (0, s1.2.1, s1.2.2.1, s1.2.2.2)).bind fun v2 =>
      if inK .i64 (s1.1 + 1) then
        some (.inl ((s1.1 + 1), v2.2.2.2.1, v2.2.2.2.2.1, v2.2.2.2.2.2))
      else none
  else
    some (.inr (s1.2.1, s1.2.2.1, s1.2.2.2))
def ref17_Lay (N : Nat) (a1 : Int) (a2 : Nat) (a3 : Nat) (a4 : Nat) (a5 : Int) (a6 : (List Int)) (a7 : Nat) (a8 : (List Int)) (a9 : Nat) (a10 : (List Int)) (a11 : Nat) (a12 : (List Int)) : Option (Nat × (List Int) × Nat × (List Int) × Nat × (List Int)) :=
  (iter (ref17_Lay_b1 N a1 a2 a3 a4 a5 a6 a7 a9 a11) N (0, a8, a10, a12)).bind fun v1 =>
    some (a7, v1.1, a9, v1.2.1, a11, v1.2.2)
def sp_ref17_Lay (N : Nat) : X.Spec := fun args lk => match args with
  | [.v (.agg [.cs [.int .i64 a1, .sl i0 0 a2 1, .sl i1 0 a3 1, .sl i2 0 a4 1]]), .v (.c (.int .i64 a5)), .v (.agg [.ints 384 .i64 a6])] => (match lk i0 with
    | some (.mem true 5 (some 0) (.flat [.ints a7 .u8 a8])) => (match lk i1 with
    | some (.mem true 5 (some 0) (.flat [.ints a9 .u8 a10])) => (match lk i2 with
    | some (.mem true 5 (some 0) (.flat [.ints a11 .u8 a12])) => (match Nat.beq i0 i1 with
    | false => (match Nat.beq i0 i2 with
    | false => (match Nat.beq i1 i2 with
    | false => some ⟨(ref17_Lay N a1 a2 a3 a4 a5 a6 a7 a8 a9 a10 a11 a12).isSome = true, .tup [], [], [(i0, .mem true 5 (some 0) (.flat [.ints ((ref17_Lay N a1 a2 a3 a4 a5 a6 a7 a8 a9 a10 a11 a12).getD default).1 .u8 ((ref17_Lay N a1 a2 a3 a4 a5 a6 a7 a8 a9 a10 a11 a12).getD default).2.1])), (i1, .mem true 5 (some 0) (.flat [.ints ((ref17_Lay N a1 a2 a3 a4 a5 a6 a7 a8 a9 a10 a11 a12).getD default).2.2.1 .u8 ((ref17_Lay N a1 a2 a3 a4 a5 a6 a7 a8 a9 a10 a11 a12).getD default).2.2.2.1])), (i2, .mem true 5 (some 0) (.flat [.ints ((ref17_Lay N a1 a2 a3 a4 a5 a6 a7 a8 a9 a10 a11 a12).getD default).2.2.2.2.1 .u8 ((ref17_Lay N a1 a2 a3 a4 a5 a6 a7 a8 a9 a10 a11 a12).getD default).2.2.2.2.2]))]⟩
    | true => none)
    | true => none)
    | true => none)
    | _ => none)
    | _ => none)
    | _ => none)
  | _ => none
set_option maxRecDepth 100000 in
set_option maxHeartbeats 1000000 in
theorem ok_ref17_Lay (N : Nat) : FnOK Try.prog gt0 31 (sp_ref17_Lay N) := by
  refine fnOK_handed Try.func31 rfl (by kernel_rfl) ttC_ok (ktCons (ok_ref01_Clip N) (ktCons (ok_ref17_Wide N) (ktCons (ok_ref17_Place N) (ktNil)))) ?_
  intro args lk r h hp
  unfold sp_ref17_Lay at h
  split at h
  · rename_i a1 i0 a2 i1 a3 i2 a4 a5 a6
    split at h
    · rename_i a7 a8 hl0
      split at h
      · rename_i a9 a10 hl1
        split at h
        · rename_i a11 a12 hl2
          split at h
          · rename_i hb0_1
            split at h
            · rename_i hb0_2
              split at h
              · rename_i hb1_2
                change (List Int) at a6
                change (List Int) at a8
                change (List Int) at a10
                change (List Int) at a12
                cases h
                obtain ⟨x, hx⟩ := Option.isSome_iff_exists.1 hp
                simp only [hx, Option.getD_some]
                refine handL [i0, i1, i2] 3 [(0, .mem true 5 (some 0) (.flat [.ints a7 .u8 a8])), (1, .mem true 5 (some 0) (.flat [.ints a9 .u8 a10])), (2, .mem true 5 (some 0) (.flat [.ints a11 .u8 a12]))] [.v (.agg [.cs [.int .i64 a1, .sl 0 0 a2 1, .sl 1 0 a3 1, .sl 2 0 a4 1]]), .v (.c (.int .i64 a5)), .v (.agg [.ints 384 .i64 a6])] rfl rfl rfl ⟨isSome_of hl2, isSome_of hl1, isSome_of hl0, trivial⟩ ⟨⟨rfl, (by repeat' first | exact True.intro | exact rfl | exact ⟨_, rfl, rfl⟩ | apply And.intro | exact Or.inl rfl), _, hl0, .inl rfl⟩, ⟨rfl, (by repeat' first | exact True.intro | exact rfl | exact ⟨_, rfl, rfl⟩ | apply And.intro | exact Or.inl rfl), _, hl1, .inl rfl⟩, ⟨rfl, (by repeat' first | exact True.intro | exact rfl | exact ⟨_, rfl, rfl⟩ | apply And.intro | exact Or.inl rfl), _, hl2, .inl rfl⟩, trivial⟩ (by simp [apartB, allB, rn, nth, E.own, hb0_1, beq_ff hb0_1, hb0_2, beq_ff hb0_2, hb1_2, beq_ff hb1_2]) (fun w0 M ε0 hX => ?_)
                refine rCount (fun hε => ?_)
                have hT : ref17_Lay N a1 a2 a3 a4 a5 a6 a7 a8 a9 a10 a11 a12 = some x := hx; clear hx hp; unfold ref17_Lay at hT
                refine rSeq ?_
                refine zReg md0 hX rfl rfl rfl ?_
                refine rThen ?_
                refine rSeq ?_
                refine zReg md0 hX rfl rfl rfl ?_
                refine rThen ?_
                refine rBlock ?_
                replace hT := sBind hT; obtain ⟨w1, hl, hT⟩ := hT
                refine rJoinA (fun v1 => v1 = w1) (fun v1 => ⟨[], [(0, .mem true 5 (some 0) (.flat [.ints a7 .u8 v1.1])), (1, .mem true 5 (some 0) (.flat [.ints a9 .u8 v1.2.1])), (2, .mem true 5 (some 0) (.flat [.ints a11 .u8 v1.2.2]))], 5⟩) (.exit 0) (fun v1 hv => ?_) (fun hxs10 => ?_)
                · subst hv; clear hl
                  refine rInHit ?_
                  refine rNormal ?_
                  have hy := Option.some.inj hT; subst hy
                  exact rEndA [] [] [(0, .mem true 5 (some 0) (.flat [.ints a7 .u8 v1.1])), (1, .mem true 5 (some 0) (.flat [.ints a9 .u8 v1.2.1])), (2, .mem true 5 (some 0) (.flat [.ints a11 .u8 v1.2.2]))] (.tup []) hX rfl (by repeat' first | exact True.intro | exact rfl | apply And.intro | omega | exact Nat.le_of_ble_eq_true rfl) (by repeat' first | exact True.intro | exact rfl | apply And.intro) rfl rfl rfl (by repeat' first | exact True.intro | exact rfl | exact ⟨_, rfl, rfl⟩ | apply And.intro | exact Or.inl rfl) rfl rfl (by repeat' first | exact True.intro | exact rfl | exact ⟨_, rfl, rfl⟩ | apply And.intro | exact Or.inl rfl) rfl rfl
                refine rLoopM (ref17_Lay_b1 N a1 a2 a3 a4 a5 a6 a7 a9 a11) (fun s1 => ⟨[(1, .v (.c (.int .i64 a5))), (3, .v (.c (.ptr 3 0 0 0 0 0))), (5, .v (.c (.ptr 4 0 0 0 0 0))), (6, .v (.c (.int .i64 s1.1)))], [(0, .mem true 5 (some 0) (.flat [.ints a7 .u8 s1.2.1])), (1, .mem true 5 (some 0) (.flat [.ints a9 .u8 s1.2.2.1])), (2, .mem true 5 (some 0) (.flat [.ints a11 .u8 s1.2.2.2])), (3, .mem true 25 none (.flat [.cs [.int .i64 a1, .sl 0 0 a2 1, .sl 1 0 a3 1, .sl 2 0 a4 1]])), (4, .mem true 31 none (.flat [.ints 384 .i64 a6]))], 5⟩) hl (To.mk' [] 3 hε rfl (by repeat' first | exact True.intro | exact rfl | apply And.intro) (by repeat' first | exact True.intro | exact rfl | apply And.intro)) (fun s1 zs1 NNs1 hz hnexts1 houts1 => ?_)
                clear hl hT
                have hT := hz; clear hz
                refine rSeq ?_
                refine rSeq ?_
                refine zReg md0 hX rfl rfl rfl ?_
                refine rThen ?_
                refine zCond rfl rfl (fun hc => ?_) (fun hc => ?_)
                · replace hT := sT hc hT
                  refine rSkip ?_
                  refine rThen ?_
                  refine rSeq ?_
                  refine rBlock ?_
                  refine rSeq ?_
                  refine zReg md0 hX rfl rfl rfl ?_
                  refine rThen ?_
                  refine rBlock ?_
                  replace hT := sBind hT; obtain ⟨w2, hl, hT⟩ := hT
                  refine rJoinA (fun v2 => v2 = w2) (fun v2 => ⟨[(1, .v (.c (.int .i64 a5))), (3, .v (.c (.ptr 3 0 0 0 0 0))), (5, .v (.c (.ptr 4 0 0 0 0 0))), (6, .v (.c (.int .i64 s1.1))), (7, .v (.c (.int .i64 v2.1))), (11, .v (.c (.int .i64 s1.1))), (12, .v (.c (.bool (decide (s1.1 < 6))))), (15, .v (.c (.int .i64 v2.2.1))), (16, .v (.c (.bool v2.2.2.1)))], [(0, .mem true 5 (some 0) (.flat [.ints a7 .u8 v2.2.2.2.1])), (1, .mem true 5 (some 0) (.flat [.ints a9 .u8 v2.2.2.2.2.1])), (2, .mem true 5 (some 0) (.flat [.ints a11 .u8 v2.2.2.2.2.2])), (3, .mem true 25 none (.flat [.cs [.int .i64 a1, .sl 0 0 a2 1, .sl 1 0 a3 1, .sl 2 0 a4 1]])), (4, .mem true 31 none (.flat [.ints 384 .i64 a6]))], 5⟩) (.exit 2) (fun v2 hv => ?_) (fun hxs20 => ?_)
                  · subst hv; clear hl
                    refine rInHit ?_
                    refine rInNormal ?_
                    refine rThen ?_
                    replace hT := sIf hT; obtain ⟨o1, hT⟩ := hT
                    refine zReg md0 hX rfl rfl rfl ?_
                    exact hnexts1 _ (Option.some.inj hT).symm _ (To.mk' [] 3 hε rfl (by repeat' first | exact True.intro | exact rfl | apply And.intro) (by repeat' first | exact True.intro | exact rfl | apply And.intro))
                  refine rLoopM (ref17_Lay_b2 N a1 a2 a3 a4 a5 a6 a7 a9 a11 s1) (fun s2 => ⟨[(1, .v (.c (.int .i64 a5))), (3, .v (.c (.ptr 3 0 0 0 0 0))), (5, .v (.c (.ptr 4 0 0 0 0 0))), (6, .v (.c (.int .i64 s1.1))), (7, .v (.c (.int .i64 s2.1))), (11, .v (.c (.int .i64 s1.1))), (12, .v (.c (.bool (decide (s1.1 < 6)))))], [(0, .mem true 5 (some 0) (.flat [.ints a7 .u8 s2.2.1])), (1, .mem true 5 (some 0) (.flat [.ints a9 .u8 s2.2.2.1])), (2, .mem true 5 (some 0) (.flat [.ints a11 .u8 s2.2.2.2])), (3, .mem true 25 none (.flat [.cs [.int .i64 a1, .sl 0 0 a2 1, .sl 1 0 a3 1, .sl 2 0 a4 1]])), (4, .mem true 31 none (.flat [.ints 384 .i64 a6]))], 5⟩) hl (To.mk' [] 3 hε rfl (by repeat' first | exact True.intro | exact rfl | apply And.intro) (by repeat' first | exact True.intro | exact rfl | apply And.intro)) (fun s2 zs2 NNs2 hz hnexts2 houts2 => ?_)
                  clear hl hT
                  have hT := hz; clear hz
                  refine rSeq ?_
                  refine rSeq ?_
                  refine zReg md0 hX rfl rfl rfl ?_
                  refine rThen ?_
                  refine zCond rfl rfl (fun hc => ?_) (fun hc => ?_)
                  · replace hT := sT hc hT
                    refine rSkip ?_
                    refine rThen ?_
                    refine rSeq ?_
                    refine rBlock ?_
                    refine rSeq ?_
                    let c1 := (ref17_Place N a1 a5 s1.1 s2.1)
                    replace hT := sIf hT; obtain ⟨o1, hT⟩ := hT
                    refine zReg md0 hX rfl rfl rfl ?_
                    refine rThen ?_
                    refine rToW (T := ⟨[(1, .v (.c (.int .i64 a5))), (3, .v (.c (.ptr 3 0 0 0 0 0))), (5, .v (.c (.ptr 4 0 0 0 0 0))), (6, .v (.c (.int .i64 s1.1))), (7, .v (.c (.int .i64 s2.1))), (8, .v (.c (.int .i64 (c1.getD default).1))), (9, .v (.c (.int .i64 (c1.getD default).2.1))), (10, .v (.c (.int .i64 (c1.getD default).2.2))), (11, .v (.c (.int .i64 s1.1))), (12, .v (.c (.bool (decide (s1.1 < 6))))), (15, .v (.c (.int .i64 s2.1))), (16, .v (.c (.bool (decide (s2.1 < 64))))), (19, .tup [.c (.int .i64 (c1.getD default).1), .c (.int .i64 (c1.getD default).2.1), .c (.int .i64 (c1.getD default).2.2)]), (20, .v (.c (.ptr 3 0 0 0 0 0))), (21, .v (.c (.int .i64 a1))), (22, .v (.c (.int .i64 a5))), (23, .v (.c (.int .i64 s1.1))), (24, .v (.c (.int .i64 s2.1))), (25, .tup [.c (.int .i64 (c1.getD default).1), .c (.int .i64 (c1.getD default).2.1), .c (.int .i64 (c1.getD default).2.2)]), (26, .v (.c (.int .i64 (c1.getD default).1))), (27, .v (.c (.int .i64 (c1.getD default).2.1))), (28, .v (.c (.int .i64 (c1.getD default).2.2)))], [(0, .mem true 5 (some 0) (.flat [.ints a7 .u8 s2.2.1])), (1, .mem true 5 (some 0) (.flat [.ints a9 .u8 s2.2.2.1])), (2, .mem true 5 (some 0) (.flat [.ints a11 .u8 s2.2.2.2])), (3, .mem true 25 none (.flat [.cs [.int .i64 a1, .sl 0 0 a2 1, .sl 1 0 a3 1, .sl 2 0 a4 1]])), (4, .mem true 31 none (.flat [.ints 384 .i64 a6]))], 5⟩) (To.mk' [] 3 hε rfl (by repeat' first | exact True.intro | exact rfl | apply And.intro) (by repeat' first | exact True.intro | exact rfl | apply And.intro)) ?_
                    cases hs0 : (decide ((c1.getD default).1 = 0))
                    · replace hT := sF hs0 hT
                      cases hs1 : (decide ((c1.getD default).1 = 1))
                      · replace hT := sF hs1 hT
                        cases hs2 : (decide ((c1.getD default).1 = 2))
                        · replace hT := sF hs2 hT
                          cases hT
                        · replace hT := sT hs2 hT
                          rw [of_decide_eq_true hs2]
                          let c6 := (ref17_Wide N a1 2)
                          let c7 := (ref01_Clip N (a6.getD ((s1.1).toNat * 64 + (s2.1).toNat) 0) 0 255)
                          let x3 := (s2.2.2.2.set (((c1.getD default).2.2 * (c6.getD default)) + (c1.getD default).2.1).toNat (c7.getD default))
                          replace hT := sIf hT; obtain ⟨⟨o1, o2, o3, o4, o5, o6, o7, o8, o9, o10, o11, o12, o13⟩, hT⟩ := hT
                          refine zDraw md0 1 [20] hX mixed rfl rfl rfl rfl rfl ?_
                          refine rInNormal ?_
                          refine rThen ?_
                          replace hT := sIf hT; obtain ⟨o1, hT⟩ := hT
                          refine zReg md0 hX rfl rfl rfl ?_
                          exact hnexts2 _ (Option.some.inj hT).symm _ (To.mk' [] 3 hε rfl (by repeat' first | exact True.intro | exact rfl | apply And.intro) (by repeat' first | exact True.intro | exact rfl | apply And.intro))
                      · replace hT := sT hs1 hT
                        rw [of_decide_eq_true hs1]
                        let c4 := (ref17_Wide N a1 1)
                        let c5 := (ref01_Clip N (a6.getD ((s1.1).toNat * 64 + (s2.1).toNat) 0) 0 255)
                        let x2 := (s2.2.2.1.set (((c1.getD default).2.2 * (c4.getD default)) + (c1.getD default).2.1).toNat (c5.getD default))
                        replace hT := sIf hT; obtain ⟨⟨o1, o2, o3, o4, o5, o6, o7, o8, o9, o10, o11, o12, o13⟩, hT⟩ := hT
                        refine zDraw md0 1 [20] hX mixed rfl rfl rfl rfl rfl ?_
                        refine rInNormal ?_
                        refine rThen ?_
                        replace hT := sIf hT; obtain ⟨o1, hT⟩ := hT
                        refine zReg md0 hX rfl rfl rfl ?_
                        exact hnexts2 _ (Option.some.inj hT).symm _ (To.mk' [] 3 hε rfl (by repeat' first | exact True.intro | exact rfl | apply And.intro) (by repeat' first | exact True.intro | exact rfl | apply And.intro))
                    · replace hT := sT hs0 hT
                      rw [of_decide_eq_true hs0]
                      let c2 := (ref17_Wide N a1 0)
                      let c3 := (ref01_Clip N (a6.getD ((s1.1).toNat * 64 + (s2.1).toNat) 0) 0 255)
                      let x1 := (s2.2.1.set (((c1.getD default).2.2 * (c2.getD default)) + (c1.getD default).2.1).toNat (c3.getD default))
                      replace hT := sIf hT; obtain ⟨⟨o1, o2, o3, o4, o5, o6, o7, o8, o9, o10, o11, o12, o13⟩, hT⟩ := hT
                      refine zDraw md0 1 [20] hX mixed rfl rfl rfl rfl rfl ?_
                      refine rInNormal ?_
                      refine rThen ?_
                      replace hT := sIf hT; obtain ⟨o1, hT⟩ := hT
                      refine zReg md0 hX rfl rfl rfl ?_
                      exact hnexts2 _ (Option.some.inj hT).symm _ (To.mk' [] 3 hε rfl (by repeat' first | exact True.intro | exact rfl | apply And.intro) (by repeat' first | exact True.intro | exact rfl | apply And.intro))
                  · replace hT := sF hc hT
                    refine rExit ?_
                    refine rThenExit ?_
                    refine rThenExit ?_
                    exact zTo [] 3 hε (hxs20 _ (houts2 _ (Option.some.inj hT).symm))
                · replace hT := sF hc hT
                  refine rExit ?_
                  refine rThenExit ?_
                  refine rThenExit ?_
                  exact zTo [] 3 hε (hxs10 _ (houts1 _ (Option.some.inj hT).symm))
              · cases h
            · cases h
          · cases h
        · cases h
      · cases h
    · cases h
  · cases h
def law17_PlanesLays_ptr_b1 (N : Nat) (a1 : Int) (a2 : (List (Int × (List Int)))) (c2 : (Option (Int × Int × Nat × Nat × Nat × Nat × (List Int) × Nat × (List Int) × Nat × (List Int)))) (c11 : (Option (Int × Nat × Nat × Nat × Nat × (List Int) × Nat × (List Int) × Nat × (List Int)))) (s1 : (Int × Nat × (List Int) × Nat × (List Int) × Nat × (List Int) × Nat × (List Int) × Nat × (List Int) × Nat × (List Int))) : Option ((Int × Nat × (List Int) × Nat × (List Int) × Nat × (List Int) × Nat × (List Int) × Nat × (List Int) × Nat × (List Int)) ⊕ (Unit ⊕ (Nat × (List Int) × Nat × (List Int) × Nat × (List Int) × Nat × (List Int) × Nat × (List Int) × Nat × (List Int)))) :=
  bif (decide (s1.1 < (a2.length : Int))) then
    let c15 := (overspill_planes_Canvas_Frame_v2 N (c2.getD default).2.1 (c2.getD default).2.2.1 (c2.getD default).2.2.2.1 (c2.getD default).2.2.2.2.1 s1.2.1 s1.2.2.1 s1.2.2.2.1 s1.2.2.2.2.1 s1.2.2.2.2.2.1 s1.2.2.2.2.2.2.1)
    if c15.isSome = true then
      let c16 := (law17_patch N (a2.getD (s1.1).toNat ((0 : Int), [])).1 (a2.getD (s1.1).toNat ((0 : Int), [])).2)
      let c17 := (overspill_planes_Canvas_Lay_v2 N (a2.getD (s1.1).toNat ((0 : Int), [])).1 (c16.getD default) (c2.getD default).2.1 (c2.getD default).2.2.1 (c2.getD default).2.2.2.1 (c2.getD default).2.2.2.2.1 s1.2.1 s1.2.2.1 s1.2.2.2.1 s1.2.2.2.2.1 s1.2.2.2.2.2.1 s1.2.2.2.2.2.2.1)
      if (0 : Int) ≤ s1.1 ∧ s1.1 < (a2.length : Int) ∧ c16.isSome = true ∧ c17.isSome = true then
        let c18 := (ref17_Same N (c15.getD default).1 (c15.getD default).2 (c11.getD default).1 (c11.getD default).2.1 (c11.getD default).2.2.1 (c11.getD default).2.2.2.1 s1.2.2.2.2.2.2.2.1 s1.2.2.2.2.2.2.2.2.1 s1.2.2.2.2.2.2.2.2.2.1 s1.2.2.2.2.2.2.2.2.2.2.1 s1.2.2.2.2.2.2.2.2.2.2.2.1 s1.2.2.2.2.2.2.2.2.2.2.2.2)
        if c18.isSome = true then
          bif (!(c18.getD default)) then
            some (.inr (Sum.inl ()))
          else
            let c19 := (ref16_Many N a1)
            let x5 := (bif (decide ((a2.getD (s1.1).toNat ((0 : Int), [])).1 < 0)) then true else (decide ((c19.getD default) ≤ (a2.getD (s1.1).toNat ((0 : Int), [])).1)))
            if (0 : Int) ≤ s1.1 ∧ s1.1 < (a2.length : Int) ∧ ((!(decide ((a2.getD (s1.1).toNat ((0 : Int), [])).1 < 0))) = true → (0 : Int) ≤ s1.1) ∧ ((!(decide ((a2.getD (s1.1).toNat ((0 : Int), [])).1 < 0))) = true → s1.1 < (a2.length : Int)) ∧ ((!(decide ((a2.getD (s1.1).toNat ((0 : Int), [])).1 < 0))) = true → c19.isSome = true) then
              bif x5 then
                bif (decide ((c17.getD default).1 ≠ 1)) then
                  some (.inr (Sum.inl ()))
                else
                  if inK .i64 (s1.1 + 1) then
                    some (.inl ((s1.1 + 1), (c17.getD default).2.1, (c17.getD default).2.2.1, (c17.getD default).2.2.2.1, (c17.getD default).2.2.2.2.1, (c17.getD default).2.2.2.2.2.1, (c17.getD default).2.2.2.2.2.2, s1.2.2.2.2.2.2.2.1, s1.2.2.2.2.2.2.2.2.1, s1.2.2.2.2.2.2.2.2.2.1, s1.2.2.2.2.2.2.2.2.2.2.1, s1.2.2.2.2.2.2.2.2.2.2.2.1, s1.2.2.2.2.2.2.2.2.2.2.2.2))
                  else none
              else
                let c20 := (law17_patch N (a2.getD (s1.1).toNat ((0 : Int), [])).1 (a2.getD (s1.1).toNat ((0 : Int), [])).2)
                let c21 := (ref17_Lay N (c11.getD default).1 (c11.getD default).2.1 (c11.getD default).2.2.1 (c11.getD default).2.2.2.1 (a2.getD (s1.1).toNat ((0 : Int), [])).1 (c20.getD default) s1.2.2.2.2.2.2.2.1 s1.2.2.2.2.2.2.2.2.1 s1.2.2.2.2.2.2.2.2.2.1 s1.2.2.2.2.2.2.2.2.2.2.1 s1.2.2.2.2.2.2.2.2.2.2.2.1 s1.2.2.2.2.2.2.2.2.2.2.2.2)
                if (0 : Int) ≤ s1.1 ∧ s1.1 < (a2.length : Int) ∧ c20.isSome = true ∧ c21.isSome = true then
                  bif (decide ((c17.getD default).1 ≠ 0)) then
                    some (.inr (Sum.inl ()))
                  else
                    if inK .i64 (s1.1 + 1) then
                      some (.inl ((s1.1 + 1), (c17.getD default).2.1, (c17.getD default).2.2.1, (c17.getD default).2.2.2.1, (c17.getD default).2.2.2.2.1, (c17.getD default).2.2.2.2.2.1, (c17.getD default).2.2.2.2.2.2, (c21.getD default).1, (c21.getD default).2.1, (c21.getD default).2.2.1, (c21.getD default).2.2.2.1, (c21.getD default).2.2.2.2.1, (c21.getD default).2.2.2.2.2))
                    else none
                else none
            else none
        else none
      else none
    else none
  else
    some (.inr (Sum.inr (s1.2.1, s1.2.2.1, s1.2.2.2.1, s1.2.2.2.2.1, s1.2.2.2.2.2.1, s1.2.2.2.2.2.2.1, s1.2.2.2.2.2.2.2.1, s1.2.2.2.2.2.2.2.2.1, s1.2.2.2.2.2.2.2.2.2.1, s1.2.2.2.2.2.2.2.2.2.2.1, s1.2.2.2.2.2.2.2.2.2.2.2.1, s1.2.2.2.2.2.2.2.2.2.2.2.2)))
def law17_PlanesLays_ptr (N : Nat) (a1 : Int) (a2 : (List (Int × (List Int)))) : Option Bool :=
  let x1 := (bif (decide ((20 : Int) < (a2.length : Int))) then true else (bif (decide ((3 : Int) ≤ a1)) then (decide (a1 ≤ 5)) else false))
  if ((!(decide ((20 : Int) < (a2.length : Int)))) = true → ((decide ((3 : Int) ≤ a1)) = true → ((!(decide ((20 : Int) < (a2.length : Int)))) && (decide ((3 : Int) ≤ a1))) = true)) then
    bif x1 then
      let c1 := (law17_lives N)
      if c1.isSome = true then
        some (c1.getD default)
      else none
    else
      let c2 := (planes_On_own_ptr N a1)
      if c2.isSome = true then
        let c3 := (overspill_planes_Canvas_Lay N 0 (List.replicate 384 0))
        let c4 := (overspill_planes_Canvas_Lay_v1 N 0 (List.replicate 384 0) 0)
        let c5 := (overspill_planes_Canvas_Frame N)
        let c6 := (planes_Same N (c5.getD default) 0)
        let c7 := (overspill_planes_Canvas_Frame_v1 N 0)
        let c8 := (planes_Same_v1 N (c7.getD default).1 (c7.getD default).2 0)
        let x4 := (bif (bif (bif (decide ((c3.getD default) ≠ 1)) then true else (decide ((c4.getD default) ≠ 1))) then true else (!(c6.getD default))) then true else (!(c8.getD default)))
        if c3.isSome = true ∧ ((!(decide ((c3.getD default) ≠ 1))) = true → c4.isSome = true) ∧ ((!(bif (decide ((c3.getD default) ≠ 1)) then true else (decide ((c4.getD default) ≠ 1)))) = true → c5.isSome = true) ∧ ((!(bif (decide ((c3.getD default) ≠ 1)) then true else (decide ((c4.getD default) ≠ 1)))) = true → c6.isSome = true) ∧ ((!(bif (bif (decide ((c3.getD default) ≠ 1)) then true else (decide ((c4.getD default) ≠ 1))) then true else (!(c6.getD default)))) = true → c7.isSome = true) ∧ ((!(bif (bif (decide ((c3.getD default) ≠ 1)) then true else (decide ((c4.getD default) ≠ 1))) then true else (!(c6.getD default)))) = true → c8.isSome = true) then
          bif x4 then
            some false
          else
            let c9 := (ref16_Many N a1)
            if c9.isSome = true then
              bif (decide ((c9.getD default) = 0)) then
                let c10 := (law17_lives N)
                if (false = true → c10.isSome = true) then
                  some false
                else none
              else
                bif (decide ((c2.getD default).1 ≠ 0)) then
                  some false
                else
                  let c11 := (ref17_New_own N a1 0)
                  if c11.isSome = true then
                    (iter (law17_PlanesLays_ptr_b1 N a1 a2 c2 c11) N (0, (c2.getD default).2.2.2.2.2.1, (c2.getD default).2.2.2.2.2.2.1, (c2.getD default).2.2.2.2.2.2.2.1, (c2.getD default).2.2.2.2.2.2.2.2.1, (c2.getD default).2.2.2.2.2.2.2.2.2.1, (c2.getD default).2.2.2.2.2.2.2.2.2.2, (c11.getD default).2.2.2.2.1, (c11.getD default).2.2.2.2.2.1, (c11.getD default).2.2.2.2.2.2.1, (c11.getD default).2.2.2.2.2.2.2.1, (c11.getD default).2.2.2.2.2.2.2.2.1, (c11.getD default).2.2.2.2.2.2.2.2.2)).bind fun w1 =>
                      (Sum.elim (fun v1 =>
                        some false
                      )
                        (fun v2 =>
                          let c12 := (overspill_planes_Canvas_Frame_v2 N (c2.getD default).2.1 (c2.getD default).2.2.1 (c2.getD default).2.2.2.1 (c2.getD default).2.2.2.2.1 v2.1 v2.2.1 v2.2.2.1 v2.2.2.2.1 v2.2.2.2.2.1 v2.2.2.2.2.2.1)
                          let c13 := (ref17_Same N (c12.getD default).1 (c12.getD default).2 (c11.getD default).1 (c11.getD default).2.1 (c11.getD default).2.2.1 (c11.getD default).2.2.2.1 v2.2.2.2.2.2.2.1 v2.2.2.2.2.2.2.2.1 v2.2.2.2.2.2.2.2.2.1 v2.2.2.2.2.2.2.2.2.2.1 v2.2.2.2.2.2.2.2.2.2.2.1 v2.2.2.2.2.2.2.2.2.2.2.2)
                          let c14 := (law17_lives N)
                          if c12.isSome = true ∧ c13.isSome = true ∧ ((c13.getD default) = true → c14.isSome = true) then
                            some (bif (c13.getD default) then (c14.getD default) else false)
                          else none
                        )
                      ) w1
                  else none
            else none
        else none
      else none
  else none
def sp_law17_PlanesLays_ptr (N : Nat) : X.Spec := fun args lk => match args with
  | [.v (.c (.int .i64 a1)), .v (.c (.fz (.pair (.int .i64) (.sl (.int .i64))) a2))] => some ⟨(law17_PlanesLays_ptr N a1 a2).isSome = true, .v (.c (.bool ((law17_PlanesLays_ptr N a1 a2).getD default))), [], []⟩
  | _ => none
set_option maxRecDepth 100000 in
set_option maxHeartbeats 1000000 in
theorem ok_law17_PlanesLays_ptr (N : Nat) : FnOK Try.prog gt0 6 (sp_law17_PlanesLays_ptr N) := by
  refine fnOK_handed Try.func6 rfl (by kernel_rfl) ttC_ok (ktCons (ok_ref17_Lay N) (ktCons (ok_law17_patch N) (ktCons (ok_ref17_Same N) (ktCons (ok_ref17_New_own N) (ktCons (ok_ref16_Many N) (ktCons (FnOK.or (ok_planes_Same N) (ok_planes_Same_v1 N)) (ktCons (FnOK.or (FnOK.or (ok_overspill_planes_Canvas_Frame N) (ok_overspill_planes_Canvas_Frame_v1 N)) (ok_overspill_planes_Canvas_Frame_v2 N)) (ktCons (FnOK.or (FnOK.or (ok_overspill_planes_Canvas_Lay N) (ok_overspill_planes_Canvas_Lay_v1 N)) (ok_overspill_planes_Canvas_Lay_v2 N)) (ktCons (ok_planes_On_own_ptr N) (ktCons (ok_law17_lives N) (ktNil))))))))))) ?_
  intro args lk r h hp
  unfold sp_law17_PlanesLays_ptr at h
  split at h
  · rename_i a1 a2
    change (List (Int × (List Int))) at a2
    cases h
    obtain ⟨x, hx⟩ := Option.isSome_iff_exists.1 hp
    simp only [hx, Option.getD_some]
    refine hand0 rfl rfl (fun w0 M ε0 hX => ?_)
    refine rCount (fun hε => ?_)
    have hT : law17_PlanesLays_ptr N a1 a2 = some x := hx; clear hx hp; unfold law17_PlanesLays_ptr at hT
    refine rSeq ?_
    refine zReg md0 hX rfl rfl rfl ?_
    refine rThen ?_
    refine rSeq ?_
    refine rSeq ?_
    let x1 := (bif (decide ((20 : Int) < (a2.length : Int))) then true else (bif (decide ((3 : Int) ≤ a1)) then (decide (a1 ≤ 5)) else false))
    replace hT := sIf hT; obtain ⟨o1, hT⟩ := hT
    refine rRegC md0 hX rfl rfl rfl (by (repeat' first | exact True.intro | with_reducible assumption | (with_reducible apply And.intro) | intro _) <;> first | assumption | exact o1 (by assumption) (by assumption) | exact rfl | omega | exact Nat.le_of_ble_eq_true rfl | exact selF (by assumption) | exact selT (by assumption) | exact And.intro rfl rfl | exact And.intro (by assumption) rfl | exact And.intro (by omega) rfl | (simp only [inK] at *; omega) | (simp_all [sel] <;> fail) | fail) ?_
    refine rThen ?_
    refine zCond rfl rfl (fun hc => ?_) (fun hc => ?_)
    · replace hT := sT hc hT
      refine rSeq ?_
      let c1 := (law17_lives N)
      replace hT := sIf hT; obtain ⟨o1, hT⟩ := hT
      refine zReg md0 hX rfl rfl rfl ?_
      refine rThen ?_
      refine rRet ?_
      refine rThenRet ?_
      have hy := Option.some.inj hT; subst hy
      exact zEnd0 hX rfl
    · replace hT := sF hc hT
      refine rSkip ?_
      refine rThen ?_
      refine rSeq ?_
      let c2 := (planes_On_own_ptr N a1)
      replace hT := sIf hT; obtain ⟨o1, hT⟩ := hT
      refine zReg md0 hX rfl rfl rfl ?_
      refine rThen ?_
      refine rSeq ?_
      refine zReg md0 hX rfl rfl rfl ?_
      refine rThen ?_
      refine rSeq ?_
      refine zReg md0 hX rfl rfl rfl ?_
      refine rThen ?_
      refine rSeq ?_
      refine rSeq ?_
      let c3 := (overspill_planes_Canvas_Lay N 0 (List.replicate 384 0))
      let c4 := (overspill_planes_Canvas_Lay_v1 N 0 (List.replicate 384 0) 0)
      let c5 := (overspill_planes_Canvas_Frame N)
      let c6 := (planes_Same N (c5.getD default) 0)
      let c7 := (overspill_planes_Canvas_Frame_v1 N 0)
      let c8 := (planes_Same_v1 N (c7.getD default).1 (c7.getD default).2 0)
      let x4 := (bif (bif (bif (decide ((c3.getD default) ≠ 1)) then true else (decide ((c4.getD default) ≠ 1))) then true else (!(c6.getD default))) then true else (!(c8.getD default)))
      replace hT := sIf hT; obtain ⟨⟨o1, o2, o3, o4, o5, o6⟩, hT⟩ := hT
      refine rRegC md0 hX rfl rfl rfl (by (repeat' first | exact True.intro | with_reducible assumption | (with_reducible apply And.intro) | intro _) <;> first | assumption | exact o2 (by assumption) | exact o3 (by assumption) | exact o4 (by assumption) | exact o5 (by assumption) | exact o6 (by assumption) | exact rfl | omega | exact Nat.le_of_ble_eq_true rfl | exact selF (by assumption) | exact selT (by assumption) | exact And.intro rfl rfl | exact And.intro (by assumption) rfl | exact And.intro (by omega) rfl | (simp only [inK] at *; omega) | (simp_all [sel] <;> fail) | fail) ?_
      refine rThen ?_
      refine zCond rfl rfl (fun hc => ?_) (fun hc => ?_)
      · replace hT := sT hc hT
        refine rSeq ?_
        refine zReg md0 hX rfl rfl rfl ?_
        refine rThen ?_
        refine rRet ?_
        refine rThenRet ?_
        have hy := Option.some.inj hT; subst hy
        exact zEnd0 hX rfl
      · replace hT := sF hc hT
        refine rSkip ?_
        refine rThen ?_
        refine rSeq ?_
        refine rSeq ?_
        let c9 := (ref16_Many N a1)
        replace hT := sIf hT; obtain ⟨o1, hT⟩ := hT
        refine zReg md0 hX rfl rfl rfl ?_
        refine rThen ?_
        refine zCond rfl rfl (fun hc => ?_) (fun hc => ?_)
        · replace hT := sT hc hT
          refine rSeq ?_
          let c10 := (law17_lives N)
          replace hT := sIf hT; obtain ⟨o1, hT⟩ := hT
          refine rRegC md0 hX rfl rfl rfl (by (repeat' first | exact True.intro | with_reducible assumption | (with_reducible apply And.intro) | intro _) <;> first | assumption | exact o1 (by assumption) | exact rfl | omega | exact Nat.le_of_ble_eq_true rfl | exact selF (by assumption) | exact selT (by assumption) | exact And.intro rfl rfl | exact And.intro (by assumption) rfl | exact And.intro (by omega) rfl | (simp only [inK] at *; omega) | (simp_all [sel] <;> fail) | fail) ?_
          refine rThen ?_
          refine rRet ?_
          refine rThenRet ?_
          have hy := Option.some.inj hT; subst hy
          exact zEnd0 hX rfl
        · replace hT := sF hc hT
          refine rSkip ?_
          refine rThen ?_
          refine rSeq ?_
          refine rSeq ?_
          refine zReg md0 hX rfl rfl rfl ?_
          refine rThen ?_
          refine zCond rfl rfl (fun hc => ?_) (fun hc => ?_)
          · replace hT := sT hc hT
            refine rSeq ?_
            refine zReg md0 hX rfl rfl rfl ?_
            refine rThen ?_
            refine rRet ?_
            refine rThenRet ?_
            have hy := Option.some.inj hT; subst hy
            exact zEnd0 hX rfl
          · replace hT := sF hc hT
            refine rSkip ?_
            refine rThen ?_
            refine rSeq ?_
            let c11 := (ref17_New_own N a1 0)
            replace hT := sIf hT; obtain ⟨o1, hT⟩ := hT
            refine zReg md0 hX rfl rfl rfl ?_
            refine rThen ?_
            refine rSeq ?_
            refine rSeq ?_
            refine zReg md0 hX rfl rfl rfl ?_
            refine rThen ?_
            refine rBlock ?_
            replace hT := sBind hT; obtain ⟨w1, hl, hT⟩ := hT
            refine rJoinA (fun v1 => (Sum.inl v1) = w1) (fun v1 => ⟨[(4, .v (.c (.bool false)))], [], 9⟩) .ret (fun v1 hv => ?_) (fun hxs10 => ?_)
            · subst hv; clear hl; replace hT := (sElimL hT)
              refine rInRet ?_
              refine rThenRet ?_
              have hy := Option.some.inj hT; subst hy
              exact zEnd0 hX rfl
            refine rJoinA (fun v2 => (Sum.inr v2) = w1) (fun v2 => ⟨[(4, .v (.c (.bool false))), (5, .v (.c (.ptr 0 0 0 0 0 0))), (9, .v (.c (.ptr 8 0 0 0 0 0)))], [(0, .mem true 53 none (.flat [.cs [.int .i64 (c2.getD default).2.1], .cs [.sl 1 0 (c2.getD default).2.2.1 1, .sl 2 0 (c2.getD default).2.2.2.1 1, .sl 3 0 (c2.getD default).2.2.2.2.1 1]])), (1, .mem true 5 (some 0) (.flat [.ints v2.1 .u8 v2.2.1])), (2, .mem true 5 (some 0) (.flat [.ints v2.2.2.1 .u8 v2.2.2.2.1])), (3, .mem true 5 (some 0) (.flat [.ints v2.2.2.2.2.1 .u8 v2.2.2.2.2.2.1])), (5, .mem true 5 (some 0) (.flat [.ints v2.2.2.2.2.2.2.1 .u8 v2.2.2.2.2.2.2.2.1])), (6, .mem true 5 (some 0) (.flat [.ints v2.2.2.2.2.2.2.2.2.1 .u8 v2.2.2.2.2.2.2.2.2.2.1])), (7, .mem true 5 (some 0) (.flat [.ints v2.2.2.2.2.2.2.2.2.2.2.1 .u8 v2.2.2.2.2.2.2.2.2.2.2.2])), (8, .mem true 25 none (.flat [.cs [.int .i64 (c11.getD default).1, .sl 5 0 (c11.getD default).2.1 1, .sl 6 0 (c11.getD default).2.2.1 1, .sl 7 0 (c11.getD default).2.2.2.1 1]]))], 9⟩) (.exit 0) (fun v2 hv => ?_) (fun hxs11 => ?_)
            · subst hv; clear hl; replace hT := (sElimR hT)
              refine rInHit ?_
              refine rThen ?_
              refine rSeq ?_
              let c12 := (overspill_planes_Canvas_Frame_v2 N (c2.getD default).2.1 (c2.getD default).2.2.1 (c2.getD default).2.2.2.1 (c2.getD default).2.2.2.2.1 v2.1 v2.2.1 v2.2.2.1 v2.2.2.2.1 v2.2.2.2.2.1 v2.2.2.2.2.2.1)
              let c13 := (ref17_Same N (c12.getD default).1 (c12.getD default).2 (c11.getD default).1 (c11.getD default).2.1 (c11.getD default).2.2.1 (c11.getD default).2.2.2.1 v2.2.2.2.2.2.2.1 v2.2.2.2.2.2.2.2.1 v2.2.2.2.2.2.2.2.2.1 v2.2.2.2.2.2.2.2.2.2.1 v2.2.2.2.2.2.2.2.2.2.2.1 v2.2.2.2.2.2.2.2.2.2.2.2)
              let c14 := (law17_lives N)
              replace hT := sIf hT; obtain ⟨⟨o1, o2, o3⟩, hT⟩ := hT
              refine rDrawM md0 0 [] hX mixed rfl rfl rfl rfl rfl (by (repeat' first | exact True.intro | with_reducible assumption | (with_reducible apply And.intro) | intro _) <;> first | assumption | exact o3 (by assumption) | exact rfl | omega | exact Nat.le_of_ble_eq_true rfl | exact selF (by assumption) | exact selT (by assumption) | exact And.intro rfl rfl | exact And.intro (by assumption) rfl | exact And.intro (by omega) rfl | (simp only [inK] at *; omega) | (simp_all [sel] <;> fail) | fail) ?_
              refine rThen ?_
              refine rRet ?_
              have hy := Option.some.inj hT; subst hy
              exact zEnd0 hX rfl
            refine rLoopM (law17_PlanesLays_ptr_b1 N a1 a2 c2 c11) (fun s1 => ⟨[(0, .v (.c (.int .i64 a1))), (1, .v (.c (.fz (.pair (.int .i64) (.sl (.int .i64))) a2))), (4, .v (.c (.bool false))), (5, .v (.c (.ptr 0 0 0 0 0 0))), (9, .v (.c (.ptr 8 0 0 0 0 0))), (10, .v (.c (.int .i64 s1.1)))], [(0, .mem true 53 none (.flat [.cs [.int .i64 (c2.getD default).2.1], .cs [.sl 1 0 (c2.getD default).2.2.1 1, .sl 2 0 (c2.getD default).2.2.2.1 1, .sl 3 0 (c2.getD default).2.2.2.2.1 1]])), (1, .mem true 5 (some 0) (.flat [.ints s1.2.1 .u8 s1.2.2.1])), (2, .mem true 5 (some 0) (.flat [.ints s1.2.2.2.1 .u8 s1.2.2.2.2.1])), (3, .mem true 5 (some 0) (.flat [.ints s1.2.2.2.2.2.1 .u8 s1.2.2.2.2.2.2.1])), (5, .mem true 5 (some 0) (.flat [.ints s1.2.2.2.2.2.2.2.1 .u8 s1.2.2.2.2.2.2.2.2.1])), (6, .mem true 5 (some 0) (.flat [.ints s1.2.2.2.2.2.2.2.2.2.1 .u8 s1.2.2.2.2.2.2.2.2.2.2.1])), (7, .mem true 5 (some 0) (.flat [.ints s1.2.2.2.2.2.2.2.2.2.2.2.1 .u8 s1.2.2.2.2.2.2.2.2.2.2.2.2])), (8, .mem true 25 none (.flat [.cs [.int .i64 (c11.getD default).1, .sl 5 0 (c11.getD default).2.1 1, .sl 6 0 (c11.getD default).2.2.1 1, .sl 7 0 (c11.getD default).2.2.2.1 1]]))], 9⟩) hl (To.mk' [] 0 hε rfl (by repeat' first | exact True.intro | exact rfl | apply And.intro) (by repeat' first | exact True.intro | exact rfl | apply And.intro)) (fun s1 zs1 NNs1 hz hnexts1 houts1 => ?_)
            clear hl hT
            have hT := hz; clear hz
            refine rSeq ?_
            refine rSeq ?_
            refine zReg md0 hX rfl rfl rfl ?_
            refine rThen ?_
            refine zCond rfl rfl (fun hc => ?_) (fun hc => ?_)
            · replace hT := sT hc hT
              refine rSkip ?_
              refine rThen ?_
              refine rSeq ?_
              refine rBlock ?_
              refine rSeq ?_
              let c15 := (overspill_planes_Canvas_Frame_v2 N (c2.getD default).2.1 (c2.getD default).2.2.1 (c2.getD default).2.2.2.1 (c2.getD default).2.2.2.2.1 s1.2.1 s1.2.2.1 s1.2.2.2.1 s1.2.2.2.2.1 s1.2.2.2.2.2.1 s1.2.2.2.2.2.2.1)
              replace hT := sIf hT; obtain ⟨o1, hT⟩ := hT
              refine zReg md0 hX rfl rfl rfl ?_
              refine rThen ?_
              refine rSeq ?_
              let c16 := (law17_patch N (a2.getD (s1.1).toNat ((0 : Int), [])).1 (a2.getD (s1.1).toNat ((0 : Int), [])).2)
              let c17 := (overspill_planes_Canvas_Lay_v2 N (a2.getD (s1.1).toNat ((0 : Int), [])).1 (c16.getD default) (c2.getD default).2.1 (c2.getD default).2.2.1 (c2.getD default).2.2.2.1 (c2.getD default).2.2.2.2.1 s1.2.1 s1.2.2.1 s1.2.2.2.1 s1.2.2.2.2.1 s1.2.2.2.2.2.1 s1.2.2.2.2.2.2.1)
              replace hT := sIf hT; obtain ⟨⟨o1, o2, o3, o4⟩, hT⟩ := hT
              refine zDraw md0 1 [11] hX mixed rfl rfl rfl rfl rfl ?_
              refine rThen ?_
              refine rSeq ?_
              refine rSeq ?_
              let c18 := (ref17_Same N (c15.getD default).1 (c15.getD default).2 (c11.getD default).1 (c11.getD default).2.1 (c11.getD default).2.2.1 (c11.getD default).2.2.2.1 s1.2.2.2.2.2.2.2.1 s1.2.2.2.2.2.2.2.2.1 s1.2.2.2.2.2.2.2.2.2.1 s1.2.2.2.2.2.2.2.2.2.2.1 s1.2.2.2.2.2.2.2.2.2.2.2.1 s1.2.2.2.2.2.2.2.2.2.2.2.2)
              replace hT := sIf hT; obtain ⟨o1, hT⟩ := hT
              refine zReg md0 hX rfl rfl rfl ?_
              refine rThen ?_
              refine zCond rfl rfl (fun hc => ?_) (fun hc => ?_)
              · replace hT := sT hc hT
                refine rSeq ?_
                refine zReg md0 hX rfl rfl rfl ?_
                refine rThen ?_
                refine rRet ?_
                refine rThenRet ?_
                refine rInRet ?_
                refine rThenRet ?_
                refine rThenRet ?_
                exact zTo [] 0 hε (hxs10 _ (houts1 _ (Option.some.inj hT).symm))
              · replace hT := sF hc hT
                refine rSkip ?_
                refine rThen ?_
                refine rSeq ?_
                refine rSeq ?_
                let c19 := (ref16_Many N a1)
                let x5 := (bif (decide ((a2.getD (s1.1).toNat ((0 : Int), [])).1 < 0)) then true else (decide ((c19.getD default) ≤ (a2.getD (s1.1).toNat ((0 : Int), [])).1)))
                replace hT := sIf hT; obtain ⟨⟨o1, o2, o3, o4, o5⟩, hT⟩ := hT
                refine rDrawM md0 0 [] hX mixed rfl rfl rfl rfl rfl (by (repeat' first | exact True.intro | with_reducible assumption | (with_reducible apply And.intro) | intro _) <;> first | assumption | exact o3 (by assumption) | exact o4 (by assumption) | exact o5 (by assumption) | exact rfl | omega | exact Nat.le_of_ble_eq_true rfl | exact selF (by assumption) | exact selT (by assumption) | exact And.intro rfl rfl | exact And.intro (by assumption) rfl | exact And.intro (by omega) rfl | (simp only [inK] at *; omega) | (simp_all [sel] <;> fail) | fail) ?_
                refine rThen ?_
                refine zCond rfl rfl (fun hc => ?_) (fun hc => ?_)
                · replace hT := sT hc hT
                  refine rSeq ?_
                  refine rSeq ?_
                  refine zReg md0 hX rfl rfl rfl ?_
                  refine rThen ?_
                  refine zCond rfl rfl (fun hc => ?_) (fun hc => ?_)
                  · replace hT := sT hc hT
                    refine rSeq ?_
                    refine zReg md0 hX rfl rfl rfl ?_
                    refine rThen ?_
                    refine rRet ?_
                    refine rThenRet ?_
                    refine rThenRet ?_
                    refine rInRet ?_
                    refine rThenRet ?_
                    refine rThenRet ?_
                    exact zTo [] 0 hε (hxs10 _ (houts1 _ (Option.some.inj hT).symm))
                  · replace hT := sF hc hT
                    refine rSkip ?_
                    refine rThen ?_
                    refine rExit ?_
                    refine rThenExit ?_
                    refine rInHit ?_
                    refine rThen ?_
                    replace hT := sIf hT; obtain ⟨o1, hT⟩ := hT
                    refine zReg md0 hX rfl rfl rfl ?_
                    exact hnexts1 _ (Option.some.inj hT).symm _ (To.mk' [] 0 hε rfl (by repeat' first | exact True.intro | exact rfl | apply And.intro) (by repeat' first | exact True.intro | exact rfl | apply And.intro))
                · replace hT := sF hc hT
                  refine rSkip ?_
                  refine rThen ?_
                  refine rSeq ?_
                  let c20 := (law17_patch N (a2.getD (s1.1).toNat ((0 : Int), [])).1 (a2.getD (s1.1).toNat ((0 : Int), [])).2)
                  let c21 := (ref17_Lay N (c11.getD default).1 (c11.getD default).2.1 (c11.getD default).2.2.1 (c11.getD default).2.2.2.1 (a2.getD (s1.1).toNat ((0 : Int), [])).1 (c20.getD default) s1.2.2.2.2.2.2.2.1 s1.2.2.2.2.2.2.2.2.1 s1.2.2.2.2.2.2.2.2.2.1 s1.2.2.2.2.2.2.2.2.2.2.1 s1.2.2.2.2.2.2.2.2.2.2.2.1 s1.2.2.2.2.2.2.2.2.2.2.2.2)
                  replace hT := sIf hT; obtain ⟨⟨o1, o2, o3, o4⟩, hT⟩ := hT
                  refine zDraw md0 1 [11] hX mixed rfl rfl rfl rfl rfl ?_
                  refine rThen ?_
                  refine rSeq ?_
                  refine zReg md0 hX rfl rfl rfl ?_
                  refine rThen ?_
                  refine zCond rfl rfl (fun hc => ?_) (fun hc => ?_)
                  · replace hT := sT hc hT
                    refine rSeq ?_
                    refine zReg md0 hX rfl rfl rfl ?_
                    refine rThen ?_
                    refine rRet ?_
                    refine rInRet ?_
                    refine rThenRet ?_
                    refine rThenRet ?_
                    exact zTo [] 0 hε (hxs10 _ (houts1 _ (Option.some.inj hT).symm))
                  · replace hT := sF hc hT
                    refine rSkip ?_
                    refine rInNormal ?_
                    refine rThen ?_
                    replace hT := sIf hT; obtain ⟨o1, hT⟩ := hT
                    refine zReg md0 hX rfl rfl rfl ?_
                    exact hnexts1 _ (Option.some.inj hT).symm _ (To.mk' [] 0 hε rfl (by repeat' first | exact True.intro | exact rfl | apply And.intro) (by repeat' first | exact True.intro | exact rfl | apply And.intro))
            · replace hT := sF hc hT
              refine rExit ?_
              refine rThenExit ?_
              refine rThenExit ?_
              exact zTo [] 0 hε (hxs11 _ (houts1 _ (Option.some.inj hT).symm))
  · cases h
def planes_On_own_nil (N : Nat) (a1 : Int) : Option Int :=
  let c1 := (planes_New_own N a1 0)
  if c1.isSome = true then
    bif (decide ((c1.getD default).2.2.2.2.1 ≠ 0)) then
      some (c1.getD default).2.2.2.2.1
    else
      none
  else none
def sp_planes_On_own_nil (N : Nat) : X.Spec := fun args lk => match args with
  | [.v (.c (.int .i64 a1))] => some ⟨(planes_On_own_nil N a1).isSome = true, .tup [.c (.val (.pointer none)), .c (.int .i64 ((planes_On_own_nil N a1).getD default))], [], []⟩
  | _ => none
set_option maxRecDepth 100000 in
set_option maxHeartbeats 1000000 in
theorem ok_planes_On_own_nil (N : Nat) : FnOK Try.prog gt0 27 (sp_planes_On_own_nil N) := by
  refine fnOK_handed Try.func27 rfl (by kernel_rfl) ttC_ok (ktCons (ok_planes_New_own N) (ktNil)) ?_
  intro args lk r h hp
  unfold sp_planes_On_own_nil at h
  split at h
  · rename_i a1
    cases h
    obtain ⟨x, hx⟩ := Option.isSome_iff_exists.1 hp
    simp only [hx, Option.getD_some]
    refine hand0 rfl rfl (fun w0 M ε0 hX => ?_)
    refine rCount (fun hε => ?_)
    have hT : planes_On_own_nil N a1 = some x := hx; clear hx hp; unfold planes_On_own_nil at hT
    refine rSeq ?_
    refine zReg md0 hX rfl rfl rfl ?_
    refine rThen ?_
    refine rSeq ?_
    let c1 := (planes_New_own N a1 0)
    replace hT := sIf hT; obtain ⟨o1, hT⟩ := hT
    refine zReg md0 hX rfl rfl rfl ?_
    refine rThen ?_
    refine rSeq ?_
    refine rSeq ?_
    refine zReg md0 hX rfl rfl rfl ?_
    refine rThen ?_
    refine zCond rfl rfl (fun hc => ?_) (fun hc => ?_)
    · replace hT := sT hc hT
      refine rSeq ?_
      refine zReg md0 hX rfl rfl rfl ?_
      refine rThen ?_
      refine rRet ?_
      refine rThenRet ?_
      have hy := Option.some.inj hT; subst hy
      exact zEnd0 hX rfl
    · replace hT := sF hc hT
      refine rSkip ?_
      refine rThen ?_
      refine rSeq ?_
      refine zReg md0 hX rfl rfl rfl ?_
      refine rThen ?_
      refine rRet ?_
      cases hT
  · cases h
def law17_PlanesLays_nil (N : Nat) (a1 : Int) (a2 : (List (Int × (List Int)))) : Option Bool :=
  let x1 := (bif (decide ((20 : Int) < (a2.length : Int))) then true else (bif (decide ((3 : Int) ≤ a1)) then (decide (a1 ≤ 5)) else false))
  if ((!(decide ((20 : Int) < (a2.length : Int)))) = true → ((decide ((3 : Int) ≤ a1)) = true → ((!(decide ((20 : Int) < (a2.length : Int)))) && (decide ((3 : Int) ≤ a1))) = true)) then
    bif x1 then
      let c1 := (law17_lives N)
      if c1.isSome = true then
        some (c1.getD default)
      else none
    else
      let c2 := (planes_On_own_nil N a1)
      if c2.isSome = true then
        let c3 := (overspill_planes_Canvas_Lay N 0 (List.replicate 384 0))
        let c4 := (overspill_planes_Canvas_Lay_v1 N 0 (List.replicate 384 0) 0)
        let c5 := (overspill_planes_Canvas_Frame N)
        let c6 := (planes_Same N (c5.getD default) 0)
        let c7 := (overspill_planes_Canvas_Frame_v1 N 0)
        let c8 := (planes_Same_v1 N (c7.getD default).1 (c7.getD default).2 0)
        let x4 := (bif (bif (bif (decide ((c3.getD default) ≠ 1)) then true else (decide ((c4.getD default) ≠ 1))) then true else (!(c6.getD default))) then true else (!(c8.getD default)))
        if c3.isSome = true ∧ ((!(decide ((c3.getD default) ≠ 1))) = true → c4.isSome = true) ∧ ((!(bif (decide ((c3.getD default) ≠ 1)) then true else (decide ((c4.getD default) ≠ 1)))) = true → c5.isSome = true) ∧ ((!(bif (decide ((c3.getD default) ≠ 1)) then true else (decide ((c4.getD default) ≠ 1)))) = true → c6.isSome = true) ∧ ((!(bif (bif (decide ((c3.getD default) ≠ 1)) then true else (decide ((c4.getD default) ≠ 1))) then true else (!(c6.getD default)))) = true → c7.isSome = true) ∧ ((!(bif (bif (decide ((c3.getD default) ≠ 1)) then true else (decide ((c4.getD default) ≠ 1))) then true else (!(c6.getD default)))) = true → c8.isSome = true) then
          bif x4 then
            some false
          else
            let c9 := (ref16_Many N a1)
            if c9.isSome = true then
              bif (decide ((c9.getD default) = 0)) then
                let c10 := (law17_lives N)
                if ((decide ((c2.getD default) = 1)) = true → c10.isSome = true) then
                  some (bif (decide ((c2.getD default) = 1)) then (c10.getD default) else false)
                else none
              else
                some false
            else none
        else none
      else none
  else none
def sp_law17_PlanesLays_nil (N : Nat) : X.Spec := fun args lk => match args with
  | [.v (.c (.int .i64 a1)), .v (.c (.fz (.pair (.int .i64) (.sl (.int .i64))) a2))] => some ⟨(law17_PlanesLays_nil N a1 a2).isSome = true, .v (.c (.bool ((law17_PlanesLays_nil N a1 a2).getD default))), [], []⟩
  | _ => none
set_option maxRecDepth 100000 in
set_option maxHeartbeats 1000000 in
theorem ok_law17_PlanesLays_nil (N : Nat) : FnOK Try.prog gt0 6 (sp_law17_PlanesLays_nil N) := by
  refine fnOK_handed Try.func6 rfl (by kernel_rfl) ttC_ok (ktCons (ok_ref16_Many N) (ktCons (FnOK.or (ok_planes_Same N) (ok_planes_Same_v1 N)) (ktCons (FnOK.or (ok_overspill_planes_Canvas_Frame N) (ok_overspill_planes_Canvas_Frame_v1 N)) (ktCons (FnOK.or (ok_overspill_planes_Canvas_Lay N) (ok_overspill_planes_Canvas_Lay_v1 N)) (ktCons (ok_planes_On_own_nil N) (ktCons (ok_law17_lives N) (ktNil))))))) ?_
  intro args lk r h hp
  unfold sp_law17_PlanesLays_nil at h
  split at h
  · rename_i a1 a2
    change (List (Int × (List Int))) at a2
    cases h
    obtain ⟨x, hx⟩ := Option.isSome_iff_exists.1 hp
    simp only [hx, Option.getD_some]
    refine hand0 rfl rfl (fun w0 M ε0 hX => ?_)
    refine rCount (fun hε => ?_)
    have hT : law17_PlanesLays_nil N a1 a2 = some x := hx; clear hx hp; unfold law17_PlanesLays_nil at hT
    refine rSeq ?_
    refine zReg md0 hX rfl rfl rfl ?_
    refine rThen ?_
    refine rSeq ?_
    refine rSeq ?_
    let x1 := (bif (decide ((20 : Int) < (a2.length : Int))) then true else (bif (decide ((3 : Int) ≤ a1)) then (decide (a1 ≤ 5)) else false))
    replace hT := sIf hT; obtain ⟨o1, hT⟩ := hT
    refine rRegC md0 hX rfl rfl rfl (by (repeat' first | exact True.intro | with_reducible assumption | (with_reducible apply And.intro) | intro _) <;> first | assumption | exact o1 (by assumption) (by assumption) | exact rfl | omega | exact Nat.le_of_ble_eq_true rfl | exact selF (by assumption) | exact selT (by assumption) | exact And.intro rfl rfl | exact And.intro (by assumption) rfl | exact And.intro (by omega) rfl | (simp only [inK] at *; omega) | (simp_all [sel] <;> fail) | fail) ?_
    refine rThen ?_
    refine zCond rfl rfl (fun hc => ?_) (fun hc => ?_)
    · replace hT := sT hc hT
      refine rSeq ?_
      let c1 := (law17_lives N)
      replace hT := sIf hT; obtain ⟨o1, hT⟩ := hT
      refine zReg md0 hX rfl rfl rfl ?_
      refine rThen ?_
      refine rRet ?_
      refine rThenRet ?_
      have hy := Option.some.inj hT; subst hy
      exact zEnd0 hX rfl
    · replace hT := sF hc hT
      refine rSkip ?_
      refine rThen ?_
      refine rSeq ?_
      let c2 := (planes_On_own_nil N a1)
      replace hT := sIf hT; obtain ⟨o1, hT⟩ := hT
      refine zReg md0 hX rfl rfl rfl ?_
      refine rThen ?_
      refine rSeq ?_
      refine zReg md0 hX rfl rfl rfl ?_
      refine rThen ?_
      refine rSeq ?_
      refine zReg md0 hX rfl rfl rfl ?_
      refine rThen ?_
      refine rSeq ?_
      refine rSeq ?_
      let c3 := (overspill_planes_Canvas_Lay N 0 (List.replicate 384 0))
      let c4 := (overspill_planes_Canvas_Lay_v1 N 0 (List.replicate 384 0) 0)
      let c5 := (overspill_planes_Canvas_Frame N)
      let c6 := (planes_Same N (c5.getD default) 0)
      let c7 := (overspill_planes_Canvas_Frame_v1 N 0)
      let c8 := (planes_Same_v1 N (c7.getD default).1 (c7.getD default).2 0)
      let x4 := (bif (bif (bif (decide ((c3.getD default) ≠ 1)) then true else (decide ((c4.getD default) ≠ 1))) then true else (!(c6.getD default))) then true else (!(c8.getD default)))
      replace hT := sIf hT; obtain ⟨⟨o1, o2, o3, o4, o5, o6⟩, hT⟩ := hT
      refine rRegC md0 hX rfl rfl rfl (by (repeat' first | exact True.intro | with_reducible assumption | (with_reducible apply And.intro) | intro _) <;> first | assumption | exact o2 (by assumption) | exact o3 (by assumption) | exact o4 (by assumption) | exact o5 (by assumption) | exact o6 (by assumption) | exact rfl | omega | exact Nat.le_of_ble_eq_true rfl | exact selF (by assumption) | exact selT (by assumption) | exact And.intro rfl rfl | exact And.intro (by assumption) rfl | exact And.intro (by omega) rfl | (simp only [inK] at *; omega) | (simp_all [sel] <;> fail) | fail) ?_
      refine rThen ?_
      refine zCond rfl rfl (fun hc => ?_) (fun hc => ?_)
      · replace hT := sT hc hT
        refine rSeq ?_
        refine zReg md0 hX rfl rfl rfl ?_
        refine rThen ?_
        refine rRet ?_
        refine rThenRet ?_
        have hy := Option.some.inj hT; subst hy
        exact zEnd0 hX rfl
      · replace hT := sF hc hT
        refine rSkip ?_
        refine rThen ?_
        refine rSeq ?_
        refine rSeq ?_
        let c9 := (ref16_Many N a1)
        replace hT := sIf hT; obtain ⟨o1, hT⟩ := hT
        refine zReg md0 hX rfl rfl rfl ?_
        refine rThen ?_
        refine zCond rfl rfl (fun hc => ?_) (fun hc => ?_)
        · replace hT := sT hc hT
          refine rSeq ?_
          let c10 := (law17_lives N)
          replace hT := sIf hT; obtain ⟨o1, hT⟩ := hT
          refine rRegC md0 hX rfl rfl rfl (by (repeat' first | exact True.intro | with_reducible assumption | (with_reducible apply And.intro) | intro _) <;> first | assumption | exact o1 (by assumption) | exact rfl | omega | exact Nat.le_of_ble_eq_true rfl | exact selF (by assumption) | exact selT (by assumption) | exact And.intro rfl rfl | exact And.intro (by assumption) rfl | exact And.intro (by omega) rfl | (simp only [inK] at *; omega) | (simp_all [sel] <;> fail) | fail) ?_
          refine rThen ?_
          refine rRet ?_
          refine rThenRet ?_
          have hy := Option.some.inj hT; subst hy
          exact zEnd0 hX rfl
        · replace hT := sF hc hT
          refine rSkip ?_
          refine rThen ?_
          refine rSeq ?_
          refine rSeq ?_
          refine zReg md0 hX rfl rfl rfl ?_
          refine rThen ?_
          refine rCondT rfl rfl (by (repeat' first | exact True.intro | with_reducible assumption | (with_reducible apply And.intro) | intro _) <;> first | assumption | exact rfl | omega | exact Nat.le_of_ble_eq_true rfl | exact selF (by assumption) | exact selT (by assumption) | exact And.intro rfl rfl | exact And.intro (by assumption) rfl | exact And.intro (by omega) rfl | (simp only [inK] at *; omega) | (simp_all [sel] <;> fail) | fail) rfl ?_
          refine rSeq ?_
          refine zReg md0 hX rfl rfl rfl ?_
          refine rThen ?_
          refine rRet ?_
          refine rThenRet ?_
          have hy := Option.some.inj hT; subst hy
          exact zEnd0 hX rfl
  · cases h

end Go.Proofs.Ytjknjjdijoboiaa
