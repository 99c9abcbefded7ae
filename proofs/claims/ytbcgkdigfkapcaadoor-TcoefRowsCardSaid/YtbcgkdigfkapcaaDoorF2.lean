/- Models of functions, and that the program does what they tell. -/
import Derived.Test.YtbcgkdigfkapcaaDoorF1
set_option linter.unusedVariables false
set_option linter.unusedSimpArgs false
namespace Go.Proofs.YtbcgkdigfkapcaaDoor
open Go.X

def tcoef_read_b1 (N : Nat) (s1 : (Int × Int × ByteArray × Int)) : Option ((Int × Int × ByteArray × Int) ⊕ ((Int × Bool × Int × Int × ByteArray × Int) ⊕ (ByteArray × Int))) :=
  bif (decide (s1.2.1 ≤ 12)) then
    let c1 := (overspill_inbits_Reader_Take N 1 s1.2.2.1 s1.2.2.2)
    if c1.isSome = true then
      bif (decide ((c1.getD default).2.1 ≠ 0)) then
        some (.inr (Sum.inl ((c1.getD default).2.1, false, 0, 0, (c1.getD default).2.2.1, (c1.getD default).2.2.2)))
      else
        if inK .i64 (s1.1 * 2 ^ (Int.toNat 1)) ∧ (0 : Int) ≤ (s1.1 * 2 ^ (Int.toNat 1)) ∧ (0 : Int) ≤ (c1.getD default).1 then
          let x1 := (decide (((Int.toNat (s1.1 * 2 ^ (Int.toNat 1)) ||| Int.toNat (c1.getD default).1 : Nat) : Int) = 3))
          let x2 := (bif (decide (s1.2.1 = 7)) then (decide (((Int.toNat (s1.1 * 2 ^ (Int.toNat 1)) ||| Int.toNat (c1.getD default).1 : Nat) : Int) = 3)) else false)
          bif x2 then
            let c2 := (tcoef_escaped N (c1.getD default).2.2.1 (c1.getD default).2.2.2)
            if c2.isSome = true then
              some (.inr (Sum.inl ((c2.getD default).2.2.2.1, (c2.getD default).1, (c2.getD default).2.1, (c2.getD default).2.2.1, (c2.getD default).2.2.2.2.1, (c2.getD default).2.2.2.2.2)))
            else none
          else
            let c3 := (tcoef_find N ((Int.toNat (s1.1 * 2 ^ (Int.toNat 1)) ||| Int.toNat (c1.getD default).1 : Nat) : Int) s1.2.1)
            if c3.isSome = true then
              bif (decide ((0 : Int) ≤ (c3.getD default).1)) then
                let c4 := (overspill_inbits_Reader_Take N 1 (c1.getD default).2.2.1 (c1.getD default).2.2.2)
                if c4.isSome = true then
                  bif (decide ((c4.getD default).2.1 ≠ 0)) then
                    some (.inr (Sum.inl ((c4.getD default).2.1, false, 0, 0, (c4.getD default).2.2.1, (c4.getD default).2.2.2)))
                  else
                    let c5 := (tcoef_event N (c3.getD default).1)
                    if c5.isSome = true then
                      if inK .i64 ((2 : Int) * (c4.getD default).1) ∧ inK .i64 ((1 : Int) - ((2 : Int) * (c4.getD default).1)) ∧ inK .i64 ((c5.getD default).2.2 * ((1 : Int) - ((2 : Int) * (c4.getD default).1))) then
                        some (.inr (Sum.inl (0, (c5.getD default).1, (c5.getD default).2.1, ((c5.getD default).2.2 * ((1 : Int) - ((2 : Int) * (c4.getD default).1))), (c4.getD default).2.2.1, (c4.getD default).2.2.2)))
                      else none
                    else none
                else none
              else
                bif (!(c3.getD default).2) then
                  some (.inr (Sum.inr ((c1.getD default).2.2.1, (c1.getD default).2.2.2)))
                else
                  if inK .i64 (s1.2.1 + 1) then
                    some (.inl (((Int.toNat (s1.1 * 2 ^ (Int.toNat 1)) ||| Int.toNat (c1.getD default).1 : Nat) : Int), (s1.2.1 + 1), (c1.getD default).2.2.1, (c1.getD default).2.2.2))
                  else none
            else none
        else none
    else none
  else
    some (.inr (Sum.inr (s1.2.2.1, s1.2.2.2)))
def tcoef_read (N : Nat) (a1 : ByteArray) (a2 : Int) : Option (Bool × Int × Int × Int × ByteArray × Int) :=
  (iter (tcoef_read_b1 N) N (0, 1, a1, a2)).bind fun w1 =>
    (Sum.elim (fun v1 =>
      some (v1.2.1, v1.2.2.1, v1.2.2.2.1, v1.1, v1.2.2.2.2.1, v1.2.2.2.2.2)
    )
      (fun v2 =>
        some (false, 0, 0, 3, v2.1, v2.2)
      )
    ) w1
def sp_tcoef_read (N : Nat) : X.Spec := fun args lk => match args with
  | [.v (.c (.ptr i0 0 0 0 0 0))] => (match lk i0 with
    | some (.mem true 71 none (.flat [.cs [.str a1, .int .i64 a2]])) => some ⟨(tcoef_read N a1 a2).isSome = true, .tup [.agg [.cs [.bool ((tcoef_read N a1 a2).getD default).1, .int .i64 ((tcoef_read N a1 a2).getD default).2.1, .int .i64 ((tcoef_read N a1 a2).getD default).2.2.1]], .c (.int .i64 ((tcoef_read N a1 a2).getD default).2.2.2.1)], [], [(i0, .mem true 71 none (.flat [.cs [.str ((tcoef_read N a1 a2).getD default).2.2.2.2.1, .int .i64 ((tcoef_read N a1 a2).getD default).2.2.2.2.2]]))]⟩
    | _ => none)
  | _ => none
set_option maxRecDepth 100000 in
set_option maxHeartbeats 1000000 in
theorem ok_tcoef_read (N : Nat) : FnOK Tryd.prog gt0 40 (sp_tcoef_read N) := by
  refine fnOK_handed Tryd.func40 rfl (by kernel_rfl) tt_ok (ktCons (ok_tcoef_event N) (ktCons (ok_tcoef_find N) (ktCons (ok_tcoef_escaped N) (ktCons (ok_overspill_inbits_Reader_Take N) (ktNil))))) ?_
  intro args lk r h hp
  unfold sp_tcoef_read at h
  split at h
  · rename_i i0
    split at h
    · rename_i a1 a2 hl0
      cases h
      obtain ⟨x, hx⟩ := Option.isSome_iff_exists.1 hp
      simp only [hx, Option.getD_some]
      refine handL [i0] 1 [(0, .mem true 71 none (.flat [.cs [.str a1, .int .i64 a2]]))] [.v (.c (.ptr 0 0 0 0 0 0))] rfl rfl rfl ⟨isSome_of hl0, trivial⟩ ⟨⟨rfl, (by repeat' first | exact True.intro | exact rfl | exact ⟨_, rfl, rfl⟩ | apply And.intro | exact Or.inl rfl), _, hl0, .inl rfl⟩, trivial⟩ rfl (fun w0 M ε0 hX => ?_)
      refine rCount (fun hε => ?_)
      have hT : tcoef_read N a1 a2 = some x := hx; clear hx hp; unfold tcoef_read at hT
      refine rSeq ?_
      refine rRegC md0 hX rfl rfl rfl (by repeat' first | exact True.intro | exact rfl | apply And.intro | omega | exact Nat.le_of_ble_eq_true rfl) ?_
      refine rThen ?_
      refine rSeq ?_
      refine rSeq ?_
      refine rRegC md0 hX rfl rfl rfl (by repeat' first | exact True.intro | exact rfl | apply And.intro | omega | exact Nat.le_of_ble_eq_true rfl) ?_
      refine rThen ?_
      refine rBlock ?_
      replace hT := sBind hT; obtain ⟨w1, hl, hT⟩ := hT
      refine rJoinA (fun v1 => (Sum.inl v1) = w1) (fun v1 => ⟨[(2, .v (.c (.ptr 1 0 0 0 0 0))), (3, .v (.c (.int .i64 v1.1)))], [(0, .mem true 71 none (.flat [.cs [.str v1.2.2.2.2.1, .int .i64 v1.2.2.2.2.2]])), (1, .mem true 23 none (.flat [.cs [.bool v1.2.1, .int .i64 v1.2.2.1, .int .i64 v1.2.2.2.1]]))], 2⟩) .ret (fun v1 hv => ?_) (fun hxs10 => ?_)
      · subst hv; clear hl; replace hT := (sElimL hT)
        refine rInRet ?_
        refine rThenRet ?_
        have hy := Option.some.inj hT; subst hy
        exact rEndA [] [] [(0, .mem true 71 none (.flat [.cs [.str v1.2.2.2.2.1, .int .i64 v1.2.2.2.2.2]]))] (.tup [.agg [.cs [.bool v1.2.1, .int .i64 v1.2.2.1, .int .i64 v1.2.2.2.1]], .c (.int .i64 v1.1)]) hX rfl (by repeat' first | exact True.intro | exact rfl | apply And.intro | omega | exact Nat.le_of_ble_eq_true rfl) (by repeat' first | exact True.intro | exact rfl | apply And.intro) rfl rfl rfl (by repeat' first | exact True.intro | exact rfl | exact ⟨_, rfl, rfl⟩ | apply And.intro | exact Or.inl rfl) rfl rfl (by repeat' first | exact True.intro | exact rfl | exact ⟨_, rfl, rfl⟩ | apply And.intro | exact Or.inl rfl) rfl rfl
      refine rJoinA (fun v2 => (Sum.inr v2) = w1) (fun v2 => ⟨[(2, .v (.c (.ptr 1 0 0 0 0 0))), (3, .v (.c (.int .i64 0)))], [(0, .mem true 71 none (.flat [.cs [.str v2.1, .int .i64 v2.2]])), (1, .mem true 23 none (.flat [.cs [.bool false, .int .i64 0, .int .i64 0]]))], 2⟩) (.exit 0) (fun v2 hv => ?_) (fun hxs11 => ?_)
      · subst hv; clear hl; replace hT := (sElimR hT)
        refine rInHit ?_
        refine rThen ?_
        refine rSeq ?_
        refine rRegC md0 hX rfl rfl rfl (by repeat' first | exact True.intro | exact rfl | apply And.intro | omega | exact Nat.le_of_ble_eq_true rfl) ?_
        refine rThen ?_
        refine rRet ?_
        have hy := Option.some.inj hT; subst hy
        exact rEndA [] [] [(0, .mem true 71 none (.flat [.cs [.str v2.1, .int .i64 v2.2]]))] (.tup [.agg [.cs [.bool false, .int .i64 0, .int .i64 0]], .c (.int .i64 3)]) hX rfl (by repeat' first | exact True.intro | exact rfl | apply And.intro | omega | exact Nat.le_of_ble_eq_true rfl) (by repeat' first | exact True.intro | exact rfl | apply And.intro) rfl rfl rfl (by repeat' first | exact True.intro | exact rfl | exact ⟨_, rfl, rfl⟩ | apply And.intro | exact Or.inl rfl) rfl rfl (by repeat' first | exact True.intro | exact rfl | exact ⟨_, rfl, rfl⟩ | apply And.intro | exact Or.inl rfl) rfl rfl
      refine rLoopM (tcoef_read_b1 N) (fun s1 => ⟨[(0, .v (.c (.ptr 0 0 0 0 0 0))), (2, .v (.c (.ptr 1 0 0 0 0 0))), (3, .v (.c (.int .i64 0))), (4, .v (.c (.int .i64 s1.1))), (5, .v (.c (.int .i64 s1.2.1)))], [(0, .mem true 71 none (.flat [.cs [.str s1.2.2.1, .int .i64 s1.2.2.2]])), (1, .mem true 23 none (.flat [.cs [.bool false, .int .i64 0, .int .i64 0]]))], 2⟩) hl (To.mk' [] 1 hε rfl (by repeat' first | exact True.intro | exact rfl | apply And.intro) (by repeat' first | exact True.intro | exact rfl | apply And.intro)) (fun s1 zs1 NNs1 hz hnexts1 houts1 => ?_)
      clear hl hT
      have hT := hz; clear hz
      refine rSeq ?_
      refine rSeq ?_
      refine rRegC md0 hX rfl rfl rfl (by repeat' first | exact True.intro | exact rfl | apply And.intro | omega | exact Nat.le_of_ble_eq_true rfl) ?_
      refine rThen ?_
      refine rCond rfl rfl (by repeat' first | exact True.intro | exact rfl | apply And.intro | omega | exact Nat.le_of_ble_eq_true rfl) (fun hc => ?_) (fun hc => ?_)
      · replace hT := sT hc hT
        refine rSkip ?_
        refine rThen ?_
        refine rSeq ?_
        refine rBlock ?_
        refine rSeq ?_
        let c1 := (overspill_inbits_Reader_Take N 1 s1.2.2.1 s1.2.2.2)
        replace hT := sIf hT; obtain ⟨o1, hT⟩ := hT
        refine rRegC md0 hX rfl rfl rfl (by (repeat' first | exact True.intro | with_reducible assumption | (with_reducible apply And.intro) | intro _) <;> first | assumption | exact rfl | omega | exact Nat.le_of_ble_eq_true rfl | exact selF (by assumption) | exact selT (by assumption) | exact And.intro rfl rfl | exact And.intro (by assumption) rfl | exact And.intro (by omega) rfl | (simp only [inK] at *; omega) | (simp_all [sel] <;> fail) | fail) ?_
        refine rThen ?_
        refine rSeq ?_
        refine rSeq ?_
        refine rRegC md0 hX rfl rfl rfl (by repeat' first | exact True.intro | exact rfl | apply And.intro | omega | exact Nat.le_of_ble_eq_true rfl) ?_
        refine rThen ?_
        refine rCond rfl rfl (by repeat' first | exact True.intro | exact rfl | apply And.intro | omega | exact Nat.le_of_ble_eq_true rfl) (fun hc => ?_) (fun hc => ?_)
        · replace hT := sT hc hT
          refine rSeq ?_
          refine rRegC md0 hX rfl rfl rfl (by repeat' first | exact True.intro | exact rfl | apply And.intro | omega | exact Nat.le_of_ble_eq_true rfl) ?_
          refine rThen ?_
          refine rRet ?_
          refine rThenRet ?_
          refine rInRet ?_
          refine rThenRet ?_
          refine rThenRet ?_
          exact rTo (To.mk' [] 1 hε rfl (by repeat' first | exact True.intro | exact rfl | apply And.intro) (by repeat' first | exact True.intro | exact rfl | apply And.intro)) (hxs10 _ (houts1 _ (Option.some.inj hT).symm))
        · replace hT := sF hc hT
          refine rSkip ?_
          refine rThen ?_
          refine rSeq ?_
          replace hT := sIf hT; obtain ⟨⟨o1, o2, o3⟩, hT⟩ := hT
          refine rRegC md0 hX rfl rfl rfl (by (repeat' first | exact True.intro | with_reducible assumption | (with_reducible apply And.intro) | intro _) <;> first | assumption | exact rfl | omega | exact Nat.le_of_ble_eq_true rfl | exact selF (by assumption) | exact selT (by assumption) | exact And.intro rfl rfl | exact And.intro (by assumption) rfl | exact And.intro (by omega) rfl | (simp only [inK] at *; omega) | (simp_all [sel] <;> fail) | fail) ?_
          refine rThen ?_
          refine rSeq ?_
          refine rSeq ?_
          let x1 := (decide (((Int.toNat (s1.1 * 2 ^ (Int.toNat 1)) ||| Int.toNat (c1.getD default).1 : Nat) : Int) = 3))
          let x2 := (bif (decide (s1.2.1 = 7)) then (decide (((Int.toNat (s1.1 * 2 ^ (Int.toNat 1)) ||| Int.toNat (c1.getD default).1 : Nat) : Int) = 3)) else false)
          refine rRegC md0 hX rfl rfl rfl (by (repeat' first | exact True.intro | with_reducible assumption | (with_reducible apply And.intro) | intro _) <;> first | assumption | exact rfl | omega | exact Nat.le_of_ble_eq_true rfl | exact selF (by assumption) | exact selT (by assumption) | exact And.intro rfl rfl | exact And.intro (by assumption) rfl | exact And.intro (by omega) rfl | (simp only [inK] at *; omega) | (simp_all [sel] <;> fail) | fail) ?_
          refine rThen ?_
          refine rCond rfl rfl (by repeat' first | exact True.intro | exact rfl | apply And.intro | omega | exact Nat.le_of_ble_eq_true rfl) (fun hc => ?_) (fun hc => ?_)
          · replace hT := sT hc hT
            refine rSeq ?_
            let c2 := (tcoef_escaped N (c1.getD default).2.2.1 (c1.getD default).2.2.2)
            replace hT := sIf hT; obtain ⟨o1, hT⟩ := hT
            refine rRegC md0 hX rfl rfl rfl (by (repeat' first | exact True.intro | with_reducible assumption | (with_reducible apply And.intro) | intro _) <;> first | assumption | exact rfl | omega | exact Nat.le_of_ble_eq_true rfl | exact selF (by assumption) | exact selT (by assumption) | exact And.intro rfl rfl | exact And.intro (by assumption) rfl | exact And.intro (by omega) rfl | (simp only [inK] at *; omega) | (simp_all [sel] <;> fail) | fail) ?_
            refine rThen ?_
            refine rRet ?_
            refine rThenRet ?_
            refine rInRet ?_
            refine rThenRet ?_
            refine rThenRet ?_
            exact rTo (To.mk' [] 1 hε rfl (by repeat' first | exact True.intro | exact rfl | apply And.intro) (by repeat' first | exact True.intro | exact rfl | apply And.intro)) (hxs10 _ (houts1 _ (Option.some.inj hT).symm))
          · replace hT := sF hc hT
            refine rSkip ?_
            refine rThen ?_
            refine rSeq ?_
            let c3 := (tcoef_find N ((Int.toNat (s1.1 * 2 ^ (Int.toNat 1)) ||| Int.toNat (c1.getD default).1 : Nat) : Int) s1.2.1)
            replace hT := sIf hT; obtain ⟨o1, hT⟩ := hT
            refine rRegC md0 hX rfl rfl rfl (by (repeat' first | exact True.intro | with_reducible assumption | (with_reducible apply And.intro) | intro _) <;> first | assumption | exact rfl | omega | exact Nat.le_of_ble_eq_true rfl | exact selF (by assumption) | exact selT (by assumption) | exact And.intro rfl rfl | exact And.intro (by assumption) rfl | exact And.intro (by omega) rfl | (simp only [inK] at *; omega) | (simp_all [sel] <;> fail) | fail) ?_
            refine rThen ?_
            refine rSeq ?_
            refine rSeq ?_
            refine rRegC md0 hX rfl rfl rfl (by repeat' first | exact True.intro | exact rfl | apply And.intro | omega | exact Nat.le_of_ble_eq_true rfl) ?_
            refine rThen ?_
            refine rCond rfl rfl (by repeat' first | exact True.intro | exact rfl | apply And.intro | omega | exact Nat.le_of_ble_eq_true rfl) (fun hc => ?_) (fun hc => ?_)
            · replace hT := sT hc hT
              refine rSeq ?_
              let c4 := (overspill_inbits_Reader_Take N 1 (c1.getD default).2.2.1 (c1.getD default).2.2.2)
              replace hT := sIf hT; obtain ⟨o1, hT⟩ := hT
              refine rRegC md0 hX rfl rfl rfl (by (repeat' first | exact True.intro | with_reducible assumption | (with_reducible apply And.intro) | intro _) <;> first | assumption | exact rfl | omega | exact Nat.le_of_ble_eq_true rfl | exact selF (by assumption) | exact selT (by assumption) | exact And.intro rfl rfl | exact And.intro (by assumption) rfl | exact And.intro (by omega) rfl | (simp only [inK] at *; omega) | (simp_all [sel] <;> fail) | fail) ?_
              refine rThen ?_
              refine rSeq ?_
              refine rSeq ?_
              refine rRegC md0 hX rfl rfl rfl (by repeat' first | exact True.intro | exact rfl | apply And.intro | omega | exact Nat.le_of_ble_eq_true rfl) ?_
              refine rThen ?_
              refine rCond rfl rfl (by repeat' first | exact True.intro | exact rfl | apply And.intro | omega | exact Nat.le_of_ble_eq_true rfl) (fun hc => ?_) (fun hc => ?_)
              · replace hT := sT hc hT
                refine rSeq ?_
                refine rRegC md0 hX rfl rfl rfl (by repeat' first | exact True.intro | exact rfl | apply And.intro | omega | exact Nat.le_of_ble_eq_true rfl) ?_
                refine rThen ?_
                refine rRet ?_
                refine rThenRet ?_
                refine rThenRet ?_
                refine rInRet ?_
                refine rThenRet ?_
                refine rThenRet ?_
                exact rTo (To.mk' [] 1 hε rfl (by repeat' first | exact True.intro | exact rfl | apply And.intro) (by repeat' first | exact True.intro | exact rfl | apply And.intro)) (hxs10 _ (houts1 _ (Option.some.inj hT).symm))
              · replace hT := sF hc hT
                refine rSkip ?_
                refine rThen ?_
                refine rSeq ?_
                let c5 := (tcoef_event N (c3.getD default).1)
                replace hT := sIf hT; obtain ⟨o1, hT⟩ := hT
                refine rRegC md0 hX rfl rfl rfl (by (repeat' first | exact True.intro | with_reducible assumption | (with_reducible apply And.intro) | intro _) <;> first | assumption | exact rfl | omega | exact Nat.le_of_ble_eq_true rfl | exact selF (by assumption) | exact selT (by assumption) | exact And.intro rfl rfl | exact And.intro (by assumption) rfl | exact And.intro (by omega) rfl | (simp only [inK] at *; omega) | (simp_all [sel] <;> fail) | fail) ?_
                refine rThen ?_
                refine rSeq ?_
                replace hT := sIf hT; obtain ⟨⟨o1, o2, o3⟩, hT⟩ := hT
                refine rRegC md0 hX rfl rfl rfl (by (repeat' first | exact True.intro | with_reducible assumption | (with_reducible apply And.intro) | intro _) <;> first | assumption | exact rfl | omega | exact Nat.le_of_ble_eq_true rfl | exact selF (by assumption) | exact selT (by assumption) | exact And.intro rfl rfl | exact And.intro (by assumption) rfl | exact And.intro (by omega) rfl | (simp only [inK] at *; omega) | (simp_all [sel] <;> fail) | fail) ?_
                refine rThen ?_
                refine rSeq ?_
                refine rRegC md0 hX rfl rfl rfl (by repeat' first | exact True.intro | exact rfl | apply And.intro | omega | exact Nat.le_of_ble_eq_true rfl) ?_
                refine rThen ?_
                refine rRet ?_
                refine rThenRet ?_
                refine rInRet ?_
                refine rThenRet ?_
                refine rThenRet ?_
                exact rTo (To.mk' [] 1 hε rfl (by repeat' first | exact True.intro | exact rfl | apply And.intro) (by repeat' first | exact True.intro | exact rfl | apply And.intro)) (hxs10 _ (houts1 _ (Option.some.inj hT).symm))
            · replace hT := sF hc hT
              refine rSkip ?_
              refine rThen ?_
              refine rSeq ?_
              refine rRegC md0 hX rfl rfl rfl (by repeat' first | exact True.intro | exact rfl | apply And.intro | omega | exact Nat.le_of_ble_eq_true rfl) ?_
              refine rThen ?_
              refine rCond rfl rfl (by repeat' first | exact True.intro | exact rfl | apply And.intro | omega | exact Nat.le_of_ble_eq_true rfl) (fun hc => ?_) (fun hc => ?_)
              · replace hT := sT hc hT
                refine rExit ?_
                refine rInMiss rfl ?_
                refine rThenExit ?_
                refine rThenExit ?_
                exact rTo (To.mk' [] 1 hε rfl (by repeat' first | exact True.intro | exact rfl | apply And.intro) (by repeat' first | exact True.intro | exact rfl | apply And.intro)) (hxs11 _ (houts1 _ (Option.some.inj hT).symm))
              · replace hT := sF hc hT
                refine rSkip ?_
                refine rInNormal ?_
                refine rThen ?_
                replace hT := sIf hT; obtain ⟨o1, hT⟩ := hT
                refine rRegC md0 hX rfl rfl rfl (by (repeat' first | exact True.intro | with_reducible assumption | (with_reducible apply And.intro) | intro _) <;> first | assumption | exact rfl | omega | exact Nat.le_of_ble_eq_true rfl | exact selF (by assumption) | exact selT (by assumption) | exact And.intro rfl rfl | exact And.intro (by assumption) rfl | exact And.intro (by omega) rfl | (simp only [inK] at *; omega) | (simp_all [sel] <;> fail) | fail) ?_
                exact hnexts1 _ (Option.some.inj hT).symm _ (To.mk' [] 1 hε rfl (by repeat' first | exact True.intro | exact rfl | apply And.intro) (by repeat' first | exact True.intro | exact rfl | apply And.intro))
      · replace hT := sF hc hT
        refine rExit ?_
        refine rThenExit ?_
        refine rThenExit ?_
        exact rTo (To.mk' [] 1 hε rfl (by repeat' first | exact True.intro | exact rfl | apply And.intro) (by repeat' first | exact True.intro | exact rfl | apply And.intro)) (hxs11 _ (houts1 _ (Option.some.inj hT).symm))
    · cases h
  · cases h
def overspill_inbits_Reader_Seek (N : Nat) (a1 : Int) (a2 : ByteArray) (a3 : Int) : Option (Int × ByteArray × Int) :=
  let x1 := (bif (bif false then true else (decide (a1 < 0))) then true else (decide (((8 : Int) * (ByteArray.size a2 : Int)) < a1)))
  if ((!(bif false then true else (decide (a1 < 0)))) = true → inK .i64 ((8 : Int) * (ByteArray.size a2 : Int))) then
    bif x1 then
      some (1, a2, a3)
    else
      some (0, a2, a1)
  else none
def sp_overspill_inbits_Reader_Seek (N : Nat) : X.Spec := fun args lk => match args with
  | [.v (.c (.ptr i0 0 0 0 0 0)), .v (.c (.int .i64 a1))] => (match lk i0 with
    | some (.mem true 71 none (.flat [.cs [.str a2, .int .i64 a3]])) => some ⟨(overspill_inbits_Reader_Seek N a1 a2 a3).isSome = true, .v (.c (.int .i64 ((overspill_inbits_Reader_Seek N a1 a2 a3).getD default).1)), [], [(i0, .mem true 71 none (.flat [.cs [.str ((overspill_inbits_Reader_Seek N a1 a2 a3).getD default).2.1, .int .i64 ((overspill_inbits_Reader_Seek N a1 a2 a3).getD default).2.2]]))]⟩
    | _ => none)
  | _ => none
set_option maxRecDepth 100000 in
set_option maxHeartbeats 1000000 in
theorem ok_overspill_inbits_Reader_Seek (N : Nat) : FnOK Tryd.prog gt0 15 (sp_overspill_inbits_Reader_Seek N) := by
  refine fnOK_handed Tryd.func15 rfl (by kernel_rfl) tt_ok (ktNil) ?_
  intro args lk r h hp
  unfold sp_overspill_inbits_Reader_Seek at h
  split at h
  · rename_i i0 a1
    split at h
    · rename_i a2 a3 hl0
      cases h
      obtain ⟨x, hx⟩ := Option.isSome_iff_exists.1 hp
      simp only [hx, Option.getD_some]
      refine handL [i0] 1 [(0, .mem true 71 none (.flat [.cs [.str a2, .int .i64 a3]]))] [.v (.c (.ptr 0 0 0 0 0 0)), .v (.c (.int .i64 a1))] rfl rfl rfl ⟨isSome_of hl0, trivial⟩ ⟨⟨rfl, (by repeat' first | exact True.intro | exact rfl | exact ⟨_, rfl, rfl⟩ | apply And.intro | exact Or.inl rfl), _, hl0, .inl rfl⟩, trivial⟩ rfl (fun w0 M ε0 hX => ?_)
      refine rCount (fun hε => ?_)
      have hT : overspill_inbits_Reader_Seek N a1 a2 a3 = some x := hx; clear hx hp; unfold overspill_inbits_Reader_Seek at hT
      refine rSeq ?_
      refine rRegC md0 hX rfl rfl rfl (by repeat' first | exact True.intro | exact rfl | apply And.intro | omega | exact Nat.le_of_ble_eq_true rfl) ?_
      refine rThen ?_
      refine rSeq ?_
      refine rSeq ?_
      let x1 := (bif (bif false then true else (decide (a1 < 0))) then true else (decide (((8 : Int) * (ByteArray.size a2 : Int)) < a1)))
      replace hT := sIf hT; obtain ⟨o1, hT⟩ := hT
      refine rRegC md0 hX rfl rfl rfl (by (repeat' first | exact True.intro | with_reducible assumption | (with_reducible apply And.intro) | intro _) <;> first | assumption | exact o1 (by assumption) | exact rfl | omega | exact Nat.le_of_ble_eq_true rfl | exact selF (by assumption) | exact selT (by assumption) | exact And.intro rfl rfl | exact And.intro (by assumption) rfl | exact And.intro (by omega) rfl | (simp only [inK] at *; omega) | (simp_all [sel] <;> fail) | fail) ?_
      refine rThen ?_
      refine rCond rfl rfl (by repeat' first | exact True.intro | exact rfl | apply And.intro | omega | exact Nat.le_of_ble_eq_true rfl) (fun hc => ?_) (fun hc => ?_)
      · replace hT := sT hc hT
        refine rSeq ?_
        refine rRegC md0 hX rfl rfl rfl (by repeat' first | exact True.intro | exact rfl | apply And.intro | omega | exact Nat.le_of_ble_eq_true rfl) ?_
        refine rThen ?_
        refine rRet ?_
        refine rThenRet ?_
        have hy := Option.some.inj hT; subst hy
        exact rEndA [] [] [(0, .mem true 71 none (.flat [.cs [.str a2, .int .i64 a3]]))] (.v (.c (.int .i64 1))) hX rfl (by repeat' first | exact True.intro | exact rfl | apply And.intro | omega | exact Nat.le_of_ble_eq_true rfl) (by repeat' first | exact True.intro | exact rfl | apply And.intro) rfl rfl rfl (by repeat' first | exact True.intro | exact rfl | exact ⟨_, rfl, rfl⟩ | apply And.intro | exact Or.inl rfl) rfl rfl (by repeat' first | exact True.intro | exact rfl | exact ⟨_, rfl, rfl⟩ | apply And.intro | exact Or.inl rfl) rfl rfl
      · replace hT := sF hc hT
        refine rSkip ?_
        refine rThen ?_
        refine rSeq ?_
        refine rRegC md0 hX rfl rfl rfl (by repeat' first | exact True.intro | exact rfl | apply And.intro | omega | exact Nat.le_of_ble_eq_true rfl) ?_
        refine rThen ?_
        refine rSeq ?_
        refine rRegC md0 hX rfl rfl rfl (by repeat' first | exact True.intro | exact rfl | apply And.intro | omega | exact Nat.le_of_ble_eq_true rfl) ?_
        refine rThen ?_
        refine rRet ?_
        have hy := Option.some.inj hT; subst hy
        exact rEndA [] [] [(0, .mem true 71 none (.flat [.cs [.str a2, .int .i64 a1]]))] (.v (.c (.int .i64 0))) hX rfl (by repeat' first | exact True.intro | exact rfl | apply And.intro | omega | exact Nat.le_of_ble_eq_true rfl) (by repeat' first | exact True.intro | exact rfl | apply And.intro) rfl rfl rfl (by repeat' first | exact True.intro | exact rfl | exact ⟨_, rfl, rfl⟩ | apply And.intro | exact Or.inl rfl) rfl rfl (by repeat' first | exact True.intro | exact rfl | exact ⟨_, rfl, rfl⟩ | apply And.intro | exact Or.inl rfl) rfl rfl
    · cases h
  · cases h
def tcoef_Take (N : Nat) (a1 : ByteArray) (a2 : Int) : Option (Bool × Int × Int × Int × ByteArray × Int) :=
  let c1 := (overspill_inbits_Reader_At N a1 a2)
  if c1.isSome = true then
    let c2 := (tcoef_read N a1 a2)
    if c2.isSome = true then
      let c3 := (overspill_inbits_Reader_Seek N (c1.getD default) (c2.getD default).2.2.2.2.1 (c2.getD default).2.2.2.2.2)
      if ((decide ((c2.getD default).2.2.2.1 ≠ 0)) = true → c3.isSome = true) then
        let x1 := (bif (decide ((c2.getD default).2.2.2.1 ≠ 0)) then (c3.getD default).2.1 else (c2.getD default).2.2.2.2.1)
        let x2 := (bif (decide ((c2.getD default).2.2.2.1 ≠ 0)) then (c3.getD default).2.2 else (c2.getD default).2.2.2.2.2)
        some ((c2.getD default).1, (c2.getD default).2.1, (c2.getD default).2.2.1, (c2.getD default).2.2.2.1, x1, x2)
      else none
    else none
  else none
def sp_tcoef_Take (N : Nat) : X.Spec := fun args lk => match args with
  | [.v (.c (.ptr i0 0 0 0 0 0))] => (match lk i0 with
    | some (.mem true 71 none (.flat [.cs [.str a1, .int .i64 a2]])) => some ⟨(tcoef_Take N a1 a2).isSome = true, .tup [.agg [.cs [.bool ((tcoef_Take N a1 a2).getD default).1, .int .i64 ((tcoef_Take N a1 a2).getD default).2.1, .int .i64 ((tcoef_Take N a1 a2).getD default).2.2.1]], .c (.int .i64 ((tcoef_Take N a1 a2).getD default).2.2.2.1)], [], [(i0, .mem true 71 none (.flat [.cs [.str ((tcoef_Take N a1 a2).getD default).2.2.2.2.1, .int .i64 ((tcoef_Take N a1 a2).getD default).2.2.2.2.2]]))]⟩
    | _ => none)
  | _ => none
set_option maxRecDepth 100000 in
set_option maxHeartbeats 1000000 in
theorem ok_tcoef_Take (N : Nat) : FnOK Tryd.prog gt0 16 (sp_tcoef_Take N) := by
  refine fnOK_handed Tryd.func16 rfl (by kernel_rfl) tt_ok (ktCons (ok_overspill_inbits_Reader_Seek N) (ktCons (ok_tcoef_read N) (ktCons (ok_overspill_inbits_Reader_At N) (ktNil)))) ?_
  intro args lk r h hp
  unfold sp_tcoef_Take at h
  split at h
  · rename_i i0
    split at h
    · rename_i a1 a2 hl0
      cases h
      obtain ⟨x, hx⟩ := Option.isSome_iff_exists.1 hp
      simp only [hx, Option.getD_some]
      refine handL [i0] 1 [(0, .mem true 71 none (.flat [.cs [.str a1, .int .i64 a2]]))] [.v (.c (.ptr 0 0 0 0 0 0))] rfl rfl rfl ⟨isSome_of hl0, trivial⟩ ⟨⟨rfl, (by repeat' first | exact True.intro | exact rfl | exact ⟨_, rfl, rfl⟩ | apply And.intro | exact Or.inl rfl), _, hl0, .inl rfl⟩, trivial⟩ rfl (fun w0 M ε0 hX => ?_)
      refine rCount (fun hε => ?_)
      have hT : tcoef_Take N a1 a2 = some x := hx; clear hx hp; unfold tcoef_Take at hT
      refine rSeq ?_
      refine rRegC md0 hX rfl rfl rfl (by repeat' first | exact True.intro | exact rfl | apply And.intro | omega | exact Nat.le_of_ble_eq_true rfl) ?_
      refine rThen ?_
      refine rSeq ?_
      refine rSeq ?_
      refine rRegC md0 hX rfl rfl rfl (by repeat' first | exact True.intro | exact rfl | apply And.intro | omega | exact Nat.le_of_ble_eq_true rfl) ?_
      refine rThen ?_
      refine rCondF rfl rfl (by (repeat' first | exact True.intro | with_reducible assumption | (with_reducible apply And.intro) | intro _) <;> first | assumption | exact rfl | omega | exact Nat.le_of_ble_eq_true rfl | exact selF (by assumption) | exact selT (by assumption) | exact And.intro rfl rfl | exact And.intro (by assumption) rfl | exact And.intro (by omega) rfl | (simp only [inK] at *; omega) | (simp_all [sel] <;> fail) | fail) rfl ?_
      refine rSkip ?_
      refine rThen ?_
      refine rSeq ?_
      let c1 := (overspill_inbits_Reader_At N a1 a2)
      replace hT := sIf hT; obtain ⟨o1, hT⟩ := hT
      refine rRegC md0 hX rfl rfl rfl (by (repeat' first | exact True.intro | with_reducible assumption | (with_reducible apply And.intro) | intro _) <;> first | assumption | exact rfl | omega | exact Nat.le_of_ble_eq_true rfl | exact selF (by assumption) | exact selT (by assumption) | exact And.intro rfl rfl | exact And.intro (by assumption) rfl | exact And.intro (by omega) rfl | (simp only [inK] at *; omega) | (simp_all [sel] <;> fail) | fail) ?_
      refine rThen ?_
      refine rSeq ?_
      let c2 := (tcoef_read N a1 a2)
      replace hT := sIf hT; obtain ⟨o1, hT⟩ := hT
      refine rRegC md0 hX rfl rfl rfl (by (repeat' first | exact True.intro | with_reducible assumption | (with_reducible apply And.intro) | intro _) <;> first | assumption | exact rfl | omega | exact Nat.le_of_ble_eq_true rfl | exact selF (by assumption) | exact selT (by assumption) | exact And.intro rfl rfl | exact And.intro (by assumption) rfl | exact And.intro (by omega) rfl | (simp only [inK] at *; omega) | (simp_all [sel] <;> fail) | fail) ?_
      refine rThen ?_
      refine rSeq ?_
      refine rSeq ?_
      refine rRegC md0 hX rfl rfl rfl (by repeat' first | exact True.intro | exact rfl | apply And.intro | omega | exact Nat.le_of_ble_eq_true rfl) ?_
      refine rThen ?_
      let c3 := (overspill_inbits_Reader_Seek N (c1.getD default) (c2.getD default).2.2.2.2.1 (c2.getD default).2.2.2.2.2)
      replace hT := sIf hT; obtain ⟨q1, hT⟩ := hT
      refine rJoin ⟨[(2, .v (.c (.ptr 1 0 0 0 0 0))), (3, .v (.c (.int .i64 0))), (5, .v (.c (.ptr 2 0 0 0 0 0))), (6, .v (.c (.int .i64 (c2.getD default).2.2.2.1)))], [(0, .mem true 71 none (.flat [.cs [.str (bif (decide ((c2.getD default).2.2.2.1 ≠ 0)) then (c3.getD default).2.1 else (c2.getD default).2.2.2.2.1), .int .i64 (bif (decide ((c2.getD default).2.2.2.1 ≠ 0)) then (c3.getD default).2.2 else (c2.getD default).2.2.2.2.2)]])), (1, .mem true 23 none (.flat [.cs [.bool false, .int .i64 0, .int .i64 0]])), (2, .mem true 23 none (.flat [.cs [.bool (c2.getD default).1, .int .i64 (c2.getD default).2.1, .int .i64 (c2.getD default).2.2.1]]))], 3⟩ ?_ (fun hj => ?_)
      · skip
        let x1 := (bif (decide ((c2.getD default).2.2.2.1 ≠ 0)) then (c3.getD default).2.1 else (c2.getD default).2.2.2.2.1)
        let x2 := (bif (decide ((c2.getD default).2.2.2.1 ≠ 0)) then (c3.getD default).2.2 else (c2.getD default).2.2.2.2.2)
        refine rThen ?_
        refine rSeq ?_
        refine rRegC md0 hX rfl rfl rfl (by repeat' first | exact True.intro | exact rfl | apply And.intro | omega | exact Nat.le_of_ble_eq_true rfl) ?_
        refine rThen ?_
        refine rRet ?_
        have hy := Option.some.inj hT; subst hy
        exact rEndA [] [] [(0, .mem true 71 none (.flat [.cs [.str x1, .int .i64 x2]]))] (.tup [.agg [.cs [.bool (c2.getD default).1, .int .i64 (c2.getD default).2.1, .int .i64 (c2.getD default).2.2.1]], .c (.int .i64 (c2.getD default).2.2.2.1)]) hX rfl (by repeat' first | exact True.intro | exact rfl | apply And.intro | omega | exact Nat.le_of_ble_eq_true rfl) (by repeat' first | exact True.intro | exact rfl | apply And.intro) rfl rfl rfl (by repeat' first | exact True.intro | exact rfl | exact ⟨_, rfl, rfl⟩ | apply And.intro | exact Or.inl rfl) rfl rfl (by repeat' first | exact True.intro | exact rfl | exact ⟨_, rfl, rfl⟩ | apply And.intro | exact Or.inl rfl) rfl rfl
      · clear hT
        refine rCond rfl rfl (by repeat' first | exact True.intro | exact rfl | apply And.intro | omega | exact Nat.le_of_ble_eq_true rfl) (fun hc => ?_) (fun hc => ?_)
        · skip
          have q1 := q1 hc
          refine rRegC md0 hX rfl rfl rfl (by (repeat' first | exact True.intro | with_reducible assumption | (with_reducible apply And.intro) | intro _) <;> first | assumption | exact rfl | omega | exact Nat.le_of_ble_eq_true rfl | exact selF (by assumption) | exact selT (by assumption) | exact And.intro rfl rfl | exact And.intro (by assumption) rfl | exact And.intro (by omega) rfl | (simp only [inK] at *; omega) | (simp_all [sel] <;> fail) | fail) ?_
          exact rTo (To.mk' [] 1 hε rfl (by (repeat' first | exact True.intro | exact rfl | apply And.intro) <;> (repeat' first | exact rfl | refine Eq.trans ?_ (cTr (by assumption)) | refine Eq.trans ?_ (cFr (by assumption)) | refine Eq.trans (cTl (by assumption)) ?_ | refine Eq.trans (cFl (by assumption)) ?_)) (by (repeat' first | exact True.intro | exact rfl | apply And.intro) <;> (repeat' first | exact rfl | refine Eq.trans ?_ (cTr (by assumption)) | refine Eq.trans ?_ (cFr (by assumption)) | refine Eq.trans (cTl (by assumption)) ?_ | refine Eq.trans (cFl (by assumption)) ?_))) hj
        · skip
          refine rSkip ?_
          exact rTo (To.mk' [] 1 hε rfl (by (repeat' first | exact True.intro | exact rfl | apply And.intro) <;> (repeat' first | exact rfl | refine Eq.trans ?_ (cTr (by assumption)) | refine Eq.trans ?_ (cFr (by assumption)) | refine Eq.trans (cTl (by assumption)) ?_ | refine Eq.trans (cFl (by assumption)) ?_)) (by (repeat' first | exact True.intro | exact rfl | apply And.intro) <;> (repeat' first | exact rfl | refine Eq.trans ?_ (cTr (by assumption)) | refine Eq.trans ?_ (cFr (by assumption)) | refine Eq.trans (cTl (by assumption)) ?_ | refine Eq.trans (cFl (by assumption)) ?_))) hj
    · cases h
  · cases h
def law09_lives (N : Nat) : Option Bool :=
  let c1 := (tcoef_Row N false 0 1)
  if c1.isSome = true then
    let c2 := (tcoef_Row N false 0 13)
    if c2.isSome = true then
      let c3 := (inbits_New N ⟨#[120]⟩)
      let c4 := (tcoef_Take N (c3.getD default).1 (c3.getD default).2)
      if c3.isSome = true ∧ c4.isSome = true then
        let x1 := (bif (bif (bif (bif (bif (decide (ByteArray.toList (c1.getD default).1 = ByteArray.toList ⟨#[49, 48, 48]⟩)) then (c1.getD default).2 else false) then (decide (ByteArray.toList (c2.getD default).1 = ByteArray.toList (ByteArray.mk (List.toArray [48, 48, 48, 48, 48, 49, 49, 48, 48, 48, 48, 48, 48, 48, 48, 48, 48, 48, 49, 49, 48, 49])))) else false) then (c2.getD default).2 else false) then (((c4.getD default).1 == true) && (decide ((c4.getD default).2.1 = 0) && (decide ((c4.getD default).2.2.1 = (-1)) && true))) else false) then (decide ((c4.getD default).2.2.2.1 = 0)) else false)
        let x2 := (bif (decide (ByteArray.toList (c1.getD default).1 = ByteArray.toList ⟨#[49, 48, 48]⟩)) then (c1.getD default).2 else false)
        let x3 := (decide (ByteArray.toList (c2.getD default).1 = ByteArray.toList (ByteArray.mk (List.toArray [48, 48, 48, 48, 48, 49, 49, 48, 48, 48, 48, 48, 48, 48, 48, 48, 48, 48, 49, 49, 48, 49]))))
        let x4 := (bif (bif (decide (ByteArray.toList (c1.getD default).1 = ByteArray.toList ⟨#[49, 48, 48]⟩)) then (c1.getD default).2 else false) then (decide (ByteArray.toList (c2.getD default).1 = ByteArray.toList (ByteArray.mk (List.toArray [48, 48, 48, 48, 48, 49, 49, 48, 48, 48, 48, 48, 48, 48, 48, 48, 48, 48, 49, 49, 48, 49])))) else false)
        let x5 := (bif (bif (bif (decide (ByteArray.toList (c1.getD default).1 = ByteArray.toList ⟨#[49, 48, 48]⟩)) then (c1.getD default).2 else false) then (decide (ByteArray.toList (c2.getD default).1 = ByteArray.toList (ByteArray.mk (List.toArray [48, 48, 48, 48, 48, 49, 49, 48, 48, 48, 48, 48, 48, 48, 48, 48, 48, 48, 49, 49, 48, 49])))) else false) then (c2.getD default).2 else false)
        let x6 := (((c4.getD default).1 == true) && (decide ((c4.getD default).2.1 = 0) && (decide ((c4.getD default).2.2.1 = (-1)) && true)))
        let x7 := (bif (bif (bif (bif (decide (ByteArray.toList (c1.getD default).1 = ByteArray.toList ⟨#[49, 48, 48]⟩)) then (c1.getD default).2 else false) then (decide (ByteArray.toList (c2.getD default).1 = ByteArray.toList (ByteArray.mk (List.toArray [48, 48, 48, 48, 48, 49, 49, 48, 48, 48, 48, 48, 48, 48, 48, 48, 48, 48, 49, 49, 48, 49])))) else false) then (c2.getD default).2 else false) then (((c4.getD default).1 == true) && (decide ((c4.getD default).2.1 = 0) && (decide ((c4.getD default).2.2.1 = (-1)) && true))) else false)
        some x1
      else none
    else none
  else none
def sp_law09_lives (N : Nat) : X.Spec := fun args lk => match args with
  | [] => some ⟨(law09_lives N).isSome = true, .v (.c (.bool ((law09_lives N).getD default))), [], []⟩
  | _ => none
set_option maxRecDepth 100000 in
set_option maxHeartbeats 1000000 in
theorem ok_law09_lives (N : Nat) : FnOK Tryd.prog gt0 13 (sp_law09_lives N) := by
  refine fnOK_handed Tryd.func13 rfl (by kernel_rfl) tt_ok (ktCons (ok_tcoef_Take N) (ktCons (ok_inbits_New N) (ktCons (ok_tcoef_Row N) (ktNil)))) ?_
  intro args lk r h hp
  unfold sp_law09_lives at h
  split at h
  · skip
    cases h
    obtain ⟨x, hx⟩ := Option.isSome_iff_exists.1 hp
    simp only [hx, Option.getD_some]
    refine hand0 rfl rfl (fun w0 M ε0 hX => ?_)
    refine rCount (fun hε => ?_)
    have hT : law09_lives N = some x := hx; clear hx hp; unfold law09_lives at hT
    refine rSeq ?_
    refine rRegC md0 hX rfl rfl rfl (by repeat' first | exact True.intro | exact rfl | apply And.intro | omega | exact Nat.le_of_ble_eq_true rfl) ?_
    refine rThen ?_
    refine rSeq ?_
    let c1 := (tcoef_Row N false 0 1)
    replace hT := sIf hT; obtain ⟨o1, hT⟩ := hT
    refine rRegC md0 hX rfl rfl rfl (by (repeat' first | exact True.intro | with_reducible assumption | (with_reducible apply And.intro) | intro _) <;> first | assumption | exact rfl | omega | exact Nat.le_of_ble_eq_true rfl | exact selF (by assumption) | exact selT (by assumption) | exact And.intro rfl rfl | exact And.intro (by assumption) rfl | exact And.intro (by omega) rfl | (simp only [inK] at *; omega) | (simp_all [sel] <;> fail) | fail) ?_
    refine rThen ?_
    refine rSeq ?_
    let c2 := (tcoef_Row N false 0 13)
    replace hT := sIf hT; obtain ⟨o1, hT⟩ := hT
    refine rRegC md0 hX rfl rfl rfl (by (repeat' first | exact True.intro | with_reducible assumption | (with_reducible apply And.intro) | intro _) <;> first | assumption | exact rfl | omega | exact Nat.le_of_ble_eq_true rfl | exact selF (by assumption) | exact selT (by assumption) | exact And.intro rfl rfl | exact And.intro (by assumption) rfl | exact And.intro (by omega) rfl | (simp only [inK] at *; omega) | (simp_all [sel] <;> fail) | fail) ?_
    refine rThen ?_
    refine rSeq ?_
    let c3 := (inbits_New N ⟨#[120]⟩)
    let c4 := (tcoef_Take N (c3.getD default).1 (c3.getD default).2)
    replace hT := sIf hT; obtain ⟨⟨o1, o2⟩, hT⟩ := hT
    refine rRegC md0 hX rfl rfl rfl (by (repeat' first | exact True.intro | with_reducible assumption | (with_reducible apply And.intro) | intro _) <;> first | assumption | exact rfl | omega | exact Nat.le_of_ble_eq_true rfl | exact selF (by assumption) | exact selT (by assumption) | exact And.intro rfl rfl | exact And.intro (by assumption) rfl | exact And.intro (by omega) rfl | (simp only [inK] at *; omega) | (simp_all [sel] <;> fail) | fail) ?_
    refine rThen ?_
    refine rSeq ?_
    let x1 := (bif (bif (bif (bif (bif (decide (ByteArray.toList (c1.getD default).1 = ByteArray.toList ⟨#[49, 48, 48]⟩)) then (c1.getD default).2 else false) then (decide (ByteArray.toList (c2.getD default).1 = ByteArray.toList (ByteArray.mk (List.toArray [48, 48, 48, 48, 48, 49, 49, 48, 48, 48, 48, 48, 48, 48, 48, 48, 48, 48, 49, 49, 48, 49])))) else false) then (c2.getD default).2 else false) then (((c4.getD default).1 == true) && (decide ((c4.getD default).2.1 = 0) && (decide ((c4.getD default).2.2.1 = (-1)) && true))) else false) then (decide ((c4.getD default).2.2.2.1 = 0)) else false)
    let x2 := (bif (decide (ByteArray.toList (c1.getD default).1 = ByteArray.toList ⟨#[49, 48, 48]⟩)) then (c1.getD default).2 else false)
    let x3 := (decide (ByteArray.toList (c2.getD default).1 = ByteArray.toList (ByteArray.mk (List.toArray [48, 48, 48, 48, 48, 49, 49, 48, 48, 48, 48, 48, 48, 48, 48, 48, 48, 48, 49, 49, 48, 49]))))
    let x4 := (bif (bif (decide (ByteArray.toList (c1.getD default).1 = ByteArray.toList ⟨#[49, 48, 48]⟩)) then (c1.getD default).2 else false) then (decide (ByteArray.toList (c2.getD default).1 = ByteArray.toList (ByteArray.mk (List.toArray [48, 48, 48, 48, 48, 49, 49, 48, 48, 48, 48, 48, 48, 48, 48, 48, 48, 48, 49, 49, 48, 49])))) else false)
    let x5 := (bif (bif (bif (decide (ByteArray.toList (c1.getD default).1 = ByteArray.toList ⟨#[49, 48, 48]⟩)) then (c1.getD default).2 else false) then (decide (ByteArray.toList (c2.getD default).1 = ByteArray.toList (ByteArray.mk (List.toArray [48, 48, 48, 48, 48, 49, 49, 48, 48, 48, 48, 48, 48, 48, 48, 48, 48, 48, 49, 49, 48, 49])))) else false) then (c2.getD default).2 else false)
    let x6 := (((c4.getD default).1 == true) && (decide ((c4.getD default).2.1 = 0) && (decide ((c4.getD default).2.2.1 = (-1)) && true)))
    let x7 := (bif (bif (bif (bif (decide (ByteArray.toList (c1.getD default).1 = ByteArray.toList ⟨#[49, 48, 48]⟩)) then (c1.getD default).2 else false) then (decide (ByteArray.toList (c2.getD default).1 = ByteArray.toList (ByteArray.mk (List.toArray [48, 48, 48, 48, 48, 49, 49, 48, 48, 48, 48, 48, 48, 48, 48, 48, 48, 48, 49, 49, 48, 49])))) else false) then (c2.getD default).2 else false) then (((c4.getD default).1 == true) && (decide ((c4.getD default).2.1 = 0) && (decide ((c4.getD default).2.2.1 = (-1)) && true))) else false)
    refine rRegC md0 hX rfl rfl rfl (by (repeat' first | exact True.intro | with_reducible assumption | (with_reducible apply And.intro) | intro _) <;> first | assumption | exact rfl | omega | exact Nat.le_of_ble_eq_true rfl | exact selF (by assumption) | exact selT (by assumption) | exact And.intro rfl rfl | exact And.intro (by assumption) rfl | exact And.intro (by omega) rfl | (simp only [inK] at *; omega) | (simp_all [sel] <;> fail) | fail) ?_
    refine rThen ?_
    refine rRet ?_
    have hy := Option.some.inj hT; subst hy
    exact rEnd0 hX rfl (by repeat' first | exact True.intro | exact rfl | apply And.intro | omega | exact Nat.le_of_ble_eq_true rfl) (by repeat' first | exact True.intro | exact rfl | apply And.intro) rfl rfl rfl rfl rfl
  · cases h
def law09_TcoefRows (N : Nat) (a1 : Bool) (a2 : Int) (a3 : Int) : Option Bool :=
  let c1 := (tcoef_Row N a1 a2 a3)
  if c1.isSome = true then
    let c2 := (ref09_Row N a1 a2 a3)
    if c2.isSome = true then
      let c3 := (tcoef_Right N a1 a2 a3)
      let c4 := (ref09_Right N a1 a2 a3)
      let c5 := (law09_lives N)
      let x1 := (bif (bif (bif ((c3.getD default) == (c4.getD default)) then (decide (ByteArray.toList (c1.getD default).1 = ByteArray.toList (c2.getD default))) else false) then ((c1.getD default).2 == (decide (ByteArray.toList (c2.getD default) ≠ ByteArray.toList ⟨#[]⟩))) else false) then (c5.getD default) else false)
      let x2 := (bif ((c3.getD default) == (c4.getD default)) then (decide (ByteArray.toList (c1.getD default).1 = ByteArray.toList (c2.getD default))) else false)
      let x3 := ((c1.getD default).2 == (decide (ByteArray.toList (c2.getD default) ≠ ByteArray.toList ⟨#[]⟩)))
      let x4 := (bif (bif ((c3.getD default) == (c4.getD default)) then (decide (ByteArray.toList (c1.getD default).1 = ByteArray.toList (c2.getD default))) else false) then ((c1.getD default).2 == (decide (ByteArray.toList (c2.getD default) ≠ ByteArray.toList ⟨#[]⟩))) else false)
      if c3.isSome = true ∧ c4.isSome = true ∧ ((bif (bif ((c3.getD default) == (c4.getD default)) then (decide (ByteArray.toList (c1.getD default).1 = ByteArray.toList (c2.getD default))) else false) then ((c1.getD default).2 == (decide (ByteArray.toList (c2.getD default) ≠ ByteArray.toList ⟨#[]⟩))) else false) = true → c5.isSome = true) then
        some x1
      else none
    else none
  else none
def sp_law09_TcoefRows (N : Nat) : X.Spec := fun args lk => match args with
  | [.v (.agg [.cs [.bool a1, .int .i64 a2, .int .i64 a3]])] => some ⟨(law09_TcoefRows N a1 a2 a3).isSome = true, .v (.c (.bool ((law09_TcoefRows N a1 a2 a3).getD default))), [], []⟩
  | _ => none
set_option maxRecDepth 100000 in
set_option maxHeartbeats 1000000 in
theorem ok_law09_TcoefRows (N : Nat) : FnOK Tryd.prog gt0 3 (sp_law09_TcoefRows N) := by
  refine fnOK_handed Tryd.func3 rfl (by kernel_rfl) tt_ok (ktCons (ok_law09_lives N) (ktCons (ok_ref09_Right N) (ktCons (ok_tcoef_Right N) (ktCons (ok_ref09_Row N) (ktCons (ok_tcoef_Row N) (ktNil)))))) ?_
  intro args lk r h hp
  unfold sp_law09_TcoefRows at h
  split at h
  · rename_i a1 a2 a3
    cases h
    obtain ⟨x, hx⟩ := Option.isSome_iff_exists.1 hp
    simp only [hx, Option.getD_some]
    refine hand0 rfl rfl (fun w0 M ε0 hX => ?_)
    refine rCount (fun hε => ?_)
    have hT : law09_TcoefRows N a1 a2 a3 = some x := hx; clear hx hp; unfold law09_TcoefRows at hT
    refine rSeq ?_
    refine rRegC md0 hX rfl rfl rfl (by repeat' first | exact True.intro | exact rfl | apply And.intro | omega | exact Nat.le_of_ble_eq_true rfl) ?_
    refine rThen ?_
    refine rSeq ?_
    let c1 := (tcoef_Row N a1 a2 a3)
    replace hT := sIf hT; obtain ⟨o1, hT⟩ := hT
    refine rRegC md0 hX rfl rfl rfl (by (repeat' first | exact True.intro | with_reducible assumption | (with_reducible apply And.intro) | intro _) <;> first | assumption | exact rfl | omega | exact Nat.le_of_ble_eq_true rfl | exact selF (by assumption) | exact selT (by assumption) | exact And.intro rfl rfl | exact And.intro (by assumption) rfl | exact And.intro (by omega) rfl | (simp only [inK] at *; omega) | (simp_all [sel] <;> fail) | fail) ?_
    refine rThen ?_
    refine rSeq ?_
    let c2 := (ref09_Row N a1 a2 a3)
    replace hT := sIf hT; obtain ⟨o1, hT⟩ := hT
    refine rRegC md0 hX rfl rfl rfl (by (repeat' first | exact True.intro | with_reducible assumption | (with_reducible apply And.intro) | intro _) <;> first | assumption | exact rfl | omega | exact Nat.le_of_ble_eq_true rfl | exact selF (by assumption) | exact selT (by assumption) | exact And.intro rfl rfl | exact And.intro (by assumption) rfl | exact And.intro (by omega) rfl | (simp only [inK] at *; omega) | (simp_all [sel] <;> fail) | fail) ?_
    refine rThen ?_
    refine rSeq ?_
    let c3 := (tcoef_Right N a1 a2 a3)
    let c4 := (ref09_Right N a1 a2 a3)
    let c5 := (law09_lives N)
    let x1 := (bif (bif (bif ((c3.getD default) == (c4.getD default)) then (decide (ByteArray.toList (c1.getD default).1 = ByteArray.toList (c2.getD default))) else false) then ((c1.getD default).2 == (decide (ByteArray.toList (c2.getD default) ≠ ByteArray.toList ⟨#[]⟩))) else false) then (c5.getD default) else false)
    let x2 := (bif ((c3.getD default) == (c4.getD default)) then (decide (ByteArray.toList (c1.getD default).1 = ByteArray.toList (c2.getD default))) else false)
    let x3 := ((c1.getD default).2 == (decide (ByteArray.toList (c2.getD default) ≠ ByteArray.toList ⟨#[]⟩)))
    let x4 := (bif (bif ((c3.getD default) == (c4.getD default)) then (decide (ByteArray.toList (c1.getD default).1 = ByteArray.toList (c2.getD default))) else false) then ((c1.getD default).2 == (decide (ByteArray.toList (c2.getD default) ≠ ByteArray.toList ⟨#[]⟩))) else false)
    replace hT := sIf hT; obtain ⟨⟨o1, o2, o3⟩, hT⟩ := hT
    refine rDrawM md0 0 [] hX mixed rfl rfl rfl rfl rfl (by (repeat' first | exact True.intro | with_reducible assumption | (with_reducible apply And.intro) | intro _) <;> first | assumption | exact o3 (by assumption) | exact rfl | omega | exact Nat.le_of_ble_eq_true rfl | exact selF (by assumption) | exact selT (by assumption) | exact And.intro rfl rfl | exact And.intro (by assumption) rfl | exact And.intro (by omega) rfl | (simp only [inK] at *; omega) | (simp_all [sel] <;> fail) | fail) ?_
    refine rThen ?_
    refine rRet ?_
    have hy := Option.some.inj hT; subst hy
    exact rEnd0 hX rfl (by repeat' first | exact True.intro | exact rfl | apply And.intro | omega | exact Nat.le_of_ble_eq_true rfl) (by repeat' first | exact True.intro | exact rfl | apply And.intro) rfl rfl rfl rfl rfl
  · cases h

end Go.Proofs.YtbcgkdigfkapcaaDoor
