/- Models of functions, and that the program does what they tell. -/
import Derived.Test.YtcfffichdcnlgaaDoorT1
set_option linter.unusedVariables false
set_option linter.unusedSimpArgs false
namespace Go.Proofs.YtcfffichdcnlgaaDoor
open Go.X

def ref09_Take_b3 (N : Nat) (s1 : (Nat × Nat × Int × (List ByteArray) × (List (Bool × (Int × Int))))) (s2 : (Nat × Nat × Int × (List ByteArray) × (List (Bool × (Int × Int))))) (c7 : (Option (List ByteArray))) (s3 : (Nat × Nat × Int × (List ByteArray) × (List (Bool × (Int × Int))))) : Option ((Nat × Nat × Int × (List ByteArray) × (List (Bool × (Int × Int)))) ⊕ (Nat × Nat × Int × Int × Bool × (List ByteArray) × (List (Bool × (Int × Int))))) :=
  bif (decide (s3.2.2.1 < ((c7.getD default).length : Int))) then
    if (0 : Int) ≤ s3.2.2.1 ∧ s3.2.2.1 < ((c7.getD default).length : Int) ∧ s3.2.2.2.1.length = s3.1 ∧ (s3.1 + 1) * 16 ≤ 140737488355328 ∧ s3.1 + 1 ≤ 9223372036854775807 then
      if inK .i64 (s3.2.2.1 + 1) ∧ s3.2.2.2.2.length = s3.2.1 ∧ (s3.2.1 + 1) * 24 ≤ 140737488355328 ∧ s3.2.1 + 1 ≤ 9223372036854775807 then
        if inK .i64 (s3.2.2.1 + 1) then
          some (.inl ((s3.1 + 1), (s3.2.1 + 1), (s3.2.2.1 + 1), (s3.2.2.2.1 ++ [((c7.getD default).getD (s3.2.2.1).toNat ⟨#[]⟩)]), (s3.2.2.2.2 ++ [((decide (s2.2.2.1 = 1)), (s1.2.2.1, (s3.2.2.1 + 1)))])))
        else none
      else none
    else none
  else
    some (.inr (s3.1, s3.2.1, s3.2.2.1, s3.2.2.1, (decide (s3.2.2.1 < ((c7.getD default).length : Int))), s3.2.2.2.1, s3.2.2.2.2))
def ref09_Take_b2 (N : Nat) (s1 : (Nat × Nat × Int × (List ByteArray) × (List (Bool × (Int × Int))))) (s2 : (Nat × Nat × Int × (List ByteArray) × (List (Bool × (Int × Int))))) : Option ((Nat × Nat × Int × (List ByteArray) × (List (Bool × (Int × Int)))) ⊕ (Nat × Nat × Int × Int × Bool × (List ByteArray) × (List (Bool × (Int × Int))))) :=
  bif (decide (s2.2.2.1 < 2)) then
    let c7 := (ref09_rows N (decide (s2.2.2.1 = 1)) s1.2.2.1)
    if c7.isSome = true then
      (iter (ref09_Take_b3 N s1 s2 c7) N (s2.1, s2.2.1, 0, s2.2.2.2.1, s2.2.2.2.2)).bind fun v3 =>
        if inK .i64 (s2.2.2.1 + 1) then
          some (.inl (v3.1, v3.2.1, (s2.2.2.1 + 1), v3.2.2.2.2.2.1, v3.2.2.2.2.2.2))
        else none
    else none
  else
    some (.inr (s2.1, s2.2.1, s2.2.2.1, s2.2.2.1, (decide (s2.2.2.1 < 2)), s2.2.2.2.1, s2.2.2.2.2))
def ref09_Take_b1 (N : Nat) (s1 : (Nat × Nat × Int × (List ByteArray) × (List (Bool × (Int × Int))))) : Option ((Nat × Nat × Int × (List ByteArray) × (List (Bool × (Int × Int)))) ⊕ (Nat × Nat × (List ByteArray) × (List (Bool × (Int × Int))))) :=
  bif (decide (s1.2.2.1 ≤ 63)) then
    (iter (ref09_Take_b2 N s1) N (s1.1, s1.2.1, 0, s1.2.2.2.1, s1.2.2.2.2)).bind fun v2 =>
      if inK .i64 (s1.2.2.1 + 1) then
        some (.inl (v2.1, v2.2.1, (s1.2.2.1 + 1), v2.2.2.2.2.2.1, v2.2.2.2.2.2.2))
      else none
  else
    some (.inr (s1.1, s1.2.1, s1.2.2.2.1, s1.2.2.2.2))
def ref09_Take (N : Nat) (a1 : ByteArray) (a2 : Int) : Option (Bool × Int × Int × Int × Int) :=
  (iter (ref09_Take_b1 N) N (1, 1, 0, ([⟨#[48, 48, 48, 48, 48, 49, 49]⟩] : List ByteArray), [(false, ((0 : Int), (0 : Int)))])).bind fun v1 =>
    let c1 := (ref05_Take N v1.1 a1 a2 v1.2.2.1)
    if c1.isSome = true then
      bif (decide ((c1.getD default).2.2 ≠ 0)) then
        some (false, 0, 0, a2, (c1.getD default).2.2)
      else
        bif (decide ((0 : Int) < (c1.getD default).1)) then
          bif (decide ((c1.getD default).2.1 = (ByteArray.size a1 : Int))) then
            some (false, 0, 0, a2, 2)
          else
            if (0 : Int) ≤ (c1.getD default).1 ∧ (c1.getD default).1 < (v1.2.1 : Int) ∧ (c1.getD default).1.toNat < v1.2.2.2.length then
              if (0 : Int) ≤ (c1.getD default).2.1 ∧ (c1.getD default).2.1 < (ByteArray.size a1 : Int) then
                if ((decide ((byteI a1 (c1.getD default).2.1.toNat) = 49)) = true → inK .i64 (-(v1.2.2.2.getD (c1.getD default).1.toNat (false, ((0 : Int), (0 : Int)))).2.2)) then
                  let x1 := (bif (decide ((byteI a1 (c1.getD default).2.1.toNat) = 49)) then (-(v1.2.2.2.getD (c1.getD default).1.toNat (false, ((0 : Int), (0 : Int)))).2.2) else (v1.2.2.2.getD (c1.getD default).1.toNat (false, ((0 : Int), (0 : Int)))).2.2)
                  if inK .i64 ((c1.getD default).2.1 + 1) then
                    some ((v1.2.2.2.getD (c1.getD default).1.toNat (false, ((0 : Int), (0 : Int)))).1, (v1.2.2.2.getD (c1.getD default).1.toNat (false, ((0 : Int), (0 : Int)))).2.1, x1, ((c1.getD default).2.1 + 1), 0)
                  else none
                else none
              else none
            else none
        else
          if inK .i64 ((ByteArray.size a1 : Int) - (c1.getD default).2.1) then
            bif (decide (((ByteArray.size a1 : Int) - (c1.getD default).2.1) < 15)) then
              some (false, 0, 0, a2, 2)
            else
              let c2 := (ref02_Number N (ByteArray.extract a1 ((c1.getD default).2.1 + 1).toNat ((c1.getD default).2.1 + 7).toNat))
              let c3 := (ref02_Number N (ByteArray.extract a1 ((c1.getD default).2.1 + 7).toNat ((c1.getD default).2.1 + 15).toNat))
              if (0 : Int) ≤ (c1.getD default).2.1 ∧ (c1.getD default).2.1 < (ByteArray.size a1 : Int) ∧ inK .i64 ((c1.getD default).2.1 + 1) ∧ inK .i64 ((c1.getD default).2.1 + 7) ∧ (0 : Int) ≤ ((c1.getD default).2.1 + 1) ∧ ((c1.getD default).2.1 + 1) ≤ ((c1.getD default).2.1 + 7) ∧ ((c1.getD default).2.1 + 7) ≤ (ByteArray.size a1 : Int) ∧ c2.isSome = true ∧ inK .i64 ((c1.getD default).2.1 + 15) ∧ (0 : Int) ≤ ((c1.getD default).2.1 + 7) ∧ ((c1.getD default).2.1 + 7) ≤ ((c1.getD default).2.1 + 15) ∧ ((c1.getD default).2.1 + 15) ≤ (ByteArray.size a1 : Int) ∧ c3.isSome = true then
                if ((decide ((127 : Int) < (c3.getD default))) = true → inK .i64 ((c3.getD default) - 256)) then
                  let x4 := (bif (decide ((127 : Int) < (c3.getD default))) then ((c3.getD default) - 256) else (c3.getD default))
                  let c4 := (ref09_Right N (decide ((byteI a1 (c1.getD default).2.1.toNat) = 49)) (c2.getD default) x4)
                  let c5 := (ref09_amount N x4)
                  let c6 := (ref09_has N (decide ((byteI a1 (c1.getD default).2.1.toNat) = 49)) (c2.getD default) (c5.getD default))
                  let x5 := (bif (!(c4.getD default)) then true else (decide (ByteArray.toList (c6.getD default) ≠ ByteArray.toList ⟨#[]⟩)))
                  if c4.isSome = true ∧ ((!(!(c4.getD default))) = true → c5.isSome = true) ∧ ((!(!(c4.getD default))) = true → c6.isSome = true) then
                    bif x5 then
                      some (false, 0, 0, a2, 7)
                    else
                      if inK .i64 ((c1.getD default).2.1 + 15) then
                        some ((decide ((byteI a1 (c1.getD default).2.1.toNat) = 49)), (c2.getD default), x4, ((c1.getD default).2.1 + 15), 0)
                      else none
                  else none
                else none
              else none
          else none
    else none
def sp_ref09_Take (N : Nat) : X.Spec := fun args lk => match args with
  | [.v (.c (.str a1)), .v (.c (.int .i64 a2))] => some ⟨(ref09_Take N a1 a2).isSome = true, .tup [.agg [.cs [.bool ((ref09_Take N a1 a2).getD default).1, .int .i64 ((ref09_Take N a1 a2).getD default).2.1, .int .i64 ((ref09_Take N a1 a2).getD default).2.2.1]], .c (.int .i64 ((ref09_Take N a1 a2).getD default).2.2.2.1), .c (.int .i64 ((ref09_Take N a1 a2).getD default).2.2.2.2)], [], []⟩
  | _ => none
set_option maxRecDepth 100000 in
set_option maxHeartbeats 1000000 in
theorem ok_ref09_Take (N : Nat) : FnOK Tryd.prog gt0 9 (sp_ref09_Take N) := by
  refine fnOK_handed Tryd.func9 rfl (by kernel_rfl) tt_ok (ktCons (ok_ref09_rows N) (ktCons (ok_ref09_has N) (ktCons (ok_ref09_amount N) (ktCons (ok_ref09_Right N) (ktCons (ok_ref02_Number N) (ktCons (ok_ref05_Take N) (ktNil))))))) ?_
  intro args lk r h hp
  unfold sp_ref09_Take at h
  split at h
  · rename_i a1 a2
    cases h
    obtain ⟨x, hx⟩ := Option.isSome_iff_exists.1 hp
    simp only [hx, Option.getD_some]
    refine hand0 rfl rfl (fun w0 M ε0 hX => ?_)
    refine rCount (fun hε => ?_)
    have hT : ref09_Take N a1 a2 = some x := hx; clear hx hp; unfold ref09_Take at hT
    refine rSeq ?_
    refine zReg md0 hX rfl rfl rfl ?_
    refine rThen ?_
    refine rSeq ?_
    refine zReg md0 hX rfl rfl rfl ?_
    refine rLstQ 1 .str [⟨#[48, 48, 48, 48, 48, 49, 49]⟩] rfl rfl rfl ?_
    refine rThen ?_
    refine rSeq ?_
    refine zReg md0 hX rfl rfl rfl ?_
    refine rLstQ 2 (.pair .bool (.pair (.int .i64) (.int .i64))) [(false, ((0 : Int), (0 : Int)))] rfl rfl rfl ?_
    refine rThen ?_
    refine rSeq ?_
    refine rSeq ?_
    refine zReg md0 hX rfl rfl rfl ?_
    refine rThen ?_
    refine rBlock ?_
    replace hT := sBind hT; obtain ⟨w1, hl, hT⟩ := hT
    refine rJoinA (fun v1 => v1 = w1) (fun v1 => ⟨[(0, .v (.c (.str a1))), (1, .v (.c (.int .i64 a2))), (4, .v (.c (.ptr 0 0 0 0 0 0))), (5, .v (.c (.int .i64 0))), (6, .v (.c (.int .i64 0))), (7, .v (.c (.sl 1 0 v1.1 1))), (8, .v (.c (.sl 2 0 v1.2.1 3)))], [(0, .mem true 28 none (.flat [.cs [.bool false, .int .i64 0, .int .i64 0]])), (1, .mem true 9 (some 1) (.lst .str v1.2.2.1)), (2, .mem true 28 (some 3) (.lst (.pair .bool (.pair (.int .i64) (.int .i64))) v1.2.2.2))], 3⟩) (.exit 0) (fun v1 hv => ?_) (fun hxs10 => ?_)
    · subst hv; clear hl
      refine rInHit ?_
      refine rThen ?_
      refine rSeq ?_
      let c1 := (ref05_Take N v1.1 a1 a2 v1.2.2.1)
      replace hT := sIf hT; obtain ⟨o1, hT⟩ := hT
      refine zReg md0 hX rfl rfl rfl ?_
      refine rThen ?_
      refine rSeq ?_
      refine rSeq ?_
      refine zReg md0 hX rfl rfl rfl ?_
      refine rThen ?_
      refine zCond rfl rfl (fun hc => ?_) (fun hc => ?_)
      · replace hT := sT hc hT
        refine rSeq ?_
        refine zReg md0 hX rfl rfl rfl ?_
        refine rThen ?_
        refine rRet ?_
        refine rThenRet ?_
        have hy := Option.some.inj hT; subst hy
        exact zEnd0 hX rfl
      · replace hT := sF hc hT
        refine rSkip ?_
        refine rThen ?_
        refine rSeq ?_
        refine rSeq ?_
        refine zReg md0 hX rfl rfl rfl ?_
        refine rThen ?_
        refine zCond rfl rfl (fun hc => ?_) (fun hc => ?_)
        · replace hT := sT hc hT
          refine rSeq ?_
          refine rSeq ?_
          refine zReg md0 hX rfl rfl rfl ?_
          refine rThen ?_
          refine zCond rfl rfl (fun hc => ?_) (fun hc => ?_)
          · replace hT := sT hc hT
            refine rSeq ?_
            refine zReg md0 hX rfl rfl rfl ?_
            refine rThen ?_
            refine rRet ?_
            refine rThenRet ?_
            refine rThenRet ?_
            have hy := Option.some.inj hT; subst hy
            exact zEnd0 hX rfl
          · replace hT := sF hc hT
            refine rSkip ?_
            refine rThen ?_
            refine rSeq ?_
            replace hT := sIf hT; obtain ⟨⟨o1, o2, o3⟩, hT⟩ := hT
            refine zReg md0 hX rfl rfl rfl ?_
            refine rThen ?_
            refine rSeq ?_
            refine rSeq ?_
            replace hT := sIf hT; obtain ⟨⟨o1, o2⟩, hT⟩ := hT
            refine zReg md0 hX rfl rfl rfl ?_
            refine rThen ?_
            replace hT := sIf hT; obtain ⟨q1, hT⟩ := hT
            refine rJoin ⟨[(0, .v (.c (.str a1))), (1, .v (.c (.int .i64 a2))), (4, .v (.c (.ptr 0 0 0 0 0 0))), (5, .v (.c (.int .i64 0))), (6, .v (.c (.int .i64 0))), (14, .v (.c (.int .i64 (c1.getD default).2.1))), (16, .v (.c (.ptr 3 0 0 0 0 0)))], [(0, .mem true 28 none (.flat [.cs [.bool false, .int .i64 0, .int .i64 0]])), (3, .mem true 28 none (.flat [.cs [.bool (v1.2.2.2.getD (c1.getD default).1.toNat (false, ((0 : Int), (0 : Int)))).1, .int .i64 (v1.2.2.2.getD (c1.getD default).1.toNat (false, ((0 : Int), (0 : Int)))).2.1, .int .i64 (bif (decide ((byteI a1 (c1.getD default).2.1.toNat) = 49)) then (-(v1.2.2.2.getD (c1.getD default).1.toNat (false, ((0 : Int), (0 : Int)))).2.2) else (v1.2.2.2.getD (c1.getD default).1.toNat (false, ((0 : Int), (0 : Int)))).2.2)]]))], 4⟩ ?_ (fun hj => ?_)
            · skip
              let x1 := (bif (decide ((byteI a1 (c1.getD default).2.1.toNat) = 49)) then (-(v1.2.2.2.getD (c1.getD default).1.toNat (false, ((0 : Int), (0 : Int)))).2.2) else (v1.2.2.2.getD (c1.getD default).1.toNat (false, ((0 : Int), (0 : Int)))).2.2)
              refine rThen ?_
              refine rSeq ?_
              replace hT := sIf hT; obtain ⟨o1, hT⟩ := hT
              refine zReg md0 hX rfl rfl rfl ?_
              refine rThen ?_
              refine rRet ?_
              refine rThenRet ?_
              have hy := Option.some.inj hT; subst hy
              exact zEnd0 hX rfl
            · clear hT
              refine zCond rfl rfl (fun hc => ?_) (fun hc => ?_)
              · skip
                have q1 := q1 hc
                refine zReg md0 hX rfl rfl rfl ?_
                exact rTo (To.mk' [] 0 hε rfl (by (repeat' first | exact True.intro | exact rfl | apply And.intro) <;> (repeat' first | exact rfl | refine Eq.trans ?_ (cTr (by assumption)) | refine Eq.trans ?_ (cFr (by assumption)) | refine Eq.trans (cTl (by assumption)) ?_ | refine Eq.trans (cFl (by assumption)) ?_)) (by (repeat' first | exact True.intro | exact rfl | apply And.intro) <;> (repeat' first | exact rfl | refine Eq.trans ?_ (cTr (by assumption)) | refine Eq.trans ?_ (cFr (by assumption)) | refine Eq.trans (cTl (by assumption)) ?_ | refine Eq.trans (cFl (by assumption)) ?_))) hj
              · skip
                refine rSkip ?_
                exact rTo (To.mk' [] 0 hε rfl (by (repeat' first | exact True.intro | exact rfl | apply And.intro) <;> (repeat' first | exact rfl | refine Eq.trans ?_ (cTr (by assumption)) | refine Eq.trans ?_ (cFr (by assumption)) | refine Eq.trans (cTl (by assumption)) ?_ | refine Eq.trans (cFl (by assumption)) ?_)) (by (repeat' first | exact True.intro | exact rfl | apply And.intro) <;> (repeat' first | exact rfl | refine Eq.trans ?_ (cTr (by assumption)) | refine Eq.trans ?_ (cFr (by assumption)) | refine Eq.trans (cTl (by assumption)) ?_ | refine Eq.trans (cFl (by assumption)) ?_))) hj
        · replace hT := sF hc hT
          refine rSkip ?_
          refine rThen ?_
          refine rSeq ?_
          refine rSeq ?_
          replace hT := sIf hT; obtain ⟨o1, hT⟩ := hT
          refine zReg md0 hX rfl rfl rfl ?_
          refine rThen ?_
          refine zCond rfl rfl (fun hc => ?_) (fun hc => ?_)
          · replace hT := sT hc hT
            refine rSeq ?_
            refine zReg md0 hX rfl rfl rfl ?_
            refine rThen ?_
            refine rRet ?_
            refine rThenRet ?_
            have hy := Option.some.inj hT; subst hy
            exact zEnd0 hX rfl
          · replace hT := sF hc hT
            refine rSkip ?_
            refine rThen ?_
            refine rSeq ?_
            let c2 := (ref02_Number N (ByteArray.extract a1 ((c1.getD default).2.1 + 1).toNat ((c1.getD default).2.1 + 7).toNat))
            let c3 := (ref02_Number N (ByteArray.extract a1 ((c1.getD default).2.1 + 7).toNat ((c1.getD default).2.1 + 15).toNat))
            replace hT := sIf hT; obtain ⟨⟨o1, o2, o3, o4, o5, o6, o7, o8, o9, o10, o11, o12, o13⟩, hT⟩ := hT
            refine rDrawA md0 0 19 20 [] hX mixed rfl rfl rfl rfl rfl rfl rfl rfl rfl rfl rfl rfl rfl rfl rfl (by repeat' first | exact True.intro | exact rfl | apply And.intro) rfl rfl (by (repeat' first | exact True.intro | with_reducible assumption | (with_reducible apply And.intro) | intro _) <;> first | assumption | exact rfl | omega | exact Nat.le_of_ble_eq_true rfl | exact selF (by assumption) | exact selT (by assumption) | exact And.intro rfl rfl | exact And.intro (by assumption) rfl | exact And.intro (by omega) rfl | (simp only [inK] at *; omega) | (simp_all [sel] <;> fail) | fail) ?_
            refine rThen ?_
            refine rSeq ?_
            refine rSeq ?_
            refine zReg md0 hX rfl rfl rfl ?_
            refine rThen ?_
            replace hT := sIf hT; obtain ⟨q2, hT⟩ := hT
            refine rJoin ⟨[(1, .v (.c (.int .i64 a2))), (4, .v (.c (.ptr 0 0 0 0 0 0))), (5, .v (.c (.int .i64 0))), (6, .v (.c (.int .i64 0))), (14, .v (.c (.int .i64 (c1.getD default).2.1))), (17, .v (.c (.ptr 3 0 0 0 0 0)))], [(0, .mem true 28 none (.flat [.cs [.bool false, .int .i64 0, .int .i64 0]])), (3, .mem true 28 none (.flat [.cs [.bool (decide ((byteI a1 (c1.getD default).2.1.toNat) = 49)), .int .i64 (c2.getD default), .int .i64 (bif (decide ((127 : Int) < (c3.getD default))) then ((c3.getD default) - 256) else (c3.getD default))]]))], 4⟩ ?_ (fun hj => ?_)
            · skip
              let x4 := (bif (decide ((127 : Int) < (c3.getD default))) then ((c3.getD default) - 256) else (c3.getD default))
              refine rThen ?_
              refine rSeq ?_
              refine rSeq ?_
              let c4 := (ref09_Right N (decide ((byteI a1 (c1.getD default).2.1.toNat) = 49)) (c2.getD default) x4)
              let c5 := (ref09_amount N x4)
              let c6 := (ref09_has N (decide ((byteI a1 (c1.getD default).2.1.toNat) = 49)) (c2.getD default) (c5.getD default))
              let x5 := (bif (!(c4.getD default)) then true else (decide (ByteArray.toList (c6.getD default) ≠ ByteArray.toList ⟨#[]⟩)))
              replace hT := sIf hT; obtain ⟨⟨o1, o2, o3⟩, hT⟩ := hT
              refine rDrawM md0 0 [] hX mixed rfl rfl rfl rfl rfl (by (repeat' first | exact True.intro | with_reducible assumption | (with_reducible apply And.intro) | intro _) <;> first | assumption | exact o2 (by assumption) | exact o3 (by assumption) | exact rfl | omega | exact Nat.le_of_ble_eq_true rfl | exact selF (by assumption) | exact selT (by assumption) | exact And.intro rfl rfl | exact And.intro (by assumption) rfl | exact And.intro (by omega) rfl | (simp only [inK] at *; omega) | (simp_all [sel] <;> fail) | fail) ?_
              refine rThen ?_
              refine zCond rfl rfl (fun hc => ?_) (fun hc => ?_)
              · replace hT := sT hc hT
                refine rSeq ?_
                refine zReg md0 hX rfl rfl rfl ?_
                refine rThen ?_
                refine rRet ?_
                refine rThenRet ?_
                have hy := Option.some.inj hT; subst hy
                exact zEnd0 hX rfl
              · replace hT := sF hc hT
                refine rSkip ?_
                refine rThen ?_
                refine rSeq ?_
                replace hT := sIf hT; obtain ⟨o1, hT⟩ := hT
                refine zReg md0 hX rfl rfl rfl ?_
                refine rThen ?_
                refine rRet ?_
                have hy := Option.some.inj hT; subst hy
                exact zEnd0 hX rfl
            · clear hT
              refine zCond rfl rfl (fun hc => ?_) (fun hc => ?_)
              · skip
                have q2 := q2 hc
                refine zReg md0 hX rfl rfl rfl ?_
                exact rTo (To.mk' [] 0 hε rfl (by (repeat' first | exact True.intro | exact rfl | apply And.intro) <;> (repeat' first | exact rfl | refine Eq.trans ?_ (cTr (by assumption)) | refine Eq.trans ?_ (cFr (by assumption)) | refine Eq.trans (cTl (by assumption)) ?_ | refine Eq.trans (cFl (by assumption)) ?_)) (by (repeat' first | exact True.intro | exact rfl | apply And.intro) <;> (repeat' first | exact rfl | refine Eq.trans ?_ (cTr (by assumption)) | refine Eq.trans ?_ (cFr (by assumption)) | refine Eq.trans (cTl (by assumption)) ?_ | refine Eq.trans (cFl (by assumption)) ?_))) hj
              · skip
                refine rSkip ?_
                exact rTo (To.mk' [] 0 hε rfl (by (repeat' first | exact True.intro | exact rfl | apply And.intro) <;> (repeat' first | exact rfl | refine Eq.trans ?_ (cTr (by assumption)) | refine Eq.trans ?_ (cFr (by assumption)) | refine Eq.trans (cTl (by assumption)) ?_ | refine Eq.trans (cFl (by assumption)) ?_)) (by (repeat' first | exact True.intro | exact rfl | apply And.intro) <;> (repeat' first | exact rfl | refine Eq.trans ?_ (cTr (by assumption)) | refine Eq.trans ?_ (cFr (by assumption)) | refine Eq.trans (cTl (by assumption)) ?_ | refine Eq.trans (cFl (by assumption)) ?_))) hj
    refine rLoopM (ref09_Take_b1 N) (fun s1 => ⟨[(0, .v (.c (.str a1))), (1, .v (.c (.int .i64 a2))), (4, .v (.c (.ptr 0 0 0 0 0 0))), (5, .v (.c (.int .i64 0))), (6, .v (.c (.int .i64 0))), (7, .v (.c (.sl 1 0 s1.1 1))), (8, .v (.c (.sl 2 0 s1.2.1 3))), (9, .v (.c (.int .i64 s1.2.2.1)))], [(0, .mem true 28 none (.flat [.cs [.bool false, .int .i64 0, .int .i64 0]])), (1, .mem true 9 (some 1) (.lst .str s1.2.2.2.1)), (2, .mem true 28 (some 3) (.lst (.pair .bool (.pair (.int .i64) (.int .i64))) s1.2.2.2.2))], 3⟩) hl (To.mk' [] 0 hε rfl (by repeat' first | exact True.intro | exact rfl | apply And.intro) (by repeat' first | exact True.intro | exact rfl | apply And.intro)) (fun s1 zs1 NNs1 hz hnexts1 houts1 => ?_)
    clear hl hT
    have hT := hz; clear hz
    refine rSeq ?_
    refine rSeq ?_
    refine zReg md0 hX rfl rfl rfl ?_
    refine rThen ?_
    refine zCond rfl rfl (fun hc => ?_) (fun hc => ?_)
    · replace hT := sT hc hT
      refine rSkip ?_
      refine rThen ?_
      refine rSeq ?_
      refine rBlock ?_
      refine rSeq ?_
      refine zReg md0 hX rfl rfl rfl ?_
      refine rThen ?_
      refine rBlock ?_
      replace hT := sBind hT; obtain ⟨w2, hl, hT⟩ := hT
      refine rJoinA (fun v2 => v2 = w2) (fun v2 => ⟨[(0, .v (.c (.str a1))), (1, .v (.c (.int .i64 a2))), (4, .v (.c (.ptr 0 0 0 0 0 0))), (5, .v (.c (.int .i64 0))), (6, .v (.c (.int .i64 0))), (7, .v (.c (.sl 1 0 v2.1 1))), (8, .v (.c (.sl 2 0 v2.2.1 3))), (9, .v (.c (.int .i64 s1.2.2.1))), (10, .v (.c (.int .i64 v2.2.2.1))), (21, .v (.c (.int .i64 s1.2.2.1))), (22, .v (.c (.bool (decide (s1.2.2.1 ≤ 63))))), (25, .v (.c (.int .i64 v2.2.2.2.1))), (26, .v (.c (.bool v2.2.2.2.2.1)))], [(0, .mem true 28 none (.flat [.cs [.bool false, .int .i64 0, .int .i64 0]])), (1, .mem true 9 (some 1) (.lst .str v2.2.2.2.2.2.1)), (2, .mem true 28 (some 3) (.lst (.pair .bool (.pair (.int .i64) (.int .i64))) v2.2.2.2.2.2.2))], 3⟩) (.exit 2) (fun v2 hv => ?_) (fun hxs20 => ?_)
      · subst hv; clear hl
        refine rInHit ?_
        refine rInNormal ?_
        refine rThen ?_
        replace hT := sIf hT; obtain ⟨o1, hT⟩ := hT
        refine zReg md0 hX rfl rfl rfl ?_
        exact hnexts1 _ (Option.some.inj hT).symm _ (To.mk' [] 0 hε rfl (by repeat' first | exact True.intro | exact rfl | apply And.intro) (by repeat' first | exact True.intro | exact rfl | apply And.intro))
      refine rLoopM (ref09_Take_b2 N s1) (fun s2 => ⟨[(0, .v (.c (.str a1))), (1, .v (.c (.int .i64 a2))), (4, .v (.c (.ptr 0 0 0 0 0 0))), (5, .v (.c (.int .i64 0))), (6, .v (.c (.int .i64 0))), (7, .v (.c (.sl 1 0 s2.1 1))), (8, .v (.c (.sl 2 0 s2.2.1 3))), (9, .v (.c (.int .i64 s1.2.2.1))), (10, .v (.c (.int .i64 s2.2.2.1))), (21, .v (.c (.int .i64 s1.2.2.1))), (22, .v (.c (.bool (decide (s1.2.2.1 ≤ 63)))))], [(0, .mem true 28 none (.flat [.cs [.bool false, .int .i64 0, .int .i64 0]])), (1, .mem true 9 (some 1) (.lst .str s2.2.2.2.1)), (2, .mem true 28 (some 3) (.lst (.pair .bool (.pair (.int .i64) (.int .i64))) s2.2.2.2.2))], 3⟩) hl (To.mk' [] 0 hε rfl (by repeat' first | exact True.intro | exact rfl | apply And.intro) (by repeat' first | exact True.intro | exact rfl | apply And.intro)) (fun s2 zs2 NNs2 hz hnexts2 houts2 => ?_)
      clear hl hT
      have hT := hz; clear hz
      refine rSeq ?_
      refine rSeq ?_
      refine zReg md0 hX rfl rfl rfl ?_
      refine rThen ?_
      refine zCond rfl rfl (fun hc => ?_) (fun hc => ?_)
      · replace hT := sT hc hT
        refine rSkip ?_
        refine rThen ?_
        refine rSeq ?_
        refine rBlock ?_
        refine rSeq ?_
        let c7 := (ref09_rows N (decide (s2.2.2.1 = 1)) s1.2.2.1)
        replace hT := sIf hT; obtain ⟨o1, hT⟩ := hT
        refine zReg md0 hX rfl rfl rfl ?_
        refine rThen ?_
        refine rSeq ?_
        refine zReg md0 hX rfl rfl rfl ?_
        refine rThen ?_
        refine rBlock ?_
        replace hT := sBind hT; obtain ⟨w3, hl, hT⟩ := hT
        refine rJoinA (fun v3 => v3 = w3) (fun v3 => ⟨[(0, .v (.c (.str a1))), (1, .v (.c (.int .i64 a2))), (4, .v (.c (.ptr 0 0 0 0 0 0))), (5, .v (.c (.int .i64 0))), (6, .v (.c (.int .i64 0))), (7, .v (.c (.sl 1 0 v3.1 1))), (8, .v (.c (.sl 2 0 v3.2.1 3))), (9, .v (.c (.int .i64 s1.2.2.1))), (10, .v (.c (.int .i64 s2.2.2.1))), (11, .v (.c (.fz .str (c7.getD default)))), (12, .v (.c (.int .i64 v3.2.2.1))), (21, .v (.c (.int .i64 s1.2.2.1))), (22, .v (.c (.bool (decide (s1.2.2.1 ≤ 63))))), (25, .v (.c (.int .i64 s2.2.2.1))), (26, .v (.c (.bool (decide (s2.2.2.1 < 2))))), (29, .v (.c (.int .i64 s2.2.2.1))), (30, .v (.c (.bool (decide (s2.2.2.1 = 1))))), (31, .v (.c (.int .i64 s1.2.2.1))), (32, .v (.c (.fz .str (c7.getD default)))), (33, .v (.c (.int .i64 v3.2.2.2.1))), (34, .v (.c (.fz .str (c7.getD default)))), (35, .v (.c (.int .i64 ((c7.getD default).length : Int)))), (36, .v (.c (.bool v3.2.2.2.2.1)))], [(0, .mem true 28 none (.flat [.cs [.bool false, .int .i64 0, .int .i64 0]])), (1, .mem true 9 (some 1) (.lst .str v3.2.2.2.2.2.1)), (2, .mem true 28 (some 3) (.lst (.pair .bool (.pair (.int .i64) (.int .i64))) v3.2.2.2.2.2.2))], 3⟩) (.exit 4) (fun v3 hv => ?_) (fun hxs30 => ?_)
        · subst hv; clear hl
          refine rInHit ?_
          refine rInNormal ?_
          refine rThen ?_
          replace hT := sIf hT; obtain ⟨o1, hT⟩ := hT
          refine zReg md0 hX rfl rfl rfl ?_
          exact hnexts2 _ (Option.some.inj hT).symm _ (To.mk' [] 0 hε rfl (by repeat' first | exact True.intro | exact rfl | apply And.intro) (by repeat' first | exact True.intro | exact rfl | apply And.intro))
        refine rLoopM (ref09_Take_b3 N s1 s2 c7) (fun s3 => ⟨[(0, .v (.c (.str a1))), (1, .v (.c (.int .i64 a2))), (4, .v (.c (.ptr 0 0 0 0 0 0))), (5, .v (.c (.int .i64 0))), (6, .v (.c (.int .i64 0))), (7, .v (.c (.sl 1 0 s3.1 1))), (8, .v (.c (.sl 2 0 s3.2.1 3))), (9, .v (.c (.int .i64 s1.2.2.1))), (10, .v (.c (.int .i64 s2.2.2.1))), (11, .v (.c (.fz .str (c7.getD default)))), (12, .v (.c (.int .i64 s3.2.2.1))), (21, .v (.c (.int .i64 s1.2.2.1))), (22, .v (.c (.bool (decide (s1.2.2.1 ≤ 63))))), (25, .v (.c (.int .i64 s2.2.2.1))), (26, .v (.c (.bool (decide (s2.2.2.1 < 2))))), (29, .v (.c (.int .i64 s2.2.2.1))), (30, .v (.c (.bool (decide (s2.2.2.1 = 1))))), (31, .v (.c (.int .i64 s1.2.2.1))), (32, .v (.c (.fz .str (c7.getD default))))], [(0, .mem true 28 none (.flat [.cs [.bool false, .int .i64 0, .int .i64 0]])), (1, .mem true 9 (some 1) (.lst .str s3.2.2.2.1)), (2, .mem true 28 (some 3) (.lst (.pair .bool (.pair (.int .i64) (.int .i64))) s3.2.2.2.2))], 3⟩) hl (To.mk' [] 0 hε rfl (by repeat' first | exact True.intro | exact rfl | apply And.intro) (by repeat' first | exact True.intro | exact rfl | apply And.intro)) (fun s3 zs3 NNs3 hz hnexts3 houts3 => ?_)
        clear hl hT
        have hT := hz; clear hz
        refine rSeq ?_
        refine rSeq ?_
        refine zReg md0 hX rfl rfl rfl ?_
        refine rThen ?_
        refine zCond rfl rfl (fun hc => ?_) (fun hc => ?_)
        · replace hT := sT hc hT
          refine rSkip ?_
          refine rThen ?_
          refine rSeq ?_
          refine rBlock ?_
          refine rSeq ?_
          replace hT := sIf hT; obtain ⟨⟨o1, o2, o3, o4, o5⟩, hT⟩ := hT
          refine zReg md0 hX rfl rfl rfl ?_
          refine rLstQ 3 .str [((c7.getD default).getD (s3.2.2.1).toNat ⟨#[]⟩)] rfl rfl rfl ?_
          refine rThen ?_
          replace hT := sIf hT; obtain ⟨⟨o1, o2, o3, o4⟩, hT⟩ := hT
          refine zReg md0 hX rfl rfl rfl ?_
          refine rLstQ 5 (.pair .bool (.pair (.int .i64) (.int .i64))) [((decide (s2.2.2.1 = 1)), (s1.2.2.1, (s3.2.2.1 + 1)))] rfl rfl rfl ?_
          refine rInNormal ?_
          refine rThen ?_
          replace hT := sIf hT; obtain ⟨o1, hT⟩ := hT
          refine zReg md0 hX rfl rfl rfl ?_
          exact hnexts3 _ (Option.some.inj hT).symm _ (To.mk' [0, 4, 6] 0 hε rfl (by repeat' first | exact True.intro | exact rfl | apply And.intro) (by repeat' first | exact True.intro | exact rfl | apply And.intro))
        · replace hT := sF hc hT
          refine rExit ?_
          refine rThenExit ?_
          refine rThenExit ?_
          exact zTo [] 0 hε (hxs30 _ (houts3 _ (Option.some.inj hT).symm))
      · replace hT := sF hc hT
        refine rExit ?_
        refine rThenExit ?_
        refine rThenExit ?_
        exact zTo [] 0 hε (hxs20 _ (houts2 _ (Option.some.inj hT).symm))
    · replace hT := sF hc hT
      refine rExit ?_
      refine rThenExit ?_
      refine rThenExit ?_
      exact zTo [] 0 hε (hxs10 _ (houts1 _ (Option.some.inj hT).symm))
  · cases h
def tcoef_Take_v1 (N : Nat) : Option (Bool × Int × Int × Int) :=
  some (false, 0, 0, 1)
def sp_tcoef_Take_v1 (N : Nat) : X.Spec := fun args lk => match args with
  | [.v (.c (.val (.pointer none)))] => some ⟨(tcoef_Take_v1 N).isSome = true, .tup [.agg [.cs [.bool ((tcoef_Take_v1 N).getD default).1, .int .i64 ((tcoef_Take_v1 N).getD default).2.1, .int .i64 ((tcoef_Take_v1 N).getD default).2.2.1]], .c (.int .i64 ((tcoef_Take_v1 N).getD default).2.2.2)], [], []⟩
  | _ => none
set_option maxRecDepth 100000 in
set_option maxHeartbeats 1000000 in
theorem ok_tcoef_Take_v1 (N : Nat) : FnOK Tryd.prog gt0 8 (sp_tcoef_Take_v1 N) := by
  refine fnOK_handed Tryd.func8 rfl (by kernel_rfl) tt_ok (ktNil) ?_
  intro args lk r h hp
  unfold sp_tcoef_Take_v1 at h
  split at h
  · skip
    cases h
    obtain ⟨x, hx⟩ := Option.isSome_iff_exists.1 hp
    simp only [hx, Option.getD_some]
    refine hand0 rfl rfl (fun w0 M ε0 hX => ?_)
    refine rCount (fun hε => ?_)
    have hT : tcoef_Take_v1 N = some x := hx; clear hx hp; unfold tcoef_Take_v1 at hT
    refine rSeq ?_
    refine zReg md0 hX rfl rfl rfl ?_
    refine rThen ?_
    refine rSeq ?_
    refine rSeq ?_
    refine zReg md0 hX rfl rfl rfl ?_
    refine rThen ?_
    refine rCondT rfl rfl (by (repeat' first | exact True.intro | with_reducible assumption | (with_reducible apply And.intro) | intro _) <;> first | assumption | exact rfl | omega | exact Nat.le_of_ble_eq_true rfl | exact selF (by assumption) | exact selT (by assumption) | exact And.intro rfl rfl | exact And.intro (by assumption) rfl | exact And.intro (by omega) rfl | (simp only [inK] at *; omega) | (simp_all [sel] <;> fail) | fail) rfl ?_
    refine rSeq ?_
    refine zReg md0 hX rfl rfl rfl ?_
    refine rThen ?_
    refine rRet ?_
    refine rThenRet ?_
    have hy := Option.some.inj hT; subst hy
    exact zEnd0 hX rfl
  · cases h
def law09_TcoefTakes (N : Nat) (a1 : ByteArray) (a2 : Int) : Option Bool :=
  let c1 := (inbits_New N a1)
  if c1.isSome = true then
    joinK (fun (v1 : (Bool × ByteArray × Int)) =>
      bif v1.1 then
        let c4 := (law09_lives N)
        if c4.isSome = true then
          some (c4.getD default)
        else none
      else
        let c5 := (tcoef_Take N v1.2.1 v1.2.2)
        if c5.isSome = true then
          let c6 := (ref02_Show N a1)
          let c7 := (ref09_Take N (c6.getD default) a2)
          if c6.isSome = true ∧ c7.isSome = true then
            let c8 := (tcoef_Take_v1 N)
            if c8.isSome = true then
              let c9 := (overspill_inbits_Reader_At N (c5.getD default).2.2.2.2.1 (c5.getD default).2.2.2.2.2)
              let c10 := (law09_lives N)
              let x1 := (bif (bif (bif (bif (((c5.getD default).1 == (c7.getD default).1) && (decide ((c5.getD default).2.1 = (c7.getD default).2.1) && (decide ((c5.getD default).2.2.1 = (c7.getD default).2.2.1) && true))) then (decide ((c5.getD default).2.2.2.1 = (c7.getD default).2.2.2.2)) else false) then (decide ((c9.getD default) = (c7.getD default).2.2.2.1)) else false) then (decide ((c8.getD default).2.2.2 = 1)) else false) then (c10.getD default) else false)
              if ((bif (((c5.getD default).1 == (c7.getD default).1) && (decide ((c5.getD default).2.1 = (c7.getD default).2.1) && (decide ((c5.getD default).2.2.1 = (c7.getD default).2.2.1) && true))) then (decide ((c5.getD default).2.2.2.1 = (c7.getD default).2.2.2.2)) else false) = true → c9.isSome = true) ∧ ((bif (bif (bif (((c5.getD default).1 == (c7.getD default).1) && (decide ((c5.getD default).2.1 = (c7.getD default).2.1) && (decide ((c5.getD default).2.2.1 = (c7.getD default).2.2.1) && true))) then (decide ((c5.getD default).2.2.2.1 = (c7.getD default).2.2.2.2)) else false) then (decide ((c9.getD default) = (c7.getD default).2.2.2.1)) else false) then (decide ((c8.getD default).2.2.2 = 1)) else false) = true → c10.isSome = true) then
                some x1
              else none
            else none
          else none
        else none
    ) fun k1 =>
      let c3 := (overspill_inbits_Reader_Seek N a2 (c1.getD default).1 (c1.getD default).2)
      if ((!(decide ((100 : Int) < (ByteArray.size a1 : Int)))) = true → c3.isSome = true) then
        bif (!(decide ((100 : Int) < (ByteArray.size a1 : Int)))) then
          let x6 := (bif (decide ((100 : Int) < (ByteArray.size a1 : Int))) then true else (decide ((c3.getD default).1 ≠ 0)))
          k1 (x6, (c3.getD default).2.1, (c3.getD default).2.2)
        else
          k1 ((bif (decide ((100 : Int) < (ByteArray.size a1 : Int))) then true else false), (c1.getD default).1, (c1.getD default).2)
      else none
  else none
def sp_law09_TcoefTakes (N : Nat) : X.Spec := fun args lk => match args with
  | [.v (.c (.str a1)), .v (.c (.int .i64 a2))] => some ⟨(law09_TcoefTakes N a1 a2).isSome = true, .v (.c (.bool ((law09_TcoefTakes N a1 a2).getD default))), [], []⟩
  | _ => none
set_option maxRecDepth 100000 in
set_option maxHeartbeats 1000000 in
theorem ok_law09_TcoefTakes (N : Nat) : FnOK Tryd.prog gt0 3 (sp_law09_TcoefTakes N) := by
  refine fnOK_handed Tryd.func3 rfl (by kernel_rfl) tt_ok (ktCons (ok_overspill_inbits_Reader_At N) (ktCons (ok_ref09_Take N) (ktCons (ok_ref02_Show N) (ktCons (FnOK.or (ok_tcoef_Take N) (ok_tcoef_Take_v1 N)) (ktCons (ok_law09_lives N) (ktCons (ok_overspill_inbits_Reader_Seek N) (ktCons (ok_inbits_New N) (ktNil)))))))) ?_
  intro args lk r h hp
  unfold sp_law09_TcoefTakes at h
  split at h
  · rename_i a1 a2
    cases h
    obtain ⟨x, hx⟩ := Option.isSome_iff_exists.1 hp
    simp only [hx, Option.getD_some]
    refine hand0 rfl rfl (fun w0 M ε0 hX => ?_)
    refine rCount (fun hε => ?_)
    have hT : law09_TcoefTakes N a1 a2 = some x := hx; clear hx hp; unfold law09_TcoefTakes at hT
    refine rSeq ?_
    refine zReg md0 hX rfl rfl rfl ?_
    refine rThen ?_
    refine rSeq ?_
    let c1 := (inbits_New N a1)
    replace hT := sIf hT; obtain ⟨o1, hT⟩ := hT
    refine zReg md0 hX rfl rfl rfl ?_
    refine rThen ?_
    refine rSeq ?_
    refine rSeq ?_
    refine rRegSL ?_
    refine rJoinKL hT (fun v1 => ⟨[(0, .v (.c (.str a1))), (1, .v (.c (.int .i64 a2))), (4, .v (.c (.bool false))), (5, .v (.c (.ptr 0 0 0 0 0 0))), (23, .v (.c (.bool v1.1)))], [(0, .mem true 45 none (.flat [.cs [.str v1.2.1, .int .i64 v1.2.2]]))], 1⟩) (fun v1 hT => ?_) (fun k1 hjk1 hT => ?_)
    · skip
      refine rThen ?_
      refine zCond rfl rfl (fun hc => ?_) (fun hc => ?_)
      · replace hT := sT hc hT
        refine rSeq ?_
        let c4 := (law09_lives N)
        replace hT := sIf hT; obtain ⟨o1, hT⟩ := hT
        refine zReg md0 hX rfl rfl rfl ?_
        refine rThen ?_
        refine rRet ?_
        refine rThenRet ?_
        have hy := Option.some.inj hT; subst hy
        exact zEnd0 hX rfl
      · replace hT := sF hc hT
        refine rSkip ?_
        refine rThen ?_
        refine rSeq ?_
        let c5 := (tcoef_Take N v1.2.1 v1.2.2)
        replace hT := sIf hT; obtain ⟨o1, hT⟩ := hT
        refine zReg md0 hX rfl rfl rfl ?_
        refine rThen ?_
        refine rSeq ?_
        let c6 := (ref02_Show N a1)
        let c7 := (ref09_Take N (c6.getD default) a2)
        replace hT := sIf hT; obtain ⟨⟨o1, o2⟩, hT⟩ := hT
        refine zReg md0 hX rfl rfl rfl ?_
        refine rThen ?_
        refine rSeq ?_
        let c8 := (tcoef_Take_v1 N)
        replace hT := sIf hT; obtain ⟨o1, hT⟩ := hT
        refine zReg md0 hX rfl rfl rfl ?_
        refine rThen ?_
        refine rSeq ?_
        let c9 := (overspill_inbits_Reader_At N (c5.getD default).2.2.2.2.1 (c5.getD default).2.2.2.2.2)
        let c10 := (law09_lives N)
        let x1 := (bif (bif (bif (bif (((c5.getD default).1 == (c7.getD default).1) && (decide ((c5.getD default).2.1 = (c7.getD default).2.1) && (decide ((c5.getD default).2.2.1 = (c7.getD default).2.2.1) && true))) then (decide ((c5.getD default).2.2.2.1 = (c7.getD default).2.2.2.2)) else false) then (decide ((c9.getD default) = (c7.getD default).2.2.2.1)) else false) then (decide ((c8.getD default).2.2.2 = 1)) else false) then (c10.getD default) else false)
        replace hT := sIf hT; obtain ⟨⟨o1, o2⟩, hT⟩ := hT
        refine rRegC md0 hX rfl rfl rfl (by (repeat' first | exact True.intro | with_reducible assumption | (with_reducible apply And.intro) | intro _) <;> first | assumption | exact o1 (by assumption) | exact o2 (by assumption) | exact rfl | omega | exact Nat.le_of_ble_eq_true rfl | exact selF (by assumption) | exact selT (by assumption) | exact And.intro rfl rfl | exact And.intro (by assumption) rfl | exact And.intro (by omega) rfl | (simp only [inK] at *; omega) | (simp_all [sel] <;> fail) | fail) ?_
        refine rThen ?_
        refine rRet ?_
        have hy := Option.some.inj hT; subst hy
        exact zEnd0 hX rfl
    · skip
      let c3 := (overspill_inbits_Reader_Seek N a2 (c1.getD default).1 (c1.getD default).2)
      replace hT := sIf hT; obtain ⟨r1, hT⟩ := hT
      refine rSLG md0 hX rfl rfl rfl (by (repeat' first | exact True.intro | with_reducible assumption | (with_reducible apply And.intro) | intro _) <;> first | assumption | exact rfl | omega | exact Nat.le_of_ble_eq_true rfl | exact selF (by assumption) | exact selT (by assumption) | exact And.intro rfl rfl | exact And.intro (by assumption) rfl | exact And.intro (by omega) rfl | (simp only [inK] at *; omega) | (simp_all [sel] <;> fail) | fail) rfl rfl rfl rfl (fun hg => (by (repeat' first | exact True.intro | with_reducible assumption | (with_reducible apply And.intro)) <;> first | exact rfl | assumption | exact r1 hg | omega | exact Nat.le_of_ble_eq_true rfl)) (fun hg => ?_) (fun hg => ?_)
      · replace hT := sT hg hT
        let x6 := (bif (decide ((100 : Int) < (ByteArray.size a1 : Int))) then true else (decide ((c3.getD default).1 ≠ 0)))
        refine rSLDone md0 hX rfl rfl rfl (by (repeat' first | exact True.intro | with_reducible assumption | (with_reducible apply And.intro) | intro _) <;> first | assumption | exact rfl | omega | exact Nat.le_of_ble_eq_true rfl | exact selF (by assumption) | exact selT (by assumption) | exact And.intro rfl rfl | exact And.intro (by assumption) rfl | exact And.intro (by omega) rfl | (simp only [inK] at *; omega) | (simp_all [sel] <;> fail) | fail) ?_
        exact zTo [] 0 hε (hjk1 _ hT)
      · replace hT := sF hg hT
        refine rSLSkip md0 hX rfl rfl rfl (by (repeat' first | exact True.intro | with_reducible assumption | (with_reducible apply And.intro) | intro _) <;> first | assumption | exact rfl | omega | exact Nat.le_of_ble_eq_true rfl | exact selF (by assumption) | exact selT (by assumption) | exact And.intro rfl rfl | exact And.intro (by assumption) rfl | exact And.intro (by omega) rfl | (simp only [inK] at *; omega) | (simp_all [sel] <;> fail) | fail) rfl rfl rfl (by assumption) ?_
        refine rSLDone md0 hX rfl rfl rfl (by (repeat' first | exact True.intro | with_reducible assumption | (with_reducible apply And.intro) | intro _) <;> first | assumption | exact rfl | omega | exact Nat.le_of_ble_eq_true rfl | exact selF (by assumption) | exact selT (by assumption) | exact And.intro rfl rfl | exact And.intro (by assumption) rfl | exact And.intro (by omega) rfl | (simp only [inK] at *; omega) | (simp_all [sel] <;> fail) | fail) ?_
        exact zTo [] 0 hε (hjk1 _ hT)
  · cases h

end Go.Proofs.YtcfffichdcnlgaaDoor
