/- Models of functions, and that the program does what they tell. -/
import Derived.Test.YtcfffichdcnlgaaDoorT0
set_option linter.unusedVariables false
set_option linter.unusedSimpArgs false
namespace Go.Proofs.YtcfffichdcnlgaaDoor
open Go.X

def inbits_New (N : Nat) (a1 : ByteArray) : Option (ByteArray × Int) :=
  some (a1, 0)
def sp_inbits_New (N : Nat) : X.Spec := fun args lk => match args with
  | [.v (.c (.str a1))] => some ⟨(inbits_New N a1).isSome = true, .v (.c (.ptr 0 0 0 0 0 0)), [.mem true 45 none (.flat [.cs [.str ((inbits_New N a1).getD default).1, .int .i64 ((inbits_New N a1).getD default).2]])], []⟩
  | _ => none
set_option maxRecDepth 100000 in
set_option maxHeartbeats 1000000 in
theorem ok_inbits_New (N : Nat) : FnOK Tryd.prog gt0 5 (sp_inbits_New N) := by
  refine fnOK_handed Tryd.func5 rfl (by kernel_rfl) tt_ok (ktNil) ?_
  intro args lk r h hp
  unfold sp_inbits_New at h
  split at h
  · rename_i a1
    cases h
    obtain ⟨x, hx⟩ := Option.isSome_iff_exists.1 hp
    simp only [hx, Option.getD_some]
    refine hand0 rfl rfl (fun w0 M ε0 hX => ?_)
    refine rCount (fun hε => ?_)
    have hT : inbits_New N a1 = some x := hx; clear hx hp; unfold inbits_New at hT
    refine rSeq ?_
    refine zReg md0 hX rfl rfl rfl ?_
    refine rThen ?_
    refine rSeq ?_
    refine zReg md0 hX rfl rfl rfl ?_
    refine rThen ?_
    refine rRet ?_
    have hy := Option.some.inj hT; subst hy
    exact rEndA [0] [.mem true 45 none (.flat [.cs [.str a1, .int .i64 0]])] [] (.v (.c (.ptr 0 0 0 0 0 0))) hX rfl (by repeat' first | exact True.intro | exact rfl | apply And.intro | omega | exact Nat.le_of_ble_eq_true rfl) (by repeat' first | exact True.intro | exact rfl | apply And.intro) rfl rfl rfl (by repeat' first | exact True.intro | exact rfl | exact ⟨_, rfl, rfl⟩ | apply And.intro | exact Or.inl rfl) rfl rfl (by repeat' first | exact True.intro | exact rfl | exact ⟨_, rfl, rfl⟩ | apply And.intro | exact Or.inl rfl) rfl rfl
  · cases h
def overspill_inbits_Reader_Seek (N : Nat) (a1 : Int) (a2 : ByteArray) (a3 : Int) : Option (Int × ByteArray × Int) :=
  let x1 := (bif (decide (a1 < 0)) then true else (decide (((8 : Int) * (ByteArray.size a2 : Int)) < a1)))
  if ((!(decide (a1 < 0))) = true → inK .i64 ((8 : Int) * (ByteArray.size a2 : Int))) then
    bif x1 then
      some (1, a2, a3)
    else
      some (0, a2, a1)
  else none
def sp_overspill_inbits_Reader_Seek (N : Nat) : X.Spec := fun args lk => match args with
  | [.v (.c (.ptr i0 0 0 0 0 0)), .v (.c (.int .i64 a1))] => (match lk i0 with
    | some (.mem true 45 none (.flat [.cs [.str a2, .int .i64 a3]])) => some ⟨(overspill_inbits_Reader_Seek N a1 a2 a3).isSome = true, .v (.c (.int .i64 ((overspill_inbits_Reader_Seek N a1 a2 a3).getD default).1)), [], [(i0, .mem true 45 none (.flat [.cs [.str ((overspill_inbits_Reader_Seek N a1 a2 a3).getD default).2.1, .int .i64 ((overspill_inbits_Reader_Seek N a1 a2 a3).getD default).2.2]]))]⟩
    | _ => none)
  | _ => none
set_option maxRecDepth 100000 in
set_option maxHeartbeats 1000000 in
theorem ok_overspill_inbits_Reader_Seek (N : Nat) : FnOK Tryd.prog gt0 6 (sp_overspill_inbits_Reader_Seek N) := by
  refine fnOK_handed Tryd.func6 rfl (by kernel_rfl) tt_ok (ktNil) ?_
  intro args lk r h hp
  unfold sp_overspill_inbits_Reader_Seek at h
  split at h
  · rename_i i0 a1
    split at h
    · rename_i a2 a3 hl0
      cases h
      obtain ⟨x, hx⟩ := Option.isSome_iff_exists.1 hp
      simp only [hx, Option.getD_some]
      refine handL [i0] 1 [(0, .mem true 45 none (.flat [.cs [.str a2, .int .i64 a3]]))] [.v (.c (.ptr 0 0 0 0 0 0)), .v (.c (.int .i64 a1))] rfl rfl rfl ⟨isSome_of hl0, trivial⟩ ⟨⟨rfl, (by repeat' first | exact True.intro | exact rfl | exact ⟨_, rfl, rfl⟩ | apply And.intro | exact Or.inl rfl), _, hl0, .inl rfl⟩, trivial⟩ rfl (fun w0 M ε0 hX => ?_)
      refine rCount (fun hε => ?_)
      have hT : overspill_inbits_Reader_Seek N a1 a2 a3 = some x := hx; clear hx hp; unfold overspill_inbits_Reader_Seek at hT
      refine rSeq ?_
      refine zReg md0 hX rfl rfl rfl ?_
      refine rThen ?_
      refine rSeq ?_
      refine rSeq ?_
      let x1 := (bif (decide (a1 < 0)) then true else (decide (((8 : Int) * (ByteArray.size a2 : Int)) < a1)))
      replace hT := sIf hT; obtain ⟨o1, hT⟩ := hT
      refine rRegC md0 hX rfl rfl rfl (by (repeat' first | exact True.intro | with_reducible assumption | (with_reducible apply And.intro) | intro _) <;> first | assumption | exact o1 (by assumption) | exact rfl | omega | exact Nat.le_of_ble_eq_true rfl | exact selF (by assumption) | exact selT (by assumption) | exact And.intro rfl rfl | exact And.intro (by assumption) rfl | exact And.intro (by omega) rfl | (simp only [inK] at *; omega) | (simp_all [sel] <;> fail) | fail) ?_
      refine rThen ?_
      refine zCond rfl rfl (fun hc => ?_) (fun hc => ?_)
      · replace hT := sT hc hT
        refine rSeq ?_
        refine zReg md0 hX rfl rfl rfl ?_
        refine rThen ?_
        refine rRet ?_
        refine rThenRet ?_
        have hy := Option.some.inj hT; subst hy
        exact rEndA [] [] [(0, .mem true 45 none (.flat [.cs [.str a2, .int .i64 a3]]))] (.v (.c (.int .i64 1))) hX rfl (by repeat' first | exact True.intro | exact rfl | apply And.intro | omega | exact Nat.le_of_ble_eq_true rfl) (by repeat' first | exact True.intro | exact rfl | apply And.intro) rfl rfl rfl (by repeat' first | exact True.intro | exact rfl | exact ⟨_, rfl, rfl⟩ | apply And.intro | exact Or.inl rfl) rfl rfl (by repeat' first | exact True.intro | exact rfl | exact ⟨_, rfl, rfl⟩ | apply And.intro | exact Or.inl rfl) rfl rfl
      · replace hT := sF hc hT
        refine rSkip ?_
        refine rThen ?_
        refine rSeq ?_
        refine zReg md0 hX rfl rfl rfl ?_
        refine rThen ?_
        refine rSeq ?_
        refine zReg md0 hX rfl rfl rfl ?_
        refine rThen ?_
        refine rRet ?_
        have hy := Option.some.inj hT; subst hy
        exact rEndA [] [] [(0, .mem true 45 none (.flat [.cs [.str a2, .int .i64 a1]]))] (.v (.c (.int .i64 0))) hX rfl (by repeat' first | exact True.intro | exact rfl | apply And.intro | omega | exact Nat.le_of_ble_eq_true rfl) (by repeat' first | exact True.intro | exact rfl | apply And.intro) rfl rfl rfl (by repeat' first | exact True.intro | exact rfl | exact ⟨_, rfl, rfl⟩ | apply And.intro | exact Or.inl rfl) rfl rfl (by repeat' first | exact True.intro | exact rfl | exact ⟨_, rfl, rfl⟩ | apply And.intro | exact Or.inl rfl) rfl rfl
    · cases h
  · cases h
def tcoef_Right (N : Nat) (a1 : Bool) (a2 : Int) (a3 : Int) : Option Bool :=
  let x1 := (bif (bif (bif (bif (decide ((0 : Int) ≤ a2)) then (decide (a2 ≤ 63)) else false) then (decide (a3 ≠ 0)) else false) then (decide (((-127) : Int) ≤ a3)) else false) then (decide (a3 ≤ 127)) else false)
  some x1
def sp_tcoef_Right (N : Nat) : X.Spec := fun args lk => match args with
  | [.v (.agg [.cs [.bool a1, .int .i64 a2, .int .i64 a3]])] => some ⟨(tcoef_Right N a1 a2 a3).isSome = true, .v (.c (.bool ((tcoef_Right N a1 a2 a3).getD default))), [], []⟩
  | _ => none
set_option maxRecDepth 100000 in
set_option maxHeartbeats 1000000 in
theorem ok_tcoef_Right (N : Nat) : FnOK Tryd.prog gt0 33 (sp_tcoef_Right N) := by
  refine fnOK_handed Tryd.func33 rfl (by kernel_rfl) tt_ok (ktNil) ?_
  intro args lk r h hp
  unfold sp_tcoef_Right at h
  split at h
  · rename_i a1 a2 a3
    cases h
    obtain ⟨x, hx⟩ := Option.isSome_iff_exists.1 hp
    simp only [hx, Option.getD_some]
    refine hand0 rfl rfl (fun w0 M ε0 hX => ?_)
    refine rCount (fun hε => ?_)
    have hT : tcoef_Right N a1 a2 a3 = some x := hx; clear hx hp; unfold tcoef_Right at hT
    refine rSeq ?_
    refine zReg md0 hX rfl rfl rfl ?_
    refine rThen ?_
    refine rSeq ?_
    let x1 := (bif (bif (bif (bif (decide ((0 : Int) ≤ a2)) then (decide (a2 ≤ 63)) else false) then (decide (a3 ≠ 0)) else false) then (decide (((-127) : Int) ≤ a3)) else false) then (decide (a3 ≤ 127)) else false)
    refine zReg md0 hX rfl rfl rfl ?_
    refine rThen ?_
    refine rRet ?_
    have hy := Option.some.inj hT; subst hy
    exact zEnd0 hX rfl
  · cases h
def tcoef_many (N : Nat) (a1 : Bool) (a2 : Int) : Option Int :=
  bif (bif a1 then (decide (a2 = 0)) else false) then
    some 3
  else
    bif (bif a1 then (decide (a2 = 1)) else false) then
      some 2
    else
      bif (bif a1 then (decide (a2 ≤ 40)) else false) then
        some 1
      else
        bif a1 then
          some 0
        else
          bif (decide (a2 = 0)) then
            some 12
          else
            bif (decide (a2 = 1)) then
              some 6
            else
              bif (decide (a2 = 2)) then
                some 4
              else
                bif (decide (a2 ≤ 6)) then
                  some 3
                else
                  bif (decide (a2 ≤ 10)) then
                    some 2
                  else
                    bif (decide (a2 ≤ 26)) then
                      some 1
                    else
                      some 0
def sp_tcoef_many (N : Nat) : X.Spec := fun args lk => match args with
  | [.v (.c (.bool a1)), .v (.c (.int .i64 a2))] => some ⟨(tcoef_many N a1 a2).isSome = true, .v (.c (.int .i64 ((tcoef_many N a1 a2).getD default))), [], []⟩
  | _ => none
set_option maxRecDepth 100000 in
set_option maxHeartbeats 1000000 in
theorem ok_tcoef_many (N : Nat) : FnOK Tryd.prog gt0 48 (sp_tcoef_many N) := by
  refine fnOK_handed Tryd.func48 rfl (by kernel_rfl) tt_ok (ktNil) ?_
  intro args lk r h hp
  unfold sp_tcoef_many at h
  split at h
  · rename_i a1 a2
    cases h
    obtain ⟨x, hx⟩ := Option.isSome_iff_exists.1 hp
    simp only [hx, Option.getD_some]
    refine hand0 rfl rfl (fun w0 M ε0 hX => ?_)
    refine rCount (fun hε => ?_)
    have hT : tcoef_many N a1 a2 = some x := hx; clear hx hp; unfold tcoef_many at hT
    refine rSeq ?_
    refine zReg md0 hX rfl rfl rfl ?_
    refine rThen ?_
    refine rSeq ?_
    refine rBlock ?_
    refine rSeq ?_
    refine zReg md0 hX rfl rfl rfl ?_
    refine rThen ?_
    refine zCond rfl rfl (fun hc => ?_) (fun hc => ?_)
    · replace hT := sT hc hT
      refine rSeq ?_
      refine zReg md0 hX rfl rfl rfl ?_
      refine rThen ?_
      refine rRet ?_
      refine rInRet ?_
      refine rThenRet ?_
      have hy := Option.some.inj hT; subst hy
      exact zEnd0 hX rfl
    · replace hT := sF hc hT
      refine rSeq ?_
      refine zReg md0 hX rfl rfl rfl ?_
      refine rThen ?_
      refine zCond rfl rfl (fun hc => ?_) (fun hc => ?_)
      · replace hT := sT hc hT
        refine rSeq ?_
        refine zReg md0 hX rfl rfl rfl ?_
        refine rThen ?_
        refine rRet ?_
        refine rInRet ?_
        refine rThenRet ?_
        have hy := Option.some.inj hT; subst hy
        exact zEnd0 hX rfl
      · replace hT := sF hc hT
        refine rSeq ?_
        refine zReg md0 hX rfl rfl rfl ?_
        refine rThen ?_
        refine zCond rfl rfl (fun hc => ?_) (fun hc => ?_)
        · replace hT := sT hc hT
          refine rSeq ?_
          refine zReg md0 hX rfl rfl rfl ?_
          refine rThen ?_
          refine rRet ?_
          refine rInRet ?_
          refine rThenRet ?_
          have hy := Option.some.inj hT; subst hy
          exact zEnd0 hX rfl
        · replace hT := sF hc hT
          refine rSeq ?_
          refine zReg md0 hX rfl rfl rfl ?_
          refine rThen ?_
          refine zCond rfl rfl (fun hc => ?_) (fun hc => ?_)
          · replace hT := sT hc hT
            refine rSeq ?_
            refine zReg md0 hX rfl rfl rfl ?_
            refine rThen ?_
            refine rRet ?_
            refine rInRet ?_
            refine rThenRet ?_
            have hy := Option.some.inj hT; subst hy
            exact zEnd0 hX rfl
          · replace hT := sF hc hT
            refine rSeq ?_
            refine zReg md0 hX rfl rfl rfl ?_
            refine rThen ?_
            refine zCond rfl rfl (fun hc => ?_) (fun hc => ?_)
            · replace hT := sT hc hT
              refine rSeq ?_
              refine zReg md0 hX rfl rfl rfl ?_
              refine rThen ?_
              refine rRet ?_
              refine rInRet ?_
              refine rThenRet ?_
              have hy := Option.some.inj hT; subst hy
              exact zEnd0 hX rfl
            · replace hT := sF hc hT
              refine rSeq ?_
              refine zReg md0 hX rfl rfl rfl ?_
              refine rThen ?_
              refine zCond rfl rfl (fun hc => ?_) (fun hc => ?_)
              · replace hT := sT hc hT
                refine rSeq ?_
                refine zReg md0 hX rfl rfl rfl ?_
                refine rThen ?_
                refine rRet ?_
                refine rInRet ?_
                refine rThenRet ?_
                have hy := Option.some.inj hT; subst hy
                exact zEnd0 hX rfl
              · replace hT := sF hc hT
                refine rSeq ?_
                refine zReg md0 hX rfl rfl rfl ?_
                refine rThen ?_
                refine zCond rfl rfl (fun hc => ?_) (fun hc => ?_)
                · replace hT := sT hc hT
                  refine rSeq ?_
                  refine zReg md0 hX rfl rfl rfl ?_
                  refine rThen ?_
                  refine rRet ?_
                  refine rInRet ?_
                  refine rThenRet ?_
                  have hy := Option.some.inj hT; subst hy
                  exact zEnd0 hX rfl
                · replace hT := sF hc hT
                  refine rSeq ?_
                  refine zReg md0 hX rfl rfl rfl ?_
                  refine rThen ?_
                  refine zCond rfl rfl (fun hc => ?_) (fun hc => ?_)
                  · replace hT := sT hc hT
                    refine rSeq ?_
                    refine zReg md0 hX rfl rfl rfl ?_
                    refine rThen ?_
                    refine rRet ?_
                    refine rInRet ?_
                    refine rThenRet ?_
                    have hy := Option.some.inj hT; subst hy
                    exact zEnd0 hX rfl
                  · replace hT := sF hc hT
                    refine rSeq ?_
                    refine zReg md0 hX rfl rfl rfl ?_
                    refine rThen ?_
                    refine zCond rfl rfl (fun hc => ?_) (fun hc => ?_)
                    · replace hT := sT hc hT
                      refine rSeq ?_
                      refine zReg md0 hX rfl rfl rfl ?_
                      refine rThen ?_
                      refine rRet ?_
                      refine rInRet ?_
                      refine rThenRet ?_
                      have hy := Option.some.inj hT; subst hy
                      exact zEnd0 hX rfl
                    · replace hT := sF hc hT
                      refine rSeq ?_
                      refine zReg md0 hX rfl rfl rfl ?_
                      refine rThen ?_
                      refine zCond rfl rfl (fun hc => ?_) (fun hc => ?_)
                      · replace hT := sT hc hT
                        refine rSeq ?_
                        refine zReg md0 hX rfl rfl rfl ?_
                        refine rThen ?_
                        refine rRet ?_
                        refine rInRet ?_
                        refine rThenRet ?_
                        have hy := Option.some.inj hT; subst hy
                        exact zEnd0 hX rfl
                      · replace hT := sF hc hT
                        refine rSkip ?_
                        refine rInNormal ?_
                        refine rThen ?_
                        refine rSeq ?_
                        refine zReg md0 hX rfl rfl rfl ?_
                        refine rThen ?_
                        refine rRet ?_
                        have hy := Option.some.inj hT; subst hy
                        exact zEnd0 hX rfl
  · cases h
def tcoef_place_b1 (N : Nat) (a1 : Bool) (a2 : Int) (s1 : (Int × Int)) : Option ((Int × Int) ⊕ Int) :=
  bif (decide (s1.2 < a2)) then
    let c2 := (tcoef_many N a1 s1.2)
    if c2.isSome = true ∧ inK .i64 (s1.1 + (c2.getD default)) then
      if inK .i64 (s1.2 + 1) then
        some (.inl ((s1.1 + (c2.getD default)), (s1.2 + 1)))
      else none
    else none
  else
    some (.inr s1.1)
def tcoef_place_b2 (N : Nat) (s2 : (Int × Int)) : Option ((Int × Int) ⊕ Int) :=
  bif (decide (s2.2 < 63)) then
    let c3 := (tcoef_many N false s2.2)
    if c3.isSome = true ∧ inK .i64 (s2.1 + (c3.getD default)) then
      if inK .i64 (s2.2 + 1) then
        some (.inl ((s2.1 + (c3.getD default)), (s2.2 + 1)))
      else none
    else none
  else
    some (.inr s2.1)
def tcoef_place (N : Nat) (a1 : Bool) (a2 : Int) (a3 : Int) : Option Int :=
  let c1 := (tcoef_many N a1 a2)
  if c1.isSome = true then
    bif (decide ((c1.getD default) < a3)) then
      some (-1)
    else
      joinK (fun (v1 : Int) =>
        (iter (tcoef_place_b1 N a1 a2) N (v1, 0)).bind fun v2 =>
          if inK .i64 (v2 + a3) ∧ inK .i64 ((v2 + a3) - 1) then
            some ((v2 + a3) - 1)
          else none
      ) fun k1 =>
        bif a1 then
          (iter (tcoef_place_b2 N) N (0, 0)).bind fun v3 =>
            k1 v3
        else
          k1 0
  else none
def sp_tcoef_place (N : Nat) : X.Spec := fun args lk => match args with
  | [.v (.c (.bool a1)), .v (.c (.int .i64 a2)), .v (.c (.int .i64 a3))] => some ⟨(tcoef_place N a1 a2 a3).isSome = true, .v (.c (.int .i64 ((tcoef_place N a1 a2 a3).getD default))), [], []⟩
  | _ => none
set_option maxRecDepth 100000 in
set_option maxHeartbeats 1000000 in
theorem ok_tcoef_place (N : Nat) : FnOK Tryd.prog gt0 34 (sp_tcoef_place N) := by
  refine fnOK_handed Tryd.func34 rfl (by kernel_rfl) tt_ok (ktCons (ok_tcoef_many N) (ktNil)) ?_
  intro args lk r h hp
  unfold sp_tcoef_place at h
  split at h
  · rename_i a1 a2 a3
    cases h
    obtain ⟨x, hx⟩ := Option.isSome_iff_exists.1 hp
    simp only [hx, Option.getD_some]
    refine hand0 rfl rfl (fun w0 M ε0 hX => ?_)
    refine rCount (fun hε => ?_)
    have hT : tcoef_place N a1 a2 a3 = some x := hx; clear hx hp; unfold tcoef_place at hT
    refine rSeq ?_
    refine zReg md0 hX rfl rfl rfl ?_
    refine rThen ?_
    refine rSeq ?_
    refine rSeq ?_
    let c1 := (tcoef_many N a1 a2)
    replace hT := sIf hT; obtain ⟨o1, hT⟩ := hT
    refine zReg md0 hX rfl rfl rfl ?_
    refine rThen ?_
    refine zCond rfl rfl (fun hc => ?_) (fun hc => ?_)
    · replace hT := sT hc hT
      refine rSeq ?_
      refine zReg md0 hX rfl rfl rfl ?_
      refine rThen ?_
      refine rRet ?_
      refine rThenRet ?_
      have hy := Option.some.inj hT; subst hy
      exact zEnd0 hX rfl
    · replace hT := sF hc hT
      refine rSkip ?_
      refine rThen ?_
      refine rSeq ?_
      refine zReg md0 hX rfl rfl rfl ?_
      refine rThen ?_
      refine rSeq ?_
      refine rSeq ?_
      refine zReg md0 hX rfl rfl rfl ?_
      refine rThen ?_
      refine rJoinK hT (fun v1 => ⟨[(0, .v (.c (.bool a1))), (1, .v (.c (.int .i64 a2))), (2, .v (.c (.int .i64 a3))), (6, .v (.c (.int .i64 0))), (7, .v (.c (.int .i64 v1)))], [], 0⟩) (fun v1 hT => ?_) (fun k1 hjk1 hT => ?_)
      · skip
        refine rThen ?_
        refine rSeq ?_
        refine rSeq ?_
        refine zReg md0 hX rfl rfl rfl ?_
        refine rThen ?_
        refine rBlock ?_
        replace hT := sBind hT; obtain ⟨w1, hl, hT⟩ := hT
        refine rJoinA (fun v2 => v2 = w1) (fun v2 => ⟨[(2, .v (.c (.int .i64 a3))), (6, .v (.c (.int .i64 0))), (7, .v (.c (.int .i64 v2)))], [], 0⟩) (.exit 2) (fun v2 hv => ?_) (fun hxs10 => ?_)
        · subst hv; clear hl
          refine rInHit ?_
          refine rThen ?_
          refine rSeq ?_
          replace hT := sIf hT; obtain ⟨⟨o1, o2⟩, hT⟩ := hT
          refine zReg md0 hX rfl rfl rfl ?_
          refine rThen ?_
          refine rRet ?_
          have hy := Option.some.inj hT; subst hy
          exact zEnd0 hX rfl
        refine rLoopM (tcoef_place_b1 N a1 a2) (fun s1 => ⟨[(0, .v (.c (.bool a1))), (2, .v (.c (.int .i64 a3))), (6, .v (.c (.int .i64 0))), (7, .v (.c (.int .i64 s1.1))), (24, .v (.c (.int .i64 a2))), (25, .v (.c (.int .i64 s1.2)))], [], 0⟩) hl (To.mk' [] 0 hε rfl (by repeat' first | exact True.intro | exact rfl | apply And.intro) (by repeat' first | exact True.intro | exact rfl | apply And.intro)) (fun s1 zs1 NNs1 hz hnexts1 houts1 => ?_)
        clear hl hT
        have hT := hz; clear hz
        refine rSeq ?_
        refine zReg md0 hX rfl rfl rfl ?_
        refine rThen ?_
        refine rSeq ?_
        refine zCond rfl rfl (fun hc => ?_) (fun hc => ?_)
        · replace hT := sT hc hT
          refine rSkip ?_
          refine rThen ?_
          refine rSeq ?_
          refine rBlock ?_
          refine rSeq ?_
          refine zReg md0 hX rfl rfl rfl ?_
          refine rThen ?_
          let c2 := (tcoef_many N a1 s1.2)
          replace hT := sIf hT; obtain ⟨⟨o1, o2⟩, hT⟩ := hT
          refine zReg md0 hX rfl rfl rfl ?_
          refine rInNormal ?_
          refine rThen ?_
          replace hT := sIf hT; obtain ⟨o1, hT⟩ := hT
          refine zReg md0 hX rfl rfl rfl ?_
          exact hnexts1 _ (Option.some.inj hT).symm _ (To.mk' [] 0 hε rfl (by repeat' first | exact True.intro | exact rfl | apply And.intro) (by repeat' first | exact True.intro | exact rfl | apply And.intro))
        · replace hT := sF hc hT
          refine rExit ?_
          refine rThenExit ?_
          refine rThenExit ?_
          exact zTo [] 0 hε (hxs10 _ (houts1 _ (Option.some.inj hT).symm))
      · skip
        refine zCond rfl rfl (fun hc => ?_) (fun hc => ?_)
        · replace hT := sT hc hT
          refine rSeq ?_
          refine zReg md0 hX rfl rfl rfl ?_
          refine rThen ?_
          refine rBlock ?_
          replace hT := sBind hT; obtain ⟨w2, hl, hT⟩ := hT
          refine rJoinA (fun v3 => v3 = w2) (fun v3 => ⟨[(0, .v (.c (.bool a1))), (1, .v (.c (.int .i64 a2))), (2, .v (.c (.int .i64 a3))), (6, .v (.c (.int .i64 0))), (7, .v (.c (.int .i64 v3)))], [], 0⟩) (.exit 0) (fun v3 hv => ?_) (fun hxs20 => ?_)
          · subst hv; clear hl
            refine rInHit ?_
            exact zTo [] 0 hε (hjk1 _ hT)
          refine rLoopM (tcoef_place_b2 N) (fun s2 => ⟨[(0, .v (.c (.bool a1))), (1, .v (.c (.int .i64 a2))), (2, .v (.c (.int .i64 a3))), (6, .v (.c (.int .i64 0))), (7, .v (.c (.int .i64 s2.1))), (16, .v (.c (.int .i64 s2.2)))], [], 0⟩) hl (To.mk' [] 0 hε rfl (by repeat' first | exact True.intro | exact rfl | apply And.intro) (by repeat' first | exact True.intro | exact rfl | apply And.intro)) (fun s2 zs2 NNs2 hz hnexts2 houts2 => ?_)
          clear hl hT
          have hT := hz; clear hz
          refine rSeq ?_
          refine zReg md0 hX rfl rfl rfl ?_
          refine rThen ?_
          refine rSeq ?_
          refine zCond rfl rfl (fun hc => ?_) (fun hc => ?_)
          · replace hT := sT hc hT
            refine rSkip ?_
            refine rThen ?_
            refine rSeq ?_
            refine rBlock ?_
            refine rSeq ?_
            refine zReg md0 hX rfl rfl rfl ?_
            refine rThen ?_
            let c3 := (tcoef_many N false s2.2)
            replace hT := sIf hT; obtain ⟨⟨o1, o2⟩, hT⟩ := hT
            refine zReg md0 hX rfl rfl rfl ?_
            refine rInNormal ?_
            refine rThen ?_
            replace hT := sIf hT; obtain ⟨o1, hT⟩ := hT
            refine zReg md0 hX rfl rfl rfl ?_
            exact hnexts2 _ (Option.some.inj hT).symm _ (To.mk' [] 0 hε rfl (by repeat' first | exact True.intro | exact rfl | apply And.intro) (by repeat' first | exact True.intro | exact rfl | apply And.intro))
          · replace hT := sF hc hT
            refine rExit ?_
            refine rThenExit ?_
            refine rThenExit ?_
            exact zTo [] 0 hε (hxs20 _ (houts2 _ (Option.some.inj hT).symm))
        · replace hT := sF hc hT
          refine rSkip ?_
          exact zTo [] 0 hε (hjk1 _ hT)
  · cases h
def outbits_fits (N : Nat) (a1 : Int) (a2 : Int) : Option Bool :=
  let x1 := (bif (bif (bif (decide ((0 : Int) ≤ a2)) then (decide (a2 ≤ 32)) else false) then (decide ((0 : Int) ≤ a1)) else false) then (decide (a1 < ((1 : Int) * 2 ^ (Int.toNat a2)))) else false)
  if ((bif (bif (decide ((0 : Int) ≤ a2)) then (decide (a2 ≤ 32)) else false) then (decide ((0 : Int) ≤ a1)) else false) = true → inK .u64 a2) ∧ ((bif (bif (decide ((0 : Int) ≤ a2)) then (decide (a2 ≤ 32)) else false) then (decide ((0 : Int) ≤ a1)) else false) = true → (0 : Int) ≤ a2) ∧ ((bif (bif (decide ((0 : Int) ≤ a2)) then (decide (a2 ≤ 32)) else false) then (decide ((0 : Int) ≤ a1)) else false) = true → (a2).toNat ≤ 64) ∧ ((bif (bif (decide ((0 : Int) ≤ a2)) then (decide (a2 ≤ 32)) else false) then (decide ((0 : Int) ≤ a1)) else false) = true → inK .i64 ((1 : Int) * 2 ^ (Int.toNat a2))) then
    some x1
  else none
def sp_outbits_fits (N : Nat) : X.Spec := fun args lk => match args with
  | [.v (.c (.int .i64 a1)), .v (.c (.int .i64 a2))] => some ⟨(outbits_fits N a1 a2).isSome = true, .v (.c (.bool ((outbits_fits N a1 a2).getD default))), [], []⟩
  | _ => none
set_option maxRecDepth 100000 in
set_option maxHeartbeats 1000000 in
theorem ok_outbits_fits (N : Nat) : FnOK Tryd.prog gt0 49 (sp_outbits_fits N) := by
  refine fnOK_handed Tryd.func49 rfl (by kernel_rfl) tt_ok (ktNil) ?_
  intro args lk r h hp
  unfold sp_outbits_fits at h
  split at h
  · rename_i a1 a2
    cases h
    obtain ⟨x, hx⟩ := Option.isSome_iff_exists.1 hp
    simp only [hx, Option.getD_some]
    refine hand0 rfl rfl (fun w0 M ε0 hX => ?_)
    refine rCount (fun hε => ?_)
    have hT : outbits_fits N a1 a2 = some x := hx; clear hx hp; unfold outbits_fits at hT
    refine rSeq ?_
    refine zReg md0 hX rfl rfl rfl ?_
    refine rThen ?_
    refine rSeq ?_
    let x1 := (bif (bif (bif (decide ((0 : Int) ≤ a2)) then (decide (a2 ≤ 32)) else false) then (decide ((0 : Int) ≤ a1)) else false) then (decide (a1 < ((1 : Int) * 2 ^ (Int.toNat a2)))) else false)
    replace hT := sIf hT; obtain ⟨⟨o1, o2, o3, o4⟩, hT⟩ := hT
    refine rRegC md0 hX rfl rfl rfl (by (repeat' first | exact True.intro | with_reducible assumption | (with_reducible apply And.intro) | intro _) <;> first | assumption | exact o1 (by assumption) | exact o2 (by assumption) | exact o3 (by assumption) | exact o4 (by assumption) | exact rfl | omega | exact Nat.le_of_ble_eq_true rfl | exact selF (by assumption) | exact selT (by assumption) | exact And.intro rfl rfl | exact And.intro (by assumption) rfl | exact And.intro (by omega) rfl | (simp only [inK] at *; omega) | (simp_all [sel] <;> fail) | fail) ?_
    refine rThen ?_
    refine rRet ?_
    have hy := Option.some.inj hT; subst hy
    exact zEnd0 hX rfl
  · cases h
def outbits_Row_b1 (N : Nat) (a1 : Int) (s1 : (Nat × Int × Nat × (List Int))) : Option ((Nat × Int × Nat × (List Int)) ⊕ (Nat × Nat × (List Int))) :=
  bif (decide ((0 : Int) ≤ s1.2.1)) then
    let x2 := (s1.2.2.2 ++ (((List.replicate 1 0).set 0 ((48 : Int) + ((Int.toNat (a1 / 2 ^ (Int.toNat s1.2.1)) &&& Int.toNat 1 : Nat) : Int))).take 1))
    if inK .u64 s1.2.1 ∧ (0 : Int) ≤ s1.2.1 ∧ (s1.2.1).toNat ≤ 64 ∧ (0 : Int) ≤ (a1 / 2 ^ (Int.toNat s1.2.1)) ∧ inK .u8 ((Int.toNat (a1 / 2 ^ (Int.toNat s1.2.1)) &&& Int.toNat 1 : Nat) : Int) ∧ inK .u8 ((48 : Int) + ((Int.toNat (a1 / 2 ^ (Int.toNat s1.2.1)) &&& Int.toNat 1 : Nat) : Int)) ∧ 1 ≤ 1 ∧ s1.2.2.1 = s1.1 ∧ (s1.1 + 1) * 1 ≤ 140737488355328 ∧ s1.1 + 1 ≤ 9223372036854775807 then
      if inK .i64 (s1.2.1 - 1) then
        some (.inl ((s1.1 + 1), (s1.2.1 - 1), (s1.2.2.1 + 1), x2))
      else none
    else none
  else
    some (.inr (s1.1, s1.2.2.1, s1.2.2.2))
def outbits_Row (N : Nat) (a1 : Int) (a2 : Int) : Option (ByteArray × Int) :=
  let c1 := (outbits_fits N a1 a2)
  if c1.isSome = true then
    bif (!(c1.getD default)) then
      some (⟨#[]⟩, 1)
    else
      if (0 : Int) ≤ a2 ∧ a2 * 1 ≤ 140737488355328 then
        if inK .i64 (a2 - 1) then
          (iter (outbits_Row_b1 N a1) N (0, (a2 - 1), 0, (List.replicate 0 0))).bind fun v1 =>
            if v1.1 ≤ v1.2.1 ∧ (v1.1 : Int) ≤ 9223372036854775807 then
              some ((bytesOf (v1.2.2.take v1.1)), 0)
            else none
        else none
      else none
  else none
def sp_outbits_Row (N : Nat) : X.Spec := fun args lk => match args with
  | [.v (.c (.int .i64 a1)), .v (.c (.int .i64 a2))] => some ⟨(outbits_Row N a1 a2).isSome = true, .tup [.c (.str ((outbits_Row N a1 a2).getD default).1), .c (.int .i64 ((outbits_Row N a1 a2).getD default).2)], [], []⟩
  | _ => none
set_option maxRecDepth 100000 in
set_option maxHeartbeats 1000000 in
theorem ok_outbits_Row (N : Nat) : FnOK Tryd.prog gt0 35 (sp_outbits_Row N) := by
  refine fnOK_handed Tryd.func35 rfl (by kernel_rfl) tt_ok (ktCons (ok_outbits_fits N) (ktNil)) ?_
  intro args lk r h hp
  unfold sp_outbits_Row at h
  split at h
  · rename_i a1 a2
    cases h
    obtain ⟨x, hx⟩ := Option.isSome_iff_exists.1 hp
    simp only [hx, Option.getD_some]
    refine hand0 rfl rfl (fun w0 M ε0 hX => ?_)
    refine rCount (fun hε => ?_)
    have hT : outbits_Row N a1 a2 = some x := hx; clear hx hp; unfold outbits_Row at hT
    refine rSeq ?_
    refine zReg md0 hX rfl rfl rfl ?_
    refine rThen ?_
    refine rSeq ?_
    refine rSeq ?_
    let c1 := (outbits_fits N a1 a2)
    replace hT := sIf hT; obtain ⟨o1, hT⟩ := hT
    refine zReg md0 hX rfl rfl rfl ?_
    refine rThen ?_
    refine zCond rfl rfl (fun hc => ?_) (fun hc => ?_)
    · replace hT := sT hc hT
      refine rSeq ?_
      refine zReg md0 hX rfl rfl rfl ?_
      refine rThen ?_
      refine rRet ?_
      refine rThenRet ?_
      have hy := Option.some.inj hT; subst hy
      exact zEnd0 hX rfl
    · replace hT := sF hc hT
      refine rSkip ?_
      refine rThen ?_
      refine rSeq ?_
      replace hT := sIf hT; obtain ⟨⟨o1, o2⟩, hT⟩ := hT
      refine zReg md0 hX rfl rfl rfl ?_
      refine rThen ?_
      refine rSeq ?_
      refine rSeq ?_
      replace hT := sIf hT; obtain ⟨o1, hT⟩ := hT
      refine zReg md0 hX rfl rfl rfl ?_
      refine rThen ?_
      refine rBlock ?_
      replace hT := sBind hT; obtain ⟨w1, hl, hT⟩ := hT
      refine rJoinA (fun v1 => v1 = w1) (fun v1 => ⟨[(4, .v (.c (.str ⟨#[]⟩))), (5, .v (.c (.int .i64 0))), (6, .v (.c (.sl 0 0 v1.1 1)))], [(0, .mem true 5 (some 1) (.flat [.ints v1.2.1 .u8 v1.2.2]))], 1⟩) (.exit 0) (fun v1 hv => ?_) (fun hxs10 => ?_)
      · subst hv; clear hl
        refine rInHit ?_
        refine rThen ?_
        refine rSeq ?_
        replace hT := sIf hT; obtain ⟨⟨o1, o2⟩, hT⟩ := hT
        refine zReg md0 hX rfl rfl rfl ?_
        refine rThen ?_
        refine rRet ?_
        have hy := Option.some.inj hT; subst hy
        exact zEnd0 hX rfl
      refine rLoopM (outbits_Row_b1 N a1) (fun s1 => ⟨[(0, .v (.c (.int .i64 a1))), (4, .v (.c (.str ⟨#[]⟩))), (5, .v (.c (.int .i64 0))), (6, .v (.c (.sl 0 0 s1.1 1))), (7, .v (.c (.int .i64 s1.2.1)))], [(0, .mem true 5 (some 1) (.flat [.ints s1.2.2.1 .u8 s1.2.2.2]))], 1⟩) hl (To.mk' [] 0 hε rfl (by repeat' first | exact True.intro | exact rfl | apply And.intro) (by repeat' first | exact True.intro | exact rfl | apply And.intro)) (fun s1 zs1 NNs1 hz hnexts1 houts1 => ?_)
      clear hl hT
      have hT := hz; clear hz
      refine rSeq ?_
      refine rSeq ?_
      refine zReg md0 hX rfl rfl rfl ?_
      refine rThen ?_
      refine zCond rfl rfl (fun hc => ?_) (fun hc => ?_)
      · replace hT := sT hc hT
        refine rSkip ?_
        refine rThen ?_
        refine rSeq ?_
        refine rBlock ?_
        let x2 := (s1.2.2.2 ++ (((List.replicate 1 0).set 0 ((48 : Int) + ((Int.toNat (a1 / 2 ^ (Int.toNat s1.2.1)) &&& Int.toNat 1 : Nat) : Int))).take 1))
        replace hT := sIf hT; obtain ⟨⟨o1, o2, o3, o4, o5, o6, o7, o8, o9, o10⟩, hT⟩ := hT
        refine zReg md0 hX rfl rfl rfl ?_
        refine rInNormal ?_
        refine rThen ?_
        replace hT := sIf hT; obtain ⟨o1, hT⟩ := hT
        refine zReg md0 hX rfl rfl rfl ?_
        exact hnexts1 _ (Option.some.inj hT).symm _ (To.mk' [2] 0 hε rfl (by repeat' first | exact True.intro | exact rfl | apply And.intro) (by repeat' first | exact True.intro | exact rfl | apply And.intro))
      · replace hT := sF hc hT
        refine rExit ?_
        refine rThenExit ?_
        refine rThenExit ?_
        exact zTo [] 0 hε (hxs10 _ (houts1 _ (Option.some.inj hT).symm))
  · cases h
def tcoef_digit (N : Nat) (a1 : Bool) : Option ByteArray :=
  bif a1 then
    some ⟨#[49]⟩
  else
    some ⟨#[48]⟩
def sp_tcoef_digit (N : Nat) : X.Spec := fun args lk => match args with
  | [.v (.c (.bool a1))] => some ⟨(tcoef_digit N a1).isSome = true, .v (.c (.str ((tcoef_digit N a1).getD default))), [], []⟩
  | _ => none
set_option maxRecDepth 100000 in
set_option maxHeartbeats 1000000 in
theorem ok_tcoef_digit (N : Nat) : FnOK Tryd.prog gt0 36 (sp_tcoef_digit N) := by
  refine fnOK_handed Tryd.func36 rfl (by kernel_rfl) tt_ok (ktNil) ?_
  intro args lk r h hp
  unfold sp_tcoef_digit at h
  split at h
  · rename_i a1
    cases h
    obtain ⟨x, hx⟩ := Option.isSome_iff_exists.1 hp
    simp only [hx, Option.getD_some]
    refine hand0 rfl rfl (fun w0 M ε0 hX => ?_)
    refine rCount (fun hε => ?_)
    have hT : tcoef_digit N a1 = some x := hx; clear hx hp; unfold tcoef_digit at hT
    refine rSeq ?_
    refine zReg md0 hX rfl rfl rfl ?_
    refine rThen ?_
    refine rSeq ?_
    refine rSeq ?_
    refine zReg md0 hX rfl rfl rfl ?_
    refine rThen ?_
    refine zCond rfl rfl (fun hc => ?_) (fun hc => ?_)
    · replace hT := sT hc hT
      refine rSeq ?_
      refine zReg md0 hX rfl rfl rfl ?_
      refine rThen ?_
      refine rRet ?_
      refine rThenRet ?_
      have hy := Option.some.inj hT; subst hy
      exact zEnd0 hX rfl
    · replace hT := sF hc hT
      refine rSkip ?_
      refine rThen ?_
      refine rSeq ?_
      refine zReg md0 hX rfl rfl rfl ?_
      refine rThen ?_
      refine rRet ?_
      have hy := Option.some.inj hT; subst hy
      exact zEnd0 hX rfl
  · cases h
def tcoef_Row (N : Nat) (a1 : Bool) (a2 : Int) (a3 : Int) : Option (ByteArray × Bool) :=
  let c1 := (tcoef_Right N a1 a2 a3)
  if c1.isSome = true then
    bif (!(c1.getD default)) then
      some (⟨#[]⟩, false)
    else
      let c2 := (tcoef_place N a1 a2 (max a3 (-a3)))
      if inK .i64 (-a3) ∧ c2.isSome = true then
        bif (decide ((0 : Int) ≤ (c2.getD default))) then
          let c3 := (outbits_Row N (codesL.getD (c2.getD default).toNat 0) (lensL.getD (c2.getD default).toNat 0))
          if (0 : Int) ≤ (c2.getD default) ∧ (c2.getD default) < 102 ∧ (c2.getD default).toNat < 102 ∧ c3.isSome = true then
            let c4 := (tcoef_digit N (decide (a3 < 0)))
            if c4.isSome = true ∧ (ByteArray.size (c3.getD default).1 : Int) + ByteArray.size (c4.getD default) ≤ 9223372036854775807 then
              some (((c3.getD default).1 ++ (c4.getD default)), true)
            else none
          else none
        else
          let c5 := (outbits_Row N 3 7)
          if c5.isSome = true then
            let c6 := (outbits_Row N a2 6)
            if c6.isSome = true then
              let c7 := (outbits_Row N ((a3 + 256) % 256) 8)
              if inK .i64 (a3 + 256) ∧ (0 : Int) ≤ (a3 + 256) ∧ c7.isSome = true then
                let c8 := (tcoef_digit N a1)
                let x1 := ((((c5.getD default).1 ++ (c8.getD default)) ++ (c6.getD default).1) ++ (c7.getD default).1)
                if c8.isSome = true ∧ (ByteArray.size (c5.getD default).1 : Int) + ByteArray.size (c8.getD default) ≤ 9223372036854775807 ∧ (ByteArray.size ((c5.getD default).1 ++ (c8.getD default)) : Int) + ByteArray.size (c6.getD default).1 ≤ 9223372036854775807 ∧ (ByteArray.size (((c5.getD default).1 ++ (c8.getD default)) ++ (c6.getD default).1) : Int) + ByteArray.size (c7.getD default).1 ≤ 9223372036854775807 then
                  some (x1, true)
                else none
              else none
            else none
          else none
      else none
  else none
def sp_tcoef_Row (N : Nat) : X.Spec := fun args lk => match args with
  | [.v (.agg [.cs [.bool a1, .int .i64 a2, .int .i64 a3]])] => some ⟨(tcoef_Row N a1 a2 a3).isSome = true, .tup [.c (.str ((tcoef_Row N a1 a2 a3).getD default).1), .c (.bool ((tcoef_Row N a1 a2 a3).getD default).2)], [], []⟩
  | _ => none
set_option maxRecDepth 100000 in
set_option maxHeartbeats 1000000 in
theorem ok_tcoef_Row (N : Nat) : FnOK Tryd.prog gt0 16 (sp_tcoef_Row N) := by
  refine fnOK_handed Tryd.func16 rfl (by kernel_rfl) tt_ok (ktCons (ok_tcoef_digit N) (ktCons (ok_outbits_Row N) (ktCons (ok_tcoef_place N) (ktCons (ok_tcoef_Right N) (ktNil))))) ?_
  intro args lk r h hp
  unfold sp_tcoef_Row at h
  split at h
  · rename_i a1 a2 a3
    cases h
    obtain ⟨x, hx⟩ := Option.isSome_iff_exists.1 hp
    simp only [hx, Option.getD_some]
    refine hand0 rfl rfl (fun w0 M ε0 hX => ?_)
    refine rCount (fun hε => ?_)
    have hT : tcoef_Row N a1 a2 a3 = some x := hx; clear hx hp; unfold tcoef_Row at hT
    refine rSeq ?_
    refine zReg md0 hX rfl rfl rfl ?_
    refine rThen ?_
    refine rSeq ?_
    refine rSeq ?_
    let c1 := (tcoef_Right N a1 a2 a3)
    replace hT := sIf hT; obtain ⟨o1, hT⟩ := hT
    refine zReg md0 hX rfl rfl rfl ?_
    refine rThen ?_
    refine zCond rfl rfl (fun hc => ?_) (fun hc => ?_)
    · replace hT := sT hc hT
      refine rSeq ?_
      refine zReg md0 hX rfl rfl rfl ?_
      refine rThen ?_
      refine rRet ?_
      refine rThenRet ?_
      have hy := Option.some.inj hT; subst hy
      exact zEnd0 hX rfl
    · replace hT := sF hc hT
      refine rSkip ?_
      refine rThen ?_
      refine rSeq ?_
      refine rSeq ?_
      let c2 := (tcoef_place N a1 a2 (max a3 (-a3)))
      replace hT := sIf hT; obtain ⟨⟨o1, o2⟩, hT⟩ := hT
      refine zReg md0 hX rfl rfl rfl ?_
      refine rThen ?_
      refine rSeq ?_
      refine zReg md0 hX rfl rfl rfl ?_
      refine rThen ?_
      refine zCond rfl rfl (fun hc => ?_) (fun hc => ?_)
      · replace hT := sT hc hT
        refine rSeq ?_
        let c3 := (outbits_Row N (codesL.getD (c2.getD default).toNat 0) (lensL.getD (c2.getD default).toNat 0))
        replace hT := sIf hT; obtain ⟨⟨o1, o2, o3, o4⟩, hT⟩ := hT
        refine zDraw md0 0 [] hX mixed rfl rfl rfl rfl rfl ?_
        refine rThen ?_
        refine rSeq ?_
        let c4 := (tcoef_digit N (decide (a3 < 0)))
        replace hT := sIf hT; obtain ⟨⟨o1, o2⟩, hT⟩ := hT
        refine zReg md0 hX rfl rfl rfl ?_
        refine rThen ?_
        refine rRet ?_
        refine rThenRet ?_
        have hy := Option.some.inj hT; subst hy
        exact zEnd0 hX rfl
      · replace hT := sF hc hT
        refine rSkip ?_
        refine rThen ?_
        refine rSeq ?_
        let c5 := (outbits_Row N 3 7)
        replace hT := sIf hT; obtain ⟨o1, hT⟩ := hT
        refine zReg md0 hX rfl rfl rfl ?_
        refine rThen ?_
        refine rSeq ?_
        let c6 := (outbits_Row N a2 6)
        replace hT := sIf hT; obtain ⟨o1, hT⟩ := hT
        refine zReg md0 hX rfl rfl rfl ?_
        refine rThen ?_
        refine rSeq ?_
        let c7 := (outbits_Row N ((a3 + 256) % 256) 8)
        replace hT := sIf hT; obtain ⟨⟨o1, o2, o3⟩, hT⟩ := hT
        refine zReg md0 hX rfl rfl rfl ?_
        refine rThen ?_
        refine rSeq ?_
        let c8 := (tcoef_digit N a1)
        let x1 := ((((c5.getD default).1 ++ (c8.getD default)) ++ (c6.getD default).1) ++ (c7.getD default).1)
        replace hT := sIf hT; obtain ⟨⟨o1, o2, o3, o4⟩, hT⟩ := hT
        refine zReg md0 hX rfl rfl rfl ?_
        refine rThen ?_
        refine rRet ?_
        have hy := Option.some.inj hT; subst hy
        exact zEnd0 hX rfl
  · cases h
def overspill_inbits_Reader_At (N : Nat) (a1 : ByteArray) (a2 : Int) : Option Int :=
  some a2
def sp_overspill_inbits_Reader_At (N : Nat) : X.Spec := fun args lk => match args with
  | [.v (.c (.ptr i0 0 0 0 0 0))] => (match lk i0 with
    | some (.mem _ _ _ (.flat [.cs [.str a1, .int .i64 a2]])) => some ⟨(overspill_inbits_Reader_At N a1 a2).isSome = true, .v (.c (.int .i64 ((overspill_inbits_Reader_At N a1 a2).getD default))), [], []⟩
    | _ => none)
  | _ => none
set_option maxRecDepth 100000 in
set_option maxHeartbeats 1000000 in
theorem ok_overspill_inbits_Reader_At (N : Nat) : FnOK Tryd.prog gt0 11 (sp_overspill_inbits_Reader_At N) := by
  refine fnOK_handed Tryd.func11 rfl (by kernel_rfl) tt_ok (ktNil) ?_
  intro args lk r h hp
  unfold sp_overspill_inbits_Reader_At at h
  split at h
  · rename_i i0
    split at h
    · rename_i _ _ _ a1 a2 hl0
      cases h
      obtain ⟨x, hx⟩ := Option.isSome_iff_exists.1 hp
      simp only [hx, Option.getD_some]
      refine handL [i0] 1 [(0, .mem false 45 none (.flat [.cs [.str a1, .int .i64 a2]]))] [.v (.c (.ptr 0 0 0 0 0 0))] rfl rfl rfl ⟨isSome_of hl0, trivial⟩ ⟨⟨rfl, (by repeat' first | exact True.intro | exact rfl | exact ⟨_, rfl, rfl⟩ | apply And.intro | exact Or.inl rfl), _, hl0, sub_ro⟩, trivial⟩ rfl (fun w0 M ε0 hX => ?_)
      refine rCount (fun hε => ?_)
      have hT : overspill_inbits_Reader_At N a1 a2 = some x := hx; clear hx hp; unfold overspill_inbits_Reader_At at hT
      refine rSeq ?_
      refine zReg md0 hX rfl rfl rfl ?_
      refine rThen ?_
      refine rSeq ?_
      refine rSeq ?_
      refine zReg md0 hX rfl rfl rfl ?_
      refine rThen ?_
      refine rCondF rfl rfl (by (repeat' first | exact True.intro | with_reducible assumption | (with_reducible apply And.intro) | intro _) <;> first | assumption | exact rfl | omega | exact Nat.le_of_ble_eq_true rfl | exact selF (by assumption) | exact selT (by assumption) | exact And.intro rfl rfl | exact And.intro (by assumption) rfl | exact And.intro (by omega) rfl | (simp only [inK] at *; omega) | (simp_all [sel] <;> fail) | fail) rfl ?_
      refine rSkip ?_
      refine rThen ?_
      refine rSeq ?_
      refine zReg md0 hX rfl rfl rfl ?_
      refine rThen ?_
      refine rRet ?_
      have hy := Option.some.inj hT; subst hy
      exact zEnd0 hX rfl
    · cases h
  · cases h
def overspill_inbits_Reader_Peek_b1 (N : Nat) (a1 : Int) (a2 : ByteArray) (a3 : Int) (s1 : (Int × Int)) : Option ((Int × Int) ⊕ Int) :=
  bif (decide (s1.2 < a1)) then
    if inK .i64 (a3 + s1.2) then
      let x1 := ((Int.toNat (s1.1 * 2 ^ (Int.toNat 1)) ||| Int.toNat ((Int.toNat ((byteI a2 ((a3 + s1.2) / 8).toNat) / 2 ^ (Int.toNat ((7 : Int) - ((a3 + s1.2) % 8)))) &&& Int.toNat 1 : Nat) : Int) : Nat) : Int)
      if inK .i64 (s1.1 * 2 ^ (Int.toNat 1)) ∧ (0 : Int) ≤ (a3 + s1.2) ∧ (0 : Int) ≤ ((a3 + s1.2) / 8) ∧ ((a3 + s1.2) / 8) < (ByteArray.size a2 : Int) ∧ inK .i64 ((7 : Int) - ((a3 + s1.2) % 8)) ∧ inK .u64 ((7 : Int) - ((a3 + s1.2) % 8)) ∧ (0 : Int) ≤ ((7 : Int) - ((a3 + s1.2) % 8)) ∧ (((7 : Int) - ((a3 + s1.2) % 8))).toNat ≤ 8 ∧ (0 : Int) ≤ ((byteI a2 ((a3 + s1.2) / 8).toNat) / 2 ^ (Int.toNat ((7 : Int) - ((a3 + s1.2) % 8)))) ∧ inK .i64 ((Int.toNat ((byteI a2 ((a3 + s1.2) / 8).toNat) / 2 ^ (Int.toNat ((7 : Int) - ((a3 + s1.2) % 8)))) &&& Int.toNat 1 : Nat) : Int) ∧ (0 : Int) ≤ (s1.1 * 2 ^ (Int.toNat 1)) ∧ (0 : Int) ≤ ((Int.toNat ((byteI a2 ((a3 + s1.2) / 8).toNat) / 2 ^ (Int.toNat ((7 : Int) - ((a3 + s1.2) % 8)))) &&& Int.toNat 1 : Nat) : Int) then
        if inK .i64 (s1.2 + 1) then
          some (.inl (x1, (s1.2 + 1)))
        else none
      else none
    else none
  else
    some (.inr s1.1)
def overspill_inbits_Reader_Peek (N : Nat) (a1 : Int) (a2 : ByteArray) (a3 : Int) : Option (Int × Int) :=
  bif (bif (decide (a1 < 0)) then (decide (a1 < 0)) else (decide ((32 : Int) < a1))) then
    some (0, 1)
  else
    if inK .i64 ((8 : Int) * (ByteArray.size a2 : Int)) ∧ inK .i64 (((8 : Int) * (ByteArray.size a2 : Int)) - a3) then
      bif (decide ((((8 : Int) * (ByteArray.size a2 : Int)) - a3) < a1)) then
        some (0, 2)
      else
        (iter (overspill_inbits_Reader_Peek_b1 N a1 a2 a3) N (0, 0)).bind fun v1 =>
          some (v1, 0)
    else none
def sp_overspill_inbits_Reader_Peek (N : Nat) : X.Spec := fun args lk => match args with
  | [.v (.c (.ptr i0 0 0 0 0 0)), .v (.c (.int .i64 a1))] => (match lk i0 with
    | some (.mem _ _ _ (.flat [.cs [.str a2, .int .i64 a3]])) => some ⟨(overspill_inbits_Reader_Peek N a1 a2 a3).isSome = true, .tup [.c (.int .i64 ((overspill_inbits_Reader_Peek N a1 a2 a3).getD default).1), .c (.int .i64 ((overspill_inbits_Reader_Peek N a1 a2 a3).getD default).2)], [], []⟩
    | _ => none)
  | _ => none
set_option maxRecDepth 100000 in
set_option maxHeartbeats 1000000 in
theorem ok_overspill_inbits_Reader_Peek (N : Nat) : FnOK Tryd.prog gt0 50 (sp_overspill_inbits_Reader_Peek N) := by
  refine fnOK_handed Tryd.func50 rfl (by kernel_rfl) tt_ok (ktNil) ?_
  intro args lk r h hp
  unfold sp_overspill_inbits_Reader_Peek at h
  split at h
  · rename_i i0 a1
    split at h
    · rename_i _ _ _ a2 a3 hl0
      cases h
      obtain ⟨x, hx⟩ := Option.isSome_iff_exists.1 hp
      simp only [hx, Option.getD_some]
      refine handL [i0] 1 [(0, .mem false 45 none (.flat [.cs [.str a2, .int .i64 a3]]))] [.v (.c (.ptr 0 0 0 0 0 0)), .v (.c (.int .i64 a1))] rfl rfl rfl ⟨isSome_of hl0, trivial⟩ ⟨⟨rfl, (by repeat' first | exact True.intro | exact rfl | exact ⟨_, rfl, rfl⟩ | apply And.intro | exact Or.inl rfl), _, hl0, sub_ro⟩, trivial⟩ rfl (fun w0 M ε0 hX => ?_)
      refine rCount (fun hε => ?_)
      have hT : overspill_inbits_Reader_Peek N a1 a2 a3 = some x := hx; clear hx hp; unfold overspill_inbits_Reader_Peek at hT
      refine rSeq ?_
      refine zReg md0 hX rfl rfl rfl ?_
      refine rThen ?_
      refine rSeq ?_
      refine rBlock ?_
      refine rSeq ?_
      refine rSeq ?_
      refine zReg md0 hX rfl rfl rfl ?_
      refine rThen ?_
      refine rCondF rfl rfl (by (repeat' first | exact True.intro | with_reducible assumption | (with_reducible apply And.intro) | intro _) <;> first | assumption | exact rfl | omega | exact Nat.le_of_ble_eq_true rfl | exact selF (by assumption) | exact selT (by assumption) | exact And.intro rfl rfl | exact And.intro (by assumption) rfl | exact And.intro (by omega) rfl | (simp only [inK] at *; omega) | (simp_all [sel] <;> fail) | fail) rfl ?_
      refine rSeq ?_
      refine zReg md0 hX rfl rfl rfl ?_
      refine rThen ?_
      refine rJoin ⟨[(0, .v (.c (.ptr 0 0 0 0 0 0))), (1, .v (.c (.int .i64 a1))), (4, .v (.c (.int .i64 0))), (5, .v (.c (.int .i64 0))), (9, .v (.c (.bool (bif (decide (a1 < 0)) then (decide (a1 < 0)) else (decide ((32 : Int) < a1))))))], [(0, .mem false 45 none (.flat [.cs [.str a2, .int .i64 a3]]))], 1⟩ ?_ (fun hj => ?_)
      · skip
        refine rThen ?_
        refine zCond rfl rfl (fun hc => ?_) (fun hc => ?_)
        · replace hT := sT hc hT
          refine rSeq ?_
          refine zReg md0 hX rfl rfl rfl ?_
          refine rThen ?_
          refine rRet ?_
          refine rInRet ?_
          refine rThenRet ?_
          have hy := Option.some.inj hT; subst hy
          exact zEnd0 hX rfl
        · replace hT := sF hc hT
          refine rSeq ?_
          replace hT := sIf hT; obtain ⟨⟨o1, o2⟩, hT⟩ := hT
          refine zDraw md0 0 [] hX mixed rfl rfl rfl rfl rfl ?_
          refine rThen ?_
          refine zCond rfl rfl (fun hc => ?_) (fun hc => ?_)
          · replace hT := sT hc hT
            refine rSeq ?_
            refine zReg md0 hX rfl rfl rfl ?_
            refine rThen ?_
            refine rRet ?_
            refine rInRet ?_
            refine rThenRet ?_
            have hy := Option.some.inj hT; subst hy
            exact zEnd0 hX rfl
          · replace hT := sF hc hT
            refine rSkip ?_
            refine rInNormal ?_
            refine rThen ?_
            refine rSeq ?_
            refine zReg md0 hX rfl rfl rfl ?_
            refine rThen ?_
            refine rSeq ?_
            refine rSeq ?_
            refine zReg md0 hX rfl rfl rfl ?_
            refine rThen ?_
            refine rBlock ?_
            replace hT := sBind hT; obtain ⟨w1, hl, hT⟩ := hT
            refine rJoinA (fun v1 => v1 = w1) (fun v1 => ⟨[(4, .v (.c (.int .i64 0))), (5, .v (.c (.int .i64 0))), (6, .v (.c (.int .i64 v1)))], [(0, .mem false 45 none (.flat [.cs [.str a2, .int .i64 a3]]))], 1⟩) (.exit 1) (fun v1 hv => ?_) (fun hxs10 => ?_)
            · subst hv; clear hl
              refine rInHit ?_
              refine rThen ?_
              refine rSeq ?_
              refine zReg md0 hX rfl rfl rfl ?_
              refine rThen ?_
              refine rRet ?_
              have hy := Option.some.inj hT; subst hy
              exact zEnd0 hX rfl
            refine rLoopM (overspill_inbits_Reader_Peek_b1 N a1 a2 a3) (fun s1 => ⟨[(0, .v (.c (.ptr 0 0 0 0 0 0))), (4, .v (.c (.int .i64 0))), (5, .v (.c (.int .i64 0))), (6, .v (.c (.int .i64 s1.1))), (30, .v (.c (.int .i64 a1))), (31, .v (.c (.int .i64 s1.2)))], [(0, .mem false 45 none (.flat [.cs [.str a2, .int .i64 a3]]))], 1⟩) hl (To.mk' [] 1 hε rfl (by repeat' first | exact True.intro | exact rfl | apply And.intro) (by repeat' first | exact True.intro | exact rfl | apply And.intro)) (fun s1 zs1 NNs1 hz hnexts1 houts1 => ?_)
            clear hl hT
            have hT := hz; clear hz
            refine rSeq ?_
            refine zReg md0 hX rfl rfl rfl ?_
            refine rThen ?_
            refine rSeq ?_
            refine zCond rfl rfl (fun hc => ?_) (fun hc => ?_)
            · replace hT := sT hc hT
              refine rSkip ?_
              refine rThen ?_
              refine rSeq ?_
              refine rBlock ?_
              refine rSeq ?_
              refine zReg md0 hX rfl rfl rfl ?_
              refine rThen ?_
              refine rSeq ?_
              replace hT := sIf hT; obtain ⟨o1, hT⟩ := hT
              refine zReg md0 hX rfl rfl rfl ?_
              refine rThen ?_
              let x1 := ((Int.toNat (s1.1 * 2 ^ (Int.toNat 1)) ||| Int.toNat ((Int.toNat ((byteI a2 ((a3 + s1.2) / 8).toNat) / 2 ^ (Int.toNat ((7 : Int) - ((a3 + s1.2) % 8)))) &&& Int.toNat 1 : Nat) : Int) : Nat) : Int)
              replace hT := sIf hT; obtain ⟨⟨o1, o2, o3, o4, o5, o6, o7, o8, o9, o10, o11, o12⟩, hT⟩ := hT
              refine zReg md0 hX rfl rfl rfl ?_
              refine rInNormal ?_
              refine rThen ?_
              replace hT := sIf hT; obtain ⟨o1, hT⟩ := hT
              refine zReg md0 hX rfl rfl rfl ?_
              exact hnexts1 _ (Option.some.inj hT).symm _ (To.mk' [] 1 hε rfl (by repeat' first | exact True.intro | exact rfl | apply And.intro) (by repeat' first | exact True.intro | exact rfl | apply And.intro))
            · replace hT := sF hc hT
              refine rExit ?_
              refine rThenExit ?_
              refine rThenExit ?_
              exact zTo [] 1 hε (hxs10 _ (houts1 _ (Option.some.inj hT).symm))
      · clear hT
        refine zCond rfl rfl (fun hc => ?_) (fun hc => ?_)
        · skip
          refine rSkip ?_
          exact rTo (To.mk' [] 1 hε rfl (by (repeat' first | exact True.intro | exact rfl | apply And.intro) <;> (repeat' first | exact rfl | refine Eq.trans ?_ (cTr (by assumption)) | refine Eq.trans ?_ (cFr (by assumption)) | refine Eq.trans (cTl (by assumption)) ?_ | refine Eq.trans (cFl (by assumption)) ?_)) (by (repeat' first | exact True.intro | exact rfl | apply And.intro) <;> (repeat' first | exact rfl | refine Eq.trans ?_ (cTr (by assumption)) | refine Eq.trans ?_ (cFr (by assumption)) | refine Eq.trans (cTl (by assumption)) ?_ | refine Eq.trans (cFl (by assumption)) ?_))) hj
        · skip
          refine zReg md0 hX rfl rfl rfl ?_
          exact rTo (To.mk' [] 1 hε rfl (by (repeat' first | exact True.intro | exact rfl | apply And.intro) <;> (repeat' first | exact rfl | refine Eq.trans ?_ (cTr (by assumption)) | refine Eq.trans ?_ (cFr (by assumption)) | refine Eq.trans (cTl (by assumption)) ?_ | refine Eq.trans (cFl (by assumption)) ?_)) (by (repeat' first | exact True.intro | exact rfl | apply And.intro) <;> (repeat' first | exact rfl | refine Eq.trans ?_ (cTr (by assumption)) | refine Eq.trans ?_ (cFr (by assumption)) | refine Eq.trans (cTl (by assumption)) ?_ | refine Eq.trans (cFl (by assumption)) ?_))) hj
    · cases h
  · cases h
def overspill_inbits_Reader_Take (N : Nat) (a1 : Int) (a2 : ByteArray) (a3 : Int) : Option (Int × Int × ByteArray × Int) :=
  let c1 := (overspill_inbits_Reader_Peek N a1 a2 a3)
  if c1.isSome = true then
    if ((decide ((c1.getD default).2 = 0)) = true → inK .i64 (a3 + a1)) then
      some ((c1.getD default).1, (c1.getD default).2, a2, (bif (decide ((c1.getD default).2 = 0)) then (a3 + a1) else a3))
    else none
  else none
def sp_overspill_inbits_Reader_Take (N : Nat) : X.Spec := fun args lk => match args with
  | [.v (.c (.ptr i0 0 0 0 0 0)), .v (.c (.int .i64 a1))] => (match lk i0 with
    | some (.mem true 45 none (.flat [.cs [.str a2, .int .i64 a3]])) => some ⟨(overspill_inbits_Reader_Take N a1 a2 a3).isSome = true, .tup [.c (.int .i64 ((overspill_inbits_Reader_Take N a1 a2 a3).getD default).1), .c (.int .i64 ((overspill_inbits_Reader_Take N a1 a2 a3).getD default).2.1)], [], [(i0, .mem true 45 none (.flat [.cs [.str ((overspill_inbits_Reader_Take N a1 a2 a3).getD default).2.2.1, .int .i64 ((overspill_inbits_Reader_Take N a1 a2 a3).getD default).2.2.2]]))]⟩
    | _ => none)
  | _ => none
set_option maxRecDepth 100000 in
set_option maxHeartbeats 1000000 in
theorem ok_overspill_inbits_Reader_Take (N : Nat) : FnOK Tryd.prog gt0 37 (sp_overspill_inbits_Reader_Take N) := by
  refine fnOK_handed Tryd.func37 rfl (by kernel_rfl) tt_ok (ktCons (ok_overspill_inbits_Reader_Peek N) (ktNil)) ?_
  intro args lk r h hp
  unfold sp_overspill_inbits_Reader_Take at h
  split at h
  · rename_i i0 a1
    split at h
    · rename_i a2 a3 hl0
      cases h
      obtain ⟨x, hx⟩ := Option.isSome_iff_exists.1 hp
      simp only [hx, Option.getD_some]
      refine handL [i0] 1 [(0, .mem true 45 none (.flat [.cs [.str a2, .int .i64 a3]]))] [.v (.c (.ptr 0 0 0 0 0 0)), .v (.c (.int .i64 a1))] rfl rfl rfl ⟨isSome_of hl0, trivial⟩ ⟨⟨rfl, (by repeat' first | exact True.intro | exact rfl | exact ⟨_, rfl, rfl⟩ | apply And.intro | exact Or.inl rfl), _, hl0, .inl rfl⟩, trivial⟩ rfl (fun w0 M ε0 hX => ?_)
      refine rCount (fun hε => ?_)
      have hT : overspill_inbits_Reader_Take N a1 a2 a3 = some x := hx; clear hx hp; unfold overspill_inbits_Reader_Take at hT
      refine rSeq ?_
      refine zReg md0 hX rfl rfl rfl ?_
      refine rThen ?_
      refine rSeq ?_
      let c1 := (overspill_inbits_Reader_Peek N a1 a2 a3)
      replace hT := sIf hT; obtain ⟨o1, hT⟩ := hT
      refine zReg md0 hX rfl rfl rfl ?_
      refine rThen ?_
      refine rSeq ?_
      refine rSeq ?_
      refine zReg md0 hX rfl rfl rfl ?_
      refine rThen ?_
      replace hT := sIf hT; obtain ⟨q1, hT⟩ := hT
      refine rJoin ⟨[(4, .v (.c (.int .i64 0))), (5, .v (.c (.int .i64 0))), (6, .v (.c (.int .i64 (c1.getD default).1))), (7, .v (.c (.int .i64 (c1.getD default).2)))], [(0, .mem true 45 none (.flat [.cs [.str a2, .int .i64 (bif (decide ((c1.getD default).2 = 0)) then (a3 + a1) else a3)]]))], 1⟩ ?_ (fun hj => ?_)
      · skip
        refine rThen ?_
        refine rSeq ?_
        refine zReg md0 hX rfl rfl rfl ?_
        refine rThen ?_
        refine rRet ?_
        have hy := Option.some.inj hT; subst hy
        exact rEndA [] [] [(0, .mem true 45 none (.flat [.cs [.str a2, .int .i64 (bif (decide ((c1.getD default).2 = 0)) then (a3 + a1) else a3)]]))] (.tup [.c (.int .i64 (c1.getD default).1), .c (.int .i64 (c1.getD default).2)]) hX rfl (by repeat' first | exact True.intro | exact rfl | apply And.intro | omega | exact Nat.le_of_ble_eq_true rfl) (by repeat' first | exact True.intro | exact rfl | apply And.intro) rfl rfl rfl (by repeat' first | exact True.intro | exact rfl | exact ⟨_, rfl, rfl⟩ | apply And.intro | exact Or.inl rfl) rfl rfl (by repeat' first | exact True.intro | exact rfl | exact ⟨_, rfl, rfl⟩ | apply And.intro | exact Or.inl rfl) rfl rfl
      · clear hT
        refine zCond rfl rfl (fun hc => ?_) (fun hc => ?_)
        · skip
          have q1 := q1 hc
          refine zReg md0 hX rfl rfl rfl ?_
          exact rTo (To.mk' [] 1 hε rfl (by (repeat' first | exact True.intro | exact rfl | apply And.intro) <;> (repeat' first | exact rfl | refine Eq.trans ?_ (cTr (by assumption)) | refine Eq.trans ?_ (cFr (by assumption)) | refine Eq.trans (cTl (by assumption)) ?_ | refine Eq.trans (cFl (by assumption)) ?_)) (by (repeat' first | exact True.intro | exact rfl | apply And.intro) <;> (repeat' first | exact rfl | refine Eq.trans ?_ (cTr (by assumption)) | refine Eq.trans ?_ (cFr (by assumption)) | refine Eq.trans (cTl (by assumption)) ?_ | refine Eq.trans (cFl (by assumption)) ?_))) hj
        · skip
          refine rSkip ?_
          exact rTo (To.mk' [] 1 hε rfl (by (repeat' first | exact True.intro | exact rfl | apply And.intro) <;> (repeat' first | exact rfl | refine Eq.trans ?_ (cTr (by assumption)) | refine Eq.trans ?_ (cFr (by assumption)) | refine Eq.trans (cTl (by assumption)) ?_ | refine Eq.trans (cFl (by assumption)) ?_)) (by (repeat' first | exact True.intro | exact rfl | apply And.intro) <;> (repeat' first | exact rfl | refine Eq.trans ?_ (cTr (by assumption)) | refine Eq.trans ?_ (cFr (by assumption)) | refine Eq.trans (cTl (by assumption)) ?_ | refine Eq.trans (cFl (by assumption)) ?_))) hj
    · cases h
  · cases h
def tcoef_find_b1 (N : Nat) (a1 : Int) (a2 : Int) (s1 : (Bool × Int)) : Option ((Bool × Int) ⊕ (Int ⊕ Bool)) :=
  bif (decide (s1.2 < 102)) then
    if (0 : Int) ≤ s1.2 ∧ s1.2 < 102 ∧ (s1.2).toNat < 102 then
      let x3 := (bif (decide ((lensL.getD (s1.2).toNat 0) = a2)) then (decide ((codesL.getD (s1.2).toNat 0) = a1)) else false)
      if ((decide ((lensL.getD (s1.2).toNat 0) = a2)) = true → (0 : Int) ≤ s1.2) ∧ ((decide ((lensL.getD (s1.2).toNat 0) = a2)) = true → s1.2 < 102) ∧ ((decide ((lensL.getD (s1.2).toNat 0) = a2)) = true → (s1.2).toNat < 102) then
        bif x3 then
          some (.inr (Sum.inl s1.2))
        else
          let x5 := (bif (decide (a2 < (lensL.getD (s1.2).toNat 0))) then (decide (((codesL.getD (s1.2).toNat 0) / 2 ^ (Int.toNat ((lensL.getD (s1.2).toNat 0) - a2))) = a1)) else false)
          if ((decide (a2 < (lensL.getD (s1.2).toNat 0))) = true → (0 : Int) ≤ s1.2) ∧ ((decide (a2 < (lensL.getD (s1.2).toNat 0))) = true → s1.2 < 102) ∧ ((decide (a2 < (lensL.getD (s1.2).toNat 0))) = true → (s1.2).toNat < 102) ∧ ((decide (a2 < (lensL.getD (s1.2).toNat 0))) = true → inK .i64 ((lensL.getD (s1.2).toNat 0) - a2)) ∧ ((decide (a2 < (lensL.getD (s1.2).toNat 0))) = true → inK .u64 ((lensL.getD (s1.2).toNat 0) - a2)) ∧ ((decide (a2 < (lensL.getD (s1.2).toNat 0))) = true → (0 : Int) ≤ ((lensL.getD (s1.2).toNat 0) - a2)) ∧ ((decide (a2 < (lensL.getD (s1.2).toNat 0))) = true → (((lensL.getD (s1.2).toNat 0) - a2)).toNat ≤ 64) then
            joinK (fun (v3 : Bool) =>
              if inK .i64 (s1.2 + 1) then
                some (.inl (v3, (s1.2 + 1)))
              else none
            ) fun k1 =>
              bif x5 then
                k1 true
              else
                k1 s1.1
          else none
      else none
    else none
  else
    some (.inr (Sum.inr s1.1))
def tcoef_find (N : Nat) (a1 : Int) (a2 : Int) : Option (Int × Bool) :=
  (iter (tcoef_find_b1 N a1 a2) N (false, 0)).bind fun w1 =>
    (Sum.elim (fun v1 =>
      some (v1, true)
    )
      (fun v2 =>
        let x1 := (bif v2 then true else (bif (decide (a2 < 7)) then (decide (((3 : Int) / 2 ^ (Int.toNat ((7 : Int) - a2))) = a1)) else false))
        if (((!v2) && (decide (a2 < 7))) = true → inK .i64 ((7 : Int) - a2)) ∧ (((!v2) && (decide (a2 < 7))) = true → inK .u64 ((7 : Int) - a2)) ∧ (((!v2) && (decide (a2 < 7))) = true → (0 : Int) ≤ ((7 : Int) - a2)) ∧ (((!v2) && (decide (a2 < 7))) = true → (((7 : Int) - a2)).toNat ≤ 64) ∧ ((!v2) = true → ((decide (a2 < 7)) = true → ((!v2) && (decide (a2 < 7))) = true)) then
          some ((-1), x1)
        else none
      )
    ) w1
def sp_tcoef_find (N : Nat) : X.Spec := fun args lk => match args with
  | [.v (.c (.int .i64 a1)), .v (.c (.int .i64 a2))] => some ⟨(tcoef_find N a1 a2).isSome = true, .tup [.c (.int .i64 ((tcoef_find N a1 a2).getD default).1), .c (.bool ((tcoef_find N a1 a2).getD default).2)], [], []⟩
  | _ => none
set_option maxRecDepth 100000 in
set_option maxHeartbeats 1000000 in
theorem ok_tcoef_find (N : Nat) : FnOK Tryd.prog gt0 39 (sp_tcoef_find N) := by
  refine fnOK_handed Tryd.func39 rfl (by kernel_rfl) tt_ok (ktNil) ?_
  intro args lk r h hp
  unfold sp_tcoef_find at h
  split at h
  · rename_i a1 a2
    cases h
    obtain ⟨x, hx⟩ := Option.isSome_iff_exists.1 hp
    simp only [hx, Option.getD_some]
    refine hand0 rfl rfl (fun w0 M ε0 hX => ?_)
    refine rCount (fun hε => ?_)
    have hT : tcoef_find N a1 a2 = some x := hx; clear hx hp; unfold tcoef_find at hT
    refine rSeq ?_
    refine zReg md0 hX rfl rfl rfl ?_
    refine rThen ?_
    refine rSeq ?_
    refine rSeq ?_
    refine zReg md0 hX rfl rfl rfl ?_
    refine rThen ?_
    refine rBlock ?_
    replace hT := sBind hT; obtain ⟨w1, hl, hT⟩ := hT
    refine rJoinA (fun v1 => (Sum.inl v1) = w1) (fun v1 => ⟨[(4, .v (.c (.int .i64 v1))), (5, .v (.c (.bool true)))], [], 0⟩) .ret (fun v1 hv => ?_) (fun hxs10 => ?_)
    · subst hv; clear hl; replace hT := (sElimL hT)
      refine rInRet ?_
      refine rThenRet ?_
      have hy := Option.some.inj hT; subst hy
      exact zEnd0 hX rfl
    refine rJoinA (fun v2 => (Sum.inr v2) = w1) (fun v2 => ⟨[(0, .v (.c (.int .i64 a1))), (1, .v (.c (.int .i64 a2))), (4, .v (.c (.int .i64 0))), (5, .v (.c (.bool v2)))], [], 0⟩) (.exit 0) (fun v2 hv => ?_) (fun hxs11 => ?_)
    · subst hv; clear hl; replace hT := (sElimR hT)
      refine rInHit ?_
      refine rThen ?_
      refine rSeq ?_
      let x1 := (bif v2 then true else (bif (decide (a2 < 7)) then (decide (((3 : Int) / 2 ^ (Int.toNat ((7 : Int) - a2))) = a1)) else false))
      replace hT := sIf hT; obtain ⟨⟨o1, o2, o3, o4, o5⟩, hT⟩ := hT
      refine rRegC md0 hX rfl rfl rfl (by (repeat' first | exact True.intro | with_reducible assumption | (with_reducible apply And.intro) | intro _) <;> first | assumption | exact o1 (by assumption) | exact o2 (by assumption) | exact o3 (by assumption) | exact o4 (by assumption) | exact o5 (by assumption) (by assumption) | exact rfl | omega | exact Nat.le_of_ble_eq_true rfl | exact selF (by assumption) | exact selT (by assumption) | exact And.intro rfl rfl | exact And.intro (by assumption) rfl | exact And.intro (by omega) rfl | (simp only [inK] at *; omega) | (simp_all [sel] <;> fail) | fail) ?_
      refine rThen ?_
      refine rRet ?_
      have hy := Option.some.inj hT; subst hy
      exact zEnd0 hX rfl
    refine rLoopM (tcoef_find_b1 N a1 a2) (fun s1 => ⟨[(0, .v (.c (.int .i64 a1))), (1, .v (.c (.int .i64 a2))), (4, .v (.c (.int .i64 0))), (5, .v (.c (.bool s1.1))), (8, .v (.c (.int .i64 s1.2)))], [], 0⟩) hl (To.mk' [] 0 hε rfl (by repeat' first | exact True.intro | exact rfl | apply And.intro) (by repeat' first | exact True.intro | exact rfl | apply And.intro)) (fun s1 zs1 NNs1 hz hnexts1 houts1 => ?_)
    clear hl hT
    have hT := hz; clear hz
    refine rSeq ?_
    refine zReg md0 hX rfl rfl rfl ?_
    refine rThen ?_
    refine rSeq ?_
    refine zCond rfl rfl (fun hc => ?_) (fun hc => ?_)
    · replace hT := sT hc hT
      refine rSkip ?_
      refine rThen ?_
      refine rSeq ?_
      refine rBlock ?_
      refine rSeq ?_
      refine zReg md0 hX rfl rfl rfl ?_
      refine rThen ?_
      refine rSeq ?_
      replace hT := sIf hT; obtain ⟨⟨o1, o2, o3⟩, hT⟩ := hT
      refine zReg md0 hX rfl rfl rfl ?_
      refine rThen ?_
      refine rBlock ?_
      refine rSeq ?_
      let x3 := (bif (decide ((lensL.getD (s1.2).toNat 0) = a2)) then (decide ((codesL.getD (s1.2).toNat 0) = a1)) else false)
      replace hT := sIf hT; obtain ⟨⟨o1, o2, o3⟩, hT⟩ := hT
      refine rRegC md0 hX rfl rfl rfl (by (repeat' first | exact True.intro | with_reducible assumption | (with_reducible apply And.intro) | intro _) <;> first | assumption | exact o1 (by assumption) | exact o2 (by assumption) | exact o3 (by assumption) | exact rfl | omega | exact Nat.le_of_ble_eq_true rfl | exact selF (by assumption) | exact selT (by assumption) | exact And.intro rfl rfl | exact And.intro (by assumption) rfl | exact And.intro (by omega) rfl | (simp only [inK] at *; omega) | (simp_all [sel] <;> fail) | fail) ?_
      refine rThen ?_
      refine zCond rfl rfl (fun hc => ?_) (fun hc => ?_)
      · replace hT := sT hc hT
        refine rSeq ?_
        refine zReg md0 hX rfl rfl rfl ?_
        refine rThen ?_
        refine rRet ?_
        refine rInRet ?_
        refine rInRet ?_
        refine rThenRet ?_
        refine rThenRet ?_
        exact zTo [] 0 hε (hxs10 _ (houts1 _ (Option.some.inj hT).symm))
      · replace hT := sF hc hT
        refine rSeq ?_
        let x5 := (bif (decide (a2 < (lensL.getD (s1.2).toNat 0))) then (decide (((codesL.getD (s1.2).toNat 0) / 2 ^ (Int.toNat ((lensL.getD (s1.2).toNat 0) - a2))) = a1)) else false)
        replace hT := sIf hT; obtain ⟨⟨o1, o2, o3, o4, o5, o6, o7⟩, hT⟩ := hT
        refine rRegC md0 hX rfl rfl rfl (by (repeat' first | exact True.intro | with_reducible assumption | (with_reducible apply And.intro) | intro _) <;> first | assumption | exact o1 (by assumption) | exact o2 (by assumption) | exact o3 (by assumption) | exact o4 (by assumption) | exact o5 (by assumption) | exact o6 (by assumption) | exact o7 (by assumption) | exact rfl | omega | exact Nat.le_of_ble_eq_true rfl | exact selF (by assumption) | exact selT (by assumption) | exact And.intro rfl rfl | exact And.intro (by assumption) rfl | exact And.intro (by omega) rfl | (simp only [inK] at *; omega) | (simp_all [sel] <;> fail) | fail) ?_
        refine rThen ?_
        refine rJoinK hT (fun v3 => ⟨[(0, .v (.c (.int .i64 a1))), (1, .v (.c (.int .i64 a2))), (4, .v (.c (.int .i64 0))), (5, .v (.c (.bool v3))), (6, .v (.c (.int .i64 s1.2))), (7, .v (.c (.int .i64 (lensL.getD (s1.2).toNat 0)))), (8, .v (.c (.int .i64 s1.2))), (9, .v (.c (.bool (decide (s1.2 < 102))))), (10, .v (.c (.int .i64 s1.2))), (11, .v (.c (.int .i64 s1.2))), (12, .v (.c (.gp 1 0 0 0 1 (s1.2).toNat))), (13, .v (.c (.int .i64 (lensL.getD (s1.2).toNat 0)))), (14, .v (.c (.bool x3))), (15, .v (.c (.int .i64 (lensL.getD (s1.2).toNat 0)))), (16, .v (.c (.int .i64 a2))), (17, .v (.c (.bool (decide ((lensL.getD (s1.2).toNat 0) = a2))))), (18, .v (.c (.bool (decide ((lensL.getD (s1.2).toNat 0) = a2))))), (24, .v (.c (.bool x3))), (26, .v (.c (.bool x5))), (27, .v (.c (.int .i64 (lensL.getD (s1.2).toNat 0)))), (28, .v (.c (.int .i64 a2))), (29, .v (.c (.bool (decide (a2 < (lensL.getD (s1.2).toNat 0)))))), (30, .v (.c (.bool (decide (a2 < (lensL.getD (s1.2).toNat 0)))))), (41, .v (.c (.bool x5)))], [], 0⟩) (fun v3 hT => ?_) (fun k1 hjk1 hT => ?_)
        · skip
          refine rInNormal ?_
          refine rInNormal ?_
          refine rThen ?_
          replace hT := sIf hT; obtain ⟨o1, hT⟩ := hT
          refine zReg md0 hX rfl rfl rfl ?_
          exact hnexts1 _ (Option.some.inj hT).symm _ (To.mk' [] 0 hε rfl (by repeat' first | exact True.intro | exact rfl | apply And.intro) (by repeat' first | exact True.intro | exact rfl | apply And.intro))
        · skip
          refine zCond rfl rfl (fun hc => ?_) (fun hc => ?_)
          · replace hT := sT hc hT
            refine zReg md0 hX rfl rfl rfl ?_
            exact zTo [] 0 hε (hjk1 _ hT)
          · replace hT := sF hc hT
            refine rSkip ?_
            exact zTo [] 0 hε (hjk1 _ hT)
    · replace hT := sF hc hT
      refine rExit ?_
      refine rThenExit ?_
      refine rThenExit ?_
      exact zTo [] 0 hε (hxs11 _ (houts1 _ (Option.some.inj hT).symm))
  · cases h
def tcoef_event_b1 (N : Nat) (s1 : (Int × Bool × Int)) : Option ((Int × Bool × Int) ⊕ (Bool × Int × Int)) :=
  let c1 := (tcoef_many N s1.2.1 s1.2.2)
  if c1.isSome = true then
    bif (decide ((c1.getD default) = 0)) then
      some (.inl (s1.1, true, 0))
    else
      bif (decide (s1.1 < (c1.getD default))) then
        if inK .i64 (s1.1 + 1) then
          some (.inr (s1.2.1, s1.2.2, (s1.1 + 1)))
        else none
      else
        if inK .i64 (s1.1 - (c1.getD default)) then
          if inK .i64 (s1.2.2 + 1) then
            some (.inl ((s1.1 - (c1.getD default)), s1.2.1, (s1.2.2 + 1)))
          else none
        else none
  else none
def tcoef_event (N : Nat) (a1 : Int) : Option (Bool × Int × Int) :=
  (iter (tcoef_event_b1 N) N (a1, false, 0)).bind fun v1 =>
    some (v1.1, v1.2.1, v1.2.2)
def sp_tcoef_event (N : Nat) : X.Spec := fun args lk => match args with
  | [.v (.c (.int .i64 a1))] => some ⟨(tcoef_event N a1).isSome = true, .v (.agg [.cs [.bool ((tcoef_event N a1).getD default).1, .int .i64 ((tcoef_event N a1).getD default).2.1, .int .i64 ((tcoef_event N a1).getD default).2.2]]), [], []⟩
  | _ => none
set_option maxRecDepth 100000 in
set_option maxHeartbeats 1000000 in
theorem ok_tcoef_event (N : Nat) : FnOK Tryd.prog gt0 40 (sp_tcoef_event N) := by
  refine fnOK_handed Tryd.func40 rfl (by kernel_rfl) tt_ok (ktCons (ok_tcoef_many N) (ktNil)) ?_
  intro args lk r h hp
  unfold sp_tcoef_event at h
  split at h
  · rename_i a1
    cases h
    obtain ⟨x, hx⟩ := Option.isSome_iff_exists.1 hp
    simp only [hx, Option.getD_some]
    refine hand0 rfl rfl (fun w0 M ε0 hX => ?_)
    refine rCount (fun hε => ?_)
    have hT : tcoef_event N a1 = some x := hx; clear hx hp; unfold tcoef_event at hT
    refine rSeq ?_
    refine zReg md0 hX rfl rfl rfl ?_
    refine rThen ?_
    refine rSeq ?_
    refine zReg md0 hX rfl rfl rfl ?_
    refine rThen ?_
    refine rSeq ?_
    refine zReg md0 hX rfl rfl rfl ?_
    refine rThen ?_
    refine rBlock ?_
    replace hT := sBind hT; obtain ⟨w1, hl, hT⟩ := hT
    refine rJoinA (fun v1 => v1 = w1) (fun v1 => ⟨[(2, .v (.c (.ptr 0 0 0 0 0 0)))], [(0, .mem true 28 none (.flat [.cs [.bool v1.1, .int .i64 v1.2.1, .int .i64 v1.2.2]]))], 1⟩) .ret (fun v1 hv => ?_) (fun hxs10 => ?_)
    · subst hv; clear hl
      refine rInRet ?_
      have hy := Option.some.inj hT; subst hy
      exact zEnd0 hX rfl
    refine rLoopM (tcoef_event_b1 N) (fun s1 => ⟨[(0, .v (.c (.int .i64 s1.1))), (2, .v (.c (.ptr 0 0 0 0 0 0))), (3, .v (.c (.bool s1.2.1))), (4, .v (.c (.int .i64 s1.2.2)))], [(0, .mem true 28 none (.flat [.cs [.bool false, .int .i64 0, .int .i64 0]]))], 1⟩) hl (To.mk' [] 0 hε rfl (by repeat' first | exact True.intro | exact rfl | apply And.intro) (by repeat' first | exact True.intro | exact rfl | apply And.intro)) (fun s1 zs1 NNs1 hz hnexts1 houts1 => ?_)
    clear hl hT
    have hT := hz; clear hz
    refine rSeq ?_
    refine rBlock ?_
    refine rSeq ?_
    let c1 := (tcoef_many N s1.2.1 s1.2.2)
    replace hT := sIf hT; obtain ⟨o1, hT⟩ := hT
    refine zReg md0 hX rfl rfl rfl ?_
    refine rThen ?_
    refine rSeq ?_
    refine rSeq ?_
    refine zReg md0 hX rfl rfl rfl ?_
    refine rThen ?_
    refine zCond rfl rfl (fun hc => ?_) (fun hc => ?_)
    · replace hT := sT hc hT
      refine rSeq ?_
      refine zReg md0 hX rfl rfl rfl ?_
      refine rThen ?_
      refine rExit ?_
      refine rThenExit ?_
      refine rInHit ?_
      refine rThen ?_
      refine zReg md0 hX rfl rfl rfl ?_
      exact hnexts1 _ (Option.some.inj hT).symm _ (To.mk' [] 0 hε rfl (by repeat' first | exact True.intro | exact rfl | apply And.intro) (by repeat' first | exact True.intro | exact rfl | apply And.intro))
    · replace hT := sF hc hT
      refine rSkip ?_
      refine rThen ?_
      refine rSeq ?_
      refine rSeq ?_
      refine zReg md0 hX rfl rfl rfl ?_
      refine rThen ?_
      refine zCond rfl rfl (fun hc => ?_) (fun hc => ?_)
      · replace hT := sT hc hT
        refine rSeq ?_
        replace hT := sIf hT; obtain ⟨o1, hT⟩ := hT
        refine zReg md0 hX rfl rfl rfl ?_
        refine rThen ?_
        refine rRet ?_
        refine rThenRet ?_
        refine rInRet ?_
        refine rThenRet ?_
        refine rThenRet ?_
        exact zTo [] 0 hε (hxs10 _ (houts1 _ (Option.some.inj hT).symm))
      · replace hT := sF hc hT
        refine rSkip ?_
        refine rThen ?_
        replace hT := sIf hT; obtain ⟨o1, hT⟩ := hT
        refine zReg md0 hX rfl rfl rfl ?_
        refine rInNormal ?_
        refine rThen ?_
        replace hT := sIf hT; obtain ⟨o1, hT⟩ := hT
        refine zReg md0 hX rfl rfl rfl ?_
        exact hnexts1 _ (Option.some.inj hT).symm _ (To.mk' [] 0 hε rfl (by repeat' first | exact True.intro | exact rfl | apply And.intro) (by repeat' first | exact True.intro | exact rfl | apply And.intro))
  · cases h
def tcoef_escaped (N : Nat) (a1 : ByteArray) (a2 : Int) : Option (Bool × Int × Int × Int × ByteArray × Int) :=
  let c1 := (overspill_inbits_Reader_Take N 15 a1 a2)
  if c1.isSome = true then
    bif (decide ((c1.getD default).2.1 ≠ 0)) then
      some (false, 0, 0, (c1.getD default).2.1, (c1.getD default).2.2.1, (c1.getD default).2.2.2)
    else
      if (0 : Int) ≤ (c1.getD default).1 then
        if ((decide ((128 : Int) ≤ ((c1.getD default).1 % 256))) = true → inK .i64 (((c1.getD default).1 % 256) - 256)) then
          let x1 := (bif (decide ((128 : Int) ≤ ((c1.getD default).1 % 256))) then (((c1.getD default).1 % 256) - 256) else ((c1.getD default).1 % 256))
          if (0 : Int) ≤ ((c1.getD default).1 / 2 ^ (Int.toNat 8)) then
            let c2 := (tcoef_Right N (decide (((c1.getD default).1 / 2 ^ (Int.toNat 14)) = 1)) ((Int.toNat ((c1.getD default).1 / 2 ^ (Int.toNat 8)) &&& Int.toNat 63 : Nat) : Int) x1)
            let c3 := (tcoef_place N (decide (((c1.getD default).1 / 2 ^ (Int.toNat 14)) = 1)) ((Int.toNat ((c1.getD default).1 / 2 ^ (Int.toNat 8)) &&& Int.toNat 63 : Nat) : Int) (max x1 (-x1)))
            if c2.isSome = true ∧ ((!(!(c2.getD default))) = true → inK .i64 (-x1)) ∧ ((!(!(c2.getD default))) = true → c3.isSome = true) then
              bif (bif (!(c2.getD default)) then true else (decide ((0 : Int) ≤ (c3.getD default)))) then
                some (false, 0, 0, 7, (c1.getD default).2.2.1, (c1.getD default).2.2.2)
              else
                some ((decide (((c1.getD default).1 / 2 ^ (Int.toNat 14)) = 1)), ((Int.toNat ((c1.getD default).1 / 2 ^ (Int.toNat 8)) &&& Int.toNat 63 : Nat) : Int), x1, 0, (c1.getD default).2.2.1, (c1.getD default).2.2.2)
            else none
          else none
        else none
      else none
  else none
def sp_tcoef_escaped (N : Nat) : X.Spec := fun args lk => match args with
  | [.v (.c (.ptr i0 0 0 0 0 0))] => (match lk i0 with
    | some (.mem true 45 none (.flat [.cs [.str a1, .int .i64 a2]])) => some ⟨(tcoef_escaped N a1 a2).isSome = true, .tup [.agg [.cs [.bool ((tcoef_escaped N a1 a2).getD default).1, .int .i64 ((tcoef_escaped N a1 a2).getD default).2.1, .int .i64 ((tcoef_escaped N a1 a2).getD default).2.2.1]], .c (.int .i64 ((tcoef_escaped N a1 a2).getD default).2.2.2.1)], [], [(i0, .mem true 45 none (.flat [.cs [.str ((tcoef_escaped N a1 a2).getD default).2.2.2.2.1, .int .i64 ((tcoef_escaped N a1 a2).getD default).2.2.2.2.2]]))]⟩
    | _ => none)
  | _ => none
set_option maxRecDepth 100000 in
set_option maxHeartbeats 1000000 in
theorem ok_tcoef_escaped (N : Nat) : FnOK Tryd.prog gt0 38 (sp_tcoef_escaped N) := by
  refine fnOK_handed Tryd.func38 rfl (by kernel_rfl) tt_ok (ktCons (ok_tcoef_place N) (ktCons (ok_tcoef_Right N) (ktCons (ok_overspill_inbits_Reader_Take N) (ktNil)))) ?_
  intro args lk r h hp
  unfold sp_tcoef_escaped at h
  split at h
  · rename_i i0
    split at h
    · rename_i a1 a2 hl0
      cases h
      obtain ⟨x, hx⟩ := Option.isSome_iff_exists.1 hp
      simp only [hx, Option.getD_some]
      refine handL [i0] 1 [(0, .mem true 45 none (.flat [.cs [.str a1, .int .i64 a2]]))] [.v (.c (.ptr 0 0 0 0 0 0))] rfl rfl rfl ⟨isSome_of hl0, trivial⟩ ⟨⟨rfl, (by repeat' first | exact True.intro | exact rfl | exact ⟨_, rfl, rfl⟩ | apply And.intro | exact Or.inl rfl), _, hl0, .inl rfl⟩, trivial⟩ rfl (fun w0 M ε0 hX => ?_)
      refine rCount (fun hε => ?_)
      have hT : tcoef_escaped N a1 a2 = some x := hx; clear hx hp; unfold tcoef_escaped at hT
      refine rSeq ?_
      refine zReg md0 hX rfl rfl rfl ?_
      refine rThen ?_
      refine rSeq ?_
      let c1 := (overspill_inbits_Reader_Take N 15 a1 a2)
      replace hT := sIf hT; obtain ⟨o1, hT⟩ := hT
      refine zReg md0 hX rfl rfl rfl ?_
      refine rThen ?_
      refine rSeq ?_
      refine rSeq ?_
      refine zReg md0 hX rfl rfl rfl ?_
      refine rThen ?_
      refine zCond rfl rfl (fun hc => ?_) (fun hc => ?_)
      · replace hT := sT hc hT
        refine rSeq ?_
        refine zReg md0 hX rfl rfl rfl ?_
        refine rThen ?_
        refine rRet ?_
        refine rThenRet ?_
        have hy := Option.some.inj hT; subst hy
        exact rEndA [] [] [(0, .mem true 45 none (.flat [.cs [.str (c1.getD default).2.2.1, .int .i64 (c1.getD default).2.2.2]]))] (.tup [.agg [.cs [.bool false, .int .i64 0, .int .i64 0]], .c (.int .i64 (c1.getD default).2.1)]) hX rfl (by repeat' first | exact True.intro | exact rfl | apply And.intro | omega | exact Nat.le_of_ble_eq_true rfl) (by repeat' first | exact True.intro | exact rfl | apply And.intro) rfl rfl rfl (by repeat' first | exact True.intro | exact rfl | exact ⟨_, rfl, rfl⟩ | apply And.intro | exact Or.inl rfl) rfl rfl (by repeat' first | exact True.intro | exact rfl | exact ⟨_, rfl, rfl⟩ | apply And.intro | exact Or.inl rfl) rfl rfl
      · replace hT := sF hc hT
        refine rSkip ?_
        refine rThen ?_
        refine rSeq ?_
        replace hT := sIf hT; obtain ⟨o1, hT⟩ := hT
        refine zReg md0 hX rfl rfl rfl ?_
        refine rThen ?_
        refine rSeq ?_
        refine rSeq ?_
        refine zReg md0 hX rfl rfl rfl ?_
        refine rThen ?_
        replace hT := sIf hT; obtain ⟨q1, hT⟩ := hT
        refine rJoin ⟨[(2, .v (.c (.ptr 1 0 0 0 0 0))), (3, .v (.c (.int .i64 0))), (4, .v (.c (.int .i64 (c1.getD default).1))), (6, .v (.c (.int .i64 (bif (decide ((128 : Int) ≤ ((c1.getD default).1 % 256))) then (((c1.getD default).1 % 256) - 256) else ((c1.getD default).1 % 256)))))], [(0, .mem true 45 none (.flat [.cs [.str (c1.getD default).2.2.1, .int .i64 (c1.getD default).2.2.2]])), (1, .mem true 28 none (.flat [.cs [.bool false, .int .i64 0, .int .i64 0]]))], 2⟩ ?_ (fun hj => ?_)
        · skip
          let x1 := (bif (decide ((128 : Int) ≤ ((c1.getD default).1 % 256))) then (((c1.getD default).1 % 256) - 256) else ((c1.getD default).1 % 256))
          refine rThen ?_
          refine rSeq ?_
          replace hT := sIf hT; obtain ⟨o1, hT⟩ := hT
          refine zReg md0 hX rfl rfl rfl ?_
          refine rThen ?_
          refine rSeq ?_
          refine rSeq ?_
          let c2 := (tcoef_Right N (decide (((c1.getD default).1 / 2 ^ (Int.toNat 14)) = 1)) ((Int.toNat ((c1.getD default).1 / 2 ^ (Int.toNat 8)) &&& Int.toNat 63 : Nat) : Int) x1)
          let c3 := (tcoef_place N (decide (((c1.getD default).1 / 2 ^ (Int.toNat 14)) = 1)) ((Int.toNat ((c1.getD default).1 / 2 ^ (Int.toNat 8)) &&& Int.toNat 63 : Nat) : Int) (max x1 (-x1)))
          replace hT := sIf hT; obtain ⟨⟨o1, o2, o3⟩, hT⟩ := hT
          refine rRegC md0 hX rfl rfl rfl (by (repeat' first | exact True.intro | with_reducible assumption | (with_reducible apply And.intro) | intro _) <;> first | assumption | exact o2 (by assumption) | exact o3 (by assumption) | exact rfl | omega | exact Nat.le_of_ble_eq_true rfl | exact selF (by assumption) | exact selT (by assumption) | exact And.intro rfl rfl | exact And.intro (by assumption) rfl | exact And.intro (by omega) rfl | (simp only [inK] at *; omega) | (simp_all [sel] <;> fail) | fail) ?_
          refine rThen ?_
          refine zCond rfl rfl (fun hc => ?_) (fun hc => ?_)
          · replace hT := sT hc hT
            refine rSeq ?_
            refine zReg md0 hX rfl rfl rfl ?_
            refine rThen ?_
            refine rRet ?_
            refine rThenRet ?_
            have hy := Option.some.inj hT; subst hy
            exact rEndA [] [] [(0, .mem true 45 none (.flat [.cs [.str (c1.getD default).2.2.1, .int .i64 (c1.getD default).2.2.2]]))] (.tup [.agg [.cs [.bool false, .int .i64 0, .int .i64 0]], .c (.int .i64 7)]) hX rfl (by repeat' first | exact True.intro | exact rfl | apply And.intro | omega | exact Nat.le_of_ble_eq_true rfl) (by repeat' first | exact True.intro | exact rfl | apply And.intro) rfl rfl rfl (by repeat' first | exact True.intro | exact rfl | exact ⟨_, rfl, rfl⟩ | apply And.intro | exact Or.inl rfl) rfl rfl (by repeat' first | exact True.intro | exact rfl | exact ⟨_, rfl, rfl⟩ | apply And.intro | exact Or.inl rfl) rfl rfl
          · replace hT := sF hc hT
            refine rSkip ?_
            refine rThen ?_
            refine rSeq ?_
            refine zReg md0 hX rfl rfl rfl ?_
            refine rThen ?_
            refine rRet ?_
            have hy := Option.some.inj hT; subst hy
            exact rEndA [] [] [(0, .mem true 45 none (.flat [.cs [.str (c1.getD default).2.2.1, .int .i64 (c1.getD default).2.2.2]]))] (.tup [.agg [.cs [.bool (decide (((c1.getD default).1 / 2 ^ (Int.toNat 14)) = 1)), .int .i64 ((Int.toNat ((c1.getD default).1 / 2 ^ (Int.toNat 8)) &&& Int.toNat 63 : Nat) : Int), .int .i64 x1]], .c (.int .i64 0)]) hX rfl (by repeat' first | exact True.intro | exact rfl | apply And.intro | omega | exact Nat.le_of_ble_eq_true rfl) (by repeat' first | exact True.intro | exact rfl | apply And.intro) rfl rfl rfl (by repeat' first | exact True.intro | exact rfl | exact ⟨_, rfl, rfl⟩ | apply And.intro | exact Or.inl rfl) rfl rfl (by repeat' first | exact True.intro | exact rfl | exact ⟨_, rfl, rfl⟩ | apply And.intro | exact Or.inl rfl) rfl rfl
        · clear hT
          refine zCond rfl rfl (fun hc => ?_) (fun hc => ?_)
          · skip
            have q1 := q1 hc
            refine zReg md0 hX rfl rfl rfl ?_
            exact rTo (To.mk' [] 1 hε rfl (by (repeat' first | exact True.intro | exact rfl | apply And.intro) <;> (repeat' first | exact rfl | refine Eq.trans ?_ (cTr (by assumption)) | refine Eq.trans ?_ (cFr (by assumption)) | refine Eq.trans (cTl (by assumption)) ?_ | refine Eq.trans (cFl (by assumption)) ?_)) (by (repeat' first | exact True.intro | exact rfl | apply And.intro) <;> (repeat' first | exact rfl | refine Eq.trans ?_ (cTr (by assumption)) | refine Eq.trans ?_ (cFr (by assumption)) | refine Eq.trans (cTl (by assumption)) ?_ | refine Eq.trans (cFl (by assumption)) ?_))) hj
          · skip
            refine rSkip ?_
            exact rTo (To.mk' [] 1 hε rfl (by (repeat' first | exact True.intro | exact rfl | apply And.intro) <;> (repeat' first | exact rfl | refine Eq.trans ?_ (cTr (by assumption)) | refine Eq.trans ?_ (cFr (by assumption)) | refine Eq.trans (cTl (by assumption)) ?_ | refine Eq.trans (cFl (by assumption)) ?_)) (by (repeat' first | exact True.intro | exact rfl | apply And.intro) <;> (repeat' first | exact rfl | refine Eq.trans ?_ (cTr (by assumption)) | refine Eq.trans ?_ (cFr (by assumption)) | refine Eq.trans (cTl (by assumption)) ?_ | refine Eq.trans (cFl (by assumption)) ?_))) hj
    · cases h
  · cases h
def tcoef_read_b1 (N : Nat) (s1 : (Int × Int × ByteArray × Int)) : Option ((Int × Int × ByteArray × Int) ⊕ ((Int × Bool × Int × Int × ByteArray × Int) ⊕ (ByteArray × Int))) :=
  bif (decide (s1.2.1 ≤ 12)) then
    let c1 := (overspill_inbits_Reader_Take N 1 s1.2.2.1 s1.2.2.2)
    if c1.isSome = true then
      bif (decide ((c1.getD default).2.1 ≠ 0)) then
        some (.inr (Sum.inl ((c1.getD default).2.1, false, 0, 0, (c1.getD default).2.2.1, (c1.getD default).2.2.2)))
      else
        if inK .i64 (s1.1 * 2 ^ (Int.toNat 1)) ∧ (0 : Int) ≤ (s1.1 * 2 ^ (Int.toNat 1)) ∧ (0 : Int) ≤ (c1.getD default).1 then
          let x2 := (bif (decide (s1.2.1 = 7)) then (decide (((Int.toNat (s1.1 * 2 ^ (Int.toNat 1)) ||| Int.toNat (c1.getD default).1 : Nat) : Int) = 3)) else false)
          bif x2 then
            let c2 := (tcoef_escaped N (c1.getD default).2.2.1 (c1.getD default).2.2.2)
            if c2.isSome = true then
              some (.inr (Sum.inl ((c2.getD default).2.2.2.1, (c2.getD default).1, (c2.getD default).2.1, (c2.getD default).2.2.1, (c2.getD default).2.2.2.2.1, (c2.getD default).2.2.2.2.2)))
            else none
          else
            let c3 := (tcoef_find N ((Int.toNat (s1.1 * 2 ^ (Int.toNat 1)) ||| Int.toNat (c1.getD default).1 : Nat) : Int) s1.2.1)
            if c3.isSome = true then
              bif (decide ((0 : Int) ≤ (c3.getD default).1)) then
                let c4 := (overspill_inbits_Reader_Take N 1 (c1.getD default).2.2.1 (c1.getD default).2.2.2)
                if c4.isSome = true then
                  bif (decide ((c4.getD default).2.1 ≠ 0)) then
                    some (.inr (Sum.inl ((c4.getD default).2.1, false, 0, 0, (c4.getD default).2.2.1, (c4.getD default).2.2.2)))
                  else
                    let c5 := (tcoef_event N (c3.getD default).1)
                    if c5.isSome = true then
                      if inK .i64 ((2 : Int) * (c4.getD default).1) ∧ inK .i64 ((1 : Int) - ((2 : Int) * (c4.getD default).1)) ∧ inK .i64 ((c5.getD default).2.2 * ((1 : Int) - ((2 : Int) * (c4.getD default).1))) then
                        some (.inr (Sum.inl (0, (c5.getD default).1, (c5.getD default).2.1, ((c5.getD default).2.2 * ((1 : Int) - ((2 : Int) * (c4.getD default).1))), (c4.getD default).2.2.1, (c4.getD default).2.2.2)))
                      else none
                    else none
                else none
              else
                bif (!(c3.getD default).2) then
                  some (.inr (Sum.inr ((c1.getD default).2.2.1, (c1.getD default).2.2.2)))
                else
                  if inK .i64 (s1.2.1 + 1) then
                    some (.inl (((Int.toNat (s1.1 * 2 ^ (Int.toNat 1)) ||| Int.toNat (c1.getD default).1 : Nat) : Int), (s1.2.1 + 1), (c1.getD default).2.2.1, (c1.getD default).2.2.2))
                  else none
            else none
        else none
    else none
  else
    some (.inr (Sum.inr (s1.2.2.1, s1.2.2.2)))
def tcoef_read (N : Nat) (a1 : ByteArray) (a2 : Int) : Option (Bool × Int × Int × Int × ByteArray × Int) :=
  (iter (tcoef_read_b1 N) N (0, 1, a1, a2)).bind fun w1 =>
    (Sum.elim (fun v1 =>
      some (v1.2.1, v1.2.2.1, v1.2.2.2.1, v1.1, v1.2.2.2.2.1, v1.2.2.2.2.2)
    )
      (fun v2 =>
        some (false, 0, 0, 3, v2.1, v2.2)
      )
    ) w1
def sp_tcoef_read (N : Nat) : X.Spec := fun args lk => match args with
  | [.v (.c (.ptr i0 0 0 0 0 0))] => (match lk i0 with
    | some (.mem true 45 none (.flat [.cs [.str a1, .int .i64 a2]])) => some ⟨(tcoef_read N a1 a2).isSome = true, .tup [.agg [.cs [.bool ((tcoef_read N a1 a2).getD default).1, .int .i64 ((tcoef_read N a1 a2).getD default).2.1, .int .i64 ((tcoef_read N a1 a2).getD default).2.2.1]], .c (.int .i64 ((tcoef_read N a1 a2).getD default).2.2.2.1)], [], [(i0, .mem true 45 none (.flat [.cs [.str ((tcoef_read N a1 a2).getD default).2.2.2.2.1, .int .i64 ((tcoef_read N a1 a2).getD default).2.2.2.2.2]]))]⟩
    | _ => none)
  | _ => none
set_option maxRecDepth 100000 in
set_option maxHeartbeats 1000000 in
theorem ok_tcoef_read (N : Nat) : FnOK Tryd.prog gt0 17 (sp_tcoef_read N) := by
  refine fnOK_handed Tryd.func17 rfl (by kernel_rfl) tt_ok (ktCons (ok_tcoef_event N) (ktCons (ok_tcoef_find N) (ktCons (ok_tcoef_escaped N) (ktCons (ok_overspill_inbits_Reader_Take N) (ktNil))))) ?_
  intro args lk r h hp
  unfold sp_tcoef_read at h
  split at h
  · rename_i i0
    split at h
    · rename_i a1 a2 hl0
      cases h
      obtain ⟨x, hx⟩ := Option.isSome_iff_exists.1 hp
      simp only [hx, Option.getD_some]
      refine handL [i0] 1 [(0, .mem true 45 none (.flat [.cs [.str a1, .int .i64 a2]]))] [.v (.c (.ptr 0 0 0 0 0 0))] rfl rfl rfl ⟨isSome_of hl0, trivial⟩ ⟨⟨rfl, (by repeat' first | exact True.intro | exact rfl | exact ⟨_, rfl, rfl⟩ | apply And.intro | exact Or.inl rfl), _, hl0, .inl rfl⟩, trivial⟩ rfl (fun w0 M ε0 hX => ?_)
      refine rCount (fun hε => ?_)
      have hT : tcoef_read N a1 a2 = some x := hx; clear hx hp; unfold tcoef_read at hT
      refine rSeq ?_
      refine zReg md0 hX rfl rfl rfl ?_
      refine rThen ?_
      refine rSeq ?_
      refine rSeq ?_
      refine zReg md0 hX rfl rfl rfl ?_
      refine rThen ?_
      refine rBlock ?_
      replace hT := sBind hT; obtain ⟨w1, hl, hT⟩ := hT
      refine rJoinA (fun v1 => (Sum.inl v1) = w1) (fun v1 => ⟨[(2, .v (.c (.ptr 1 0 0 0 0 0))), (3, .v (.c (.int .i64 v1.1)))], [(0, .mem true 45 none (.flat [.cs [.str v1.2.2.2.2.1, .int .i64 v1.2.2.2.2.2]])), (1, .mem true 28 none (.flat [.cs [.bool v1.2.1, .int .i64 v1.2.2.1, .int .i64 v1.2.2.2.1]]))], 2⟩) .ret (fun v1 hv => ?_) (fun hxs10 => ?_)
      · subst hv; clear hl; replace hT := (sElimL hT)
        refine rInRet ?_
        refine rThenRet ?_
        have hy := Option.some.inj hT; subst hy
        exact rEndA [] [] [(0, .mem true 45 none (.flat [.cs [.str v1.2.2.2.2.1, .int .i64 v1.2.2.2.2.2]]))] (.tup [.agg [.cs [.bool v1.2.1, .int .i64 v1.2.2.1, .int .i64 v1.2.2.2.1]], .c (.int .i64 v1.1)]) hX rfl (by repeat' first | exact True.intro | exact rfl | apply And.intro | omega | exact Nat.le_of_ble_eq_true rfl) (by repeat' first | exact True.intro | exact rfl | apply And.intro) rfl rfl rfl (by repeat' first | exact True.intro | exact rfl | exact ⟨_, rfl, rfl⟩ | apply And.intro | exact Or.inl rfl) rfl rfl (by repeat' first | exact True.intro | exact rfl | exact ⟨_, rfl, rfl⟩ | apply And.intro | exact Or.inl rfl) rfl rfl
      refine rJoinA (fun v2 => (Sum.inr v2) = w1) (fun v2 => ⟨[(2, .v (.c (.ptr 1 0 0 0 0 0))), (3, .v (.c (.int .i64 0)))], [(0, .mem true 45 none (.flat [.cs [.str v2.1, .int .i64 v2.2]])), (1, .mem true 28 none (.flat [.cs [.bool false, .int .i64 0, .int .i64 0]]))], 2⟩) (.exit 0) (fun v2 hv => ?_) (fun hxs11 => ?_)
      · subst hv; clear hl; replace hT := (sElimR hT)
        refine rInHit ?_
        refine rThen ?_
        refine rSeq ?_
        refine zReg md0 hX rfl rfl rfl ?_
        refine rThen ?_
        refine rRet ?_
        have hy := Option.some.inj hT; subst hy
        exact rEndA [] [] [(0, .mem true 45 none (.flat [.cs [.str v2.1, .int .i64 v2.2]]))] (.tup [.agg [.cs [.bool false, .int .i64 0, .int .i64 0]], .c (.int .i64 3)]) hX rfl (by repeat' first | exact True.intro | exact rfl | apply And.intro | omega | exact Nat.le_of_ble_eq_true rfl) (by repeat' first | exact True.intro | exact rfl | apply And.intro) rfl rfl rfl (by repeat' first | exact True.intro | exact rfl | exact ⟨_, rfl, rfl⟩ | apply And.intro | exact Or.inl rfl) rfl rfl (by repeat' first | exact True.intro | exact rfl | exact ⟨_, rfl, rfl⟩ | apply And.intro | exact Or.inl rfl) rfl rfl
      refine rLoopM (tcoef_read_b1 N) (fun s1 => ⟨[(0, .v (.c (.ptr 0 0 0 0 0 0))), (2, .v (.c (.ptr 1 0 0 0 0 0))), (3, .v (.c (.int .i64 0))), (4, .v (.c (.int .i64 s1.1))), (5, .v (.c (.int .i64 s1.2.1)))], [(0, .mem true 45 none (.flat [.cs [.str s1.2.2.1, .int .i64 s1.2.2.2]])), (1, .mem true 28 none (.flat [.cs [.bool false, .int .i64 0, .int .i64 0]]))], 2⟩) hl (To.mk' [] 1 hε rfl (by repeat' first | exact True.intro | exact rfl | apply And.intro) (by repeat' first | exact True.intro | exact rfl | apply And.intro)) (fun s1 zs1 NNs1 hz hnexts1 houts1 => ?_)
      clear hl hT
      have hT := hz; clear hz
      refine rSeq ?_
      refine rSeq ?_
      refine zReg md0 hX rfl rfl rfl ?_
      refine rThen ?_
      refine zCond rfl rfl (fun hc => ?_) (fun hc => ?_)
      · replace hT := sT hc hT
        refine rSkip ?_
        refine rThen ?_
        refine rSeq ?_
        refine rBlock ?_
        refine rSeq ?_
        let c1 := (overspill_inbits_Reader_Take N 1 s1.2.2.1 s1.2.2.2)
        replace hT := sIf hT; obtain ⟨o1, hT⟩ := hT
        refine zReg md0 hX rfl rfl rfl ?_
        refine rThen ?_
        refine rSeq ?_
        refine rSeq ?_
        refine zReg md0 hX rfl rfl rfl ?_
        refine rThen ?_
        refine zCond rfl rfl (fun hc => ?_) (fun hc => ?_)
        · replace hT := sT hc hT
          refine rSeq ?_
          refine zReg md0 hX rfl rfl rfl ?_
          refine rThen ?_
          refine rRet ?_
          refine rThenRet ?_
          refine rInRet ?_
          refine rThenRet ?_
          refine rThenRet ?_
          exact zTo [] 1 hε (hxs10 _ (houts1 _ (Option.some.inj hT).symm))
        · replace hT := sF hc hT
          refine rSkip ?_
          refine rThen ?_
          refine rSeq ?_
          replace hT := sIf hT; obtain ⟨⟨o1, o2, o3⟩, hT⟩ := hT
          refine zReg md0 hX rfl rfl rfl ?_
          refine rThen ?_
          refine rSeq ?_
          refine rSeq ?_
          let x2 := (bif (decide (s1.2.1 = 7)) then (decide (((Int.toNat (s1.1 * 2 ^ (Int.toNat 1)) ||| Int.toNat (c1.getD default).1 : Nat) : Int) = 3)) else false)
          refine zReg md0 hX rfl rfl rfl ?_
          refine rThen ?_
          refine zCond rfl rfl (fun hc => ?_) (fun hc => ?_)
          · replace hT := sT hc hT
            refine rSeq ?_
            let c2 := (tcoef_escaped N (c1.getD default).2.2.1 (c1.getD default).2.2.2)
            replace hT := sIf hT; obtain ⟨o1, hT⟩ := hT
            refine zReg md0 hX rfl rfl rfl ?_
            refine rThen ?_
            refine rRet ?_
            refine rThenRet ?_
            refine rInRet ?_
            refine rThenRet ?_
            refine rThenRet ?_
            exact zTo [] 1 hε (hxs10 _ (houts1 _ (Option.some.inj hT).symm))
          · replace hT := sF hc hT
            refine rSkip ?_
            refine rThen ?_
            refine rSeq ?_
            let c3 := (tcoef_find N ((Int.toNat (s1.1 * 2 ^ (Int.toNat 1)) ||| Int.toNat (c1.getD default).1 : Nat) : Int) s1.2.1)
            replace hT := sIf hT; obtain ⟨o1, hT⟩ := hT
            refine zReg md0 hX rfl rfl rfl ?_
            refine rThen ?_
            refine rSeq ?_
            refine rSeq ?_
            refine zReg md0 hX rfl rfl rfl ?_
            refine rThen ?_
            refine zCond rfl rfl (fun hc => ?_) (fun hc => ?_)
            · replace hT := sT hc hT
              refine rSeq ?_
              let c4 := (overspill_inbits_Reader_Take N 1 (c1.getD default).2.2.1 (c1.getD default).2.2.2)
              replace hT := sIf hT; obtain ⟨o1, hT⟩ := hT
              refine zReg md0 hX rfl rfl rfl ?_
              refine rThen ?_
              refine rSeq ?_
              refine rSeq ?_
              refine zReg md0 hX rfl rfl rfl ?_
              refine rThen ?_
              refine zCond rfl rfl (fun hc => ?_) (fun hc => ?_)
              · replace hT := sT hc hT
                refine rSeq ?_
                refine zReg md0 hX rfl rfl rfl ?_
                refine rThen ?_
                refine rRet ?_
                refine rThenRet ?_
                refine rThenRet ?_
                refine rInRet ?_
                refine rThenRet ?_
                refine rThenRet ?_
                exact zTo [] 1 hε (hxs10 _ (houts1 _ (Option.some.inj hT).symm))
              · replace hT := sF hc hT
                refine rSkip ?_
                refine rThen ?_
                refine rSeq ?_
                let c5 := (tcoef_event N (c3.getD default).1)
                replace hT := sIf hT; obtain ⟨o1, hT⟩ := hT
                refine zReg md0 hX rfl rfl rfl ?_
                refine rThen ?_
                refine rSeq ?_
                replace hT := sIf hT; obtain ⟨⟨o1, o2, o3⟩, hT⟩ := hT
                refine zReg md0 hX rfl rfl rfl ?_
                refine rThen ?_
                refine rSeq ?_
                refine zReg md0 hX rfl rfl rfl ?_
                refine rThen ?_
                refine rRet ?_
                refine rThenRet ?_
                refine rInRet ?_
                refine rThenRet ?_
                refine rThenRet ?_
                exact zTo [] 1 hε (hxs10 _ (houts1 _ (Option.some.inj hT).symm))
            · replace hT := sF hc hT
              refine rSkip ?_
              refine rThen ?_
              refine rSeq ?_
              refine zReg md0 hX rfl rfl rfl ?_
              refine rThen ?_
              refine zCond rfl rfl (fun hc => ?_) (fun hc => ?_)
              · replace hT := sT hc hT
                refine rExit ?_
                refine rInMiss rfl ?_
                refine rThenExit ?_
                refine rThenExit ?_
                exact zTo [] 1 hε (hxs11 _ (houts1 _ (Option.some.inj hT).symm))
              · replace hT := sF hc hT
                refine rSkip ?_
                refine rInNormal ?_
                refine rThen ?_
                replace hT := sIf hT; obtain ⟨o1, hT⟩ := hT
                refine zReg md0 hX rfl rfl rfl ?_
                exact hnexts1 _ (Option.some.inj hT).symm _ (To.mk' [] 1 hε rfl (by repeat' first | exact True.intro | exact rfl | apply And.intro) (by repeat' first | exact True.intro | exact rfl | apply And.intro))
      · replace hT := sF hc hT
        refine rExit ?_
        refine rThenExit ?_
        refine rThenExit ?_
        exact zTo [] 1 hε (hxs11 _ (houts1 _ (Option.some.inj hT).symm))
    · cases h
  · cases h
def tcoef_Take (N : Nat) (a1 : ByteArray) (a2 : Int) : Option (Bool × Int × Int × Int × ByteArray × Int) :=
  let c1 := (overspill_inbits_Reader_At N a1 a2)
  if c1.isSome = true then
    let c2 := (tcoef_read N a1 a2)
    if c2.isSome = true then
      let c3 := (overspill_inbits_Reader_Seek N (c1.getD default) (c2.getD default).2.2.2.2.1 (c2.getD default).2.2.2.2.2)
      if ((decide ((c2.getD default).2.2.2.1 ≠ 0)) = true → c3.isSome = true) then
        let x1 := (bif (decide ((c2.getD default).2.2.2.1 ≠ 0)) then (c3.getD default).2.1 else (c2.getD default).2.2.2.2.1)
        let x2 := (bif (decide ((c2.getD default).2.2.2.1 ≠ 0)) then (c3.getD default).2.2 else (c2.getD default).2.2.2.2.2)
        some ((c2.getD default).1, (c2.getD default).2.1, (c2.getD default).2.2.1, (c2.getD default).2.2.2.1, x1, x2)
      else none
    else none
  else none
def sp_tcoef_Take (N : Nat) : X.Spec := fun args lk => match args with
  | [.v (.c (.ptr i0 0 0 0 0 0))] => (match lk i0 with
    | some (.mem true 45 none (.flat [.cs [.str a1, .int .i64 a2]])) => some ⟨(tcoef_Take N a1 a2).isSome = true, .tup [.agg [.cs [.bool ((tcoef_Take N a1 a2).getD default).1, .int .i64 ((tcoef_Take N a1 a2).getD default).2.1, .int .i64 ((tcoef_Take N a1 a2).getD default).2.2.1]], .c (.int .i64 ((tcoef_Take N a1 a2).getD default).2.2.2.1)], [], [(i0, .mem true 45 none (.flat [.cs [.str ((tcoef_Take N a1 a2).getD default).2.2.2.2.1, .int .i64 ((tcoef_Take N a1 a2).getD default).2.2.2.2.2]]))]⟩
    | _ => none)
  | _ => none
set_option maxRecDepth 100000 in
set_option maxHeartbeats 1000000 in
theorem ok_tcoef_Take (N : Nat) : FnOK Tryd.prog gt0 8 (sp_tcoef_Take N) := by
  refine fnOK_handed Tryd.func8 rfl (by kernel_rfl) tt_ok (ktCons (ok_overspill_inbits_Reader_Seek N) (ktCons (ok_tcoef_read N) (ktCons (ok_overspill_inbits_Reader_At N) (ktNil)))) ?_
  intro args lk r h hp
  unfold sp_tcoef_Take at h
  split at h
  · rename_i i0
    split at h
    · rename_i a1 a2 hl0
      cases h
      obtain ⟨x, hx⟩ := Option.isSome_iff_exists.1 hp
      simp only [hx, Option.getD_some]
      refine handL [i0] 1 [(0, .mem true 45 none (.flat [.cs [.str a1, .int .i64 a2]]))] [.v (.c (.ptr 0 0 0 0 0 0))] rfl rfl rfl ⟨isSome_of hl0, trivial⟩ ⟨⟨rfl, (by repeat' first | exact True.intro | exact rfl | exact ⟨_, rfl, rfl⟩ | apply And.intro | exact Or.inl rfl), _, hl0, .inl rfl⟩, trivial⟩ rfl (fun w0 M ε0 hX => ?_)
      refine rCount (fun hε => ?_)
      have hT : tcoef_Take N a1 a2 = some x := hx; clear hx hp; unfold tcoef_Take at hT
      refine rSeq ?_
      refine zReg md0 hX rfl rfl rfl ?_
      refine rThen ?_
      refine rSeq ?_
      refine rSeq ?_
      refine zReg md0 hX rfl rfl rfl ?_
      refine rThen ?_
      refine rCondF rfl rfl (by (repeat' first | exact True.intro | with_reducible assumption | (with_reducible apply And.intro) | intro _) <;> first | assumption | exact rfl | omega | exact Nat.le_of_ble_eq_true rfl | exact selF (by assumption) | exact selT (by assumption) | exact And.intro rfl rfl | exact And.intro (by assumption) rfl | exact And.intro (by omega) rfl | (simp only [inK] at *; omega) | (simp_all [sel] <;> fail) | fail) rfl ?_
      refine rSkip ?_
      refine rThen ?_
      refine rSeq ?_
      let c1 := (overspill_inbits_Reader_At N a1 a2)
      replace hT := sIf hT; obtain ⟨o1, hT⟩ := hT
      refine zReg md0 hX rfl rfl rfl ?_
      refine rThen ?_
      refine rSeq ?_
      let c2 := (tcoef_read N a1 a2)
      replace hT := sIf hT; obtain ⟨o1, hT⟩ := hT
      refine zReg md0 hX rfl rfl rfl ?_
      refine rThen ?_
      refine rSeq ?_
      refine rSeq ?_
      refine zReg md0 hX rfl rfl rfl ?_
      refine rThen ?_
      let c3 := (overspill_inbits_Reader_Seek N (c1.getD default) (c2.getD default).2.2.2.2.1 (c2.getD default).2.2.2.2.2)
      replace hT := sIf hT; obtain ⟨q1, hT⟩ := hT
      refine rJoin ⟨[(2, .v (.c (.ptr 1 0 0 0 0 0))), (3, .v (.c (.int .i64 0))), (5, .v (.c (.ptr 2 0 0 0 0 0))), (6, .v (.c (.int .i64 (c2.getD default).2.2.2.1)))], [(0, .mem true 45 none (.flat [.cs [.str (bif (decide ((c2.getD default).2.2.2.1 ≠ 0)) then (c3.getD default).2.1 else (c2.getD default).2.2.2.2.1), .int .i64 (bif (decide ((c2.getD default).2.2.2.1 ≠ 0)) then (c3.getD default).2.2 else (c2.getD default).2.2.2.2.2)]])), (1, .mem true 28 none (.flat [.cs [.bool false, .int .i64 0, .int .i64 0]])), (2, .mem true 28 none (.flat [.cs [.bool (c2.getD default).1, .int .i64 (c2.getD default).2.1, .int .i64 (c2.getD default).2.2.1]]))], 3⟩ ?_ (fun hj => ?_)
      · skip
        let x1 := (bif (decide ((c2.getD default).2.2.2.1 ≠ 0)) then (c3.getD default).2.1 else (c2.getD default).2.2.2.2.1)
        let x2 := (bif (decide ((c2.getD default).2.2.2.1 ≠ 0)) then (c3.getD default).2.2 else (c2.getD default).2.2.2.2.2)
        refine rThen ?_
        refine rSeq ?_
        refine zReg md0 hX rfl rfl rfl ?_
        refine rThen ?_
        refine rRet ?_
        have hy := Option.some.inj hT; subst hy
        exact rEndA [] [] [(0, .mem true 45 none (.flat [.cs [.str x1, .int .i64 x2]]))] (.tup [.agg [.cs [.bool (c2.getD default).1, .int .i64 (c2.getD default).2.1, .int .i64 (c2.getD default).2.2.1]], .c (.int .i64 (c2.getD default).2.2.2.1)]) hX rfl (by repeat' first | exact True.intro | exact rfl | apply And.intro | omega | exact Nat.le_of_ble_eq_true rfl) (by repeat' first | exact True.intro | exact rfl | apply And.intro) rfl rfl rfl (by repeat' first | exact True.intro | exact rfl | exact ⟨_, rfl, rfl⟩ | apply And.intro | exact Or.inl rfl) rfl rfl (by repeat' first | exact True.intro | exact rfl | exact ⟨_, rfl, rfl⟩ | apply And.intro | exact Or.inl rfl) rfl rfl
      · clear hT
        refine zCond rfl rfl (fun hc => ?_) (fun hc => ?_)
        · skip
          have q1 := q1 hc
          refine zReg md0 hX rfl rfl rfl ?_
          exact rTo (To.mk' [] 1 hε rfl (by (repeat' first | exact True.intro | exact rfl | apply And.intro) <;> (repeat' first | exact rfl | refine Eq.trans ?_ (cTr (by assumption)) | refine Eq.trans ?_ (cFr (by assumption)) | refine Eq.trans (cTl (by assumption)) ?_ | refine Eq.trans (cFl (by assumption)) ?_)) (by (repeat' first | exact True.intro | exact rfl | apply And.intro) <;> (repeat' first | exact rfl | refine Eq.trans ?_ (cTr (by assumption)) | refine Eq.trans ?_ (cFr (by assumption)) | refine Eq.trans (cTl (by assumption)) ?_ | refine Eq.trans (cFl (by assumption)) ?_))) hj
        · skip
          refine rSkip ?_
          exact rTo (To.mk' [] 1 hε rfl (by (repeat' first | exact True.intro | exact rfl | apply And.intro) <;> (repeat' first | exact rfl | refine Eq.trans ?_ (cTr (by assumption)) | refine Eq.trans ?_ (cFr (by assumption)) | refine Eq.trans (cTl (by assumption)) ?_ | refine Eq.trans (cFl (by assumption)) ?_)) (by (repeat' first | exact True.intro | exact rfl | apply And.intro) <;> (repeat' first | exact rfl | refine Eq.trans ?_ (cTr (by assumption)) | refine Eq.trans ?_ (cFr (by assumption)) | refine Eq.trans (cTl (by assumption)) ?_ | refine Eq.trans (cFl (by assumption)) ?_))) hj
    · cases h
  · cases h
def law09_lives (N : Nat) : Option Bool :=
  let c1 := (tcoef_Row N false 0 1)
  if c1.isSome = true then
    let c2 := (tcoef_Row N false 0 13)
    if c2.isSome = true then
      let c3 := (inbits_New N ⟨#[120]⟩)
      let c4 := (tcoef_Take N (c3.getD default).1 (c3.getD default).2)
      if c3.isSome = true ∧ c4.isSome = true then
        let x1 := (bif (bif (bif (bif (bif (decide (ByteArray.toList (c1.getD default).1 = ByteArray.toList ⟨#[49, 48, 48]⟩)) then (c1.getD default).2 else false) then (decide (ByteArray.toList (c2.getD default).1 = ByteArray.toList (ByteArray.mk (List.toArray [48, 48, 48, 48, 48, 49, 49, 48, 48, 48, 48, 48, 48, 48, 48, 48, 48, 48, 49, 49, 48, 49])))) else false) then (c2.getD default).2 else false) then (((c4.getD default).1 == true) && (decide ((c4.getD default).2.1 = 0) && (decide ((c4.getD default).2.2.1 = (-1)) && true))) else false) then (decide ((c4.getD default).2.2.2.1 = 0)) else false)
        some x1
      else none
    else none
  else none
def sp_law09_lives (N : Nat) : X.Spec := fun args lk => match args with
  | [] => some ⟨(law09_lives N).isSome = true, .v (.c (.bool ((law09_lives N).getD default))), [], []⟩
  | _ => none
set_option maxRecDepth 100000 in
set_option maxHeartbeats 1000000 in
theorem ok_law09_lives (N : Nat) : FnOK Tryd.prog gt0 7 (sp_law09_lives N) := by
  refine fnOK_handed Tryd.func7 rfl (by kernel_rfl) tt_ok (ktCons (ok_tcoef_Take N) (ktCons (ok_inbits_New N) (ktCons (ok_tcoef_Row N) (ktNil)))) ?_
  intro args lk r h hp
  unfold sp_law09_lives at h
  split at h
  · skip
    cases h
    obtain ⟨x, hx⟩ := Option.isSome_iff_exists.1 hp
    simp only [hx, Option.getD_some]
    refine hand0 rfl rfl (fun w0 M ε0 hX => ?_)
    refine rCount (fun hε => ?_)
    have hT : law09_lives N = some x := hx; clear hx hp; unfold law09_lives at hT
    refine rSeq ?_
    refine zReg md0 hX rfl rfl rfl ?_
    refine rThen ?_
    refine rSeq ?_
    let c1 := (tcoef_Row N false 0 1)
    replace hT := sIf hT; obtain ⟨o1, hT⟩ := hT
    refine zReg md0 hX rfl rfl rfl ?_
    refine rThen ?_
    refine rSeq ?_
    let c2 := (tcoef_Row N false 0 13)
    replace hT := sIf hT; obtain ⟨o1, hT⟩ := hT
    refine zReg md0 hX rfl rfl rfl ?_
    refine rThen ?_
    refine rSeq ?_
    let c3 := (inbits_New N ⟨#[120]⟩)
    let c4 := (tcoef_Take N (c3.getD default).1 (c3.getD default).2)
    replace hT := sIf hT; obtain ⟨⟨o1, o2⟩, hT⟩ := hT
    refine zReg md0 hX rfl rfl rfl ?_
    refine rThen ?_
    refine rSeq ?_
    let x1 := (bif (bif (bif (bif (bif (decide (ByteArray.toList (c1.getD default).1 = ByteArray.toList ⟨#[49, 48, 48]⟩)) then (c1.getD default).2 else false) then (decide (ByteArray.toList (c2.getD default).1 = ByteArray.toList (ByteArray.mk (List.toArray [48, 48, 48, 48, 48, 49, 49, 48, 48, 48, 48, 48, 48, 48, 48, 48, 48, 48, 49, 49, 48, 49])))) else false) then (c2.getD default).2 else false) then (((c4.getD default).1 == true) && (decide ((c4.getD default).2.1 = 0) && (decide ((c4.getD default).2.2.1 = (-1)) && true))) else false) then (decide ((c4.getD default).2.2.2.1 = 0)) else false)
    refine zReg md0 hX rfl rfl rfl ?_
    refine rThen ?_
    refine rRet ?_
    have hy := Option.some.inj hT; subst hy
    exact zEnd0 hX rfl
  · cases h
def ref02_Row_b1 (N : Nat) (a2 : Int) (s1 : (Int × ByteArray × Int)) : Option ((Int × ByteArray × Int) ⊕ ByteArray) :=
  bif (decide (s1.2.2 < a2)) then
    if (0 : Int) ≤ s1.1 ∧ inK .i64 ((s1.1 % 2) + 1) ∧ (0 : Int) ≤ (s1.1 % 2) ∧ (s1.1 % 2) ≤ ((s1.1 % 2) + 1) ∧ ((s1.1 % 2) + 1) ≤ (ByteArray.size ⟨#[48, 49]⟩ : Int) ∧ (ByteArray.size (ByteArray.extract ⟨#[48, 49]⟩ (s1.1 % 2).toNat ((s1.1 % 2) + 1).toNat) : Int) + ByteArray.size s1.2.1 ≤ 9223372036854775807 then
      if (0 : Int) ≤ s1.1 then
        if inK .i64 (s1.2.2 + 1) then
          some (.inl ((s1.1 / 2), ((ByteArray.extract ⟨#[48, 49]⟩ (s1.1 % 2).toNat ((s1.1 % 2) + 1).toNat) ++ s1.2.1), (s1.2.2 + 1)))
        else none
      else none
    else none
  else
    some (.inr s1.2.1)
def ref02_Row (N : Nat) (a1 : Int) (a2 : Int) : Option ByteArray :=
  (iter (ref02_Row_b1 N a2) N (a1, ⟨#[]⟩, 0)).bind fun v1 =>
    some v1
def sp_ref02_Row (N : Nat) : X.Spec := fun args lk => match args with
  | [.v (.c (.int .i64 a1)), .v (.c (.int .i64 a2))] => some ⟨(ref02_Row N a1 a2).isSome = true, .v (.c (.str ((ref02_Row N a1 a2).getD default))), [], []⟩
  | _ => none
set_option maxRecDepth 100000 in
set_option maxHeartbeats 1000000 in
theorem ok_ref02_Row (N : Nat) : FnOK Tryd.prog gt0 24 (sp_ref02_Row N) := by
  refine fnOK_handed Tryd.func24 rfl (by kernel_rfl) tt_ok (ktNil) ?_
  intro args lk r h hp
  unfold sp_ref02_Row at h
  split at h
  · rename_i a1 a2
    cases h
    obtain ⟨x, hx⟩ := Option.isSome_iff_exists.1 hp
    simp only [hx, Option.getD_some]
    refine hand0 rfl rfl (fun w0 M ε0 hX => ?_)
    refine rCount (fun hε => ?_)
    have hT : ref02_Row N a1 a2 = some x := hx; clear hx hp; unfold ref02_Row at hT
    refine rSeq ?_
    refine zReg md0 hX rfl rfl rfl ?_
    refine rThen ?_
    refine rSeq ?_
    refine zReg md0 hX rfl rfl rfl ?_
    refine rThen ?_
    refine rSeq ?_
    refine rSeq ?_
    refine zReg md0 hX rfl rfl rfl ?_
    refine rThen ?_
    refine rBlock ?_
    replace hT := sBind hT; obtain ⟨w1, hl, hT⟩ := hT
    refine rJoinA (fun v1 => v1 = w1) (fun v1 => ⟨[(4, .v (.c (.str ⟨#[]⟩))), (5, .v (.c (.str v1)))], [], 0⟩) (.exit 0) (fun v1 hv => ?_) (fun hxs10 => ?_)
    · subst hv; clear hl
      refine rInHit ?_
      refine rThen ?_
      refine rSeq ?_
      refine zReg md0 hX rfl rfl rfl ?_
      refine rThen ?_
      refine rRet ?_
      have hy := Option.some.inj hT; subst hy
      exact zEnd0 hX rfl
    refine rLoopM (ref02_Row_b1 N a2) (fun s1 => ⟨[(0, .v (.c (.int .i64 s1.1))), (1, .v (.c (.int .i64 a2))), (4, .v (.c (.str ⟨#[]⟩))), (5, .v (.c (.str s1.2.1))), (6, .v (.c (.int .i64 s1.2.2)))], [], 0⟩) hl (To.mk' [] 0 hε rfl (by repeat' first | exact True.intro | exact rfl | apply And.intro) (by repeat' first | exact True.intro | exact rfl | apply And.intro)) (fun s1 zs1 NNs1 hz hnexts1 houts1 => ?_)
    clear hl hT
    have hT := hz; clear hz
    refine rSeq ?_
    refine rSeq ?_
    refine zReg md0 hX rfl rfl rfl ?_
    refine rThen ?_
    refine zCond rfl rfl (fun hc => ?_) (fun hc => ?_)
    · replace hT := sT hc hT
      refine rSkip ?_
      refine rThen ?_
      refine rSeq ?_
      refine rBlock ?_
      refine rSeq ?_
      replace hT := sIf hT; obtain ⟨⟨o1, o2, o3, o4, o5, o6⟩, hT⟩ := hT
      refine zReg md0 hX rfl rfl rfl ?_
      refine rThen ?_
      replace hT := sIf hT; obtain ⟨o1, hT⟩ := hT
      refine zReg md0 hX rfl rfl rfl ?_
      refine rInNormal ?_
      refine rThen ?_
      replace hT := sIf hT; obtain ⟨o1, hT⟩ := hT
      refine zReg md0 hX rfl rfl rfl ?_
      exact hnexts1 _ (Option.some.inj hT).symm _ (To.mk' [] 0 hε rfl (by repeat' first | exact True.intro | exact rfl | apply And.intro) (by repeat' first | exact True.intro | exact rfl | apply And.intro))
    · replace hT := sF hc hT
      refine rExit ?_
      refine rThenExit ?_
      refine rThenExit ?_
      exact zTo [] 0 hε (hxs10 _ (houts1 _ (Option.some.inj hT).symm))
  · cases h
def ref02_Show_b1 (N : Nat) (a1 : ByteArray) (s2 : (Nat × Int × Nat × (List Int))) : Option ((Nat × Int × Nat × (List Int)) ⊕ (Nat × Nat × (List Int))) :=
  bif (decide (s2.2.1 < (ByteArray.size a1 : Int))) then
    let c1 := (ref02_Row N (byteI a1 (s2.2.1).toNat) 8)
    if (0 : Int) ≤ s2.2.1 ∧ s2.2.1 < (ByteArray.size a1 : Int) ∧ inK .i64 (byteI a1 (s2.2.1).toNat) ∧ c1.isSome = true ∧ s2.2.2.1 = s2.1 ∧ (s2.1 + ByteArray.size (c1.getD default)) * 1 ≤ 140737488355328 ∧ s2.1 + ByteArray.size (c1.getD default) ≤ 9223372036854775807 then
      if inK .i64 (s2.2.1 + 1) then
        some (.inl ((s2.1 + ByteArray.size (c1.getD default)), (s2.2.1 + 1), (s2.2.2.1 + ByteArray.size (c1.getD default)), (s2.2.2.2 ++ (bl (c1.getD default)))))
      else none
    else none
  else
    some (.inr (s2.1, s2.2.2.1, s2.2.2.2))
def ref02_Show (N : Nat) (a1 : ByteArray) : Option ByteArray :=
  (iter (ref02_Show_b1 N a1) N (0, 0, 0, [])).bind fun v1 =>
    if v1.1 ≤ v1.2.1 ∧ (v1.1 : Int) ≤ 9223372036854775807 then
      some (bytesOf (v1.2.2.take v1.1))
    else none
def sp_ref02_Show (N : Nat) : X.Spec := fun args lk => match args with
  | [.v (.c (.str a1))] => some ⟨(ref02_Show N a1).isSome = true, .v (.c (.str ((ref02_Show N a1).getD default))), [], []⟩
  | _ => none
set_option maxRecDepth 100000 in
set_option maxHeartbeats 1000000 in
theorem ok_ref02_Show (N : Nat) : FnOK Tryd.prog gt0 10 (sp_ref02_Show N) := by
  refine fnOK_handed Tryd.func10 rfl (by kernel_rfl) tt_ok (ktCons (ok_ref02_Row N) (ktNil)) ?_
  intro args lk r h hp
  unfold sp_ref02_Show at h
  split at h
  · rename_i a1
    cases h
    obtain ⟨x, hx⟩ := Option.isSome_iff_exists.1 hp
    simp only [hx, Option.getD_some]
    refine hand0 rfl rfl (fun w0 M ε0 hX => ?_)
    refine rCount (fun hε => ?_)
    have hT : ref02_Show N a1 = some x := hx; clear hx hp; unfold ref02_Show at hT
    refine rSeq ?_
    refine zReg md0 hX rfl rfl rfl ?_
    refine rThen ?_
    refine rSeq ?_
    refine zReg md0 hX rfl rfl rfl ?_
    refine rThen ?_
    refine rSeq ?_
    refine rSeq ?_
    refine zReg md0 hX rfl rfl rfl ?_
    refine rThen ?_
    refine rBlock ?_
    refine rNil 5 1 (.flat [.ints 0 .u8 []]) [(0, .v (.c (.str a1))), (2, .v (.c (.str ⟨#[]⟩))), (3, .v (.c (.sl 0 0 0 1))), (4, .v (.c (.int .i64 0)))] [] (nil_ints _) (by (repeat' first | exact True.intro | exact rfl | apply And.intro) <;> first | assumption | rfl) (by (repeat' first | exact True.intro | exact rfl | apply And.intro) <;> first | assumption | rfl) ?_
    replace hT := sBind hT; obtain ⟨w1, hl, hT⟩ := hT
    refine rJoinA (fun v1 => v1 = w1) (fun v1 => ⟨[(2, .v (.c (.str ⟨#[]⟩))), (3, .v (.c (.sl 0 0 v1.1 1)))], [(0, .mem true 5 (some 1) (.flat [.ints v1.2.1 .u8 v1.2.2]))], 1⟩) (.exit 0) (fun v1 hv => ?_) (fun hxs20 => ?_)
    · subst hv; clear hl
      refine rInHit ?_
      refine rThen ?_
      refine rSeq ?_
      replace hT := sIf hT; obtain ⟨⟨o1, o2⟩, hT⟩ := hT
      refine zReg md0 hX rfl rfl rfl ?_
      refine rThen ?_
      refine rRet ?_
      have hy := Option.some.inj hT; subst hy
      exact zEnd0 hX rfl
    refine rLoopM (ref02_Show_b1 N a1) (fun s2 => ⟨[(0, .v (.c (.str a1))), (2, .v (.c (.str ⟨#[]⟩))), (3, .v (.c (.sl 0 0 s2.1 1))), (4, .v (.c (.int .i64 s2.2.1)))], [(0, .mem true 5 (some 1) (.flat [.ints s2.2.2.1 .u8 s2.2.2.2]))], 1⟩) hl (To.mk' [] 0 hε rfl (by repeat' first | exact True.intro | exact rfl | apply And.intro) (by repeat' first | exact True.intro | exact rfl | apply And.intro)) (fun s2 zs2 NNs2 hz hnexts2 houts2 => ?_)
    clear hl hT
    have hT := hz; clear hz
    refine rSeq ?_
    refine rSeq ?_
    refine zReg md0 hX rfl rfl rfl ?_
    refine rThen ?_
    refine zCond rfl rfl (fun hc => ?_) (fun hc => ?_)
    · replace hT := sT hc hT
      refine rSkip ?_
      refine rThen ?_
      refine rSeq ?_
      refine rBlock ?_
      let c1 := (ref02_Row N (byteI a1 (s2.2.1).toNat) 8)
      replace hT := sIf hT; obtain ⟨⟨o1, o2, o3, o4, o5, o6, o7⟩, hT⟩ := hT
      refine zReg md0 hX rfl rfl rfl ?_
      refine rInNormal ?_
      refine rThen ?_
      replace hT := sIf hT; obtain ⟨o1, hT⟩ := hT
      refine zReg md0 hX rfl rfl rfl ?_
      exact hnexts2 _ (Option.some.inj hT).symm _ (To.mk' [1] 0 hε rfl (by repeat' first | exact True.intro | exact rfl | apply And.intro) (by repeat' first | exact True.intro | exact rfl | apply And.intro))
    · replace hT := sF hc hT
      refine rExit ?_
      refine rThenExit ?_
      refine rThenExit ?_
      exact zTo [] 0 hε (hxs20 _ (houts2 _ (Option.some.inj hT).symm))
  · cases h
def ref09_table (N : Nat) : Option (List ByteArray) :=
  if 27 = ([(ByteArray.mk (List.toArray [49, 48, 32, 49, 49, 49, 49, 32, 48, 49, 48, 49, 48, 49, 32, 48, 48, 49, 48, 49, 49, 49, 32, 48, 48, 48, 49, 49, 49, 49, 49, 32, 48, 48, 48, 49, 48, 48, 49, 48, 49, 32, 48, 48, 48, 49, 48, 48, 49, 48, 48, 32, 48, 48, 48, 48, 49, 48, 48, 48, 48, 49, 32, 48, 48, 48, 48, 49, 48, 48, 48, 48, 48, 32, 48, 48, 48, 48, 48, 48, 48, 48, 49, 49, 49, 32, 48, 48, 48, 48, 48, 48, 48, 48, 49, 49, 48, 32, 48, 48, 48, 48, 48, 49, 48, 48, 48, 48, 48])), (ByteArray.mk (List.toArray [49, 49, 48, 32, 48, 49, 48, 49, 48, 48, 32, 48, 48, 48, 49, 49, 49, 49, 48, 32, 48, 48, 48, 48, 48, 48, 49, 49, 49, 49, 32, 48, 48, 48, 48, 48, 49, 48, 48, 48, 48, 49, 32, 48, 48, 48, 48, 48, 49, 48, 49, 48, 48, 48, 48])), (ByteArray.mk (List.toArray [49, 49, 49, 48, 32, 48, 48, 48, 49, 49, 49, 48, 49, 32, 48, 48, 48, 48, 48, 48, 49, 49, 49, 48, 32, 48, 48, 48, 48, 48, 49, 48, 49, 48, 48, 48, 49])), (ByteArray.mk (List.toArray [48, 49, 49, 48, 49, 32, 48, 48, 48, 49, 48, 48, 48, 49, 49, 32, 48, 48, 48, 48, 48, 48, 49, 49, 48, 49])), (ByteArray.mk (List.toArray [48, 49, 49, 48, 48, 32, 48, 48, 48, 49, 48, 48, 48, 49, 48, 32, 48, 48, 48, 48, 48, 49, 48, 49, 48, 48, 49, 48])), (ByteArray.mk (List.toArray [48, 49, 48, 49, 49, 32, 48, 48, 48, 48, 48, 48, 49, 49, 48, 48, 32, 48, 48, 48, 48, 48, 49, 48, 49, 48, 48, 49, 49])), (ByteArray.mk (List.toArray [48, 49, 48, 48, 49, 49, 32, 48, 48, 48, 48, 48, 48, 49, 48, 49, 49, 32, 48, 48, 48, 48, 48, 49, 48, 49, 48, 49, 48, 48])), ⟨#[48, 49, 48, 48, 49, 48, 32, 48, 48, 48, 48, 48, 48, 49, 48, 49, 48]⟩, ⟨#[48, 49, 48, 48, 48, 49, 32, 48, 48, 48, 48, 48, 48, 49, 48, 48, 49]⟩, ⟨#[48, 49, 48, 48, 48, 48, 32, 48, 48, 48, 48, 48, 48, 49, 48, 48, 48]⟩, (ByteArray.mk (List.toArray [48, 48, 49, 48, 49, 49, 48, 32, 48, 48, 48, 48, 48, 49, 48, 49, 48, 49, 48, 49])), ⟨#[48, 48, 49, 48, 49, 48, 49]⟩, ⟨#[48, 48, 49, 48, 49, 48, 48]⟩, ⟨#[48, 48, 48, 49, 49, 49, 48, 48]⟩, ⟨#[48, 48, 48, 49, 49, 48, 49, 49]⟩, ⟨#[48, 48, 48, 49, 48, 48, 48, 48, 49]⟩, ⟨#[48, 48, 48, 49, 48, 48, 48, 48, 48]⟩, ⟨#[48, 48, 48, 48, 49, 49, 49, 49, 49]⟩, ⟨#[48, 48, 48, 48, 49, 49, 49, 49, 48]⟩, ⟨#[48, 48, 48, 48, 49, 49, 49, 48, 49]⟩, ⟨#[48, 48, 48, 48, 49, 49, 49, 48, 48]⟩, ⟨#[48, 48, 48, 48, 49, 49, 48, 49, 49]⟩, ⟨#[48, 48, 48, 48, 49, 49, 48, 49, 48]⟩, ⟨#[48, 48, 48, 48, 48, 49, 48, 48, 48, 49, 48]⟩, ⟨#[48, 48, 48, 48, 48, 49, 48, 48, 48, 49, 49]⟩, ⟨#[48, 48, 48, 48, 48, 49, 48, 49, 48, 49, 49, 48]⟩, ⟨#[48, 48, 48, 48, 48, 49, 48, 49, 48, 49, 49, 49]⟩] : List ByteArray).length then
    some ([(ByteArray.mk (List.toArray [49, 48, 32, 49, 49, 49, 49, 32, 48, 49, 48, 49, 48, 49, 32, 48, 48, 49, 48, 49, 49, 49, 32, 48, 48, 48, 49, 49, 49, 49, 49, 32, 48, 48, 48, 49, 48, 48, 49, 48, 49, 32, 48, 48, 48, 49, 48, 48, 49, 48, 48, 32, 48, 48, 48, 48, 49, 48, 48, 48, 48, 49, 32, 48, 48, 48, 48, 49, 48, 48, 48, 48, 48, 32, 48, 48, 48, 48, 48, 48, 48, 48, 49, 49, 49, 32, 48, 48, 48, 48, 48, 48, 48, 48, 49, 49, 48, 32, 48, 48, 48, 48, 48, 49, 48, 48, 48, 48, 48])), (ByteArray.mk (List.toArray [49, 49, 48, 32, 48, 49, 48, 49, 48, 48, 32, 48, 48, 48, 49, 49, 49, 49, 48, 32, 48, 48, 48, 48, 48, 48, 49, 49, 49, 49, 32, 48, 48, 48, 48, 48, 49, 48, 48, 48, 48, 49, 32, 48, 48, 48, 48, 48, 49, 48, 49, 48, 48, 48, 48])), (ByteArray.mk (List.toArray [49, 49, 49, 48, 32, 48, 48, 48, 49, 49, 49, 48, 49, 32, 48, 48, 48, 48, 48, 48, 49, 49, 49, 48, 32, 48, 48, 48, 48, 48, 49, 48, 49, 48, 48, 48, 49])), (ByteArray.mk (List.toArray [48, 49, 49, 48, 49, 32, 48, 48, 48, 49, 48, 48, 48, 49, 49, 32, 48, 48, 48, 48, 48, 48, 49, 49, 48, 49])), (ByteArray.mk (List.toArray [48, 49, 49, 48, 48, 32, 48, 48, 48, 49, 48, 48, 48, 49, 48, 32, 48, 48, 48, 48, 48, 49, 48, 49, 48, 48, 49, 48])), (ByteArray.mk (List.toArray [48, 49, 48, 49, 49, 32, 48, 48, 48, 48, 48, 48, 49, 49, 48, 48, 32, 48, 48, 48, 48, 48, 49, 48, 49, 48, 48, 49, 49])), (ByteArray.mk (List.toArray [48, 49, 48, 48, 49, 49, 32, 48, 48, 48, 48, 48, 48, 49, 48, 49, 49, 32, 48, 48, 48, 48, 48, 49, 48, 49, 48, 49, 48, 48])), ⟨#[48, 49, 48, 48, 49, 48, 32, 48, 48, 48, 48, 48, 48, 49, 48, 49, 48]⟩, ⟨#[48, 49, 48, 48, 48, 49, 32, 48, 48, 48, 48, 48, 48, 49, 48, 48, 49]⟩, ⟨#[48, 49, 48, 48, 48, 48, 32, 48, 48, 48, 48, 48, 48, 49, 48, 48, 48]⟩, (ByteArray.mk (List.toArray [48, 48, 49, 48, 49, 49, 48, 32, 48, 48, 48, 48, 48, 49, 48, 49, 48, 49, 48, 49])), ⟨#[48, 48, 49, 48, 49, 48, 49]⟩, ⟨#[48, 48, 49, 48, 49, 48, 48]⟩, ⟨#[48, 48, 48, 49, 49, 49, 48, 48]⟩, ⟨#[48, 48, 48, 49, 49, 48, 49, 49]⟩, ⟨#[48, 48, 48, 49, 48, 48, 48, 48, 49]⟩, ⟨#[48, 48, 48, 49, 48, 48, 48, 48, 48]⟩, ⟨#[48, 48, 48, 48, 49, 49, 49, 49, 49]⟩, ⟨#[48, 48, 48, 48, 49, 49, 49, 49, 48]⟩, ⟨#[48, 48, 48, 48, 49, 49, 49, 48, 49]⟩, ⟨#[48, 48, 48, 48, 49, 49, 49, 48, 48]⟩, ⟨#[48, 48, 48, 48, 49, 49, 48, 49, 49]⟩, ⟨#[48, 48, 48, 48, 49, 49, 48, 49, 48]⟩, ⟨#[48, 48, 48, 48, 48, 49, 48, 48, 48, 49, 48]⟩, ⟨#[48, 48, 48, 48, 48, 49, 48, 48, 48, 49, 49]⟩, ⟨#[48, 48, 48, 48, 48, 49, 48, 49, 48, 49, 49, 48]⟩, ⟨#[48, 48, 48, 48, 48, 49, 48, 49, 48, 49, 49, 49]⟩] : List ByteArray)
  else none
def sp_ref09_table (N : Nat) : X.Spec := fun args lk => match args with
  | [] => some ⟨(ref09_table N).isSome = true, .v (.c (.fz .str ((ref09_table N).getD default))), [], []⟩
  | _ => none
set_option maxRecDepth 100000 in
set_option maxHeartbeats 1000000 in
theorem ok_ref09_table (N : Nat) : FnOK Tryd.prog gt0 41 (sp_ref09_table N) := by
  refine fnOK_handed Tryd.func41 rfl (by kernel_rfl) tt_ok (ktNil) ?_
  intro args lk r h hp
  unfold sp_ref09_table at h
  split at h
  · skip
    cases h
    obtain ⟨x, hx⟩ := Option.isSome_iff_exists.1 hp
    simp only [hx, Option.getD_some]
    refine hand0 rfl rfl (fun w0 M ε0 hX => ?_)
    refine rCount (fun hε => ?_)
    have hT : ref09_table N = some x := hx; clear hx hp; unfold ref09_table at hT
    refine rSeq ?_
    refine zReg md0 hX rfl rfl rfl ?_
    refine rThen ?_
    refine rSeq ?_
    refine zReg md0 hX rfl rfl rfl ?_
    refine rLstQ 0 .str [(ByteArray.mk (List.toArray [49, 48, 32, 49, 49, 49, 49, 32, 48, 49, 48, 49, 48, 49, 32, 48, 48, 49, 48, 49, 49, 49, 32, 48, 48, 48, 49, 49, 49, 49, 49, 32, 48, 48, 48, 49, 48, 48, 49, 48, 49, 32, 48, 48, 48, 49, 48, 48, 49, 48, 48, 32, 48, 48, 48, 48, 49, 48, 48, 48, 48, 49, 32, 48, 48, 48, 48, 49, 48, 48, 48, 48, 48, 32, 48, 48, 48, 48, 48, 48, 48, 48, 49, 49, 49, 32, 48, 48, 48, 48, 48, 48, 48, 48, 49, 49, 48, 32, 48, 48, 48, 48, 48, 49, 48, 48, 48, 48, 48])), (ByteArray.mk (List.toArray [49, 49, 48, 32, 48, 49, 48, 49, 48, 48, 32, 48, 48, 48, 49, 49, 49, 49, 48, 32, 48, 48, 48, 48, 48, 48, 49, 49, 49, 49, 32, 48, 48, 48, 48, 48, 49, 48, 48, 48, 48, 49, 32, 48, 48, 48, 48, 48, 49, 48, 49, 48, 48, 48, 48])), (ByteArray.mk (List.toArray [49, 49, 49, 48, 32, 48, 48, 48, 49, 49, 49, 48, 49, 32, 48, 48, 48, 48, 48, 48, 49, 49, 49, 48, 32, 48, 48, 48, 48, 48, 49, 48, 49, 48, 48, 48, 49])), (ByteArray.mk (List.toArray [48, 49, 49, 48, 49, 32, 48, 48, 48, 49, 48, 48, 48, 49, 49, 32, 48, 48, 48, 48, 48, 48, 49, 49, 48, 49])), (ByteArray.mk (List.toArray [48, 49, 49, 48, 48, 32, 48, 48, 48, 49, 48, 48, 48, 49, 48, 32, 48, 48, 48, 48, 48, 49, 48, 49, 48, 48, 49, 48])), (ByteArray.mk (List.toArray [48, 49, 48, 49, 49, 32, 48, 48, 48, 48, 48, 48, 49, 49, 48, 48, 32, 48, 48, 48, 48, 48, 49, 48, 49, 48, 48, 49, 49])), (ByteArray.mk (List.toArray [48, 49, 48, 48, 49, 49, 32, 48, 48, 48, 48, 48, 48, 49, 48, 49, 49, 32, 48, 48, 48, 48, 48, 49, 48, 49, 48, 49, 48, 48])), ⟨#[48, 49, 48, 48, 49, 48, 32, 48, 48, 48, 48, 48, 48, 49, 48, 49, 48]⟩, ⟨#[48, 49, 48, 48, 48, 49, 32, 48, 48, 48, 48, 48, 48, 49, 48, 48, 49]⟩, ⟨#[48, 49, 48, 48, 48, 48, 32, 48, 48, 48, 48, 48, 48, 49, 48, 48, 48]⟩, (ByteArray.mk (List.toArray [48, 48, 49, 48, 49, 49, 48, 32, 48, 48, 48, 48, 48, 49, 48, 49, 48, 49, 48, 49])), ⟨#[48, 48, 49, 48, 49, 48, 49]⟩, ⟨#[48, 48, 49, 48, 49, 48, 48]⟩, ⟨#[48, 48, 48, 49, 49, 49, 48, 48]⟩, ⟨#[48, 48, 48, 49, 49, 48, 49, 49]⟩, ⟨#[48, 48, 48, 49, 48, 48, 48, 48, 49]⟩, ⟨#[48, 48, 48, 49, 48, 48, 48, 48, 48]⟩, ⟨#[48, 48, 48, 48, 49, 49, 49, 49, 49]⟩, ⟨#[48, 48, 48, 48, 49, 49, 49, 49, 48]⟩, ⟨#[48, 48, 48, 48, 49, 49, 49, 48, 49]⟩, ⟨#[48, 48, 48, 48, 49, 49, 49, 48, 48]⟩, ⟨#[48, 48, 48, 48, 49, 49, 48, 49, 49]⟩, ⟨#[48, 48, 48, 48, 49, 49, 48, 49, 48]⟩, ⟨#[48, 48, 48, 48, 48, 49, 48, 48, 48, 49, 48]⟩, ⟨#[48, 48, 48, 48, 48, 49, 48, 48, 48, 49, 49]⟩, ⟨#[48, 48, 48, 48, 48, 49, 48, 49, 48, 49, 49, 48]⟩, ⟨#[48, 48, 48, 48, 48, 49, 48, 49, 48, 49, 49, 49]⟩] rfl rfl rfl ?_
    refine rThen ?_
    refine rRet ?_
    replace hT := sIf hT; obtain ⟨p1, hT⟩ := hT
    refine rFreezeQ 0 .str ([(ByteArray.mk (List.toArray [49, 48, 32, 49, 49, 49, 49, 32, 48, 49, 48, 49, 48, 49, 32, 48, 48, 49, 48, 49, 49, 49, 32, 48, 48, 48, 49, 49, 49, 49, 49, 32, 48, 48, 48, 49, 48, 48, 49, 48, 49, 32, 48, 48, 48, 49, 48, 48, 49, 48, 48, 32, 48, 48, 48, 48, 49, 48, 48, 48, 48, 49, 32, 48, 48, 48, 48, 49, 48, 48, 48, 48, 48, 32, 48, 48, 48, 48, 48, 48, 48, 48, 49, 49, 49, 32, 48, 48, 48, 48, 48, 48, 48, 48, 49, 49, 48, 32, 48, 48, 48, 48, 48, 49, 48, 48, 48, 48, 48])), (ByteArray.mk (List.toArray [49, 49, 48, 32, 48, 49, 48, 49, 48, 48, 32, 48, 48, 48, 49, 49, 49, 49, 48, 32, 48, 48, 48, 48, 48, 48, 49, 49, 49, 49, 32, 48, 48, 48, 48, 48, 49, 48, 48, 48, 48, 49, 32, 48, 48, 48, 48, 48, 49, 48, 49, 48, 48, 48, 48])), (ByteArray.mk (List.toArray [49, 49, 49, 48, 32, 48, 48, 48, 49, 49, 49, 48, 49, 32, 48, 48, 48, 48, 48, 48, 49, 49, 49, 48, 32, 48, 48, 48, 48, 48, 49, 48, 49, 48, 48, 48, 49])), (ByteArray.mk (List.toArray [48, 49, 49, 48, 49, 32, 48, 48, 48, 49, 48, 48, 48, 49, 49, 32, 48, 48, 48, 48, 48, 48, 49, 49, 48, 49])), (ByteArray.mk (List.toArray [48, 49, 49, 48, 48, 32, 48, 48, 48, 49, 48, 48, 48, 49, 48, 32, 48, 48, 48, 48, 48, 49, 48, 49, 48, 48, 49, 48])), (ByteArray.mk (List.toArray [48, 49, 48, 49, 49, 32, 48, 48, 48, 48, 48, 48, 49, 49, 48, 48, 32, 48, 48, 48, 48, 48, 49, 48, 49, 48, 48, 49, 49])), (ByteArray.mk (List.toArray [48, 49, 48, 48, 49, 49, 32, 48, 48, 48, 48, 48, 48, 49, 48, 49, 49, 32, 48, 48, 48, 48, 48, 49, 48, 49, 48, 49, 48, 48])), ⟨#[48, 49, 48, 48, 49, 48, 32, 48, 48, 48, 48, 48, 48, 49, 48, 49, 48]⟩, ⟨#[48, 49, 48, 48, 48, 49, 32, 48, 48, 48, 48, 48, 48, 49, 48, 48, 49]⟩, ⟨#[48, 49, 48, 48, 48, 48, 32, 48, 48, 48, 48, 48, 48, 49, 48, 48, 48]⟩, (ByteArray.mk (List.toArray [48, 48, 49, 48, 49, 49, 48, 32, 48, 48, 48, 48, 48, 49, 48, 49, 48, 49, 48, 49])), ⟨#[48, 48, 49, 48, 49, 48, 49]⟩, ⟨#[48, 48, 49, 48, 49, 48, 48]⟩, ⟨#[48, 48, 48, 49, 49, 49, 48, 48]⟩, ⟨#[48, 48, 48, 49, 49, 48, 49, 49]⟩, ⟨#[48, 48, 48, 49, 48, 48, 48, 48, 49]⟩, ⟨#[48, 48, 48, 49, 48, 48, 48, 48, 48]⟩, ⟨#[48, 48, 48, 48, 49, 49, 49, 49, 49]⟩, ⟨#[48, 48, 48, 48, 49, 49, 49, 49, 48]⟩, ⟨#[48, 48, 48, 48, 49, 49, 49, 48, 49]⟩, ⟨#[48, 48, 48, 48, 49, 49, 49, 48, 48]⟩, ⟨#[48, 48, 48, 48, 49, 49, 48, 49, 49]⟩, ⟨#[48, 48, 48, 48, 49, 49, 48, 49, 48]⟩, ⟨#[48, 48, 48, 48, 48, 49, 48, 48, 48, 49, 48]⟩, ⟨#[48, 48, 48, 48, 48, 49, 48, 48, 48, 49, 49]⟩, ⟨#[48, 48, 48, 48, 48, 49, 48, 49, 48, 49, 49, 48]⟩, ⟨#[48, 48, 48, 48, 48, 49, 48, 49, 48, 49, 49, 49]⟩] : List ByteArray) [(0, .v (.c (.fz .str ([(ByteArray.mk (List.toArray [49, 48, 32, 49, 49, 49, 49, 32, 48, 49, 48, 49, 48, 49, 32, 48, 48, 49, 48, 49, 49, 49, 32, 48, 48, 48, 49, 49, 49, 49, 49, 32, 48, 48, 48, 49, 48, 48, 49, 48, 49, 32, 48, 48, 48, 49, 48, 48, 49, 48, 48, 32, 48, 48, 48, 48, 49, 48, 48, 48, 48, 49, 32, 48, 48, 48, 48, 49, 48, 48, 48, 48, 48, 32, 48, 48, 48, 48, 48, 48, 48, 48, 49, 49, 49, 32, 48, 48, 48, 48, 48, 48, 48, 48, 49, 49, 48, 32, 48, 48, 48, 48, 48, 49, 48, 48, 48, 48, 48])), (ByteArray.mk (List.toArray [49, 49, 48, 32, 48, 49, 48, 49, 48, 48, 32, 48, 48, 48, 49, 49, 49, 49, 48, 32, 48, 48, 48, 48, 48, 48, 49, 49, 49, 49, 32, 48, 48, 48, 48, 48, 49, 48, 48, 48, 48, 49, 32, 48, 48, 48, 48, 48, 49, 48, 49, 48, 48, 48, 48])), (ByteArray.mk (List.toArray [49, 49, 49, 48, 32, 48, 48, 48, 49, 49, 49, 48, 49, 32, 48, 48, 48, 48, 48, 48, 49, 49, 49, 48, 32, 48, 48, 48, 48, 48, 49, 48, 49, 48, 48, 48, 49])), (ByteArray.mk (List.toArray [48, 49, 49, 48, 49, 32, 48, 48, 48, 49, 48, 48, 48, 49, 49, 32, 48, 48, 48, 48, 48, 48, 49, 49, 48, 49])), (ByteArray.mk (List.toArray [48, 49, 49, 48, 48, 32, 48, 48, 48, 49, 48, 48, 48, 49, 48, 32, 48, 48, 48, 48, 48, 49, 48, 49, 48, 48, 49, 48])), (ByteArray.mk (List.toArray [48, 49, 48, 49, 49, 32, 48, 48, 48, 48, 48, 48, 49, 49, 48, 48, 32, 48, 48, 48, 48, 48, 49, 48, 49, 48, 48, 49, 49])), (ByteArray.mk (List.toArray [48, 49, 48, 48, 49, 49, 32, 48, 48, 48, 48, 48, 48, 49, 48, 49, 49, 32, 48, 48, 48, 48, 48, 49, 48, 49, 48, 49, 48, 48])), ⟨#[48, 49, 48, 48, 49, 48, 32, 48, 48, 48, 48, 48, 48, 49, 48, 49, 48]⟩, ⟨#[48, 49, 48, 48, 48, 49, 32, 48, 48, 48, 48, 48, 48, 49, 48, 48, 49]⟩, ⟨#[48, 49, 48, 48, 48, 48, 32, 48, 48, 48, 48, 48, 48, 49, 48, 48, 48]⟩, (ByteArray.mk (List.toArray [48, 48, 49, 48, 49, 49, 48, 32, 48, 48, 48, 48, 48, 49, 48, 49, 48, 49, 48, 49])), ⟨#[48, 48, 49, 48, 49, 48, 49]⟩, ⟨#[48, 48, 49, 48, 49, 48, 48]⟩, ⟨#[48, 48, 48, 49, 49, 49, 48, 48]⟩, ⟨#[48, 48, 48, 49, 49, 48, 49, 49]⟩, ⟨#[48, 48, 48, 49, 48, 48, 48, 48, 49]⟩, ⟨#[48, 48, 48, 49, 48, 48, 48, 48, 48]⟩, ⟨#[48, 48, 48, 48, 49, 49, 49, 49, 49]⟩, ⟨#[48, 48, 48, 48, 49, 49, 49, 49, 48]⟩, ⟨#[48, 48, 48, 48, 49, 49, 49, 48, 49]⟩, ⟨#[48, 48, 48, 48, 49, 49, 49, 48, 48]⟩, ⟨#[48, 48, 48, 48, 49, 49, 48, 49, 49]⟩, ⟨#[48, 48, 48, 48, 49, 49, 48, 49, 48]⟩, ⟨#[48, 48, 48, 48, 48, 49, 48, 48, 48, 49, 48]⟩, ⟨#[48, 48, 48, 48, 48, 49, 48, 48, 48, 49, 49]⟩, ⟨#[48, 48, 48, 48, 48, 49, 48, 49, 48, 49, 49, 48]⟩, ⟨#[48, 48, 48, 48, 48, 49, 48, 49, 48, 49, 49, 49]⟩] : List ByteArray))))] [] rfl rfl (by (repeat' first | exact True.intro | exact rfl | apply And.intro) <;> first | assumption | rfl) (by (repeat' first | exact True.intro | exact rfl | apply And.intro) <;> first | assumption | rfl) ?_
    have hy := Option.some.inj hT; subst hy
    exact zEnd0 hX rfl
  · cases h
def ref09_ends (N : Nat) : Option (List ByteArray) :=
  if 41 = ([(ByteArray.mk (List.toArray [48, 49, 49, 49, 32, 48, 48, 48, 48, 49, 49, 48, 48, 49, 32, 48, 48, 48, 48, 48, 48, 48, 48, 49, 48, 49])), ⟨#[48, 48, 49, 49, 49, 49, 32, 48, 48, 48, 48, 48, 48, 48, 48, 49, 48, 48]⟩, ⟨#[48, 48, 49, 49, 49, 48]⟩, ⟨#[48, 48, 49, 49, 48, 49]⟩, ⟨#[48, 48, 49, 49, 48, 48]⟩, ⟨#[48, 48, 49, 48, 48, 49, 49]⟩, ⟨#[48, 48, 49, 48, 48, 49, 48]⟩, ⟨#[48, 48, 49, 48, 48, 48, 49]⟩, ⟨#[48, 48, 49, 48, 48, 48, 48]⟩, ⟨#[48, 48, 48, 49, 49, 48, 49, 48]⟩, ⟨#[48, 48, 48, 49, 49, 48, 48, 49]⟩, ⟨#[48, 48, 48, 49, 49, 48, 48, 48]⟩, ⟨#[48, 48, 48, 49, 48, 49, 49, 49]⟩, ⟨#[48, 48, 48, 49, 48, 49, 49, 48]⟩, ⟨#[48, 48, 48, 49, 48, 49, 48, 49]⟩, ⟨#[48, 48, 48, 49, 48, 49, 48, 48]⟩, ⟨#[48, 48, 48, 49, 48, 48, 49, 49]⟩, ⟨#[48, 48, 48, 48, 49, 49, 48, 48, 48]⟩, ⟨#[48, 48, 48, 48, 49, 48, 49, 49, 49]⟩, ⟨#[48, 48, 48, 48, 49, 48, 49, 49, 48]⟩, ⟨#[48, 48, 48, 48, 49, 48, 49, 48, 49]⟩, ⟨#[48, 48, 48, 48, 49, 48, 49, 48, 48]⟩, ⟨#[48, 48, 48, 48, 49, 48, 48, 49, 49]⟩, ⟨#[48, 48, 48, 48, 49, 48, 48, 49, 48]⟩, ⟨#[48, 48, 48, 48, 49, 48, 48, 48, 49]⟩, ⟨#[48, 48, 48, 48, 48, 48, 48, 49, 49, 49]⟩, ⟨#[48, 48, 48, 48, 48, 48, 48, 49, 49, 48]⟩, ⟨#[48, 48, 48, 48, 48, 48, 48, 49, 48, 49]⟩, ⟨#[48, 48, 48, 48, 48, 48, 48, 49, 48, 48]⟩, ⟨#[48, 48, 48, 48, 48, 49, 48, 48, 49, 48, 48]⟩, ⟨#[48, 48, 48, 48, 48, 49, 48, 48, 49, 48, 49]⟩, ⟨#[48, 48, 48, 48, 48, 49, 48, 48, 49, 49, 48]⟩, ⟨#[48, 48, 48, 48, 48, 49, 48, 48, 49, 49, 49]⟩, ⟨#[48, 48, 48, 48, 48, 49, 48, 49, 49, 48, 48, 48]⟩, ⟨#[48, 48, 48, 48, 48, 49, 48, 49, 49, 48, 48, 49]⟩, ⟨#[48, 48, 48, 48, 48, 49, 48, 49, 49, 48, 49, 48]⟩, ⟨#[48, 48, 48, 48, 48, 49, 48, 49, 49, 48, 49, 49]⟩, ⟨#[48, 48, 48, 48, 48, 49, 48, 49, 49, 49, 48, 48]⟩, ⟨#[48, 48, 48, 48, 48, 49, 48, 49, 49, 49, 48, 49]⟩, ⟨#[48, 48, 48, 48, 48, 49, 48, 49, 49, 49, 49, 48]⟩, ⟨#[48, 48, 48, 48, 48, 49, 48, 49, 49, 49, 49, 49]⟩] : List ByteArray).length then
    some ([(ByteArray.mk (List.toArray [48, 49, 49, 49, 32, 48, 48, 48, 48, 49, 49, 48, 48, 49, 32, 48, 48, 48, 48, 48, 48, 48, 48, 49, 48, 49])), ⟨#[48, 48, 49, 49, 49, 49, 32, 48, 48, 48, 48, 48, 48, 48, 48, 49, 48, 48]⟩, ⟨#[48, 48, 49, 49, 49, 48]⟩, ⟨#[48, 48, 49, 49, 48, 49]⟩, ⟨#[48, 48, 49, 49, 48, 48]⟩, ⟨#[48, 48, 49, 48, 48, 49, 49]⟩, ⟨#[48, 48, 49, 48, 48, 49, 48]⟩, ⟨#[48, 48, 49, 48, 48, 48, 49]⟩, ⟨#[48, 48, 49, 48, 48, 48, 48]⟩, ⟨#[48, 48, 48, 49, 49, 48, 49, 48]⟩, ⟨#[48, 48, 48, 49, 49, 48, 48, 49]⟩, ⟨#[48, 48, 48, 49, 49, 48, 48, 48]⟩, ⟨#[48, 48, 48, 49, 48, 49, 49, 49]⟩, ⟨#[48, 48, 48, 49, 48, 49, 49, 48]⟩, ⟨#[48, 48, 48, 49, 48, 49, 48, 49]⟩, ⟨#[48, 48, 48, 49, 48, 49, 48, 48]⟩, ⟨#[48, 48, 48, 49, 48, 48, 49, 49]⟩, ⟨#[48, 48, 48, 48, 49, 49, 48, 48, 48]⟩, ⟨#[48, 48, 48, 48, 49, 48, 49, 49, 49]⟩, ⟨#[48, 48, 48, 48, 49, 48, 49, 49, 48]⟩, ⟨#[48, 48, 48, 48, 49, 48, 49, 48, 49]⟩, ⟨#[48, 48, 48, 48, 49, 48, 49, 48, 48]⟩, ⟨#[48, 48, 48, 48, 49, 48, 48, 49, 49]⟩, ⟨#[48, 48, 48, 48, 49, 48, 48, 49, 48]⟩, ⟨#[48, 48, 48, 48, 49, 48, 48, 48, 49]⟩, ⟨#[48, 48, 48, 48, 48, 48, 48, 49, 49, 49]⟩, ⟨#[48, 48, 48, 48, 48, 48, 48, 49, 49, 48]⟩, ⟨#[48, 48, 48, 48, 48, 48, 48, 49, 48, 49]⟩, ⟨#[48, 48, 48, 48, 48, 48, 48, 49, 48, 48]⟩, ⟨#[48, 48, 48, 48, 48, 49, 48, 48, 49, 48, 48]⟩, ⟨#[48, 48, 48, 48, 48, 49, 48, 48, 49, 48, 49]⟩, ⟨#[48, 48, 48, 48, 48, 49, 48, 48, 49, 49, 48]⟩, ⟨#[48, 48, 48, 48, 48, 49, 48, 48, 49, 49, 49]⟩, ⟨#[48, 48, 48, 48, 48, 49, 48, 49, 49, 48, 48, 48]⟩, ⟨#[48, 48, 48, 48, 48, 49, 48, 49, 49, 48, 48, 49]⟩, ⟨#[48, 48, 48, 48, 48, 49, 48, 49, 49, 48, 49, 48]⟩, ⟨#[48, 48, 48, 48, 48, 49, 48, 49, 49, 48, 49, 49]⟩, ⟨#[48, 48, 48, 48, 48, 49, 48, 49, 49, 49, 48, 48]⟩, ⟨#[48, 48, 48, 48, 48, 49, 48, 49, 49, 49, 48, 49]⟩, ⟨#[48, 48, 48, 48, 48, 49, 48, 49, 49, 49, 49, 48]⟩, ⟨#[48, 48, 48, 48, 48, 49, 48, 49, 49, 49, 49, 49]⟩] : List ByteArray)
  else none
def sp_ref09_ends (N : Nat) : X.Spec := fun args lk => match args with
  | [] => some ⟨(ref09_ends N).isSome = true, .v (.c (.fz .str ((ref09_ends N).getD default))), [], []⟩
  | _ => none
set_option maxRecDepth 100000 in
set_option maxHeartbeats 1000000 in
theorem ok_ref09_ends (N : Nat) : FnOK Tryd.prog gt0 42 (sp_ref09_ends N) := by
  refine fnOK_handed Tryd.func42 rfl (by kernel_rfl) tt_ok (ktNil) ?_
  intro args lk r h hp
  unfold sp_ref09_ends at h
  split at h
  · skip
    cases h
    obtain ⟨x, hx⟩ := Option.isSome_iff_exists.1 hp
    simp only [hx, Option.getD_some]
    refine hand0 rfl rfl (fun w0 M ε0 hX => ?_)
    refine rCount (fun hε => ?_)
    have hT : ref09_ends N = some x := hx; clear hx hp; unfold ref09_ends at hT
    refine rSeq ?_
    refine zReg md0 hX rfl rfl rfl ?_
    refine rThen ?_
    refine rSeq ?_
    refine zReg md0 hX rfl rfl rfl ?_
    refine rLstQ 0 .str [(ByteArray.mk (List.toArray [48, 49, 49, 49, 32, 48, 48, 48, 48, 49, 49, 48, 48, 49, 32, 48, 48, 48, 48, 48, 48, 48, 48, 49, 48, 49])), ⟨#[48, 48, 49, 49, 49, 49, 32, 48, 48, 48, 48, 48, 48, 48, 48, 49, 48, 48]⟩, ⟨#[48, 48, 49, 49, 49, 48]⟩, ⟨#[48, 48, 49, 49, 48, 49]⟩, ⟨#[48, 48, 49, 49, 48, 48]⟩, ⟨#[48, 48, 49, 48, 48, 49, 49]⟩, ⟨#[48, 48, 49, 48, 48, 49, 48]⟩, ⟨#[48, 48, 49, 48, 48, 48, 49]⟩, ⟨#[48, 48, 49, 48, 48, 48, 48]⟩, ⟨#[48, 48, 48, 49, 49, 48, 49, 48]⟩, ⟨#[48, 48, 48, 49, 49, 48, 48, 49]⟩, ⟨#[48, 48, 48, 49, 49, 48, 48, 48]⟩, ⟨#[48, 48, 48, 49, 48, 49, 49, 49]⟩, ⟨#[48, 48, 48, 49, 48, 49, 49, 48]⟩, ⟨#[48, 48, 48, 49, 48, 49, 48, 49]⟩, ⟨#[48, 48, 48, 49, 48, 49, 48, 48]⟩, ⟨#[48, 48, 48, 49, 48, 48, 49, 49]⟩, ⟨#[48, 48, 48, 48, 49, 49, 48, 48, 48]⟩, ⟨#[48, 48, 48, 48, 49, 48, 49, 49, 49]⟩, ⟨#[48, 48, 48, 48, 49, 48, 49, 49, 48]⟩, ⟨#[48, 48, 48, 48, 49, 48, 49, 48, 49]⟩, ⟨#[48, 48, 48, 48, 49, 48, 49, 48, 48]⟩, ⟨#[48, 48, 48, 48, 49, 48, 48, 49, 49]⟩, ⟨#[48, 48, 48, 48, 49, 48, 48, 49, 48]⟩, ⟨#[48, 48, 48, 48, 49, 48, 48, 48, 49]⟩, ⟨#[48, 48, 48, 48, 48, 48, 48, 49, 49, 49]⟩, ⟨#[48, 48, 48, 48, 48, 48, 48, 49, 49, 48]⟩, ⟨#[48, 48, 48, 48, 48, 48, 48, 49, 48, 49]⟩, ⟨#[48, 48, 48, 48, 48, 48, 48, 49, 48, 48]⟩, ⟨#[48, 48, 48, 48, 48, 49, 48, 48, 49, 48, 48]⟩, ⟨#[48, 48, 48, 48, 48, 49, 48, 48, 49, 48, 49]⟩, ⟨#[48, 48, 48, 48, 48, 49, 48, 48, 49, 49, 48]⟩, ⟨#[48, 48, 48, 48, 48, 49, 48, 48, 49, 49, 49]⟩, ⟨#[48, 48, 48, 48, 48, 49, 48, 49, 49, 48, 48, 48]⟩, ⟨#[48, 48, 48, 48, 48, 49, 48, 49, 49, 48, 48, 49]⟩, ⟨#[48, 48, 48, 48, 48, 49, 48, 49, 49, 48, 49, 48]⟩, ⟨#[48, 48, 48, 48, 48, 49, 48, 49, 49, 48, 49, 49]⟩, ⟨#[48, 48, 48, 48, 48, 49, 48, 49, 49, 49, 48, 48]⟩, ⟨#[48, 48, 48, 48, 48, 49, 48, 49, 49, 49, 48, 49]⟩, ⟨#[48, 48, 48, 48, 48, 49, 48, 49, 49, 49, 49, 48]⟩, ⟨#[48, 48, 48, 48, 48, 49, 48, 49, 49, 49, 49, 49]⟩] rfl rfl rfl ?_
    refine rThen ?_
    refine rRet ?_
    replace hT := sIf hT; obtain ⟨p1, hT⟩ := hT
    refine rFreezeQ 0 .str ([(ByteArray.mk (List.toArray [48, 49, 49, 49, 32, 48, 48, 48, 48, 49, 49, 48, 48, 49, 32, 48, 48, 48, 48, 48, 48, 48, 48, 49, 48, 49])), ⟨#[48, 48, 49, 49, 49, 49, 32, 48, 48, 48, 48, 48, 48, 48, 48, 49, 48, 48]⟩, ⟨#[48, 48, 49, 49, 49, 48]⟩, ⟨#[48, 48, 49, 49, 48, 49]⟩, ⟨#[48, 48, 49, 49, 48, 48]⟩, ⟨#[48, 48, 49, 48, 48, 49, 49]⟩, ⟨#[48, 48, 49, 48, 48, 49, 48]⟩, ⟨#[48, 48, 49, 48, 48, 48, 49]⟩, ⟨#[48, 48, 49, 48, 48, 48, 48]⟩, ⟨#[48, 48, 48, 49, 49, 48, 49, 48]⟩, ⟨#[48, 48, 48, 49, 49, 48, 48, 49]⟩, ⟨#[48, 48, 48, 49, 49, 48, 48, 48]⟩, ⟨#[48, 48, 48, 49, 48, 49, 49, 49]⟩, ⟨#[48, 48, 48, 49, 48, 49, 49, 48]⟩, ⟨#[48, 48, 48, 49, 48, 49, 48, 49]⟩, ⟨#[48, 48, 48, 49, 48, 49, 48, 48]⟩, ⟨#[48, 48, 48, 49, 48, 48, 49, 49]⟩, ⟨#[48, 48, 48, 48, 49, 49, 48, 48, 48]⟩, ⟨#[48, 48, 48, 48, 49, 48, 49, 49, 49]⟩, ⟨#[48, 48, 48, 48, 49, 48, 49, 49, 48]⟩, ⟨#[48, 48, 48, 48, 49, 48, 49, 48, 49]⟩, ⟨#[48, 48, 48, 48, 49, 48, 49, 48, 48]⟩, ⟨#[48, 48, 48, 48, 49, 48, 48, 49, 49]⟩, ⟨#[48, 48, 48, 48, 49, 48, 48, 49, 48]⟩, ⟨#[48, 48, 48, 48, 49, 48, 48, 48, 49]⟩, ⟨#[48, 48, 48, 48, 48, 48, 48, 49, 49, 49]⟩, ⟨#[48, 48, 48, 48, 48, 48, 48, 49, 49, 48]⟩, ⟨#[48, 48, 48, 48, 48, 48, 48, 49, 48, 49]⟩, ⟨#[48, 48, 48, 48, 48, 48, 48, 49, 48, 48]⟩, ⟨#[48, 48, 48, 48, 48, 49, 48, 48, 49, 48, 48]⟩, ⟨#[48, 48, 48, 48, 48, 49, 48, 48, 49, 48, 49]⟩, ⟨#[48, 48, 48, 48, 48, 49, 48, 48, 49, 49, 48]⟩, ⟨#[48, 48, 48, 48, 48, 49, 48, 48, 49, 49, 49]⟩, ⟨#[48, 48, 48, 48, 48, 49, 48, 49, 49, 48, 48, 48]⟩, ⟨#[48, 48, 48, 48, 48, 49, 48, 49, 49, 48, 48, 49]⟩, ⟨#[48, 48, 48, 48, 48, 49, 48, 49, 49, 48, 49, 48]⟩, ⟨#[48, 48, 48, 48, 48, 49, 48, 49, 49, 48, 49, 49]⟩, ⟨#[48, 48, 48, 48, 48, 49, 48, 49, 49, 49, 48, 48]⟩, ⟨#[48, 48, 48, 48, 48, 49, 48, 49, 49, 49, 48, 49]⟩, ⟨#[48, 48, 48, 48, 48, 49, 48, 49, 49, 49, 49, 48]⟩, ⟨#[48, 48, 48, 48, 48, 49, 48, 49, 49, 49, 49, 49]⟩] : List ByteArray) [(0, .v (.c (.fz .str ([(ByteArray.mk (List.toArray [48, 49, 49, 49, 32, 48, 48, 48, 48, 49, 49, 48, 48, 49, 32, 48, 48, 48, 48, 48, 48, 48, 48, 49, 48, 49])), ⟨#[48, 48, 49, 49, 49, 49, 32, 48, 48, 48, 48, 48, 48, 48, 48, 49, 48, 48]⟩, ⟨#[48, 48, 49, 49, 49, 48]⟩, ⟨#[48, 48, 49, 49, 48, 49]⟩, ⟨#[48, 48, 49, 49, 48, 48]⟩, ⟨#[48, 48, 49, 48, 48, 49, 49]⟩, ⟨#[48, 48, 49, 48, 48, 49, 48]⟩, ⟨#[48, 48, 49, 48, 48, 48, 49]⟩, ⟨#[48, 48, 49, 48, 48, 48, 48]⟩, ⟨#[48, 48, 48, 49, 49, 48, 49, 48]⟩, ⟨#[48, 48, 48, 49, 49, 48, 48, 49]⟩, ⟨#[48, 48, 48, 49, 49, 48, 48, 48]⟩, ⟨#[48, 48, 48, 49, 48, 49, 49, 49]⟩, ⟨#[48, 48, 48, 49, 48, 49, 49, 48]⟩, ⟨#[48, 48, 48, 49, 48, 49, 48, 49]⟩, ⟨#[48, 48, 48, 49, 48, 49, 48, 48]⟩, ⟨#[48, 48, 48, 49, 48, 48, 49, 49]⟩, ⟨#[48, 48, 48, 48, 49, 49, 48, 48, 48]⟩, ⟨#[48, 48, 48, 48, 49, 48, 49, 49, 49]⟩, ⟨#[48, 48, 48, 48, 49, 48, 49, 49, 48]⟩, ⟨#[48, 48, 48, 48, 49, 48, 49, 48, 49]⟩, ⟨#[48, 48, 48, 48, 49, 48, 49, 48, 48]⟩, ⟨#[48, 48, 48, 48, 49, 48, 48, 49, 49]⟩, ⟨#[48, 48, 48, 48, 49, 48, 48, 49, 48]⟩, ⟨#[48, 48, 48, 48, 49, 48, 48, 48, 49]⟩, ⟨#[48, 48, 48, 48, 48, 48, 48, 49, 49, 49]⟩, ⟨#[48, 48, 48, 48, 48, 48, 48, 49, 49, 48]⟩, ⟨#[48, 48, 48, 48, 48, 48, 48, 49, 48, 49]⟩, ⟨#[48, 48, 48, 48, 48, 48, 48, 49, 48, 48]⟩, ⟨#[48, 48, 48, 48, 48, 49, 48, 48, 49, 48, 48]⟩, ⟨#[48, 48, 48, 48, 48, 49, 48, 48, 49, 48, 49]⟩, ⟨#[48, 48, 48, 48, 48, 49, 48, 48, 49, 49, 48]⟩, ⟨#[48, 48, 48, 48, 48, 49, 48, 48, 49, 49, 49]⟩, ⟨#[48, 48, 48, 48, 48, 49, 48, 49, 49, 48, 48, 48]⟩, ⟨#[48, 48, 48, 48, 48, 49, 48, 49, 49, 48, 48, 49]⟩, ⟨#[48, 48, 48, 48, 48, 49, 48, 49, 49, 48, 49, 48]⟩, ⟨#[48, 48, 48, 48, 48, 49, 48, 49, 49, 48, 49, 49]⟩, ⟨#[48, 48, 48, 48, 48, 49, 48, 49, 49, 49, 48, 48]⟩, ⟨#[48, 48, 48, 48, 48, 49, 48, 49, 49, 49, 48, 49]⟩, ⟨#[48, 48, 48, 48, 48, 49, 48, 49, 49, 49, 49, 48]⟩, ⟨#[48, 48, 48, 48, 48, 49, 48, 49, 49, 49, 49, 49]⟩] : List ByteArray))))] [] rfl rfl (by (repeat' first | exact True.intro | exact rfl | apply And.intro) <;> first | assumption | rfl) (by (repeat' first | exact True.intro | exact rfl | apply And.intro) <;> first | assumption | rfl) ?_
    have hy := Option.some.inj hT; subst hy
    exact zEnd0 hX rfl
  · cases h
def ref09_words_b1 (N : Nat) (a1 : ByteArray) (s1 : (Nat × Int × (List ByteArray))) : Option ((Nat × Int × (List ByteArray)) ⊕ (Nat × (List ByteArray))) :=
  bif (decide (s1.2.1 < (ByteArray.size a1 : Int))) then
    if (0 : Int) ≤ s1.2.1 ∧ s1.2.1 < (ByteArray.size a1 : Int) then
      joinK (fun (v2 : (Nat × (List ByteArray))) =>
        if inK .i64 (s1.2.1 + 1) then
          some (.inl (v2.1, (s1.2.1 + 1), v2.2))
        else none
      ) fun k1 =>
        bif (decide ((byteI a1 (s1.2.1).toNat) = 32)) then
          if s1.2.2.length = s1.1 ∧ (s1.1 + 1) * 16 ≤ 140737488355328 ∧ s1.1 + 1 ≤ 9223372036854775807 then
            k1 ((s1.1 + 1), (s1.2.2 ++ [⟨#[]⟩]))
          else none
        else
          let x2 := (s1.2.2.set ((s1.1 : Int) - 1).toNat ((s1.2.2.getD ((s1.1 : Int) - 1).toNat ⟨#[]⟩) ++ (ByteArray.extract a1 (s1.2.1).toNat (s1.2.1 + 1).toNat)))
          if inK .i64 ((s1.1 : Int) - 1) ∧ (0 : Int) ≤ ((s1.1 : Int) - 1) ∧ ((s1.1 : Int) - 1) < (s1.1 : Int) ∧ ((s1.1 : Int) - 1).toNat < s1.2.2.length ∧ inK .i64 (s1.2.1 + 1) ∧ (0 : Int) ≤ s1.2.1 ∧ s1.2.1 ≤ (s1.2.1 + 1) ∧ (s1.2.1 + 1) ≤ (ByteArray.size a1 : Int) ∧ (ByteArray.size (s1.2.2.getD ((s1.1 : Int) - 1).toNat ⟨#[]⟩) : Int) + ByteArray.size (ByteArray.extract a1 (s1.2.1).toNat (s1.2.1 + 1).toNat) ≤ 9223372036854775807 then
            k1 (s1.1, x2)
          else none
    else none
  else
    some (.inr (s1.1, s1.2.2))
def ref09_words (N : Nat) (a1 : ByteArray) : Option (List ByteArray) :=
  (iter (ref09_words_b1 N a1) N (1, 0, ([⟨#[]⟩] : List ByteArray))).bind fun v1 =>
    if v1.1 = v1.2.length then
      some v1.2
    else none
def sp_ref09_words (N : Nat) : X.Spec := fun args lk => match args with
  | [.v (.c (.str a1))] => some ⟨(ref09_words N a1).isSome = true, .v (.c (.fz .str ((ref09_words N a1).getD default))), [], []⟩
  | _ => none
set_option maxRecDepth 100000 in
set_option maxHeartbeats 1000000 in
theorem ok_ref09_words (N : Nat) : FnOK Tryd.prog gt0 43 (sp_ref09_words N) := by
  refine fnOK_handed Tryd.func43 rfl (by kernel_rfl) tt_ok (ktNil) ?_
  intro args lk r h hp
  unfold sp_ref09_words at h
  split at h
  · rename_i a1
    cases h
    obtain ⟨x, hx⟩ := Option.isSome_iff_exists.1 hp
    simp only [hx, Option.getD_some]
    refine hand0 rfl rfl (fun w0 M ε0 hX => ?_)
    refine rCount (fun hε => ?_)
    have hT : ref09_words N a1 = some x := hx; clear hx hp; unfold ref09_words at hT
    refine rSeq ?_
    refine zReg md0 hX rfl rfl rfl ?_
    refine rThen ?_
    refine rSeq ?_
    refine zReg md0 hX rfl rfl rfl ?_
    refine rLstQ 0 .str [⟨#[]⟩] rfl rfl rfl ?_
    refine rThen ?_
    refine rSeq ?_
    refine rSeq ?_
    refine zReg md0 hX rfl rfl rfl ?_
    refine rThen ?_
    refine rBlock ?_
    replace hT := sBind hT; obtain ⟨w1, hl, hT⟩ := hT
    refine rJoinA (fun v1 => v1 = w1) (fun v1 => ⟨[(2, .v (.c (.val (.slice none 0 0)))), (3, .v (.c (.sl 0 0 v1.1 1)))], [(0, .mem true 9 (some 1) (.lst .str v1.2))], 1⟩) (.exit 0) (fun v1 hv => ?_) (fun hxs10 => ?_)
    · subst hv; clear hl
      refine rInHit ?_
      refine rThen ?_
      refine rSeq ?_
      refine zReg md0 hX rfl rfl rfl ?_
      refine rThen ?_
      refine rRet ?_
      replace hT := sIf hT; obtain ⟨p1, hT⟩ := hT
      refine rFreezeQ 0 .str v1.2 [(2, .v (.c (.fz .str v1.2)))] [] rfl rfl (by (repeat' first | exact True.intro | exact rfl | apply And.intro) <;> first | assumption | rfl) (by (repeat' first | exact True.intro | exact rfl | apply And.intro) <;> first | assumption | rfl) ?_
      have hy := Option.some.inj hT; subst hy
      exact zEnd0 hX rfl
    refine rLoopM (ref09_words_b1 N a1) (fun s1 => ⟨[(0, .v (.c (.str a1))), (2, .v (.c (.val (.slice none 0 0)))), (3, .v (.c (.sl 0 0 s1.1 1))), (4, .v (.c (.int .i64 s1.2.1)))], [(0, .mem true 9 (some 1) (.lst .str s1.2.2))], 1⟩) hl (To.mk' [] 0 hε rfl (by repeat' first | exact True.intro | exact rfl | apply And.intro) (by repeat' first | exact True.intro | exact rfl | apply And.intro)) (fun s1 zs1 NNs1 hz hnexts1 houts1 => ?_)
    clear hl hT
    have hT := hz; clear hz
    refine rSeq ?_
    refine rSeq ?_
    refine zReg md0 hX rfl rfl rfl ?_
    refine rThen ?_
    refine zCond rfl rfl (fun hc => ?_) (fun hc => ?_)
    · replace hT := sT hc hT
      refine rSkip ?_
      refine rThen ?_
      refine rSeq ?_
      refine rBlock ?_
      refine rSeq ?_
      replace hT := sIf hT; obtain ⟨⟨o1, o2⟩, hT⟩ := hT
      refine zReg md0 hX rfl rfl rfl ?_
      refine rThen ?_
      refine rJoinK hT (fun v2 => ⟨[(0, .v (.c (.str a1))), (2, .v (.c (.val (.slice none 0 0)))), (3, .v (.c (.sl 2 0 v2.1 1))), (4, .v (.c (.int .i64 s1.2.1))), (6, .v (.c (.int .i64 s1.2.1))), (7, .v (.c (.str a1))), (8, .v (.c (.int .i64 (ByteArray.size a1 : Int)))), (9, .v (.c (.bool (decide (s1.2.1 < (ByteArray.size a1 : Int)))))), (12, .v (.c (.str a1))), (13, .v (.c (.int .i64 s1.2.1))), (14, .v (.c (.int .u8 (byteI a1 (s1.2.1).toNat)))), (15, .v (.c (.bool (decide ((byteI a1 (s1.2.1).toNat) = 32)))))], [(2, .mem true 9 (some 1) (.lst .str v2.2))], 3⟩) (fun v2 hT => ?_) (fun k1 hjk1 hT => ?_)
      · skip
        refine rInNormal ?_
        refine rThen ?_
        replace hT := sIf hT; obtain ⟨o1, hT⟩ := hT
        refine zReg md0 hX rfl rfl rfl ?_
        exact hnexts1 _ (Option.some.inj hT).symm _ (To.mk' [2] 0 hε rfl (by repeat' first | exact True.intro | exact rfl | apply And.intro) (by repeat' first | exact True.intro | exact rfl | apply And.intro))
      · skip
        refine zCond rfl rfl (fun hc => ?_) (fun hc => ?_)
        · replace hT := sT hc hT
          replace hT := sIf hT; obtain ⟨⟨o1, o2, o3⟩, hT⟩ := hT
          refine zReg md0 hX rfl rfl rfl ?_
          refine rLstQ 1 .str [⟨#[]⟩] rfl rfl rfl ?_
          exact zTo [] 0 hε (hjk1 _ hT)
        · replace hT := sF hc hT
          let x2 := (s1.2.2.set ((s1.1 : Int) - 1).toNat ((s1.2.2.getD ((s1.1 : Int) - 1).toNat ⟨#[]⟩) ++ (ByteArray.extract a1 (s1.2.1).toNat (s1.2.1 + 1).toNat)))
          replace hT := sIf hT; obtain ⟨⟨o1, o2, o3, o4, o5, o6, o7, o8, o9⟩, hT⟩ := hT
          refine zDraw md0 1 [17] hX mixed rfl rfl rfl rfl rfl ?_
          exact zTo [0, 0, 0] 0 hε (hjk1 _ hT)
    · replace hT := sF hc hT
      refine rExit ?_
      refine rThenExit ?_
      refine rThenExit ?_
      exact zTo [] 0 hε (hxs10 _ (houts1 _ (Option.some.inj hT).symm))
  · cases h
def ref09_rows (N : Nat) (a1 : Bool) (a2 : Int) : Option (List ByteArray) :=
  let c1 := (ref09_table N)
  if c1.isSome = true then
    let c2 := (ref09_ends N)
    if (a1 = true → c2.isSome = true) then
      bif (decide (((bif a1 then (c2.getD default) else (c1.getD default)).length : Int) ≤ a2)) then
        some []
      else
        let c3 := (ref09_words N ((bif a1 then (c2.getD default) else (c1.getD default)).getD (a2).toNat ⟨#[]⟩))
        if (0 : Int) ≤ a2 ∧ a2 < ((bif a1 then (c2.getD default) else (c1.getD default)).length : Int) ∧ c3.isSome = true then
          some (c3.getD default)
        else none
    else none
  else none
def sp_ref09_rows (N : Nat) : X.Spec := fun args lk => match args with
  | [.v (.c (.bool a1)), .v (.c (.int .i64 a2))] => some ⟨(ref09_rows N a1 a2).isSome = true, .v (.c (.fz .str ((ref09_rows N a1 a2).getD default))), [], []⟩
  | _ => none
set_option maxRecDepth 100000 in
set_option maxHeartbeats 1000000 in
theorem ok_ref09_rows (N : Nat) : FnOK Tryd.prog gt0 18 (sp_ref09_rows N) := by
  refine fnOK_handed Tryd.func18 rfl (by kernel_rfl) tt_ok (ktCons (ok_ref09_words N) (ktCons (ok_ref09_ends N) (ktCons (ok_ref09_table N) (ktNil)))) ?_
  intro args lk r h hp
  unfold sp_ref09_rows at h
  split at h
  · rename_i a1 a2
    cases h
    obtain ⟨x, hx⟩ := Option.isSome_iff_exists.1 hp
    simp only [hx, Option.getD_some]
    refine hand0 rfl rfl (fun w0 M ε0 hX => ?_)
    refine rCount (fun hε => ?_)
    have hT : ref09_rows N a1 a2 = some x := hx; clear hx hp; unfold ref09_rows at hT
    refine rSeq ?_
    refine zReg md0 hX rfl rfl rfl ?_
    refine rThen ?_
    refine rSeq ?_
    let c1 := (ref09_table N)
    replace hT := sIf hT; obtain ⟨o1, hT⟩ := hT
    refine zReg md0 hX rfl rfl rfl ?_
    refine rThen ?_
    refine rSeq ?_
    refine rSeq ?_
    refine zReg md0 hX rfl rfl rfl ?_
    refine rThen ?_
    let c2 := (ref09_ends N)
    replace hT := sIf hT; obtain ⟨q1, hT⟩ := hT
    refine rJoin ⟨[(1, .v (.c (.int .i64 a2))), (4, .v (.c (.val (.slice none 0 0)))), (5, .v (.c (.fz .str (bif a1 then (c2.getD default) else (c1.getD default)))))], [], 0⟩ ?_ (fun hj => ?_)
    · skip
      refine rThen ?_
      refine rSeq ?_
      refine rSeq ?_
      refine zReg md0 hX rfl rfl rfl ?_
      refine rThen ?_
      refine zCond rfl rfl (fun hc => ?_) (fun hc => ?_)
      · replace hT := sT hc hT
        refine rSeq ?_
        refine zReg md0 hX rfl rfl rfl ?_
        refine rThen ?_
        refine rRet ?_
        refine rThenRet ?_
        have hy := Option.some.inj hT; subst hy
        exact zEnd0 hX rfl
      · replace hT := sF hc hT
        refine rSkip ?_
        refine rThen ?_
        refine rSeq ?_
        let c3 := (ref09_words N ((bif a1 then (c2.getD default) else (c1.getD default)).getD (a2).toNat ⟨#[]⟩))
        replace hT := sIf hT; obtain ⟨⟨o1, o2, o3⟩, hT⟩ := hT
        refine zReg md0 hX rfl rfl rfl ?_
        refine rThen ?_
        refine rRet ?_
        have hy := Option.some.inj hT; subst hy
        exact zEnd0 hX rfl
    · clear hT
      refine zCond rfl rfl (fun hc => ?_) (fun hc => ?_)
      · skip
        have q1 := q1 hc
        refine zReg md0 hX rfl rfl rfl ?_
        exact rTo (To.mk' [] 0 hε rfl (by (repeat' first | exact True.intro | exact rfl | apply And.intro) <;> (repeat' first | exact rfl | refine Eq.trans ?_ (cTr (by assumption)) | refine Eq.trans ?_ (cFr (by assumption)) | refine Eq.trans (cTl (by assumption)) ?_ | refine Eq.trans (cFl (by assumption)) ?_)) (by (repeat' first | exact True.intro | exact rfl | apply And.intro) <;> (repeat' first | exact rfl | refine Eq.trans ?_ (cTr (by assumption)) | refine Eq.trans ?_ (cFr (by assumption)) | refine Eq.trans (cTl (by assumption)) ?_ | refine Eq.trans (cFl (by assumption)) ?_))) hj
      · skip
        refine rSkip ?_
        exact rTo (To.mk' [] 0 hε rfl (by (repeat' first | exact True.intro | exact rfl | apply And.intro) <;> (repeat' first | exact rfl | refine Eq.trans ?_ (cTr (by assumption)) | refine Eq.trans ?_ (cFr (by assumption)) | refine Eq.trans (cTl (by assumption)) ?_ | refine Eq.trans (cFl (by assumption)) ?_)) (by (repeat' first | exact True.intro | exact rfl | apply And.intro) <;> (repeat' first | exact rfl | refine Eq.trans ?_ (cTr (by assumption)) | refine Eq.trans ?_ (cFr (by assumption)) | refine Eq.trans (cTl (by assumption)) ?_ | refine Eq.trans (cFl (by assumption)) ?_))) hj
  · cases h
def ref05_begins (N : Nat) (a1 : ByteArray) (a2 : ByteArray) : Option Bool :=
  let x1 := (bif (decide ((ByteArray.size a2 : Int) ≤ (ByteArray.size a1 : Int))) then (decide (ByteArray.toList (ByteArray.extract a1 0 (ByteArray.size a2 : Int).toNat) = ByteArray.toList a2)) else false)
  if ((decide ((ByteArray.size a2 : Int) ≤ (ByteArray.size a1 : Int))) = true → (0 : Int) ≤ (ByteArray.size a2 : Int)) ∧ ((decide ((ByteArray.size a2 : Int) ≤ (ByteArray.size a1 : Int))) = true → (ByteArray.size a2 : Int) ≤ (ByteArray.size a1 : Int)) then
    some x1
  else none
def sp_ref05_begins (N : Nat) : X.Spec := fun args lk => match args with
  | [.v (.c (.str a1)), .v (.c (.str a2))] => some ⟨(ref05_begins N a1 a2).isSome = true, .v (.c (.bool ((ref05_begins N a1 a2).getD default))), [], []⟩
  | _ => none
set_option maxRecDepth 100000 in
set_option maxHeartbeats 1000000 in
theorem ok_ref05_begins (N : Nat) : FnOK Tryd.prog gt0 44 (sp_ref05_begins N) := by
  refine fnOK_handed Tryd.func44 rfl (by kernel_rfl) tt_ok (ktNil) ?_
  intro args lk r h hp
  unfold sp_ref05_begins at h
  split at h
  · rename_i a1 a2
    cases h
    obtain ⟨x, hx⟩ := Option.isSome_iff_exists.1 hp
    simp only [hx, Option.getD_some]
    refine hand0 rfl rfl (fun w0 M ε0 hX => ?_)
    refine rCount (fun hε => ?_)
    have hT : ref05_begins N a1 a2 = some x := hx; clear hx hp; unfold ref05_begins at hT
    refine rSeq ?_
    refine zReg md0 hX rfl rfl rfl ?_
    refine rThen ?_
    refine rSeq ?_
    let x1 := (bif (decide ((ByteArray.size a2 : Int) ≤ (ByteArray.size a1 : Int))) then (decide (ByteArray.toList (ByteArray.extract a1 0 (ByteArray.size a2 : Int).toNat) = ByteArray.toList a2)) else false)
    replace hT := sIf hT; obtain ⟨⟨o1, o2⟩, hT⟩ := hT
    refine rRegC md0 hX rfl rfl rfl (by (repeat' first | exact True.intro | with_reducible assumption | (with_reducible apply And.intro) | intro _) <;> first | assumption | exact o1 (by assumption) | exact o2 (by assumption) | exact rfl | omega | exact Nat.le_of_ble_eq_true rfl | exact selF (by assumption) | exact selT (by assumption) | exact And.intro rfl rfl | exact And.intro (by assumption) rfl | exact And.intro (by omega) rfl | (simp only [inK] at *; omega) | (simp_all [sel] <;> fail) | fail) ?_
    refine rThen ?_
    refine rRet ?_
    have hy := Option.some.inj hT; subst hy
    exact zEnd0 hX rfl
  · cases h
def ref05_Take_b2 (N : Nat) (a1 : Nat) (a2 : ByteArray) (a3 : Int) (a4 : (List ByteArray)) (s1 : Int) (s2 : (Bool × Int)) : Option ((Bool × Int) ⊕ (Int ⊕ (Bool × Int × Int × Bool))) :=
  bif (decide (s2.2 < (a1 : Int))) then
    let x1 := (decide (ByteArray.toList (a4.getD (s2.2).toNat ⟨#[]⟩) = ByteArray.toList (ByteArray.extract a2 (a3).toNat (a3 + s1).toNat)))
    if (0 : Int) ≤ s2.2 ∧ s2.2 < (a1 : Int) ∧ (s2.2).toNat < a4.length ∧ inK .i64 (a3 + s1) ∧ (0 : Int) ≤ a3 ∧ a3 ≤ (a3 + s1) ∧ (a3 + s1) ≤ (ByteArray.size a2 : Int) then
      bif x1 then
        if inK .i64 (a3 + s1) then
          some (.inr (Sum.inl s2.2))
        else none
      else
        let c1 := (ref05_begins N (a4.getD (s2.2).toNat ⟨#[]⟩) (ByteArray.extract a2 (a3).toNat (a3 + s1).toNat))
        if ((!s2.1) = true → (0 : Int) ≤ s2.2) ∧ ((!s2.1) = true → s2.2 < (a1 : Int)) ∧ ((!s2.1) = true → (s2.2).toNat < a4.length) ∧ ((!s2.1) = true → inK .i64 (a3 + s1)) ∧ ((!s2.1) = true → (0 : Int) ≤ a3) ∧ ((!s2.1) = true → a3 ≤ (a3 + s1)) ∧ ((!s2.1) = true → (a3 + s1) ≤ (ByteArray.size a2 : Int)) ∧ ((!s2.1) = true → c1.isSome = true) then
          if inK .i64 (s2.2 + 1) then
            some (.inl ((bif s2.1 then true else (c1.getD default)), (s2.2 + 1)))
          else none
        else none
    else none
  else
    some (.inr (Sum.inr (s2.1, s2.2, s2.2, (decide (s2.2 < (a1 : Int))))))
def ref05_Take_b1 (N : Nat) (a1 : Nat) (a2 : ByteArray) (a3 : Int) (a4 : (List ByteArray)) (s1 : Int) : Option (Int ⊕ ((Int × Int × Int) ⊕ Unit)) :=
  bif (decide (s1 ≤ 25)) then
    if inK .i64 ((ByteArray.size a2 : Int) - a3) then
      bif (decide (((ByteArray.size a2 : Int) - a3) < s1)) then
        some (.inr (Sum.inl (0, a3, 2)))
      else
        (iter (ref05_Take_b2 N a1 a2 a3 a4 s1) N (false, 0)).bind fun w2 =>
          (Sum.elim (fun v3 =>
            some (.inr (Sum.inl (v3, (a3 + s1), 0)))
          )
            (fun v4 =>
              bif (!v4.1) then
                some (.inr (Sum.inl (0, a3, 3)))
              else
                if inK .i64 (s1 + 1) then
                  some (.inl (s1 + 1))
                else none
            )
          ) w2
    else none
  else
    some (.inr (Sum.inr ()))
def ref05_Take (N : Nat) (a1 : Nat) (a2 : ByteArray) (a3 : Int) (a4 : (List ByteArray)) : Option (Int × Int × Int) :=
  (iter (ref05_Take_b1 N a1 a2 a3 a4) N 1).bind fun w1 =>
    (Sum.elim (fun v1 =>
      some (v1.1, v1.2.1, v1.2.2)
    )
      (fun v2 =>
        some (0, a3, 3)
      )
    ) w1
def sp_ref05_Take (N : Nat) : X.Spec := fun args lk => match args with
  | [.v (.c (.sl i0 0 a1 1)), .v (.c (.str a2)), .v (.c (.int .i64 a3))] => (match lk i0 with
    | some (.mem _ _ _ b0) => (match frzB .str b0 with
    | some a4 => some ⟨(ref05_Take N a1 a2 a3 a4).isSome = true, .tup [.c (.int .i64 ((ref05_Take N a1 a2 a3 a4).getD default).1), .c (.int .i64 ((ref05_Take N a1 a2 a3 a4).getD default).2.1), .c (.int .i64 ((ref05_Take N a1 a2 a3 a4).getD default).2.2)], [], []⟩
    | none => none)
    | _ => none)
  | _ => none
set_option maxRecDepth 100000 in
set_option maxHeartbeats 1000000 in
theorem ok_ref05_Take (N : Nat) : FnOK Tryd.prog gt0 19 (sp_ref05_Take N) := by
  refine fnOK_handed Tryd.func19 rfl (by kernel_rfl) tt_ok (ktCons (ok_ref05_begins N) (ktNil)) ?_
  intro args lk r h hp
  unfold sp_ref05_Take at h
  split at h
  · rename_i i0 a1 a2 a3
    split at h
    · rename_i _ _ _ b0 hl0
      split at h
      · rename_i a4 hf0
        change (List ByteArray) at a4
        cases h
        obtain ⟨x, hx⟩ := Option.isSome_iff_exists.1 hp
        simp only [hx, Option.getD_some]
        refine handL [i0] 1 [(0, .mem false 9 none (.lst .str a4))] [.v (.c (.sl 0 0 a1 1)), .v (.c (.str a2)), .v (.c (.int .i64 a3))] rfl rfl rfl ⟨isSome_of hl0, trivial⟩ ⟨⟨rfl, (by repeat' first | exact True.intro | exact rfl | exact ⟨_, rfl, rfl⟩ | apply And.intro | exact Or.inl rfl), _, hl0, sub_frz hf0⟩, trivial⟩ rfl (fun w0 M ε0 hX => ?_)
        refine rCount (fun hε => ?_)
        have hT : ref05_Take N a1 a2 a3 a4 = some x := hx; clear hx hp; unfold ref05_Take at hT
        refine rSeq ?_
        refine zReg md0 hX rfl rfl rfl ?_
        refine rThen ?_
        refine rSeq ?_
        refine rSeq ?_
        refine zReg md0 hX rfl rfl rfl ?_
        refine rThen ?_
        refine rBlock ?_
        replace hT := sBind hT; obtain ⟨w1, hl, hT⟩ := hT
        refine rJoinA (fun v1 => (Sum.inl v1) = w1) (fun v1 => ⟨[(6, .v (.c (.int .i64 v1.1))), (7, .v (.c (.int .i64 v1.2.1))), (8, .v (.c (.int .i64 v1.2.2)))], [(0, .mem false 9 none (.lst .str a4))], 1⟩) .ret (fun v1 hv => ?_) (fun hxs10 => ?_)
        · subst hv; clear hl; replace hT := (sElimL hT)
          refine rInRet ?_
          refine rThenRet ?_
          have hy := Option.some.inj hT; subst hy
          exact zEnd0 hX rfl
        refine rJoinA (fun v2 => (Sum.inr v2) = w1) (fun v2 => ⟨[(2, .v (.c (.int .i64 a3))), (6, .v (.c (.int .i64 0))), (7, .v (.c (.int .i64 0))), (8, .v (.c (.int .i64 0)))], [(0, .mem false 9 none (.lst .str a4))], 1⟩) (.exit 0) (fun v2 hv => ?_) (fun hxs11 => ?_)
        · subst hv; clear hl; replace hT := (sElimR hT)
          refine rInHit ?_
          refine rThen ?_
          refine rSeq ?_
          refine zReg md0 hX rfl rfl rfl ?_
          refine rThen ?_
          refine rRet ?_
          have hy := Option.some.inj hT; subst hy
          exact zEnd0 hX rfl
        refine rLoopM (ref05_Take_b1 N a1 a2 a3 a4) (fun s1 => ⟨[(0, .v (.c (.sl 0 0 a1 1))), (1, .v (.c (.str a2))), (2, .v (.c (.int .i64 a3))), (6, .v (.c (.int .i64 0))), (7, .v (.c (.int .i64 0))), (8, .v (.c (.int .i64 0))), (9, .v (.c (.int .i64 s1)))], [(0, .mem false 9 none (.lst .str a4))], 1⟩) hl (To.mk' [] 1 hε rfl (by repeat' first | exact True.intro | exact rfl | apply And.intro) (by repeat' first | exact True.intro | exact rfl | apply And.intro)) (fun s1 zs1 NNs1 hz hnexts1 houts1 => ?_)
        clear hl hT
        have hT := hz; clear hz
        refine rSeq ?_
        refine rSeq ?_
        refine zReg md0 hX rfl rfl rfl ?_
        refine rThen ?_
        refine zCond rfl rfl (fun hc => ?_) (fun hc => ?_)
        · replace hT := sT hc hT
          refine rSkip ?_
          refine rThen ?_
          refine rSeq ?_
          refine rBlock ?_
          refine rSeq ?_
          refine rSeq ?_
          replace hT := sIf hT; obtain ⟨o1, hT⟩ := hT
          refine zReg md0 hX rfl rfl rfl ?_
          refine rThen ?_
          refine zCond rfl rfl (fun hc => ?_) (fun hc => ?_)
          · replace hT := sT hc hT
            refine rSeq ?_
            refine zReg md0 hX rfl rfl rfl ?_
            refine rThen ?_
            refine rRet ?_
            refine rThenRet ?_
            refine rInRet ?_
            refine rThenRet ?_
            refine rThenRet ?_
            exact zTo [] 1 hε (hxs10 _ (houts1 _ (Option.some.inj hT).symm))
          · replace hT := sF hc hT
            refine rSkip ?_
            refine rThen ?_
            refine rSeq ?_
            refine zReg md0 hX rfl rfl rfl ?_
            refine rThen ?_
            refine rSeq ?_
            refine rSeq ?_
            refine zReg md0 hX rfl rfl rfl ?_
            refine rThen ?_
            refine rBlock ?_
            replace hT := sBind hT; obtain ⟨w2, hl, hT⟩ := hT
            refine rJoinA (fun v3 => (Sum.inl v3) = w2) (fun v3 => ⟨[(6, .v (.c (.int .i64 v3))), (7, .v (.c (.int .i64 (a3 + s1)))), (8, .v (.c (.int .i64 0)))], [(0, .mem false 9 none (.lst .str a4))], 1⟩) .ret (fun v3 hv => ?_) (fun hxs20 => ?_)
            · subst hv; clear hl; replace hT := (sElimL hT)
              refine rInRet ?_
              refine rThenRet ?_
              refine rInRet ?_
              refine rThenRet ?_
              refine rThenRet ?_
              exact zTo [] 1 hε (hxs10 _ (houts1 _ (Option.some.inj hT).symm))
            refine rJoinA (fun v4 => (Sum.inr v4) = w2) (fun v4 => ⟨[(0, .v (.c (.sl 0 0 a1 1))), (1, .v (.c (.str a2))), (2, .v (.c (.int .i64 a3))), (6, .v (.c (.int .i64 0))), (7, .v (.c (.int .i64 0))), (8, .v (.c (.int .i64 0))), (9, .v (.c (.int .i64 s1))), (10, .v (.c (.bool v4.1))), (11, .v (.c (.int .i64 v4.2.1))), (12, .v (.c (.int .i64 s1))), (13, .v (.c (.bool (decide (s1 ≤ 25))))), (16, .v (.c (.str a2))), (17, .v (.c (.int .i64 (ByteArray.size a2 : Int)))), (18, .v (.c (.int .i64 a3))), (19, .v (.c (.int .i64 ((ByteArray.size a2 : Int) - a3)))), (20, .v (.c (.int .i64 s1))), (21, .v (.c (.bool (decide (((ByteArray.size a2 : Int) - a3) < s1))))), (23, .v (.c (.int .i64 v4.2.2.1))), (24, .v (.c (.sl 0 0 a1 1))), (25, .v (.c (.int .i64 (a1 : Int)))), (26, .v (.c (.bool v4.2.2.2)))], [(0, .mem false 9 none (.lst .str a4))], 1⟩) (.exit 2) (fun v4 hv => ?_) (fun hxs21 => ?_)
            · subst hv; clear hl; replace hT := (sElimR hT)
              refine rInHit ?_
              refine rThen ?_
              refine rSeq ?_
              refine zReg md0 hX rfl rfl rfl ?_
              refine rThen ?_
              refine zCond rfl rfl (fun hc => ?_) (fun hc => ?_)
              · replace hT := sT hc hT
                refine rSeq ?_
                refine zReg md0 hX rfl rfl rfl ?_
                refine rThen ?_
                refine rRet ?_
                refine rInRet ?_
                refine rThenRet ?_
                refine rThenRet ?_
                exact zTo [] 1 hε (hxs10 _ (houts1 _ (Option.some.inj hT).symm))
              · replace hT := sF hc hT
                refine rSkip ?_
                refine rInNormal ?_
                refine rThen ?_
                replace hT := sIf hT; obtain ⟨o1, hT⟩ := hT
                refine zReg md0 hX rfl rfl rfl ?_
                exact hnexts1 _ (Option.some.inj hT).symm _ (To.mk' [] 1 hε rfl (by repeat' first | exact True.intro | exact rfl | apply And.intro) (by repeat' first | exact True.intro | exact rfl | apply And.intro))
            refine rLoopM (ref05_Take_b2 N a1 a2 a3 a4 s1) (fun s2 => ⟨[(0, .v (.c (.sl 0 0 a1 1))), (1, .v (.c (.str a2))), (2, .v (.c (.int .i64 a3))), (6, .v (.c (.int .i64 0))), (7, .v (.c (.int .i64 0))), (8, .v (.c (.int .i64 0))), (9, .v (.c (.int .i64 s1))), (10, .v (.c (.bool s2.1))), (11, .v (.c (.int .i64 s2.2))), (12, .v (.c (.int .i64 s1))), (13, .v (.c (.bool (decide (s1 ≤ 25))))), (16, .v (.c (.str a2))), (17, .v (.c (.int .i64 (ByteArray.size a2 : Int)))), (18, .v (.c (.int .i64 a3))), (19, .v (.c (.int .i64 ((ByteArray.size a2 : Int) - a3)))), (20, .v (.c (.int .i64 s1))), (21, .v (.c (.bool (decide (((ByteArray.size a2 : Int) - a3) < s1)))))], [(0, .mem false 9 none (.lst .str a4))], 1⟩) hl (To.mk' [] 1 hε rfl (by repeat' first | exact True.intro | exact rfl | apply And.intro) (by repeat' first | exact True.intro | exact rfl | apply And.intro)) (fun s2 zs2 NNs2 hz hnexts2 houts2 => ?_)
            clear hl hT
            have hT := hz; clear hz
            refine rSeq ?_
            refine rSeq ?_
            refine zReg md0 hX rfl rfl rfl ?_
            refine rThen ?_
            refine zCond rfl rfl (fun hc => ?_) (fun hc => ?_)
            · replace hT := sT hc hT
              refine rSkip ?_
              refine rThen ?_
              refine rSeq ?_
              refine rBlock ?_
              refine rSeq ?_
              refine rSeq ?_
              let x1 := (decide (ByteArray.toList (a4.getD (s2.2).toNat ⟨#[]⟩) = ByteArray.toList (ByteArray.extract a2 (a3).toNat (a3 + s1).toNat)))
              replace hT := sIf hT; obtain ⟨⟨o1, o2, o3, o4, o5, o6, o7⟩, hT⟩ := hT
              refine zDraw md0 0 [] hX mixed rfl rfl rfl rfl rfl ?_
              refine rThen ?_
              refine zCond rfl rfl (fun hc => ?_) (fun hc => ?_)
              · replace hT := sT hc hT
                refine rSeq ?_
                replace hT := sIf hT; obtain ⟨o1, hT⟩ := hT
                refine zReg md0 hX rfl rfl rfl ?_
                refine rThen ?_
                refine rRet ?_
                refine rThenRet ?_
                refine rInRet ?_
                refine rThenRet ?_
                refine rThenRet ?_
                exact zTo [] 1 hε (hxs20 _ (houts2 _ (Option.some.inj hT).symm))
              · replace hT := sF hc hT
                refine rSkip ?_
                refine rThen ?_
                let c1 := (ref05_begins N (a4.getD (s2.2).toNat ⟨#[]⟩) (ByteArray.extract a2 (a3).toNat (a3 + s1).toNat))
                replace hT := sIf hT; obtain ⟨⟨o1, o2, o3, o4, o5, o6, o7, o8⟩, hT⟩ := hT
                refine rDrawM md0 1 [14] hX mixed rfl rfl rfl rfl rfl (by (repeat' first | exact True.intro | with_reducible assumption | (with_reducible apply And.intro) | intro _) <;> first | assumption | exact o1 (by assumption) | exact o2 (by assumption) | exact o3 (by assumption) | exact o4 (by assumption) | exact o5 (by assumption) | exact o6 (by assumption) | exact o7 (by assumption) | exact o8 (by assumption) | exact rfl | omega | exact Nat.le_of_ble_eq_true rfl | exact selF (by assumption) | exact selT (by assumption) | exact And.intro rfl rfl | exact And.intro (by assumption) rfl | exact And.intro (by omega) rfl | (simp only [inK] at *; omega) | (simp_all [sel] <;> fail) | fail) ?_
                refine rInNormal ?_
                refine rThen ?_
                replace hT := sIf hT; obtain ⟨o1, hT⟩ := hT
                refine zReg md0 hX rfl rfl rfl ?_
                exact hnexts2 _ (Option.some.inj hT).symm _ (To.mk' [] 1 hε rfl (by repeat' first | exact True.intro | exact rfl | apply And.intro) (by repeat' first | exact True.intro | exact rfl | apply And.intro))
            · replace hT := sF hc hT
              refine rExit ?_
              refine rThenExit ?_
              refine rThenExit ?_
              exact zTo [] 1 hε (hxs21 _ (houts2 _ (Option.some.inj hT).symm))
        · replace hT := sF hc hT
          refine rExit ?_
          refine rThenExit ?_
          refine rThenExit ?_
          exact zTo [] 1 hε (hxs11 _ (houts1 _ (Option.some.inj hT).symm))
      · cases h
    · cases h
  · cases h
def ref02_Number_b1 (N : Nat) (a1 : ByteArray) (s1 : (Int × Int)) : Option ((Int × Int) ⊕ Int) :=
  bif (decide (s1.2 < (ByteArray.size a1 : Int))) then
    if inK .i64 ((2 : Int) * s1.1) ∧ (0 : Int) ≤ s1.2 ∧ s1.2 < (ByteArray.size a1 : Int) ∧ inK .u8 ((byteI a1 (s1.2).toNat) - 48) ∧ inK .i64 ((byteI a1 (s1.2).toNat) - 48) ∧ inK .i64 (((2 : Int) * s1.1) + ((byteI a1 (s1.2).toNat) - 48)) then
      if inK .i64 (s1.2 + 1) then
        some (.inl ((((2 : Int) * s1.1) + ((byteI a1 (s1.2).toNat) - 48)), (s1.2 + 1)))
      else none
    else none
  else
    some (.inr s1.1)
def ref02_Number (N : Nat) (a1 : ByteArray) : Option Int :=
  (iter (ref02_Number_b1 N a1) N (0, 0)).bind fun v1 =>
    some v1
def sp_ref02_Number (N : Nat) : X.Spec := fun args lk => match args with
  | [.v (.c (.str a1))] => some ⟨(ref02_Number N a1).isSome = true, .v (.c (.int .i64 ((ref02_Number N a1).getD default))), [], []⟩
  | _ => none
set_option maxRecDepth 100000 in
set_option maxHeartbeats 1000000 in
theorem ok_ref02_Number (N : Nat) : FnOK Tryd.prog gt0 20 (sp_ref02_Number N) := by
  refine fnOK_handed Tryd.func20 rfl (by kernel_rfl) tt_ok (ktNil) ?_
  intro args lk r h hp
  unfold sp_ref02_Number at h
  split at h
  · rename_i a1
    cases h
    obtain ⟨x, hx⟩ := Option.isSome_iff_exists.1 hp
    simp only [hx, Option.getD_some]
    refine hand0 rfl rfl (fun w0 M ε0 hX => ?_)
    refine rCount (fun hε => ?_)
    have hT : ref02_Number N a1 = some x := hx; clear hx hp; unfold ref02_Number at hT
    refine rSeq ?_
    refine zReg md0 hX rfl rfl rfl ?_
    refine rThen ?_
    refine rSeq ?_
    refine zReg md0 hX rfl rfl rfl ?_
    refine rThen ?_
    refine rSeq ?_
    refine rSeq ?_
    refine zReg md0 hX rfl rfl rfl ?_
    refine rThen ?_
    refine rBlock ?_
    replace hT := sBind hT; obtain ⟨w1, hl, hT⟩ := hT
    refine rJoinA (fun v1 => v1 = w1) (fun v1 => ⟨[(2, .v (.c (.int .i64 0))), (3, .v (.c (.int .i64 v1)))], [], 0⟩) (.exit 0) (fun v1 hv => ?_) (fun hxs10 => ?_)
    · subst hv; clear hl
      refine rInHit ?_
      refine rThen ?_
      refine rSeq ?_
      refine zReg md0 hX rfl rfl rfl ?_
      refine rThen ?_
      refine rRet ?_
      have hy := Option.some.inj hT; subst hy
      exact zEnd0 hX rfl
    refine rLoopM (ref02_Number_b1 N a1) (fun s1 => ⟨[(0, .v (.c (.str a1))), (2, .v (.c (.int .i64 0))), (3, .v (.c (.int .i64 s1.1))), (4, .v (.c (.int .i64 s1.2)))], [], 0⟩) hl (To.mk' [] 0 hε rfl (by repeat' first | exact True.intro | exact rfl | apply And.intro) (by repeat' first | exact True.intro | exact rfl | apply And.intro)) (fun s1 zs1 NNs1 hz hnexts1 houts1 => ?_)
    clear hl hT
    have hT := hz; clear hz
    refine rSeq ?_
    refine rSeq ?_
    refine zReg md0 hX rfl rfl rfl ?_
    refine rThen ?_
    refine zCond rfl rfl (fun hc => ?_) (fun hc => ?_)
    · replace hT := sT hc hT
      refine rSkip ?_
      refine rThen ?_
      refine rSeq ?_
      refine rBlock ?_
      replace hT := sIf hT; obtain ⟨⟨o1, o2, o3, o4, o5, o6⟩, hT⟩ := hT
      refine zReg md0 hX rfl rfl rfl ?_
      refine rInNormal ?_
      refine rThen ?_
      replace hT := sIf hT; obtain ⟨o1, hT⟩ := hT
      refine zReg md0 hX rfl rfl rfl ?_
      exact hnexts1 _ (Option.some.inj hT).symm _ (To.mk' [] 0 hε rfl (by repeat' first | exact True.intro | exact rfl | apply And.intro) (by repeat' first | exact True.intro | exact rfl | apply And.intro))
    · replace hT := sF hc hT
      refine rExit ?_
      refine rThenExit ?_
      refine rThenExit ?_
      exact zTo [] 0 hε (hxs10 _ (houts1 _ (Option.some.inj hT).symm))
  · cases h
def ref09_Right (N : Nat) (a1 : Bool) (a2 : Int) (a3 : Int) : Option Bool :=
  let x1 := (bif (bif (bif (bif (decide ((0 : Int) ≤ a2)) then (decide (a2 ≤ 63)) else false) then (decide (((-127) : Int) ≤ a3)) else false) then (decide (a3 ≤ 127)) else false) then (decide (a3 ≠ 0)) else false)
  some x1
def sp_ref09_Right (N : Nat) : X.Spec := fun args lk => match args with
  | [.v (.agg [.cs [.bool a1, .int .i64 a2, .int .i64 a3]])] => some ⟨(ref09_Right N a1 a2 a3).isSome = true, .v (.c (.bool ((ref09_Right N a1 a2 a3).getD default))), [], []⟩
  | _ => none
set_option maxRecDepth 100000 in
set_option maxHeartbeats 1000000 in
theorem ok_ref09_Right (N : Nat) : FnOK Tryd.prog gt0 21 (sp_ref09_Right N) := by
  refine fnOK_handed Tryd.func21 rfl (by kernel_rfl) tt_ok (ktNil) ?_
  intro args lk r h hp
  unfold sp_ref09_Right at h
  split at h
  · rename_i a1 a2 a3
    cases h
    obtain ⟨x, hx⟩ := Option.isSome_iff_exists.1 hp
    simp only [hx, Option.getD_some]
    refine hand0 rfl rfl (fun w0 M ε0 hX => ?_)
    refine rCount (fun hε => ?_)
    have hT : ref09_Right N a1 a2 a3 = some x := hx; clear hx hp; unfold ref09_Right at hT
    refine rSeq ?_
    refine zReg md0 hX rfl rfl rfl ?_
    refine rThen ?_
    refine rSeq ?_
    let x1 := (bif (bif (bif (bif (decide ((0 : Int) ≤ a2)) then (decide (a2 ≤ 63)) else false) then (decide (((-127) : Int) ≤ a3)) else false) then (decide (a3 ≤ 127)) else false) then (decide (a3 ≠ 0)) else false)
    refine zReg md0 hX rfl rfl rfl ?_
    refine rThen ?_
    refine rRet ?_
    have hy := Option.some.inj hT; subst hy
    exact zEnd0 hX rfl
  · cases h
def ref09_amount (N : Nat) (a1 : Int) : Option Int :=
  bif (decide (a1 < 0)) then
    if inK .i64 (-a1) then
      some (-a1)
    else none
  else
    some a1
def sp_ref09_amount (N : Nat) : X.Spec := fun args lk => match args with
  | [.v (.c (.int .i64 a1))] => some ⟨(ref09_amount N a1).isSome = true, .v (.c (.int .i64 ((ref09_amount N a1).getD default))), [], []⟩
  | _ => none
set_option maxRecDepth 100000 in
set_option maxHeartbeats 1000000 in
theorem ok_ref09_amount (N : Nat) : FnOK Tryd.prog gt0 23 (sp_ref09_amount N) := by
  refine fnOK_handed Tryd.func23 rfl (by kernel_rfl) tt_ok (ktNil) ?_
  intro args lk r h hp
  unfold sp_ref09_amount at h
  split at h
  · rename_i a1
    cases h
    obtain ⟨x, hx⟩ := Option.isSome_iff_exists.1 hp
    simp only [hx, Option.getD_some]
    refine hand0 rfl rfl (fun w0 M ε0 hX => ?_)
    refine rCount (fun hε => ?_)
    have hT : ref09_amount N a1 = some x := hx; clear hx hp; unfold ref09_amount at hT
    refine rSeq ?_
    refine zReg md0 hX rfl rfl rfl ?_
    refine rThen ?_
    refine rSeq ?_
    refine rSeq ?_
    refine zReg md0 hX rfl rfl rfl ?_
    refine rThen ?_
    refine zCond rfl rfl (fun hc => ?_) (fun hc => ?_)
    · replace hT := sT hc hT
      refine rSeq ?_
      replace hT := sIf hT; obtain ⟨o1, hT⟩ := hT
      refine zReg md0 hX rfl rfl rfl ?_
      refine rThen ?_
      refine rRet ?_
      refine rThenRet ?_
      have hy := Option.some.inj hT; subst hy
      exact zEnd0 hX rfl
    · replace hT := sF hc hT
      refine rSkip ?_
      refine rThen ?_
      refine rSeq ?_
      refine zReg md0 hX rfl rfl rfl ?_
      refine rThen ?_
      refine rRet ?_
      have hy := Option.some.inj hT; subst hy
      exact zEnd0 hX rfl
  · cases h
def ref09_has (N : Nat) (a1 : Bool) (a2 : Int) (a3 : Int) : Option ByteArray :=
  let c1 := (ref09_rows N a1 a2)
  if c1.isSome = true then
    bif (decide (((c1.getD default).length : Int) < a3)) then
      some ⟨#[]⟩
    else
      if inK .i64 (a3 - 1) ∧ (0 : Int) ≤ (a3 - 1) ∧ (a3 - 1) < ((c1.getD default).length : Int) then
        some ((c1.getD default).getD (a3 - 1).toNat ⟨#[]⟩)
      else none
  else none
def sp_ref09_has (N : Nat) : X.Spec := fun args lk => match args with
  | [.v (.c (.bool a1)), .v (.c (.int .i64 a2)), .v (.c (.int .i64 a3))] => some ⟨(ref09_has N a1 a2 a3).isSome = true, .v (.c (.str ((ref09_has N a1 a2 a3).getD default))), [], []⟩
  | _ => none
set_option maxRecDepth 100000 in
set_option maxHeartbeats 1000000 in
theorem ok_ref09_has (N : Nat) : FnOK Tryd.prog gt0 22 (sp_ref09_has N) := by
  refine fnOK_handed Tryd.func22 rfl (by kernel_rfl) tt_ok (ktCons (ok_ref09_rows N) (ktNil)) ?_
  intro args lk r h hp
  unfold sp_ref09_has at h
  split at h
  · rename_i a1 a2 a3
    cases h
    obtain ⟨x, hx⟩ := Option.isSome_iff_exists.1 hp
    simp only [hx, Option.getD_some]
    refine hand0 rfl rfl (fun w0 M ε0 hX => ?_)
    refine rCount (fun hε => ?_)
    have hT : ref09_has N a1 a2 a3 = some x := hx; clear hx hp; unfold ref09_has at hT
    refine rSeq ?_
    refine zReg md0 hX rfl rfl rfl ?_
    refine rThen ?_
    refine rSeq ?_
    let c1 := (ref09_rows N a1 a2)
    replace hT := sIf hT; obtain ⟨o1, hT⟩ := hT
    refine zReg md0 hX rfl rfl rfl ?_
    refine rThen ?_
    refine rSeq ?_
    refine rSeq ?_
    refine zReg md0 hX rfl rfl rfl ?_
    refine rThen ?_
    refine zCond rfl rfl (fun hc => ?_) (fun hc => ?_)
    · replace hT := sT hc hT
      refine rSeq ?_
      refine zReg md0 hX rfl rfl rfl ?_
      refine rThen ?_
      refine rRet ?_
      refine rThenRet ?_
      have hy := Option.some.inj hT; subst hy
      exact zEnd0 hX rfl
    · replace hT := sF hc hT
      refine rSkip ?_
      refine rThen ?_
      refine rSeq ?_
      replace hT := sIf hT; obtain ⟨⟨o1, o2, o3⟩, hT⟩ := hT
      refine zReg md0 hX rfl rfl rfl ?_
      refine rThen ?_
      refine rRet ?_
      have hy := Option.some.inj hT; subst hy
      exact zEnd0 hX rfl
  · cases h

end Go.Proofs.YtcfffichdcnlgaaDoor
