/- Models of functions, and that the program does what they tell. -/
import Derived.Test.YtcfffichdcnlgaaDoorB1
set_option linter.unusedVariables false
set_option linter.unusedSimpArgs false
namespace Go.Proofs.YtcfffichdcnlgaaDoor
open Go.X

def blocks_Take (N : Nat) (a1 : Bool) (a2 : Bool) (a3 : ByteArray) (a4 : Int) : Option (Int × (List (Bool × (Int × Int))) × Int × ByteArray × Int) :=
  let c1 := (overspill_inbits_Reader_At N a3 a4)
  if c1.isSome = true then
    let c2 := (blocks_first N a3 a4)
    if (a1 = true → c2.isSome = true) then
      let c3 := (blocks_from N a1)
      let c4 := (blocks_events N (c3.getD default) (bif a1 then (c2.getD default).2.2.1 else a3) (bif a1 then (c2.getD default).2.2.2 else a4))
      if ((bif (decide ((bif a1 then (c2.getD default).2.1 else 0) = 0)) then a2 else false) = true → c3.isSome = true) ∧ ((bif (decide ((bif a1 then (c2.getD default).2.1 else 0) = 0)) then a2 else false) = true → c4.isSome = true) then
        let x1 := (bif (bif (decide ((bif a1 then (c2.getD default).2.1 else 0) = 0)) then a2 else false) then (c4.getD default).2.1 else (bif a1 then (c2.getD default).2.1 else 0))
        let x2 := (bif (bif (decide ((bif a1 then (c2.getD default).2.1 else 0) = 0)) then a2 else false) then (c4.getD default).1 else [])
        let x3 := (bif (bif (decide ((bif a1 then (c2.getD default).2.1 else 0) = 0)) then a2 else false) then (c4.getD default).2.2.1 else (bif a1 then (c2.getD default).2.2.1 else a3))
        let x4 := (bif (bif (decide ((bif a1 then (c2.getD default).2.1 else 0) = 0)) then a2 else false) then (c4.getD default).2.2.2 else (bif a1 then (c2.getD default).2.2.2 else a4))
        bif (decide (x1 ≠ 0)) then
          let c5 := (overspill_inbits_Reader_Seek N (c1.getD default) x3 x4)
          if c5.isSome = true then
            some (0, [], x1, (c5.getD default).2.1, (c5.getD default).2.2)
          else none
        else
          some ((bif a1 then (c2.getD default).1 else 0), x2, 0, x3, x4)
      else none
    else none
  else none
def sp_blocks_Take (N : Nat) : X.Spec := fun args lk => match args with
  | [.v (.c (.ptr i0 0 0 0 0 0)), .v (.c (.bool a1)), .v (.c (.bool a2))] => (match lk i0 with
    | some (.mem true 45 none (.flat [.cs [.str a3, .int .i64 a4]])) => some ⟨(blocks_Take N a1 a2 a3 a4).isSome = true, .tup [.c (.int .i64 ((blocks_Take N a1 a2 a3 a4).getD default).1), .c (.fz (.pair .bool (.pair (.int .i64) (.int .i64))) ((blocks_Take N a1 a2 a3 a4).getD default).2.1), .c (.int .i64 ((blocks_Take N a1 a2 a3 a4).getD default).2.2.1)], [], [(i0, .mem true 45 none (.flat [.cs [.str ((blocks_Take N a1 a2 a3 a4).getD default).2.2.2.1, .int .i64 ((blocks_Take N a1 a2 a3 a4).getD default).2.2.2.2]]))]⟩
    | _ => none)
  | _ => none
set_option maxRecDepth 100000 in
set_option maxHeartbeats 1000000 in
theorem ok_blocks_Take (N : Nat) : FnOK Tryd.prog gt0 13 (sp_blocks_Take N) := by
  refine fnOK_handed Tryd.func13 rfl (by kernel_rfl) tt_ok (ktCons (ok_overspill_inbits_Reader_Seek N) (ktCons (ok_blocks_events N) (ktCons (ok_blocks_from N) (ktCons (ok_blocks_first N) (ktCons (ok_overspill_inbits_Reader_At N) (ktNil)))))) ?_
  intro args lk r h hp
  unfold sp_blocks_Take at h
  split at h
  · rename_i i0 a1 a2
    split at h
    · rename_i a3 a4 hl0
      cases h
      obtain ⟨x, hx⟩ := Option.isSome_iff_exists.1 hp
      simp only [hx, Option.getD_some]
      refine handL [i0] 1 [(0, .mem true 45 none (.flat [.cs [.str a3, .int .i64 a4]]))] [.v (.c (.ptr 0 0 0 0 0 0)), .v (.c (.bool a1)), .v (.c (.bool a2))] rfl rfl rfl ⟨isSome_of hl0, trivial⟩ ⟨⟨rfl, (by repeat' first | exact True.intro | exact rfl | exact ⟨_, rfl, rfl⟩ | apply And.intro | exact Or.inl rfl), _, hl0, .inl rfl⟩, trivial⟩ rfl (fun w0 M ε0 hX => ?_)
      refine rCount (fun hε => ?_)
      have hT : blocks_Take N a1 a2 a3 a4 = some x := hx; clear hx hp; unfold blocks_Take at hT
      refine rSeq ?_
      refine zReg md0 hX rfl rfl rfl ?_
      refine rThen ?_
      refine rSeq ?_
      refine rSeq ?_
      refine zReg md0 hX rfl rfl rfl ?_
      refine rThen ?_
      refine rCondF rfl rfl (by (repeat' first | exact True.intro | with_reducible assumption | (with_reducible apply And.intro) | intro _) <;> first | assumption | exact rfl | omega | exact Nat.le_of_ble_eq_true rfl | exact selF (by assumption) | exact selT (by assumption) | exact And.intro rfl rfl | exact And.intro (by assumption) rfl | exact And.intro (by omega) rfl | (simp only [inK] at *; omega) | (simp_all [sel] <;> fail) | fail) rfl ?_
      refine rSkip ?_
      refine rThen ?_
      refine rSeq ?_
      let c1 := (overspill_inbits_Reader_At N a3 a4)
      replace hT := sIf hT; obtain ⟨o1, hT⟩ := hT
      refine zReg md0 hX rfl rfl rfl ?_
      refine rThen ?_
      refine rSeq ?_
      refine zReg md0 hX rfl rfl rfl ?_
      refine rThen ?_
      refine rSeq ?_
      refine rSeq ?_
      refine zReg md0 hX rfl rfl rfl ?_
      refine rThen ?_
      let c2 := (blocks_first N a3 a4)
      replace hT := sIf hT; obtain ⟨q3, hT⟩ := hT
      refine rJoin ⟨[(0, .v (.c (.ptr 0 0 0 0 0 0))), (1, .v (.c (.bool a1))), (2, .v (.c (.bool a2))), (6, .v (.c (.int .i64 0))), (7, .v (.c (.val (.slice none 0 0)))), (8, .v (.c (.int .i64 0))), (9, .v (.c (.int .i64 (c1.getD default)))), (10, .v (.c (.int .i64 (bif a1 then (c2.getD default).1 else 0)))), (11, .v (.c (.int .i64 (bif a1 then (c2.getD default).2.1 else 0)))), (12, .v (.c (.val (.slice none 0 0))))], [(0, .mem true 45 none (.flat [.cs [.str (bif a1 then (c2.getD default).2.2.1 else a3), .int .i64 (bif a1 then (c2.getD default).2.2.2 else a4)]]))], 1⟩ ?_ (fun hj => ?_)
      · skip
        refine rThen ?_
        refine rSeq ?_
        refine rSeq ?_
        refine zReg md0 hX rfl rfl rfl ?_
        refine rThen ?_
        let c3 := (blocks_from N a1)
        let c4 := (blocks_events N (c3.getD default) (bif a1 then (c2.getD default).2.2.1 else a3) (bif a1 then (c2.getD default).2.2.2 else a4))
        replace hT := sIf hT; obtain ⟨⟨q1, q2⟩, hT⟩ := hT
        refine rJoin ⟨[(0, .v (.c (.ptr 0 0 0 0 0 0))), (6, .v (.c (.int .i64 0))), (7, .v (.c (.val (.slice none 0 0)))), (8, .v (.c (.int .i64 0))), (9, .v (.c (.int .i64 (c1.getD default)))), (10, .v (.c (.int .i64 (bif a1 then (c2.getD default).1 else 0)))), (11, .v (.c (.int .i64 (bif (bif (decide ((bif a1 then (c2.getD default).2.1 else 0) = 0)) then a2 else false) then (c4.getD default).2.1 else (bif a1 then (c2.getD default).2.1 else 0))))), (12, .v (.c (.fz (.pair .bool (.pair (.int .i64) (.int .i64))) (bif (bif (decide ((bif a1 then (c2.getD default).2.1 else 0) = 0)) then a2 else false) then (c4.getD default).1 else []))))], [(0, .mem true 45 none (.flat [.cs [.str (bif (bif (decide ((bif a1 then (c2.getD default).2.1 else 0) = 0)) then a2 else false) then (c4.getD default).2.2.1 else (bif a1 then (c2.getD default).2.2.1 else a3)), .int .i64 (bif (bif (decide ((bif a1 then (c2.getD default).2.1 else 0) = 0)) then a2 else false) then (c4.getD default).2.2.2 else (bif a1 then (c2.getD default).2.2.2 else a4))]]))], 1⟩ ?_ (fun hj => ?_)
        · skip
          let x1 := (bif (bif (decide ((bif a1 then (c2.getD default).2.1 else 0) = 0)) then a2 else false) then (c4.getD default).2.1 else (bif a1 then (c2.getD default).2.1 else 0))
          let x2 := (bif (bif (decide ((bif a1 then (c2.getD default).2.1 else 0) = 0)) then a2 else false) then (c4.getD default).1 else [])
          let x3 := (bif (bif (decide ((bif a1 then (c2.getD default).2.1 else 0) = 0)) then a2 else false) then (c4.getD default).2.2.1 else (bif a1 then (c2.getD default).2.2.1 else a3))
          let x4 := (bif (bif (decide ((bif a1 then (c2.getD default).2.1 else 0) = 0)) then a2 else false) then (c4.getD default).2.2.2 else (bif a1 then (c2.getD default).2.2.2 else a4))
          refine rThen ?_
          refine rSeq ?_
          refine rSeq ?_
          refine zReg md0 hX rfl rfl rfl ?_
          refine rThen ?_
          refine zCond rfl rfl (fun hc => ?_) (fun hc => ?_)
          · replace hT := sT hc hT
            refine rSeq ?_
            let c5 := (overspill_inbits_Reader_Seek N (c1.getD default) x3 x4)
            replace hT := sIf hT; obtain ⟨o1, hT⟩ := hT
            refine zReg md0 hX rfl rfl rfl ?_
            refine rThen ?_
            refine rSeq ?_
            refine zReg md0 hX rfl rfl rfl ?_
            refine rThen ?_
            refine rRet ?_
            refine rThenRet ?_
            have hy := Option.some.inj hT; subst hy
            exact rEndA [] [] [(0, .mem true 45 none (.flat [.cs [.str (c5.getD default).2.1, .int .i64 (c5.getD default).2.2]]))] (.tup [.c (.int .i64 0), .c (.fz (.pair .bool (.pair (.int .i64) (.int .i64))) []), .c (.int .i64 x1)]) hX rfl (by repeat' first | exact True.intro | exact rfl | apply And.intro | omega | exact Nat.le_of_ble_eq_true rfl) (by repeat' first | exact True.intro | exact rfl | apply And.intro) rfl rfl rfl (by repeat' first | exact True.intro | exact rfl | exact ⟨_, rfl, rfl⟩ | apply And.intro | exact Or.inl rfl) rfl rfl (by repeat' first | exact True.intro | exact rfl | exact ⟨_, rfl, rfl⟩ | apply And.intro | exact Or.inl rfl) rfl rfl
          · replace hT := sF hc hT
            refine rSkip ?_
            refine rThen ?_
            refine rSeq ?_
            refine zReg md0 hX rfl rfl rfl ?_
            refine rThen ?_
            refine rRet ?_
            have hy := Option.some.inj hT; subst hy
            exact rEndA [] [] [(0, .mem true 45 none (.flat [.cs [.str x3, .int .i64 x4]]))] (.tup [.c (.int .i64 (bif a1 then (c2.getD default).1 else 0)), .c (.fz (.pair .bool (.pair (.int .i64) (.int .i64))) x2), .c (.int .i64 0)]) hX rfl (by repeat' first | exact True.intro | exact rfl | apply And.intro | omega | exact Nat.le_of_ble_eq_true rfl) (by repeat' first | exact True.intro | exact rfl | apply And.intro) rfl rfl rfl (by repeat' first | exact True.intro | exact rfl | exact ⟨_, rfl, rfl⟩ | apply And.intro | exact Or.inl rfl) rfl rfl (by repeat' first | exact True.intro | exact rfl | exact ⟨_, rfl, rfl⟩ | apply And.intro | exact Or.inl rfl) rfl rfl
        · clear hT
          refine zCond rfl rfl (fun hc => ?_) (fun hc => ?_)
          · skip
            have q1 := q1 hc
            have q2 := q2 hc
            refine zReg md0 hX rfl rfl rfl ?_
            exact rTo (To.mk' [] 1 hε rfl (by (repeat' first | exact True.intro | exact rfl | apply And.intro) <;> (repeat' first | exact rfl | refine Eq.trans ?_ (cTr (by assumption)) | refine Eq.trans ?_ (cFr (by assumption)) | refine Eq.trans (cTl (by assumption)) ?_ | refine Eq.trans (cFl (by assumption)) ?_)) (by (repeat' first | exact True.intro | exact rfl | apply And.intro) <;> (repeat' first | exact rfl | refine Eq.trans ?_ (cTr (by assumption)) | refine Eq.trans ?_ (cFr (by assumption)) | refine Eq.trans (cTl (by assumption)) ?_ | refine Eq.trans (cFl (by assumption)) ?_))) hj
          · skip
            refine rSkip ?_
            exact rTo (To.mk' [] 1 hε rfl (by (repeat' first | exact True.intro | exact rfl | apply And.intro) <;> (repeat' first | exact rfl | refine Eq.trans ?_ (cTr (by assumption)) | refine Eq.trans ?_ (cFr (by assumption)) | refine Eq.trans (cTl (by assumption)) ?_ | refine Eq.trans (cFl (by assumption)) ?_)) (by (repeat' first | exact True.intro | exact rfl | apply And.intro) <;> (repeat' first | exact rfl | refine Eq.trans ?_ (cTr (by assumption)) | refine Eq.trans ?_ (cFr (by assumption)) | refine Eq.trans (cTl (by assumption)) ?_ | refine Eq.trans (cFl (by assumption)) ?_))) hj
      · clear hT
        refine zCond rfl rfl (fun hc => ?_) (fun hc => ?_)
        · skip
          have q3 := q3 hc
          refine zReg md0 hX rfl rfl rfl ?_
          exact rTo (To.mk' [] 1 hε rfl (by (repeat' first | exact True.intro | exact rfl | apply And.intro) <;> (repeat' first | exact rfl | refine Eq.trans ?_ (cTr (by assumption)) | refine Eq.trans ?_ (cFr (by assumption)) | refine Eq.trans (cTl (by assumption)) ?_ | refine Eq.trans (cFl (by assumption)) ?_)) (by (repeat' first | exact True.intro | exact rfl | apply And.intro) <;> (repeat' first | exact rfl | refine Eq.trans ?_ (cTr (by assumption)) | refine Eq.trans ?_ (cFr (by assumption)) | refine Eq.trans (cTl (by assumption)) ?_ | refine Eq.trans (cFl (by assumption)) ?_))) hj
        · skip
          refine rSkip ?_
          exact rTo (To.mk' [] 1 hε rfl (by (repeat' first | exact True.intro | exact rfl | apply And.intro) <;> (repeat' first | exact rfl | refine Eq.trans ?_ (cTr (by assumption)) | refine Eq.trans ?_ (cFr (by assumption)) | refine Eq.trans (cTl (by assumption)) ?_ | refine Eq.trans (cFl (by assumption)) ?_)) (by (repeat' first | exact True.intro | exact rfl | apply And.intro) <;> (repeat' first | exact rfl | refine Eq.trans ?_ (cTr (by assumption)) | refine Eq.trans ?_ (cFr (by assumption)) | refine Eq.trans (cTl (by assumption)) ?_ | refine Eq.trans (cFl (by assumption)) ?_))) hj
    · cases h
  · cases h
def overspill_outbits_Writer_Len (N : Nat) (a1 : (List Bool)) : Option (Int × (List Bool)) :=
  if (a1.length : Int) ≤ 9223372036854775800 then
    some ((a1.length : Int), a1)
  else none
def sp_overspill_outbits_Writer_Len (N : Nat) : X.Spec := fun args lk => match args with
  | [.v (.c (.ptr i0 0 0 0 0 0))] => (match lk i0 with
    | some (.obj 5 a1) => some ⟨(overspill_outbits_Writer_Len N a1).isSome = true, .v (.c (.int .i64 ((overspill_outbits_Writer_Len N a1).getD default).1)), [], [(i0, .obj 5 ((overspill_outbits_Writer_Len N a1).getD default).2)]⟩
    | _ => none)
  | _ => none
set_option maxRecDepth 100000 in
set_option maxHeartbeats 1000000 in
theorem ok_overspill_outbits_Writer_Len (N : Nat) : FnOK Tryd.prog gt0 28 (sp_overspill_outbits_Writer_Len N) := by
  refine fnOK_handed Tryd.func28 rfl (by kernel_rfl) tt_ok (ktNil) ?_
  intro args lk r h hp
  unfold sp_overspill_outbits_Writer_Len at h
  split at h
  · rename_i i0
    split at h
    · rename_i a1 hl0
      cases h
      obtain ⟨x, hx⟩ := Option.isSome_iff_exists.1 hp
      simp only [hx, Option.getD_some]
      refine handL [i0] 1 [(0, .obj 5 a1)] [.v (.c (.ptr 0 0 0 0 0 0))] rfl rfl rfl ⟨isSome_of hl0, trivial⟩ ⟨⟨rfl, (by repeat' first | exact True.intro | exact rfl | exact ⟨_, rfl, rfl⟩ | apply And.intro | exact Or.inl rfl), _, hl0, .inl rfl⟩, trivial⟩ rfl (fun w0 M ε0 hX => ?_)
      refine rCount (fun hε => ?_)
      have hT : overspill_outbits_Writer_Len N a1 = some x := hx; clear hx hp; unfold overspill_outbits_Writer_Len at hT
      replace hT := sIf hT; obtain ⟨p0, hT⟩ := hT
      refine rOpen1 p0 (by (repeat' first | exact True.intro | exact rfl | apply And.intro) <;> first | assumption | rfl) (fun ty0 => ?_)
      refine rSeq ?_
      refine zReg md0 hX rfl rfl rfl ?_
      refine rThen ?_
      refine rSeq ?_
      refine rSeq ?_
      refine zReg md0 hX rfl rfl rfl ?_
      refine rThen ?_
      refine rCondF rfl rfl (by (repeat' first | exact True.intro | with_reducible assumption | (with_reducible apply And.intro) | intro _) <;> first | assumption | exact rfl | omega | exact Nat.le_of_ble_eq_true rfl | exact selF (by assumption) | exact selT (by assumption) | exact And.intro rfl rfl | exact And.intro (by assumption) rfl | exact And.intro (by omega) rfl | (simp only [inK] at *; omega) | (simp_all [sel] <;> fail) | fail) rfl ?_
      refine rSkip ?_
      refine rThen ?_
      refine rSeq ?_
      refine zReg md0 hX rfl rfl rfl ?_
      refine rThen ?_
      refine rRet ?_
      have hy := Option.some.inj hT; subst hy
      exact rEndObj a1 hX rfl (by repeat' first | exact True.intro | exact rfl | apply And.intro | omega | exact Nat.le_of_ble_eq_true rfl) rfl rfl rfl rfl rfl rfl rfl (by first | rfl | assumption) (by first | rfl | assumption) rfl rfl
    · cases h
  · cases h
def law15_lives (N : Nat) : Option Bool :=
  let c1 := (outbits_New N)
  if c1.isSome = true then
    let c2 := (blocks_Put N true 128 1 (c1.getD default) [(true, ((0 : Int), (1 : Int)))])
    if c2.isSome = true then
      let c3 := (overspill_outbits_Writer_Text N (c2.getD default).2)
      let c4 := (inbits_New N (c3.getD default).1)
      let c5 := (blocks_Take N true true (c4.getD default).1 (c4.getD default).2)
      if c3.isSome = true ∧ c4.isSome = true ∧ c5.isSome = true then
        joinK (fun (v1 : Bool) =>
          some v1
        ) fun k1 =>
          let c7 := (overspill_outbits_Writer_Len N (c3.getD default).2)
          if ((decide ((c2.getD default).1 = 0)) = true → c7.isSome = true) then
            bif (decide ((c2.getD default).1 = 0)) then
              let x1 := (bif (bif (bif (bif (decide ((c2.getD default).1 = 0)) then (decide ((c7.getD default).1 = 13)) else false) then (decide ((c5.getD default).1 = 128)) else false) then (decide (((c5.getD default).2.1.length : Int) = 1)) else false) then (decide ((c5.getD default).2.2.1 = 0)) else false)
              k1 x1
            else
              let x5 := (bif (bif (bif (bif (decide ((c2.getD default).1 = 0)) then false else false) then (decide ((c5.getD default).1 = 128)) else false) then (decide (((c5.getD default).2.1.length : Int) = 1)) else false) then (decide ((c5.getD default).2.2.1 = 0)) else false)
              k1 x5
          else none
      else none
    else none
  else none
def sp_law15_lives (N : Nat) : X.Spec := fun args lk => match args with
  | [] => some ⟨(law15_lives N).isSome = true, .v (.c (.bool ((law15_lives N).getD default))), [], []⟩
  | _ => none
set_option maxRecDepth 100000 in
set_option maxHeartbeats 1000000 in
theorem ok_law15_lives (N : Nat) : FnOK Tryd.prog gt0 12 (sp_law15_lives N) := by
  refine fnOK_handed Tryd.func12 rfl (by kernel_rfl) tt_ok (ktCons (ok_overspill_outbits_Writer_Len N) (ktCons (ok_blocks_Take N) (ktCons (ok_inbits_New N) (ktCons (ok_overspill_outbits_Writer_Text N) (ktCons (ok_blocks_Put N) (ktCons (ok_outbits_New N) (ktNil))))))) ?_
  intro args lk r h hp
  unfold sp_law15_lives at h
  split at h
  · skip
    cases h
    obtain ⟨x, hx⟩ := Option.isSome_iff_exists.1 hp
    simp only [hx, Option.getD_some]
    refine hand0 rfl rfl (fun w0 M ε0 hX => ?_)
    refine rCount (fun hε => ?_)
    have hT : law15_lives N = some x := hx; clear hx hp; unfold law15_lives at hT
    refine rSeq ?_
    refine zReg md0 hX rfl rfl rfl ?_
    refine rThen ?_
    refine rSeq ?_
    let c1 := (outbits_New N)
    replace hT := sIf hT; obtain ⟨o1, hT⟩ := hT
    refine zReg md0 hX rfl rfl rfl ?_
    refine rThen ?_
    refine rSeq ?_
    let c2 := (blocks_Put N true 128 1 (c1.getD default) [(true, ((0 : Int), (1 : Int)))])
    replace hT := sIf hT; obtain ⟨o1, hT⟩ := hT
    refine zReg md0 hX rfl rfl rfl ?_
    refine rThen ?_
    refine rSeq ?_
    let c3 := (overspill_outbits_Writer_Text N (c2.getD default).2)
    let c4 := (inbits_New N (c3.getD default).1)
    let c5 := (blocks_Take N true true (c4.getD default).1 (c4.getD default).2)
    replace hT := sIf hT; obtain ⟨⟨o1, o2, o3⟩, hT⟩ := hT
    refine zReg md0 hX rfl rfl rfl ?_
    refine rThen ?_
    refine rSeq ?_
    refine rRegSL ?_
    refine rJoinKL hT (fun v1 => ⟨[(0, .v (.c (.bool v1)))], [], 3⟩) (fun v1 hT => ?_) (fun k1 hjk1 hT => ?_)
    · skip
      refine rThen ?_
      refine rRet ?_
      have hy := Option.some.inj hT; subst hy
      exact zEnd0 hX rfl
    · skip
      let c7 := (overspill_outbits_Writer_Len N (c3.getD default).2)
      replace hT := sIf hT; obtain ⟨r1, hT⟩ := hT
      refine rSLG md0 hX rfl rfl rfl (by (repeat' first | exact True.intro | with_reducible assumption | (with_reducible apply And.intro) | intro _) <;> first | assumption | exact rfl | omega | exact Nat.le_of_ble_eq_true rfl | exact selF (by assumption) | exact selT (by assumption) | exact And.intro rfl rfl | exact And.intro (by assumption) rfl | exact And.intro (by omega) rfl | (simp only [inK] at *; omega) | (simp_all [sel] <;> fail) | fail) rfl rfl rfl rfl (fun hg => (by (repeat' first | exact True.intro | with_reducible assumption | (with_reducible apply And.intro)) <;> first | exact rfl | assumption | exact r1 hg | omega | exact Nat.le_of_ble_eq_true rfl)) (fun hg => ?_) (fun hg => ?_)
      · replace hT := sT hg hT
        let x1 := (bif (bif (bif (bif (decide ((c2.getD default).1 = 0)) then (decide ((c7.getD default).1 = 13)) else false) then (decide ((c5.getD default).1 = 128)) else false) then (decide (((c5.getD default).2.1.length : Int) = 1)) else false) then (decide ((c5.getD default).2.2.1 = 0)) else false)
        refine rSLDone md0 hX rfl rfl rfl (by (repeat' first | exact True.intro | with_reducible assumption | (with_reducible apply And.intro) | intro _) <;> first | assumption | exact rfl | omega | exact Nat.le_of_ble_eq_true rfl | exact selF (by assumption) | exact selT (by assumption) | exact And.intro rfl rfl | exact And.intro (by assumption) rfl | exact And.intro (by omega) rfl | (simp only [inK] at *; omega) | (simp_all [sel] <;> fail) | fail) ?_
        exact zTo [] 0 hε (hjk1 _ hT)
      · replace hT := sF hg hT
        refine rSLSkip md0 hX rfl rfl rfl (by (repeat' first | exact True.intro | with_reducible assumption | (with_reducible apply And.intro) | intro _) <;> first | assumption | exact rfl | omega | exact Nat.le_of_ble_eq_true rfl | exact selF (by assumption) | exact selT (by assumption) | exact And.intro rfl rfl | exact And.intro (by assumption) rfl | exact And.intro (by omega) rfl | (simp only [inK] at *; omega) | (simp_all [sel] <;> fail) | fail) rfl rfl rfl (by assumption) ?_
        let x5 := (bif (bif (bif (bif (decide ((c2.getD default).1 = 0)) then false else false) then (decide ((c5.getD default).1 = 128)) else false) then (decide (((c5.getD default).2.1.length : Int) = 1)) else false) then (decide ((c5.getD default).2.2.1 = 0)) else false)
        refine rSLDone md0 hX rfl rfl rfl (by (repeat' first | exact True.intro | with_reducible assumption | (with_reducible apply And.intro) | intro _) <;> first | assumption | exact rfl | omega | exact Nat.le_of_ble_eq_true rfl | exact selF (by assumption) | exact selT (by assumption) | exact And.intro rfl rfl | exact And.intro (by assumption) rfl | exact And.intro (by omega) rfl | (simp only [inK] at *; omega) | (simp_all [sel] <;> fail) | fail) ?_
        exact zTo [] 0 hε (hjk1 _ hT)
  · cases h
def ref02_Row_b1 (N : Nat) (a2 : Int) (s1 : (Int × ByteArray × Int)) : Option ((Int × ByteArray × Int) ⊕ ByteArray) :=
  bif (decide (s1.2.2 < a2)) then
    if (0 : Int) ≤ s1.1 ∧ inK .i64 ((s1.1 % 2) + 1) ∧ (0 : Int) ≤ (s1.1 % 2) ∧ (s1.1 % 2) ≤ ((s1.1 % 2) + 1) ∧ ((s1.1 % 2) + 1) ≤ (ByteArray.size ⟨#[48, 49]⟩ : Int) ∧ (ByteArray.size (ByteArray.extract ⟨#[48, 49]⟩ (s1.1 % 2).toNat ((s1.1 % 2) + 1).toNat) : Int) + ByteArray.size s1.2.1 ≤ 9223372036854775807 then
      if (0 : Int) ≤ s1.1 then
        if inK .i64 (s1.2.2 + 1) then
          some (.inl ((s1.1 / 2), ((ByteArray.extract ⟨#[48, 49]⟩ (s1.1 % 2).toNat ((s1.1 % 2) + 1).toNat) ++ s1.2.1), (s1.2.2 + 1)))
        else none
      else none
    else none
  else
    some (.inr s1.2.1)
def ref02_Row (N : Nat) (a1 : Int) (a2 : Int) : Option ByteArray :=
  (iter (ref02_Row_b1 N a2) N (a1, ⟨#[]⟩, 0)).bind fun v1 =>
    some v1
def sp_ref02_Row (N : Nat) : X.Spec := fun args lk => match args with
  | [.v (.c (.int .i64 a1)), .v (.c (.int .i64 a2))] => some ⟨(ref02_Row N a1 a2).isSome = true, .v (.c (.str ((ref02_Row N a1 a2).getD default))), [], []⟩
  | _ => none
set_option maxRecDepth 100000 in
set_option maxHeartbeats 1000000 in
theorem ok_ref02_Row (N : Nat) : FnOK Tryd.prog gt0 24 (sp_ref02_Row N) := by
  refine fnOK_handed Tryd.func24 rfl (by kernel_rfl) tt_ok (ktNil) ?_
  intro args lk r h hp
  unfold sp_ref02_Row at h
  split at h
  · rename_i a1 a2
    cases h
    obtain ⟨x, hx⟩ := Option.isSome_iff_exists.1 hp
    simp only [hx, Option.getD_some]
    refine hand0 rfl rfl (fun w0 M ε0 hX => ?_)
    refine rCount (fun hε => ?_)
    have hT : ref02_Row N a1 a2 = some x := hx; clear hx hp; unfold ref02_Row at hT
    refine rSeq ?_
    refine zReg md0 hX rfl rfl rfl ?_
    refine rThen ?_
    refine rSeq ?_
    refine zReg md0 hX rfl rfl rfl ?_
    refine rThen ?_
    refine rSeq ?_
    refine rSeq ?_
    refine zReg md0 hX rfl rfl rfl ?_
    refine rThen ?_
    refine rBlock ?_
    replace hT := sBind hT; obtain ⟨w1, hl, hT⟩ := hT
    refine rJoinA (fun v1 => v1 = w1) (fun v1 => ⟨[(4, .v (.c (.str ⟨#[]⟩))), (5, .v (.c (.str v1)))], [], 0⟩) (.exit 0) (fun v1 hv => ?_) (fun hxs10 => ?_)
    · subst hv; clear hl
      refine rInHit ?_
      refine rThen ?_
      refine rSeq ?_
      refine zReg md0 hX rfl rfl rfl ?_
      refine rThen ?_
      refine rRet ?_
      have hy := Option.some.inj hT; subst hy
      exact zEnd0 hX rfl
    refine rLoopM (ref02_Row_b1 N a2) (fun s1 => ⟨[(0, .v (.c (.int .i64 s1.1))), (1, .v (.c (.int .i64 a2))), (4, .v (.c (.str ⟨#[]⟩))), (5, .v (.c (.str s1.2.1))), (6, .v (.c (.int .i64 s1.2.2)))], [], 0⟩) hl (To.mk' [] 0 hε rfl (by repeat' first | exact True.intro | exact rfl | apply And.intro) (by repeat' first | exact True.intro | exact rfl | apply And.intro)) (fun s1 zs1 NNs1 hz hnexts1 houts1 => ?_)
    clear hl hT
    have hT := hz; clear hz
    refine rSeq ?_
    refine rSeq ?_
    refine zReg md0 hX rfl rfl rfl ?_
    refine rThen ?_
    refine zCond rfl rfl (fun hc => ?_) (fun hc => ?_)
    · replace hT := sT hc hT
      refine rSkip ?_
      refine rThen ?_
      refine rSeq ?_
      refine rBlock ?_
      refine rSeq ?_
      replace hT := sIf hT; obtain ⟨⟨o1, o2, o3, o4, o5, o6⟩, hT⟩ := hT
      refine zReg md0 hX rfl rfl rfl ?_
      refine rThen ?_
      replace hT := sIf hT; obtain ⟨o1, hT⟩ := hT
      refine zReg md0 hX rfl rfl rfl ?_
      refine rInNormal ?_
      refine rThen ?_
      replace hT := sIf hT; obtain ⟨o1, hT⟩ := hT
      refine zReg md0 hX rfl rfl rfl ?_
      exact hnexts1 _ (Option.some.inj hT).symm _ (To.mk' [] 0 hε rfl (by repeat' first | exact True.intro | exact rfl | apply And.intro) (by repeat' first | exact True.intro | exact rfl | apply And.intro))
    · replace hT := sF hc hT
      refine rExit ?_
      refine rThenExit ?_
      refine rThenExit ?_
      exact zTo [] 0 hε (hxs10 _ (houts1 _ (Option.some.inj hT).symm))
  · cases h
def ref02_Show_b1 (N : Nat) (a1 : ByteArray) (s2 : (Nat × Int × Nat × (List Int))) : Option ((Nat × Int × Nat × (List Int)) ⊕ (Nat × Nat × (List Int))) :=
  bif (decide (s2.2.1 < (ByteArray.size a1 : Int))) then
    let c1 := (ref02_Row N (byteI a1 (s2.2.1).toNat) 8)
    if (0 : Int) ≤ s2.2.1 ∧ s2.2.1 < (ByteArray.size a1 : Int) ∧ inK .i64 (byteI a1 (s2.2.1).toNat) ∧ c1.isSome = true ∧ s2.2.2.1 = s2.1 ∧ (s2.1 + ByteArray.size (c1.getD default)) * 1 ≤ 140737488355328 ∧ s2.1 + ByteArray.size (c1.getD default) ≤ 9223372036854775807 then
      if inK .i64 (s2.2.1 + 1) then
        some (.inl ((s2.1 + ByteArray.size (c1.getD default)), (s2.2.1 + 1), (s2.2.2.1 + ByteArray.size (c1.getD default)), (s2.2.2.2 ++ (bl (c1.getD default)))))
      else none
    else none
  else
    some (.inr (s2.1, s2.2.2.1, s2.2.2.2))
def ref02_Show (N : Nat) (a1 : ByteArray) : Option ByteArray :=
  (iter (ref02_Show_b1 N a1) N (0, 0, 0, [])).bind fun v1 =>
    if v1.1 ≤ v1.2.1 ∧ (v1.1 : Int) ≤ 9223372036854775807 then
      some (bytesOf (v1.2.2.take v1.1))
    else none
def sp_ref02_Show (N : Nat) : X.Spec := fun args lk => match args with
  | [.v (.c (.str a1))] => some ⟨(ref02_Show N a1).isSome = true, .v (.c (.str ((ref02_Show N a1).getD default))), [], []⟩
  | _ => none
set_option maxRecDepth 100000 in
set_option maxHeartbeats 1000000 in
theorem ok_ref02_Show (N : Nat) : FnOK Tryd.prog gt0 10 (sp_ref02_Show N) := by
  refine fnOK_handed Tryd.func10 rfl (by kernel_rfl) tt_ok (ktCons (ok_ref02_Row N) (ktNil)) ?_
  intro args lk r h hp
  unfold sp_ref02_Show at h
  split at h
  · rename_i a1
    cases h
    obtain ⟨x, hx⟩ := Option.isSome_iff_exists.1 hp
    simp only [hx, Option.getD_some]
    refine hand0 rfl rfl (fun w0 M ε0 hX => ?_)
    refine rCount (fun hε => ?_)
    have hT : ref02_Show N a1 = some x := hx; clear hx hp; unfold ref02_Show at hT
    refine rSeq ?_
    refine zReg md0 hX rfl rfl rfl ?_
    refine rThen ?_
    refine rSeq ?_
    refine zReg md0 hX rfl rfl rfl ?_
    refine rThen ?_
    refine rSeq ?_
    refine rSeq ?_
    refine zReg md0 hX rfl rfl rfl ?_
    refine rThen ?_
    refine rBlock ?_
    refine rNil 5 1 (.flat [.ints 0 .u8 []]) [(0, .v (.c (.str a1))), (2, .v (.c (.str ⟨#[]⟩))), (3, .v (.c (.sl 0 0 0 1))), (4, .v (.c (.int .i64 0)))] [] (nil_ints _) (by (repeat' first | exact True.intro | exact rfl | apply And.intro) <;> first | assumption | rfl) (by (repeat' first | exact True.intro | exact rfl | apply And.intro) <;> first | assumption | rfl) ?_
    replace hT := sBind hT; obtain ⟨w1, hl, hT⟩ := hT
    refine rJoinA (fun v1 => v1 = w1) (fun v1 => ⟨[(2, .v (.c (.str ⟨#[]⟩))), (3, .v (.c (.sl 0 0 v1.1 1)))], [(0, .mem true 5 (some 1) (.flat [.ints v1.2.1 .u8 v1.2.2]))], 1⟩) (.exit 0) (fun v1 hv => ?_) (fun hxs20 => ?_)
    · subst hv; clear hl
      refine rInHit ?_
      refine rThen ?_
      refine rSeq ?_
      replace hT := sIf hT; obtain ⟨⟨o1, o2⟩, hT⟩ := hT
      refine zReg md0 hX rfl rfl rfl ?_
      refine rThen ?_
      refine rRet ?_
      have hy := Option.some.inj hT; subst hy
      exact zEnd0 hX rfl
    refine rLoopM (ref02_Show_b1 N a1) (fun s2 => ⟨[(0, .v (.c (.str a1))), (2, .v (.c (.str ⟨#[]⟩))), (3, .v (.c (.sl 0 0 s2.1 1))), (4, .v (.c (.int .i64 s2.2.1)))], [(0, .mem true 5 (some 1) (.flat [.ints s2.2.2.1 .u8 s2.2.2.2]))], 1⟩) hl (To.mk' [] 0 hε rfl (by repeat' first | exact True.intro | exact rfl | apply And.intro) (by repeat' first | exact True.intro | exact rfl | apply And.intro)) (fun s2 zs2 NNs2 hz hnexts2 houts2 => ?_)
    clear hl hT
    have hT := hz; clear hz
    refine rSeq ?_
    refine rSeq ?_
    refine zReg md0 hX rfl rfl rfl ?_
    refine rThen ?_
    refine zCond rfl rfl (fun hc => ?_) (fun hc => ?_)
    · replace hT := sT hc hT
      refine rSkip ?_
      refine rThen ?_
      refine rSeq ?_
      refine rBlock ?_
      let c1 := (ref02_Row N (byteI a1 (s2.2.1).toNat) 8)
      replace hT := sIf hT; obtain ⟨⟨o1, o2, o3, o4, o5, o6, o7⟩, hT⟩ := hT
      refine zReg md0 hX rfl rfl rfl ?_
      refine rInNormal ?_
      refine rThen ?_
      replace hT := sIf hT; obtain ⟨o1, hT⟩ := hT
      refine zReg md0 hX rfl rfl rfl ?_
      exact hnexts2 _ (Option.some.inj hT).symm _ (To.mk' [1] 0 hε rfl (by repeat' first | exact True.intro | exact rfl | apply And.intro) (by repeat' first | exact True.intro | exact rfl | apply And.intro))
    · replace hT := sF hc hT
      refine rExit ?_
      refine rThenExit ?_
      refine rThenExit ?_
      exact zTo [] 0 hε (hxs20 _ (houts2 _ (Option.some.inj hT).symm))
  · cases h
def ref02_Number_b1 (N : Nat) (a1 : ByteArray) (s1 : (Int × Int)) : Option ((Int × Int) ⊕ Int) :=
  bif (decide (s1.2 < (ByteArray.size a1 : Int))) then
    if inK .i64 ((2 : Int) * s1.1) ∧ (0 : Int) ≤ s1.2 ∧ s1.2 < (ByteArray.size a1 : Int) ∧ inK .u8 ((byteI a1 (s1.2).toNat) - 48) ∧ inK .i64 ((byteI a1 (s1.2).toNat) - 48) ∧ inK .i64 (((2 : Int) * s1.1) + ((byteI a1 (s1.2).toNat) - 48)) then
      if inK .i64 (s1.2 + 1) then
        some (.inl ((((2 : Int) * s1.1) + ((byteI a1 (s1.2).toNat) - 48)), (s1.2 + 1)))
      else none
    else none
  else
    some (.inr s1.1)
def ref02_Number (N : Nat) (a1 : ByteArray) : Option Int :=
  (iter (ref02_Number_b1 N a1) N (0, 0)).bind fun v1 =>
    some v1
def sp_ref02_Number (N : Nat) : X.Spec := fun args lk => match args with
  | [.v (.c (.str a1))] => some ⟨(ref02_Number N a1).isSome = true, .v (.c (.int .i64 ((ref02_Number N a1).getD default))), [], []⟩
  | _ => none
set_option maxRecDepth 100000 in
set_option maxHeartbeats 1000000 in
theorem ok_ref02_Number (N : Nat) : FnOK Tryd.prog gt0 20 (sp_ref02_Number N) := by
  refine fnOK_handed Tryd.func20 rfl (by kernel_rfl) tt_ok (ktNil) ?_
  intro args lk r h hp
  unfold sp_ref02_Number at h
  split at h
  · rename_i a1
    cases h
    obtain ⟨x, hx⟩ := Option.isSome_iff_exists.1 hp
    simp only [hx, Option.getD_some]
    refine hand0 rfl rfl (fun w0 M ε0 hX => ?_)
    refine rCount (fun hε => ?_)
    have hT : ref02_Number N a1 = some x := hx; clear hx hp; unfold ref02_Number at hT
    refine rSeq ?_
    refine zReg md0 hX rfl rfl rfl ?_
    refine rThen ?_
    refine rSeq ?_
    refine zReg md0 hX rfl rfl rfl ?_
    refine rThen ?_
    refine rSeq ?_
    refine rSeq ?_
    refine zReg md0 hX rfl rfl rfl ?_
    refine rThen ?_
    refine rBlock ?_
    replace hT := sBind hT; obtain ⟨w1, hl, hT⟩ := hT
    refine rJoinA (fun v1 => v1 = w1) (fun v1 => ⟨[(2, .v (.c (.int .i64 0))), (3, .v (.c (.int .i64 v1)))], [], 0⟩) (.exit 0) (fun v1 hv => ?_) (fun hxs10 => ?_)
    · subst hv; clear hl
      refine rInHit ?_
      refine rThen ?_
      refine rSeq ?_
      refine zReg md0 hX rfl rfl rfl ?_
      refine rThen ?_
      refine rRet ?_
      have hy := Option.some.inj hT; subst hy
      exact zEnd0 hX rfl
    refine rLoopM (ref02_Number_b1 N a1) (fun s1 => ⟨[(0, .v (.c (.str a1))), (2, .v (.c (.int .i64 0))), (3, .v (.c (.int .i64 s1.1))), (4, .v (.c (.int .i64 s1.2)))], [], 0⟩) hl (To.mk' [] 0 hε rfl (by repeat' first | exact True.intro | exact rfl | apply And.intro) (by repeat' first | exact True.intro | exact rfl | apply And.intro)) (fun s1 zs1 NNs1 hz hnexts1 houts1 => ?_)
    clear hl hT
    have hT := hz; clear hz
    refine rSeq ?_
    refine rSeq ?_
    refine zReg md0 hX rfl rfl rfl ?_
    refine rThen ?_
    refine zCond rfl rfl (fun hc => ?_) (fun hc => ?_)
    · replace hT := sT hc hT
      refine rSkip ?_
      refine rThen ?_
      refine rSeq ?_
      refine rBlock ?_
      replace hT := sIf hT; obtain ⟨⟨o1, o2, o3, o4, o5, o6⟩, hT⟩ := hT
      refine zReg md0 hX rfl rfl rfl ?_
      refine rInNormal ?_
      refine rThen ?_
      replace hT := sIf hT; obtain ⟨o1, hT⟩ := hT
      refine zReg md0 hX rfl rfl rfl ?_
      exact hnexts1 _ (Option.some.inj hT).symm _ (To.mk' [] 0 hε rfl (by repeat' first | exact True.intro | exact rfl | apply And.intro) (by repeat' first | exact True.intro | exact rfl | apply And.intro))
    · replace hT := sF hc hT
      refine rExit ?_
      refine rThenExit ?_
      refine rThenExit ?_
      exact zTo [] 0 hε (hxs10 _ (houts1 _ (Option.some.inj hT).symm))
  · cases h
def ref15_from (N : Nat) (a1 : Bool) : Option Int :=
  bif a1 then
    some 1
  else
    some 0
def sp_ref15_from (N : Nat) : X.Spec := fun args lk => match args with
  | [.v (.c (.bool a1))] => some ⟨(ref15_from N a1).isSome = true, .v (.c (.int .i64 ((ref15_from N a1).getD default))), [], []⟩
  | _ => none
set_option maxRecDepth 100000 in
set_option maxHeartbeats 1000000 in
theorem ok_ref15_from (N : Nat) : FnOK Tryd.prog gt0 32 (sp_ref15_from N) := by
  refine fnOK_handed Tryd.func32 rfl (by kernel_rfl) tt_ok (ktNil) ?_
  intro args lk r h hp
  unfold sp_ref15_from at h
  split at h
  · rename_i a1
    cases h
    obtain ⟨x, hx⟩ := Option.isSome_iff_exists.1 hp
    simp only [hx, Option.getD_some]
    refine hand0 rfl rfl (fun w0 M ε0 hX => ?_)
    refine rCount (fun hε => ?_)
    have hT : ref15_from N a1 = some x := hx; clear hx hp; unfold ref15_from at hT
    refine rSeq ?_
    refine zReg md0 hX rfl rfl rfl ?_
    refine rThen ?_
    refine rSeq ?_
    refine rSeq ?_
    refine zReg md0 hX rfl rfl rfl ?_
    refine rThen ?_
    refine zCond rfl rfl (fun hc => ?_) (fun hc => ?_)
    · replace hT := sT hc hT
      refine rSeq ?_
      refine zReg md0 hX rfl rfl rfl ?_
      refine rThen ?_
      refine rRet ?_
      refine rThenRet ?_
      have hy := Option.some.inj hT; subst hy
      exact zEnd0 hX rfl
    · replace hT := sF hc hT
      refine rSkip ?_
      refine rThen ?_
      refine rSeq ?_
      refine zReg md0 hX rfl rfl rfl ?_
      refine rThen ?_
      refine rRet ?_
      have hy := Option.some.inj hT; subst hy
      exact zEnd0 hX rfl
  · cases h
def ref09_table (N : Nat) : Option (List ByteArray) :=
  if 27 = ([(ByteArray.mk (List.toArray [49, 48, 32, 49, 49, 49, 49, 32, 48, 49, 48, 49, 48, 49, 32, 48, 48, 49, 48, 49, 49, 49, 32, 48, 48, 48, 49, 49, 49, 49, 49, 32, 48, 48, 48, 49, 48, 48, 49, 48, 49, 32, 48, 48, 48, 49, 48, 48, 49, 48, 48, 32, 48, 48, 48, 48, 49, 48, 48, 48, 48, 49, 32, 48, 48, 48, 48, 49, 48, 48, 48, 48, 48, 32, 48, 48, 48, 48, 48, 48, 48, 48, 49, 49, 49, 32, 48, 48, 48, 48, 48, 48, 48, 48, 49, 49, 48, 32, 48, 48, 48, 48, 48, 49, 48, 48, 48, 48, 48])), (ByteArray.mk (List.toArray [49, 49, 48, 32, 48, 49, 48, 49, 48, 48, 32, 48, 48, 48, 49, 49, 49, 49, 48, 32, 48, 48, 48, 48, 48, 48, 49, 49, 49, 49, 32, 48, 48, 48, 48, 48, 49, 48, 48, 48, 48, 49, 32, 48, 48, 48, 48, 48, 49, 48, 49, 48, 48, 48, 48])), (ByteArray.mk (List.toArray [49, 49, 49, 48, 32, 48, 48, 48, 49, 49, 49, 48, 49, 32, 48, 48, 48, 48, 48, 48, 49, 49, 49, 48, 32, 48, 48, 48, 48, 48, 49, 48, 49, 48, 48, 48, 49])), (ByteArray.mk (List.toArray [48, 49, 49, 48, 49, 32, 48, 48, 48, 49, 48, 48, 48, 49, 49, 32, 48, 48, 48, 48, 48, 48, 49, 49, 48, 49])), (ByteArray.mk (List.toArray [48, 49, 49, 48, 48, 32, 48, 48, 48, 49, 48, 48, 48, 49, 48, 32, 48, 48, 48, 48, 48, 49, 48, 49, 48, 48, 49, 48])), (ByteArray.mk (List.toArray [48, 49, 48, 49, 49, 32, 48, 48, 48, 48, 48, 48, 49, 49, 48, 48, 32, 48, 48, 48, 48, 48, 49, 48, 49, 48, 48, 49, 49])), (ByteArray.mk (List.toArray [48, 49, 48, 48, 49, 49, 32, 48, 48, 48, 48, 48, 48, 49, 48, 49, 49, 32, 48, 48, 48, 48, 48, 49, 48, 49, 48, 49, 48, 48])), ⟨#[48, 49, 48, 48, 49, 48, 32, 48, 48, 48, 48, 48, 48, 49, 48, 49, 48]⟩, ⟨#[48, 49, 48, 48, 48, 49, 32, 48, 48, 48, 48, 48, 48, 49, 48, 48, 49]⟩, ⟨#[48, 49, 48, 48, 48, 48, 32, 48, 48, 48, 48, 48, 48, 49, 48, 48, 48]⟩, (ByteArray.mk (List.toArray [48, 48, 49, 48, 49, 49, 48, 32, 48, 48, 48, 48, 48, 49, 48, 49, 48, 49, 48, 49])), ⟨#[48, 48, 49, 48, 49, 48, 49]⟩, ⟨#[48, 48, 49, 48, 49, 48, 48]⟩, ⟨#[48, 48, 48, 49, 49, 49, 48, 48]⟩, ⟨#[48, 48, 48, 49, 49, 48, 49, 49]⟩, ⟨#[48, 48, 48, 49, 48, 48, 48, 48, 49]⟩, ⟨#[48, 48, 48, 49, 48, 48, 48, 48, 48]⟩, ⟨#[48, 48, 48, 48, 49, 49, 49, 49, 49]⟩, ⟨#[48, 48, 48, 48, 49, 49, 49, 49, 48]⟩, ⟨#[48, 48, 48, 48, 49, 49, 49, 48, 49]⟩, ⟨#[48, 48, 48, 48, 49, 49, 49, 48, 48]⟩, ⟨#[48, 48, 48, 48, 49, 49, 48, 49, 49]⟩, ⟨#[48, 48, 48, 48, 49, 49, 48, 49, 48]⟩, ⟨#[48, 48, 48, 48, 48, 49, 48, 48, 48, 49, 48]⟩, ⟨#[48, 48, 48, 48, 48, 49, 48, 48, 48, 49, 49]⟩, ⟨#[48, 48, 48, 48, 48, 49, 48, 49, 48, 49, 49, 48]⟩, ⟨#[48, 48, 48, 48, 48, 49, 48, 49, 48, 49, 49, 49]⟩] : List ByteArray).length then
    some ([(ByteArray.mk (List.toArray [49, 48, 32, 49, 49, 49, 49, 32, 48, 49, 48, 49, 48, 49, 32, 48, 48, 49, 48, 49, 49, 49, 32, 48, 48, 48, 49, 49, 49, 49, 49, 32, 48, 48, 48, 49, 48, 48, 49, 48, 49, 32, 48, 48, 48, 49, 48, 48, 49, 48, 48, 32, 48, 48, 48, 48, 49, 48, 48, 48, 48, 49, 32, 48, 48, 48, 48, 49, 48, 48, 48, 48, 48, 32, 48, 48, 48, 48, 48, 48, 48, 48, 49, 49, 49, 32, 48, 48, 48, 48, 48, 48, 48, 48, 49, 49, 48, 32, 48, 48, 48, 48, 48, 49, 48, 48, 48, 48, 48])), (ByteArray.mk (List.toArray [49, 49, 48, 32, 48, 49, 48, 49, 48, 48, 32, 48, 48, 48, 49, 49, 49, 49, 48, 32, 48, 48, 48, 48, 48, 48, 49, 49, 49, 49, 32, 48, 48, 48, 48, 48, 49, 48, 48, 48, 48, 49, 32, 48, 48, 48, 48, 48, 49, 48, 49, 48, 48, 48, 48])), (ByteArray.mk (List.toArray [49, 49, 49, 48, 32, 48, 48, 48, 49, 49, 49, 48, 49, 32, 48, 48, 48, 48, 48, 48, 49, 49, 49, 48, 32, 48, 48, 48, 48, 48, 49, 48, 49, 48, 48, 48, 49])), (ByteArray.mk (List.toArray [48, 49, 49, 48, 49, 32, 48, 48, 48, 49, 48, 48, 48, 49, 49, 32, 48, 48, 48, 48, 48, 48, 49, 49, 48, 49])), (ByteArray.mk (List.toArray [48, 49, 49, 48, 48, 32, 48, 48, 48, 49, 48, 48, 48, 49, 48, 32, 48, 48, 48, 48, 48, 49, 48, 49, 48, 48, 49, 48])), (ByteArray.mk (List.toArray [48, 49, 48, 49, 49, 32, 48, 48, 48, 48, 48, 48, 49, 49, 48, 48, 32, 48, 48, 48, 48, 48, 49, 48, 49, 48, 48, 49, 49])), (ByteArray.mk (List.toArray [48, 49, 48, 48, 49, 49, 32, 48, 48, 48, 48, 48, 48, 49, 48, 49, 49, 32, 48, 48, 48, 48, 48, 49, 48, 49, 48, 49, 48, 48])), ⟨#[48, 49, 48, 48, 49, 48, 32, 48, 48, 48, 48, 48, 48, 49, 48, 49, 48]⟩, ⟨#[48, 49, 48, 48, 48, 49, 32, 48, 48, 48, 48, 48, 48, 49, 48, 48, 49]⟩, ⟨#[48, 49, 48, 48, 48, 48, 32, 48, 48, 48, 48, 48, 48, 49, 48, 48, 48]⟩, (ByteArray.mk (List.toArray [48, 48, 49, 48, 49, 49, 48, 32, 48, 48, 48, 48, 48, 49, 48, 49, 48, 49, 48, 49])), ⟨#[48, 48, 49, 48, 49, 48, 49]⟩, ⟨#[48, 48, 49, 48, 49, 48, 48]⟩, ⟨#[48, 48, 48, 49, 49, 49, 48, 48]⟩, ⟨#[48, 48, 48, 49, 49, 48, 49, 49]⟩, ⟨#[48, 48, 48, 49, 48, 48, 48, 48, 49]⟩, ⟨#[48, 48, 48, 49, 48, 48, 48, 48, 48]⟩, ⟨#[48, 48, 48, 48, 49, 49, 49, 49, 49]⟩, ⟨#[48, 48, 48, 48, 49, 49, 49, 49, 48]⟩, ⟨#[48, 48, 48, 48, 49, 49, 49, 48, 49]⟩, ⟨#[48, 48, 48, 48, 49, 49, 49, 48, 48]⟩, ⟨#[48, 48, 48, 48, 49, 49, 48, 49, 49]⟩, ⟨#[48, 48, 48, 48, 49, 49, 48, 49, 48]⟩, ⟨#[48, 48, 48, 48, 48, 49, 48, 48, 48, 49, 48]⟩, ⟨#[48, 48, 48, 48, 48, 49, 48, 48, 48, 49, 49]⟩, ⟨#[48, 48, 48, 48, 48, 49, 48, 49, 48, 49, 49, 48]⟩, ⟨#[48, 48, 48, 48, 48, 49, 48, 49, 48, 49, 49, 49]⟩] : List ByteArray)
  else none
def sp_ref09_table (N : Nat) : X.Spec := fun args lk => match args with
  | [] => some ⟨(ref09_table N).isSome = true, .v (.c (.fz .str ((ref09_table N).getD default))), [], []⟩
  | _ => none
set_option maxRecDepth 100000 in
set_option maxHeartbeats 1000000 in
theorem ok_ref09_table (N : Nat) : FnOK Tryd.prog gt0 41 (sp_ref09_table N) := by
  refine fnOK_handed Tryd.func41 rfl (by kernel_rfl) tt_ok (ktNil) ?_
  intro args lk r h hp
  unfold sp_ref09_table at h
  split at h
  · skip
    cases h
    obtain ⟨x, hx⟩ := Option.isSome_iff_exists.1 hp
    simp only [hx, Option.getD_some]
    refine hand0 rfl rfl (fun w0 M ε0 hX => ?_)
    refine rCount (fun hε => ?_)
    have hT : ref09_table N = some x := hx; clear hx hp; unfold ref09_table at hT
    refine rSeq ?_
    refine zReg md0 hX rfl rfl rfl ?_
    refine rThen ?_
    refine rSeq ?_
    refine zReg md0 hX rfl rfl rfl ?_
    refine rLstQ 0 .str [(ByteArray.mk (List.toArray [49, 48, 32, 49, 49, 49, 49, 32, 48, 49, 48, 49, 48, 49, 32, 48, 48, 49, 48, 49, 49, 49, 32, 48, 48, 48, 49, 49, 49, 49, 49, 32, 48, 48, 48, 49, 48, 48, 49, 48, 49, 32, 48, 48, 48, 49, 48, 48, 49, 48, 48, 32, 48, 48, 48, 48, 49, 48, 48, 48, 48, 49, 32, 48, 48, 48, 48, 49, 48, 48, 48, 48, 48, 32, 48, 48, 48, 48, 48, 48, 48, 48, 49, 49, 49, 32, 48, 48, 48, 48, 48, 48, 48, 48, 49, 49, 48, 32, 48, 48, 48, 48, 48, 49, 48, 48, 48, 48, 48])), (ByteArray.mk (List.toArray [49, 49, 48, 32, 48, 49, 48, 49, 48, 48, 32, 48, 48, 48, 49, 49, 49, 49, 48, 32, 48, 48, 48, 48, 48, 48, 49, 49, 49, 49, 32, 48, 48, 48, 48, 48, 49, 48, 48, 48, 48, 49, 32, 48, 48, 48, 48, 48, 49, 48, 49, 48, 48, 48, 48])), (ByteArray.mk (List.toArray [49, 49, 49, 48, 32, 48, 48, 48, 49, 49, 49, 48, 49, 32, 48, 48, 48, 48, 48, 48, 49, 49, 49, 48, 32, 48, 48, 48, 48, 48, 49, 48, 49, 48, 48, 48, 49])), (ByteArray.mk (List.toArray [48, 49, 49, 48, 49, 32, 48, 48, 48, 49, 48, 48, 48, 49, 49, 32, 48, 48, 48, 48, 48, 48, 49, 49, 48, 49])), (ByteArray.mk (List.toArray [48, 49, 49, 48, 48, 32, 48, 48, 48, 49, 48, 48, 48, 49, 48, 32, 48, 48, 48, 48, 48, 49, 48, 49, 48, 48, 49, 48])), (ByteArray.mk (List.toArray [48, 49, 48, 49, 49, 32, 48, 48, 48, 48, 48, 48, 49, 49, 48, 48, 32, 48, 48, 48, 48, 48, 49, 48, 49, 48, 48, 49, 49])), (ByteArray.mk (List.toArray [48, 49, 48, 48, 49, 49, 32, 48, 48, 48, 48, 48, 48, 49, 48, 49, 49, 32, 48, 48, 48, 48, 48, 49, 48, 49, 48, 49, 48, 48])), ⟨#[48, 49, 48, 48, 49, 48, 32, 48, 48, 48, 48, 48, 48, 49, 48, 49, 48]⟩, ⟨#[48, 49, 48, 48, 48, 49, 32, 48, 48, 48, 48, 48, 48, 49, 48, 48, 49]⟩, ⟨#[48, 49, 48, 48, 48, 48, 32, 48, 48, 48, 48, 48, 48, 49, 48, 48, 48]⟩, (ByteArray.mk (List.toArray [48, 48, 49, 48, 49, 49, 48, 32, 48, 48, 48, 48, 48, 49, 48, 49, 48, 49, 48, 49])), ⟨#[48, 48, 49, 48, 49, 48, 49]⟩, ⟨#[48, 48, 49, 48, 49, 48, 48]⟩, ⟨#[48, 48, 48, 49, 49, 49, 48, 48]⟩, ⟨#[48, 48, 48, 49, 49, 48, 49, 49]⟩, ⟨#[48, 48, 48, 49, 48, 48, 48, 48, 49]⟩, ⟨#[48, 48, 48, 49, 48, 48, 48, 48, 48]⟩, ⟨#[48, 48, 48, 48, 49, 49, 49, 49, 49]⟩, ⟨#[48, 48, 48, 48, 49, 49, 49, 49, 48]⟩, ⟨#[48, 48, 48, 48, 49, 49, 49, 48, 49]⟩, ⟨#[48, 48, 48, 48, 49, 49, 49, 48, 48]⟩, ⟨#[48, 48, 48, 48, 49, 49, 48, 49, 49]⟩, ⟨#[48, 48, 48, 48, 49, 49, 48, 49, 48]⟩, ⟨#[48, 48, 48, 48, 48, 49, 48, 48, 48, 49, 48]⟩, ⟨#[48, 48, 48, 48, 48, 49, 48, 48, 48, 49, 49]⟩, ⟨#[48, 48, 48, 48, 48, 49, 48, 49, 48, 49, 49, 48]⟩, ⟨#[48, 48, 48, 48, 48, 49, 48, 49, 48, 49, 49, 49]⟩] rfl rfl rfl ?_
    refine rThen ?_
    refine rRet ?_
    replace hT := sIf hT; obtain ⟨p1, hT⟩ := hT
    refine rFreezeQ 0 .str ([(ByteArray.mk (List.toArray [49, 48, 32, 49, 49, 49, 49, 32, 48, 49, 48, 49, 48, 49, 32, 48, 48, 49, 48, 49, 49, 49, 32, 48, 48, 48, 49, 49, 49, 49, 49, 32, 48, 48, 48, 49, 48, 48, 49, 48, 49, 32, 48, 48, 48, 49, 48, 48, 49, 48, 48, 32, 48, 48, 48, 48, 49, 48, 48, 48, 48, 49, 32, 48, 48, 48, 48, 49, 48, 48, 48, 48, 48, 32, 48, 48, 48, 48, 48, 48, 48, 48, 49, 49, 49, 32, 48, 48, 48, 48, 48, 48, 48, 48, 49, 49, 48, 32, 48, 48, 48, 48, 48, 49, 48, 48, 48, 48, 48])), (ByteArray.mk (List.toArray [49, 49, 48, 32, 48, 49, 48, 49, 48, 48, 32, 48, 48, 48, 49, 49, 49, 49, 48, 32, 48, 48, 48, 48, 48, 48, 49, 49, 49, 49, 32, 48, 48, 48, 48, 48, 49, 48, 48, 48, 48, 49, 32, 48, 48, 48, 48, 48, 49, 48, 49, 48, 48, 48, 48])), (ByteArray.mk (List.toArray [49, 49, 49, 48, 32, 48, 48, 48, 49, 49, 49, 48, 49, 32, 48, 48, 48, 48, 48, 48, 49, 49, 49, 48, 32, 48, 48, 48, 48, 48, 49, 48, 49, 48, 48, 48, 49])), (ByteArray.mk (List.toArray [48, 49, 49, 48, 49, 32, 48, 48, 48, 49, 48, 48, 48, 49, 49, 32, 48, 48, 48, 48, 48, 48, 49, 49, 48, 49])), (ByteArray.mk (List.toArray [48, 49, 49, 48, 48, 32, 48, 48, 48, 49, 48, 48, 48, 49, 48, 32, 48, 48, 48, 48, 48, 49, 48, 49, 48, 48, 49, 48])), (ByteArray.mk (List.toArray [48, 49, 48, 49, 49, 32, 48, 48, 48, 48, 48, 48, 49, 49, 48, 48, 32, 48, 48, 48, 48, 48, 49, 48, 49, 48, 48, 49, 49])), (ByteArray.mk (List.toArray [48, 49, 48, 48, 49, 49, 32, 48, 48, 48, 48, 48, 48, 49, 48, 49, 49, 32, 48, 48, 48, 48, 48, 49, 48, 49, 48, 49, 48, 48])), ⟨#[48, 49, 48, 48, 49, 48, 32, 48, 48, 48, 48, 48, 48, 49, 48, 49, 48]⟩, ⟨#[48, 49, 48, 48, 48, 49, 32, 48, 48, 48, 48, 48, 48, 49, 48, 48, 49]⟩, ⟨#[48, 49, 48, 48, 48, 48, 32, 48, 48, 48, 48, 48, 48, 49, 48, 48, 48]⟩, (ByteArray.mk (List.toArray [48, 48, 49, 48, 49, 49, 48, 32, 48, 48, 48, 48, 48, 49, 48, 49, 48, 49, 48, 49])), ⟨#[48, 48, 49, 48, 49, 48, 49]⟩, ⟨#[48, 48, 49, 48, 49, 48, 48]⟩, ⟨#[48, 48, 48, 49, 49, 49, 48, 48]⟩, ⟨#[48, 48, 48, 49, 49, 48, 49, 49]⟩, ⟨#[48, 48, 48, 49, 48, 48, 48, 48, 49]⟩, ⟨#[48, 48, 48, 49, 48, 48, 48, 48, 48]⟩, ⟨#[48, 48, 48, 48, 49, 49, 49, 49, 49]⟩, ⟨#[48, 48, 48, 48, 49, 49, 49, 49, 48]⟩, ⟨#[48, 48, 48, 48, 49, 49, 49, 48, 49]⟩, ⟨#[48, 48, 48, 48, 49, 49, 49, 48, 48]⟩, ⟨#[48, 48, 48, 48, 49, 49, 48, 49, 49]⟩, ⟨#[48, 48, 48, 48, 49, 49, 48, 49, 48]⟩, ⟨#[48, 48, 48, 48, 48, 49, 48, 48, 48, 49, 48]⟩, ⟨#[48, 48, 48, 48, 48, 49, 48, 48, 48, 49, 49]⟩, ⟨#[48, 48, 48, 48, 48, 49, 48, 49, 48, 49, 49, 48]⟩, ⟨#[48, 48, 48, 48, 48, 49, 48, 49, 48, 49, 49, 49]⟩] : List ByteArray) [(0, .v (.c (.fz .str ([(ByteArray.mk (List.toArray [49, 48, 32, 49, 49, 49, 49, 32, 48, 49, 48, 49, 48, 49, 32, 48, 48, 49, 48, 49, 49, 49, 32, 48, 48, 48, 49, 49, 49, 49, 49, 32, 48, 48, 48, 49, 48, 48, 49, 48, 49, 32, 48, 48, 48, 49, 48, 48, 49, 48, 48, 32, 48, 48, 48, 48, 49, 48, 48, 48, 48, 49, 32, 48, 48, 48, 48, 49, 48, 48, 48, 48, 48, 32, 48, 48, 48, 48, 48, 48, 48, 48, 49, 49, 49, 32, 48, 48, 48, 48, 48, 48, 48, 48, 49, 49, 48, 32, 48, 48, 48, 48, 48, 49, 48, 48, 48, 48, 48])), (ByteArray.mk (List.toArray [49, 49, 48, 32, 48, 49, 48, 49, 48, 48, 32, 48, 48, 48, 49, 49, 49, 49, 48, 32, 48, 48, 48, 48, 48, 48, 49, 49, 49, 49, 32, 48, 48, 48, 48, 48, 49, 48, 48, 48, 48, 49, 32, 48, 48, 48, 48, 48, 49, 48, 49, 48, 48, 48, 48])), (ByteArray.mk (List.toArray [49, 49, 49, 48, 32, 48, 48, 48, 49, 49, 49, 48, 49, 32, 48, 48, 48, 48, 48, 48, 49, 49, 49, 48, 32, 48, 48, 48, 48, 48, 49, 48, 49, 48, 48, 48, 49])), (ByteArray.mk (List.toArray [48, 49, 49, 48, 49, 32, 48, 48, 48, 49, 48, 48, 48, 49, 49, 32, 48, 48, 48, 48, 48, 48, 49, 49, 48, 49])), (ByteArray.mk (List.toArray [48, 49, 49, 48, 48, 32, 48, 48, 48, 49, 48, 48, 48, 49, 48, 32, 48, 48, 48, 48, 48, 49, 48, 49, 48, 48, 49, 48])), (ByteArray.mk (List.toArray [48, 49, 48, 49, 49, 32, 48, 48, 48, 48, 48, 48, 49, 49, 48, 48, 32, 48, 48, 48, 48, 48, 49, 48, 49, 48, 48, 49, 49])), (ByteArray.mk (List.toArray [48, 49, 48, 48, 49, 49, 32, 48, 48, 48, 48, 48, 48, 49, 48, 49, 49, 32, 48, 48, 48, 48, 48, 49, 48, 49, 48, 49, 48, 48])), ⟨#[48, 49, 48, 48, 49, 48, 32, 48, 48, 48, 48, 48, 48, 49, 48, 49, 48]⟩, ⟨#[48, 49, 48, 48, 48, 49, 32, 48, 48, 48, 48, 48, 48, 49, 48, 48, 49]⟩, ⟨#[48, 49, 48, 48, 48, 48, 32, 48, 48, 48, 48, 48, 48, 49, 48, 48, 48]⟩, (ByteArray.mk (List.toArray [48, 48, 49, 48, 49, 49, 48, 32, 48, 48, 48, 48, 48, 49, 48, 49, 48, 49, 48, 49])), ⟨#[48, 48, 49, 48, 49, 48, 49]⟩, ⟨#[48, 48, 49, 48, 49, 48, 48]⟩, ⟨#[48, 48, 48, 49, 49, 49, 48, 48]⟩, ⟨#[48, 48, 48, 49, 49, 48, 49, 49]⟩, ⟨#[48, 48, 48, 49, 48, 48, 48, 48, 49]⟩, ⟨#[48, 48, 48, 49, 48, 48, 48, 48, 48]⟩, ⟨#[48, 48, 48, 48, 49, 49, 49, 49, 49]⟩, ⟨#[48, 48, 48, 48, 49, 49, 49, 49, 48]⟩, ⟨#[48, 48, 48, 48, 49, 49, 49, 48, 49]⟩, ⟨#[48, 48, 48, 48, 49, 49, 49, 48, 48]⟩, ⟨#[48, 48, 48, 48, 49, 49, 48, 49, 49]⟩, ⟨#[48, 48, 48, 48, 49, 49, 48, 49, 48]⟩, ⟨#[48, 48, 48, 48, 48, 49, 48, 48, 48, 49, 48]⟩, ⟨#[48, 48, 48, 48, 48, 49, 48, 48, 48, 49, 49]⟩, ⟨#[48, 48, 48, 48, 48, 49, 48, 49, 48, 49, 49, 48]⟩, ⟨#[48, 48, 48, 48, 48, 49, 48, 49, 48, 49, 49, 49]⟩] : List ByteArray))))] [] rfl rfl (by (repeat' first | exact True.intro | exact rfl | apply And.intro) <;> first | assumption | rfl) (by (repeat' first | exact True.intro | exact rfl | apply And.intro) <;> first | assumption | rfl) ?_
    have hy := Option.some.inj hT; subst hy
    exact zEnd0 hX rfl
  · cases h
def ref09_ends (N : Nat) : Option (List ByteArray) :=
  if 41 = ([(ByteArray.mk (List.toArray [48, 49, 49, 49, 32, 48, 48, 48, 48, 49, 49, 48, 48, 49, 32, 48, 48, 48, 48, 48, 48, 48, 48, 49, 48, 49])), ⟨#[48, 48, 49, 49, 49, 49, 32, 48, 48, 48, 48, 48, 48, 48, 48, 49, 48, 48]⟩, ⟨#[48, 48, 49, 49, 49, 48]⟩, ⟨#[48, 48, 49, 49, 48, 49]⟩, ⟨#[48, 48, 49, 49, 48, 48]⟩, ⟨#[48, 48, 49, 48, 48, 49, 49]⟩, ⟨#[48, 48, 49, 48, 48, 49, 48]⟩, ⟨#[48, 48, 49, 48, 48, 48, 49]⟩, ⟨#[48, 48, 49, 48, 48, 48, 48]⟩, ⟨#[48, 48, 48, 49, 49, 48, 49, 48]⟩, ⟨#[48, 48, 48, 49, 49, 48, 48, 49]⟩, ⟨#[48, 48, 48, 49, 49, 48, 48, 48]⟩, ⟨#[48, 48, 48, 49, 48, 49, 49, 49]⟩, ⟨#[48, 48, 48, 49, 48, 49, 49, 48]⟩, ⟨#[48, 48, 48, 49, 48, 49, 48, 49]⟩, ⟨#[48, 48, 48, 49, 48, 49, 48, 48]⟩, ⟨#[48, 48, 48, 49, 48, 48, 49, 49]⟩, ⟨#[48, 48, 48, 48, 49, 49, 48, 48, 48]⟩, ⟨#[48, 48, 48, 48, 49, 48, 49, 49, 49]⟩, ⟨#[48, 48, 48, 48, 49, 48, 49, 49, 48]⟩, ⟨#[48, 48, 48, 48, 49, 48, 49, 48, 49]⟩, ⟨#[48, 48, 48, 48, 49, 48, 49, 48, 48]⟩, ⟨#[48, 48, 48, 48, 49, 48, 48, 49, 49]⟩, ⟨#[48, 48, 48, 48, 49, 48, 48, 49, 48]⟩, ⟨#[48, 48, 48, 48, 49, 48, 48, 48, 49]⟩, ⟨#[48, 48, 48, 48, 48, 48, 48, 49, 49, 49]⟩, ⟨#[48, 48, 48, 48, 48, 48, 48, 49, 49, 48]⟩, ⟨#[48, 48, 48, 48, 48, 48, 48, 49, 48, 49]⟩, ⟨#[48, 48, 48, 48, 48, 48, 48, 49, 48, 48]⟩, ⟨#[48, 48, 48, 48, 48, 49, 48, 48, 49, 48, 48]⟩, ⟨#[48, 48, 48, 48, 48, 49, 48, 48, 49, 48, 49]⟩, ⟨#[48, 48, 48, 48, 48, 49, 48, 48, 49, 49, 48]⟩, ⟨#[48, 48, 48, 48, 48, 49, 48, 48, 49, 49, 49]⟩, ⟨#[48, 48, 48, 48, 48, 49, 48, 49, 49, 48, 48, 48]⟩, ⟨#[48, 48, 48, 48, 48, 49, 48, 49, 49, 48, 48, 49]⟩, ⟨#[48, 48, 48, 48, 48, 49, 48, 49, 49, 48, 49, 48]⟩, ⟨#[48, 48, 48, 48, 48, 49, 48, 49, 49, 48, 49, 49]⟩, ⟨#[48, 48, 48, 48, 48, 49, 48, 49, 49, 49, 48, 48]⟩, ⟨#[48, 48, 48, 48, 48, 49, 48, 49, 49, 49, 48, 49]⟩, ⟨#[48, 48, 48, 48, 48, 49, 48, 49, 49, 49, 49, 48]⟩, ⟨#[48, 48, 48, 48, 48, 49, 48, 49, 49, 49, 49, 49]⟩] : List ByteArray).length then
    some ([(ByteArray.mk (List.toArray [48, 49, 49, 49, 32, 48, 48, 48, 48, 49, 49, 48, 48, 49, 32, 48, 48, 48, 48, 48, 48, 48, 48, 49, 48, 49])), ⟨#[48, 48, 49, 49, 49, 49, 32, 48, 48, 48, 48, 48, 48, 48, 48, 49, 48, 48]⟩, ⟨#[48, 48, 49, 49, 49, 48]⟩, ⟨#[48, 48, 49, 49, 48, 49]⟩, ⟨#[48, 48, 49, 49, 48, 48]⟩, ⟨#[48, 48, 49, 48, 48, 49, 49]⟩, ⟨#[48, 48, 49, 48, 48, 49, 48]⟩, ⟨#[48, 48, 49, 48, 48, 48, 49]⟩, ⟨#[48, 48, 49, 48, 48, 48, 48]⟩, ⟨#[48, 48, 48, 49, 49, 48, 49, 48]⟩, ⟨#[48, 48, 48, 49, 49, 48, 48, 49]⟩, ⟨#[48, 48, 48, 49, 49, 48, 48, 48]⟩, ⟨#[48, 48, 48, 49, 48, 49, 49, 49]⟩, ⟨#[48, 48, 48, 49, 48, 49, 49, 48]⟩, ⟨#[48, 48, 48, 49, 48, 49, 48, 49]⟩, ⟨#[48, 48, 48, 49, 48, 49, 48, 48]⟩, ⟨#[48, 48, 48, 49, 48, 48, 49, 49]⟩, ⟨#[48, 48, 48, 48, 49, 49, 48, 48, 48]⟩, ⟨#[48, 48, 48, 48, 49, 48, 49, 49, 49]⟩, ⟨#[48, 48, 48, 48, 49, 48, 49, 49, 48]⟩, ⟨#[48, 48, 48, 48, 49, 48, 49, 48, 49]⟩, ⟨#[48, 48, 48, 48, 49, 48, 49, 48, 48]⟩, ⟨#[48, 48, 48, 48, 49, 48, 48, 49, 49]⟩, ⟨#[48, 48, 48, 48, 49, 48, 48, 49, 48]⟩, ⟨#[48, 48, 48, 48, 49, 48, 48, 48, 49]⟩, ⟨#[48, 48, 48, 48, 48, 48, 48, 49, 49, 49]⟩, ⟨#[48, 48, 48, 48, 48, 48, 48, 49, 49, 48]⟩, ⟨#[48, 48, 48, 48, 48, 48, 48, 49, 48, 49]⟩, ⟨#[48, 48, 48, 48, 48, 48, 48, 49, 48, 48]⟩, ⟨#[48, 48, 48, 48, 48, 49, 48, 48, 49, 48, 48]⟩, ⟨#[48, 48, 48, 48, 48, 49, 48, 48, 49, 48, 49]⟩, ⟨#[48, 48, 48, 48, 48, 49, 48, 48, 49, 49, 48]⟩, ⟨#[48, 48, 48, 48, 48, 49, 48, 48, 49, 49, 49]⟩, ⟨#[48, 48, 48, 48, 48, 49, 48, 49, 49, 48, 48, 48]⟩, ⟨#[48, 48, 48, 48, 48, 49, 48, 49, 49, 48, 48, 49]⟩, ⟨#[48, 48, 48, 48, 48, 49, 48, 49, 49, 48, 49, 48]⟩, ⟨#[48, 48, 48, 48, 48, 49, 48, 49, 49, 48, 49, 49]⟩, ⟨#[48, 48, 48, 48, 48, 49, 48, 49, 49, 49, 48, 48]⟩, ⟨#[48, 48, 48, 48, 48, 49, 48, 49, 49, 49, 48, 49]⟩, ⟨#[48, 48, 48, 48, 48, 49, 48, 49, 49, 49, 49, 48]⟩, ⟨#[48, 48, 48, 48, 48, 49, 48, 49, 49, 49, 49, 49]⟩] : List ByteArray)
  else none
def sp_ref09_ends (N : Nat) : X.Spec := fun args lk => match args with
  | [] => some ⟨(ref09_ends N).isSome = true, .v (.c (.fz .str ((ref09_ends N).getD default))), [], []⟩
  | _ => none
set_option maxRecDepth 100000 in
set_option maxHeartbeats 1000000 in
theorem ok_ref09_ends (N : Nat) : FnOK Tryd.prog gt0 42 (sp_ref09_ends N) := by
  refine fnOK_handed Tryd.func42 rfl (by kernel_rfl) tt_ok (ktNil) ?_
  intro args lk r h hp
  unfold sp_ref09_ends at h
  split at h
  · skip
    cases h
    obtain ⟨x, hx⟩ := Option.isSome_iff_exists.1 hp
    simp only [hx, Option.getD_some]
    refine hand0 rfl rfl (fun w0 M ε0 hX => ?_)
    refine rCount (fun hε => ?_)
    have hT : ref09_ends N = some x := hx; clear hx hp; unfold ref09_ends at hT
    refine rSeq ?_
    refine zReg md0 hX rfl rfl rfl ?_
    refine rThen ?_
    refine rSeq ?_
    refine zReg md0 hX rfl rfl rfl ?_
    refine rLstQ 0 .str [(ByteArray.mk (List.toArray [48, 49, 49, 49, 32, 48, 48, 48, 48, 49, 49, 48, 48, 49, 32, 48, 48, 48, 48, 48, 48, 48, 48, 49, 48, 49])), ⟨#[48, 48, 49, 49, 49, 49, 32, 48, 48, 48, 48, 48, 48, 48, 48, 49, 48, 48]⟩, ⟨#[48, 48, 49, 49, 49, 48]⟩, ⟨#[48, 48, 49, 49, 48, 49]⟩, ⟨#[48, 48, 49, 49, 48, 48]⟩, ⟨#[48, 48, 49, 48, 48, 49, 49]⟩, ⟨#[48, 48, 49, 48, 48, 49, 48]⟩, ⟨#[48, 48, 49, 48, 48, 48, 49]⟩, ⟨#[48, 48, 49, 48, 48, 48, 48]⟩, ⟨#[48, 48, 48, 49, 49, 48, 49, 48]⟩, ⟨#[48, 48, 48, 49, 49, 48, 48, 49]⟩, ⟨#[48, 48, 48, 49, 49, 48, 48, 48]⟩, ⟨#[48, 48, 48, 49, 48, 49, 49, 49]⟩, ⟨#[48, 48, 48, 49, 48, 49, 49, 48]⟩, ⟨#[48, 48, 48, 49, 48, 49, 48, 49]⟩, ⟨#[48, 48, 48, 49, 48, 49, 48, 48]⟩, ⟨#[48, 48, 48, 49, 48, 48, 49, 49]⟩, ⟨#[48, 48, 48, 48, 49, 49, 48, 48, 48]⟩, ⟨#[48, 48, 48, 48, 49, 48, 49, 49, 49]⟩, ⟨#[48, 48, 48, 48, 49, 48, 49, 49, 48]⟩, ⟨#[48, 48, 48, 48, 49, 48, 49, 48, 49]⟩, ⟨#[48, 48, 48, 48, 49, 48, 49, 48, 48]⟩, ⟨#[48, 48, 48, 48, 49, 48, 48, 49, 49]⟩, ⟨#[48, 48, 48, 48, 49, 48, 48, 49, 48]⟩, ⟨#[48, 48, 48, 48, 49, 48, 48, 48, 49]⟩, ⟨#[48, 48, 48, 48, 48, 48, 48, 49, 49, 49]⟩, ⟨#[48, 48, 48, 48, 48, 48, 48, 49, 49, 48]⟩, ⟨#[48, 48, 48, 48, 48, 48, 48, 49, 48, 49]⟩, ⟨#[48, 48, 48, 48, 48, 48, 48, 49, 48, 48]⟩, ⟨#[48, 48, 48, 48, 48, 49, 48, 48, 49, 48, 48]⟩, ⟨#[48, 48, 48, 48, 48, 49, 48, 48, 49, 48, 49]⟩, ⟨#[48, 48, 48, 48, 48, 49, 48, 48, 49, 49, 48]⟩, ⟨#[48, 48, 48, 48, 48, 49, 48, 48, 49, 49, 49]⟩, ⟨#[48, 48, 48, 48, 48, 49, 48, 49, 49, 48, 48, 48]⟩, ⟨#[48, 48, 48, 48, 48, 49, 48, 49, 49, 48, 48, 49]⟩, ⟨#[48, 48, 48, 48, 48, 49, 48, 49, 49, 48, 49, 48]⟩, ⟨#[48, 48, 48, 48, 48, 49, 48, 49, 49, 48, 49, 49]⟩, ⟨#[48, 48, 48, 48, 48, 49, 48, 49, 49, 49, 48, 48]⟩, ⟨#[48, 48, 48, 48, 48, 49, 48, 49, 49, 49, 48, 49]⟩, ⟨#[48, 48, 48, 48, 48, 49, 48, 49, 49, 49, 49, 48]⟩, ⟨#[48, 48, 48, 48, 48, 49, 48, 49, 49, 49, 49, 49]⟩] rfl rfl rfl ?_
    refine rThen ?_
    refine rRet ?_
    replace hT := sIf hT; obtain ⟨p1, hT⟩ := hT
    refine rFreezeQ 0 .str ([(ByteArray.mk (List.toArray [48, 49, 49, 49, 32, 48, 48, 48, 48, 49, 49, 48, 48, 49, 32, 48, 48, 48, 48, 48, 48, 48, 48, 49, 48, 49])), ⟨#[48, 48, 49, 49, 49, 49, 32, 48, 48, 48, 48, 48, 48, 48, 48, 49, 48, 48]⟩, ⟨#[48, 48, 49, 49, 49, 48]⟩, ⟨#[48, 48, 49, 49, 48, 49]⟩, ⟨#[48, 48, 49, 49, 48, 48]⟩, ⟨#[48, 48, 49, 48, 48, 49, 49]⟩, ⟨#[48, 48, 49, 48, 48, 49, 48]⟩, ⟨#[48, 48, 49, 48, 48, 48, 49]⟩, ⟨#[48, 48, 49, 48, 48, 48, 48]⟩, ⟨#[48, 48, 48, 49, 49, 48, 49, 48]⟩, ⟨#[48, 48, 48, 49, 49, 48, 48, 49]⟩, ⟨#[48, 48, 48, 49, 49, 48, 48, 48]⟩, ⟨#[48, 48, 48, 49, 48, 49, 49, 49]⟩, ⟨#[48, 48, 48, 49, 48, 49, 49, 48]⟩, ⟨#[48, 48, 48, 49, 48, 49, 48, 49]⟩, ⟨#[48, 48, 48, 49, 48, 49, 48, 48]⟩, ⟨#[48, 48, 48, 49, 48, 48, 49, 49]⟩, ⟨#[48, 48, 48, 48, 49, 49, 48, 48, 48]⟩, ⟨#[48, 48, 48, 48, 49, 48, 49, 49, 49]⟩, ⟨#[48, 48, 48, 48, 49, 48, 49, 49, 48]⟩, ⟨#[48, 48, 48, 48, 49, 48, 49, 48, 49]⟩, ⟨#[48, 48, 48, 48, 49, 48, 49, 48, 48]⟩, ⟨#[48, 48, 48, 48, 49, 48, 48, 49, 49]⟩, ⟨#[48, 48, 48, 48, 49, 48, 48, 49, 48]⟩, ⟨#[48, 48, 48, 48, 49, 48, 48, 48, 49]⟩, ⟨#[48, 48, 48, 48, 48, 48, 48, 49, 49, 49]⟩, ⟨#[48, 48, 48, 48, 48, 48, 48, 49, 49, 48]⟩, ⟨#[48, 48, 48, 48, 48, 48, 48, 49, 48, 49]⟩, ⟨#[48, 48, 48, 48, 48, 48, 48, 49, 48, 48]⟩, ⟨#[48, 48, 48, 48, 48, 49, 48, 48, 49, 48, 48]⟩, ⟨#[48, 48, 48, 48, 48, 49, 48, 48, 49, 48, 49]⟩, ⟨#[48, 48, 48, 48, 48, 49, 48, 48, 49, 49, 48]⟩, ⟨#[48, 48, 48, 48, 48, 49, 48, 48, 49, 49, 49]⟩, ⟨#[48, 48, 48, 48, 48, 49, 48, 49, 49, 48, 48, 48]⟩, ⟨#[48, 48, 48, 48, 48, 49, 48, 49, 49, 48, 48, 49]⟩, ⟨#[48, 48, 48, 48, 48, 49, 48, 49, 49, 48, 49, 48]⟩, ⟨#[48, 48, 48, 48, 48, 49, 48, 49, 49, 48, 49, 49]⟩, ⟨#[48, 48, 48, 48, 48, 49, 48, 49, 49, 49, 48, 48]⟩, ⟨#[48, 48, 48, 48, 48, 49, 48, 49, 49, 49, 48, 49]⟩, ⟨#[48, 48, 48, 48, 48, 49, 48, 49, 49, 49, 49, 48]⟩, ⟨#[48, 48, 48, 48, 48, 49, 48, 49, 49, 49, 49, 49]⟩] : List ByteArray) [(0, .v (.c (.fz .str ([(ByteArray.mk (List.toArray [48, 49, 49, 49, 32, 48, 48, 48, 48, 49, 49, 48, 48, 49, 32, 48, 48, 48, 48, 48, 48, 48, 48, 49, 48, 49])), ⟨#[48, 48, 49, 49, 49, 49, 32, 48, 48, 48, 48, 48, 48, 48, 48, 49, 48, 48]⟩, ⟨#[48, 48, 49, 49, 49, 48]⟩, ⟨#[48, 48, 49, 49, 48, 49]⟩, ⟨#[48, 48, 49, 49, 48, 48]⟩, ⟨#[48, 48, 49, 48, 48, 49, 49]⟩, ⟨#[48, 48, 49, 48, 48, 49, 48]⟩, ⟨#[48, 48, 49, 48, 48, 48, 49]⟩, ⟨#[48, 48, 49, 48, 48, 48, 48]⟩, ⟨#[48, 48, 48, 49, 49, 48, 49, 48]⟩, ⟨#[48, 48, 48, 49, 49, 48, 48, 49]⟩, ⟨#[48, 48, 48, 49, 49, 48, 48, 48]⟩, ⟨#[48, 48, 48, 49, 48, 49, 49, 49]⟩, ⟨#[48, 48, 48, 49, 48, 49, 49, 48]⟩, ⟨#[48, 48, 48, 49, 48, 49, 48, 49]⟩, ⟨#[48, 48, 48, 49, 48, 49, 48, 48]⟩, ⟨#[48, 48, 48, 49, 48, 48, 49, 49]⟩, ⟨#[48, 48, 48, 48, 49, 49, 48, 48, 48]⟩, ⟨#[48, 48, 48, 48, 49, 48, 49, 49, 49]⟩, ⟨#[48, 48, 48, 48, 49, 48, 49, 49, 48]⟩, ⟨#[48, 48, 48, 48, 49, 48, 49, 48, 49]⟩, ⟨#[48, 48, 48, 48, 49, 48, 49, 48, 48]⟩, ⟨#[48, 48, 48, 48, 49, 48, 48, 49, 49]⟩, ⟨#[48, 48, 48, 48, 49, 48, 48, 49, 48]⟩, ⟨#[48, 48, 48, 48, 49, 48, 48, 48, 49]⟩, ⟨#[48, 48, 48, 48, 48, 48, 48, 49, 49, 49]⟩, ⟨#[48, 48, 48, 48, 48, 48, 48, 49, 49, 48]⟩, ⟨#[48, 48, 48, 48, 48, 48, 48, 49, 48, 49]⟩, ⟨#[48, 48, 48, 48, 48, 48, 48, 49, 48, 48]⟩, ⟨#[48, 48, 48, 48, 48, 49, 48, 48, 49, 48, 48]⟩, ⟨#[48, 48, 48, 48, 48, 49, 48, 48, 49, 48, 49]⟩, ⟨#[48, 48, 48, 48, 48, 49, 48, 48, 49, 49, 48]⟩, ⟨#[48, 48, 48, 48, 48, 49, 48, 48, 49, 49, 49]⟩, ⟨#[48, 48, 48, 48, 48, 49, 48, 49, 49, 48, 48, 48]⟩, ⟨#[48, 48, 48, 48, 48, 49, 48, 49, 49, 48, 48, 49]⟩, ⟨#[48, 48, 48, 48, 48, 49, 48, 49, 49, 48, 49, 48]⟩, ⟨#[48, 48, 48, 48, 48, 49, 48, 49, 49, 48, 49, 49]⟩, ⟨#[48, 48, 48, 48, 48, 49, 48, 49, 49, 49, 48, 48]⟩, ⟨#[48, 48, 48, 48, 48, 49, 48, 49, 49, 49, 48, 49]⟩, ⟨#[48, 48, 48, 48, 48, 49, 48, 49, 49, 49, 49, 48]⟩, ⟨#[48, 48, 48, 48, 48, 49, 48, 49, 49, 49, 49, 49]⟩] : List ByteArray))))] [] rfl rfl (by (repeat' first | exact True.intro | exact rfl | apply And.intro) <;> first | assumption | rfl) (by (repeat' first | exact True.intro | exact rfl | apply And.intro) <;> first | assumption | rfl) ?_
    have hy := Option.some.inj hT; subst hy
    exact zEnd0 hX rfl
  · cases h
def ref09_words_b1 (N : Nat) (a1 : ByteArray) (s1 : (Nat × Int × (List ByteArray))) : Option ((Nat × Int × (List ByteArray)) ⊕ (Nat × (List ByteArray))) :=
  bif (decide (s1.2.1 < (ByteArray.size a1 : Int))) then
    if (0 : Int) ≤ s1.2.1 ∧ s1.2.1 < (ByteArray.size a1 : Int) then
      joinK (fun (v2 : (Nat × (List ByteArray))) =>
        if inK .i64 (s1.2.1 + 1) then
          some (.inl (v2.1, (s1.2.1 + 1), v2.2))
        else none
      ) fun k1 =>
        bif (decide ((byteI a1 (s1.2.1).toNat) = 32)) then
          if s1.2.2.length = s1.1 ∧ (s1.1 + 1) * 16 ≤ 140737488355328 ∧ s1.1 + 1 ≤ 9223372036854775807 then
            k1 ((s1.1 + 1), (s1.2.2 ++ [⟨#[]⟩]))
          else none
        else
          let x2 := (s1.2.2.set ((s1.1 : Int) - 1).toNat ((s1.2.2.getD ((s1.1 : Int) - 1).toNat ⟨#[]⟩) ++ (ByteArray.extract a1 (s1.2.1).toNat (s1.2.1 + 1).toNat)))
          if inK .i64 ((s1.1 : Int) - 1) ∧ (0 : Int) ≤ ((s1.1 : Int) - 1) ∧ ((s1.1 : Int) - 1) < (s1.1 : Int) ∧ ((s1.1 : Int) - 1).toNat < s1.2.2.length ∧ inK .i64 (s1.2.1 + 1) ∧ (0 : Int) ≤ s1.2.1 ∧ s1.2.1 ≤ (s1.2.1 + 1) ∧ (s1.2.1 + 1) ≤ (ByteArray.size a1 : Int) ∧ (ByteArray.size (s1.2.2.getD ((s1.1 : Int) - 1).toNat ⟨#[]⟩) : Int) + ByteArray.size (ByteArray.extract a1 (s1.2.1).toNat (s1.2.1 + 1).toNat) ≤ 9223372036854775807 then
            k1 (s1.1, x2)
          else none
    else none
  else
    some (.inr (s1.1, s1.2.2))
def ref09_words (N : Nat) (a1 : ByteArray) : Option (List ByteArray) :=
  (iter (ref09_words_b1 N a1) N (1, 0, ([⟨#[]⟩] : List ByteArray))).bind fun v1 =>
    if v1.1 = v1.2.length then
      some v1.2
    else none
def sp_ref09_words (N : Nat) : X.Spec := fun args lk => match args with
  | [.v (.c (.str a1))] => some ⟨(ref09_words N a1).isSome = true, .v (.c (.fz .str ((ref09_words N a1).getD default))), [], []⟩
  | _ => none
set_option maxRecDepth 100000 in
set_option maxHeartbeats 1000000 in
theorem ok_ref09_words (N : Nat) : FnOK Tryd.prog gt0 43 (sp_ref09_words N) := by
  refine fnOK_handed Tryd.func43 rfl (by kernel_rfl) tt_ok (ktNil) ?_
  intro args lk r h hp
  unfold sp_ref09_words at h
  split at h
  · rename_i a1
    cases h
    obtain ⟨x, hx⟩ := Option.isSome_iff_exists.1 hp
    simp only [hx, Option.getD_some]
    refine hand0 rfl rfl (fun w0 M ε0 hX => ?_)
    refine rCount (fun hε => ?_)
    have hT : ref09_words N a1 = some x := hx; clear hx hp; unfold ref09_words at hT
    refine rSeq ?_
    refine zReg md0 hX rfl rfl rfl ?_
    refine rThen ?_
    refine rSeq ?_
    refine zReg md0 hX rfl rfl rfl ?_
    refine rLstQ 0 .str [⟨#[]⟩] rfl rfl rfl ?_
    refine rThen ?_
    refine rSeq ?_
    refine rSeq ?_
    refine zReg md0 hX rfl rfl rfl ?_
    refine rThen ?_
    refine rBlock ?_
    replace hT := sBind hT; obtain ⟨w1, hl, hT⟩ := hT
    refine rJoinA (fun v1 => v1 = w1) (fun v1 => ⟨[(2, .v (.c (.val (.slice none 0 0)))), (3, .v (.c (.sl 0 0 v1.1 1)))], [(0, .mem true 9 (some 1) (.lst .str v1.2))], 1⟩) (.exit 0) (fun v1 hv => ?_) (fun hxs10 => ?_)
    · subst hv; clear hl
      refine rInHit ?_
      refine rThen ?_
      refine rSeq ?_
      refine zReg md0 hX rfl rfl rfl ?_
      refine rThen ?_
      refine rRet ?_
      replace hT := sIf hT; obtain ⟨p1, hT⟩ := hT
      refine rFreezeQ 0 .str v1.2 [(2, .v (.c (.fz .str v1.2)))] [] rfl rfl (by (repeat' first | exact True.intro | exact rfl | apply And.intro) <;> first | assumption | rfl) (by (repeat' first | exact True.intro | exact rfl | apply And.intro) <;> first | assumption | rfl) ?_
      have hy := Option.some.inj hT; subst hy
      exact zEnd0 hX rfl
    refine rLoopM (ref09_words_b1 N a1) (fun s1 => ⟨[(0, .v (.c (.str a1))), (2, .v (.c (.val (.slice none 0 0)))), (3, .v (.c (.sl 0 0 s1.1 1))), (4, .v (.c (.int .i64 s1.2.1)))], [(0, .mem true 9 (some 1) (.lst .str s1.2.2))], 1⟩) hl (To.mk' [] 0 hε rfl (by repeat' first | exact True.intro | exact rfl | apply And.intro) (by repeat' first | exact True.intro | exact rfl | apply And.intro)) (fun s1 zs1 NNs1 hz hnexts1 houts1 => ?_)
    clear hl hT
    have hT := hz; clear hz
    refine rSeq ?_
    refine rSeq ?_
    refine zReg md0 hX rfl rfl rfl ?_
    refine rThen ?_
    refine zCond rfl rfl (fun hc => ?_) (fun hc => ?_)
    · replace hT := sT hc hT
      refine rSkip ?_
      refine rThen ?_
      refine rSeq ?_
      refine rBlock ?_
      refine rSeq ?_
      replace hT := sIf hT; obtain ⟨⟨o1, o2⟩, hT⟩ := hT
      refine zReg md0 hX rfl rfl rfl ?_
      refine rThen ?_
      refine rJoinK hT (fun v2 => ⟨[(0, .v (.c (.str a1))), (2, .v (.c (.val (.slice none 0 0)))), (3, .v (.c (.sl 2 0 v2.1 1))), (4, .v (.c (.int .i64 s1.2.1))), (6, .v (.c (.int .i64 s1.2.1))), (7, .v (.c (.str a1))), (8, .v (.c (.int .i64 (ByteArray.size a1 : Int)))), (9, .v (.c (.bool (decide (s1.2.1 < (ByteArray.size a1 : Int)))))), (12, .v (.c (.str a1))), (13, .v (.c (.int .i64 s1.2.1))), (14, .v (.c (.int .u8 (byteI a1 (s1.2.1).toNat)))), (15, .v (.c (.bool (decide ((byteI a1 (s1.2.1).toNat) = 32)))))], [(2, .mem true 9 (some 1) (.lst .str v2.2))], 3⟩) (fun v2 hT => ?_) (fun k1 hjk1 hT => ?_)
      · skip
        refine rInNormal ?_
        refine rThen ?_
        replace hT := sIf hT; obtain ⟨o1, hT⟩ := hT
        refine zReg md0 hX rfl rfl rfl ?_
        exact hnexts1 _ (Option.some.inj hT).symm _ (To.mk' [2] 0 hε rfl (by repeat' first | exact True.intro | exact rfl | apply And.intro) (by repeat' first | exact True.intro | exact rfl | apply And.intro))
      · skip
        refine zCond rfl rfl (fun hc => ?_) (fun hc => ?_)
        · replace hT := sT hc hT
          replace hT := sIf hT; obtain ⟨⟨o1, o2, o3⟩, hT⟩ := hT
          refine zReg md0 hX rfl rfl rfl ?_
          refine rLstQ 1 .str [⟨#[]⟩] rfl rfl rfl ?_
          exact zTo [] 0 hε (hjk1 _ hT)
        · replace hT := sF hc hT
          let x2 := (s1.2.2.set ((s1.1 : Int) - 1).toNat ((s1.2.2.getD ((s1.1 : Int) - 1).toNat ⟨#[]⟩) ++ (ByteArray.extract a1 (s1.2.1).toNat (s1.2.1 + 1).toNat)))
          replace hT := sIf hT; obtain ⟨⟨o1, o2, o3, o4, o5, o6, o7, o8, o9⟩, hT⟩ := hT
          refine zDraw md0 1 [17] hX mixed rfl rfl rfl rfl rfl ?_
          exact zTo [0, 0, 0] 0 hε (hjk1 _ hT)
    · replace hT := sF hc hT
      refine rExit ?_
      refine rThenExit ?_
      refine rThenExit ?_
      exact zTo [] 0 hε (hxs10 _ (houts1 _ (Option.some.inj hT).symm))
  · cases h
def ref09_rows (N : Nat) (a1 : Bool) (a2 : Int) : Option (List ByteArray) :=
  let c1 := (ref09_table N)
  if c1.isSome = true then
    let c2 := (ref09_ends N)
    if (a1 = true → c2.isSome = true) then
      bif (decide (((bif a1 then (c2.getD default) else (c1.getD default)).length : Int) ≤ a2)) then
        some []
      else
        let c3 := (ref09_words N ((bif a1 then (c2.getD default) else (c1.getD default)).getD (a2).toNat ⟨#[]⟩))
        if (0 : Int) ≤ a2 ∧ a2 < ((bif a1 then (c2.getD default) else (c1.getD default)).length : Int) ∧ c3.isSome = true then
          some (c3.getD default)
        else none
    else none
  else none
def sp_ref09_rows (N : Nat) : X.Spec := fun args lk => match args with
  | [.v (.c (.bool a1)), .v (.c (.int .i64 a2))] => some ⟨(ref09_rows N a1 a2).isSome = true, .v (.c (.fz .str ((ref09_rows N a1 a2).getD default))), [], []⟩
  | _ => none
set_option maxRecDepth 100000 in
set_option maxHeartbeats 1000000 in
theorem ok_ref09_rows (N : Nat) : FnOK Tryd.prog gt0 18 (sp_ref09_rows N) := by
  refine fnOK_handed Tryd.func18 rfl (by kernel_rfl) tt_ok (ktCons (ok_ref09_words N) (ktCons (ok_ref09_ends N) (ktCons (ok_ref09_table N) (ktNil)))) ?_
  intro args lk r h hp
  unfold sp_ref09_rows at h
  split at h
  · rename_i a1 a2
    cases h
    obtain ⟨x, hx⟩ := Option.isSome_iff_exists.1 hp
    simp only [hx, Option.getD_some]
    refine hand0 rfl rfl (fun w0 M ε0 hX => ?_)
    refine rCount (fun hε => ?_)
    have hT : ref09_rows N a1 a2 = some x := hx; clear hx hp; unfold ref09_rows at hT
    refine rSeq ?_
    refine zReg md0 hX rfl rfl rfl ?_
    refine rThen ?_
    refine rSeq ?_
    let c1 := (ref09_table N)
    replace hT := sIf hT; obtain ⟨o1, hT⟩ := hT
    refine zReg md0 hX rfl rfl rfl ?_
    refine rThen ?_
    refine rSeq ?_
    refine rSeq ?_
    refine zReg md0 hX rfl rfl rfl ?_
    refine rThen ?_
    let c2 := (ref09_ends N)
    replace hT := sIf hT; obtain ⟨q1, hT⟩ := hT
    refine rJoin ⟨[(1, .v (.c (.int .i64 a2))), (4, .v (.c (.val (.slice none 0 0)))), (5, .v (.c (.fz .str (bif a1 then (c2.getD default) else (c1.getD default)))))], [], 0⟩ ?_ (fun hj => ?_)
    · skip
      refine rThen ?_
      refine rSeq ?_
      refine rSeq ?_
      refine zReg md0 hX rfl rfl rfl ?_
      refine rThen ?_
      refine zCond rfl rfl (fun hc => ?_) (fun hc => ?_)
      · replace hT := sT hc hT
        refine rSeq ?_
        refine zReg md0 hX rfl rfl rfl ?_
        refine rThen ?_
        refine rRet ?_
        refine rThenRet ?_
        have hy := Option.some.inj hT; subst hy
        exact zEnd0 hX rfl
      · replace hT := sF hc hT
        refine rSkip ?_
        refine rThen ?_
        refine rSeq ?_
        let c3 := (ref09_words N ((bif a1 then (c2.getD default) else (c1.getD default)).getD (a2).toNat ⟨#[]⟩))
        replace hT := sIf hT; obtain ⟨⟨o1, o2, o3⟩, hT⟩ := hT
        refine zReg md0 hX rfl rfl rfl ?_
        refine rThen ?_
        refine rRet ?_
        have hy := Option.some.inj hT; subst hy
        exact zEnd0 hX rfl
    · clear hT
      refine zCond rfl rfl (fun hc => ?_) (fun hc => ?_)
      · skip
        have q1 := q1 hc
        refine zReg md0 hX rfl rfl rfl ?_
        exact rTo (To.mk' [] 0 hε rfl (by (repeat' first | exact True.intro | exact rfl | apply And.intro) <;> (repeat' first | exact rfl | refine Eq.trans ?_ (cTr (by assumption)) | refine Eq.trans ?_ (cFr (by assumption)) | refine Eq.trans (cTl (by assumption)) ?_ | refine Eq.trans (cFl (by assumption)) ?_)) (by (repeat' first | exact True.intro | exact rfl | apply And.intro) <;> (repeat' first | exact rfl | refine Eq.trans ?_ (cTr (by assumption)) | refine Eq.trans ?_ (cFr (by assumption)) | refine Eq.trans (cTl (by assumption)) ?_ | refine Eq.trans (cFl (by assumption)) ?_))) hj
      · skip
        refine rSkip ?_
        exact rTo (To.mk' [] 0 hε rfl (by (repeat' first | exact True.intro | exact rfl | apply And.intro) <;> (repeat' first | exact rfl | refine Eq.trans ?_ (cTr (by assumption)) | refine Eq.trans ?_ (cFr (by assumption)) | refine Eq.trans (cTl (by assumption)) ?_ | refine Eq.trans (cFl (by assumption)) ?_)) (by (repeat' first | exact True.intro | exact rfl | apply And.intro) <;> (repeat' first | exact rfl | refine Eq.trans ?_ (cTr (by assumption)) | refine Eq.trans ?_ (cFr (by assumption)) | refine Eq.trans (cTl (by assumption)) ?_ | refine Eq.trans (cFl (by assumption)) ?_))) hj
  · cases h
def ref05_begins (N : Nat) (a1 : ByteArray) (a2 : ByteArray) : Option Bool :=
  let x1 := (bif (decide ((ByteArray.size a2 : Int) ≤ (ByteArray.size a1 : Int))) then (decide (ByteArray.toList (ByteArray.extract a1 0 (ByteArray.size a2 : Int).toNat) = ByteArray.toList a2)) else false)
  if ((decide ((ByteArray.size a2 : Int) ≤ (ByteArray.size a1 : Int))) = true → (0 : Int) ≤ (ByteArray.size a2 : Int)) ∧ ((decide ((ByteArray.size a2 : Int) ≤ (ByteArray.size a1 : Int))) = true → (ByteArray.size a2 : Int) ≤ (ByteArray.size a1 : Int)) then
    some x1
  else none
def sp_ref05_begins (N : Nat) : X.Spec := fun args lk => match args with
  | [.v (.c (.str a1)), .v (.c (.str a2))] => some ⟨(ref05_begins N a1 a2).isSome = true, .v (.c (.bool ((ref05_begins N a1 a2).getD default))), [], []⟩
  | _ => none
set_option maxRecDepth 100000 in
set_option maxHeartbeats 1000000 in
theorem ok_ref05_begins (N : Nat) : FnOK Tryd.prog gt0 44 (sp_ref05_begins N) := by
  refine fnOK_handed Tryd.func44 rfl (by kernel_rfl) tt_ok (ktNil) ?_
  intro args lk r h hp
  unfold sp_ref05_begins at h
  split at h
  · rename_i a1 a2
    cases h
    obtain ⟨x, hx⟩ := Option.isSome_iff_exists.1 hp
    simp only [hx, Option.getD_some]
    refine hand0 rfl rfl (fun w0 M ε0 hX => ?_)
    refine rCount (fun hε => ?_)
    have hT : ref05_begins N a1 a2 = some x := hx; clear hx hp; unfold ref05_begins at hT
    refine rSeq ?_
    refine zReg md0 hX rfl rfl rfl ?_
    refine rThen ?_
    refine rSeq ?_
    let x1 := (bif (decide ((ByteArray.size a2 : Int) ≤ (ByteArray.size a1 : Int))) then (decide (ByteArray.toList (ByteArray.extract a1 0 (ByteArray.size a2 : Int).toNat) = ByteArray.toList a2)) else false)
    replace hT := sIf hT; obtain ⟨⟨o1, o2⟩, hT⟩ := hT
    refine rRegC md0 hX rfl rfl rfl (by (repeat' first | exact True.intro | with_reducible assumption | (with_reducible apply And.intro) | intro _) <;> first | assumption | exact o1 (by assumption) | exact o2 (by assumption) | exact rfl | omega | exact Nat.le_of_ble_eq_true rfl | exact selF (by assumption) | exact selT (by assumption) | exact And.intro rfl rfl | exact And.intro (by assumption) rfl | exact And.intro (by omega) rfl | (simp only [inK] at *; omega) | (simp_all [sel] <;> fail) | fail) ?_
    refine rThen ?_
    refine rRet ?_
    have hy := Option.some.inj hT; subst hy
    exact zEnd0 hX rfl
  · cases h
def ref05_Take_b2 (N : Nat) (a1 : Nat) (a2 : ByteArray) (a3 : Int) (a4 : (List ByteArray)) (s1 : Int) (s2 : (Bool × Int)) : Option ((Bool × Int) ⊕ (Int ⊕ (Bool × Int × Int × Bool))) :=
  bif (decide (s2.2 < (a1 : Int))) then
    let x1 := (decide (ByteArray.toList (a4.getD (s2.2).toNat ⟨#[]⟩) = ByteArray.toList (ByteArray.extract a2 (a3).toNat (a3 + s1).toNat)))
    if (0 : Int) ≤ s2.2 ∧ s2.2 < (a1 : Int) ∧ (s2.2).toNat < a4.length ∧ inK .i64 (a3 + s1) ∧ (0 : Int) ≤ a3 ∧ a3 ≤ (a3 + s1) ∧ (a3 + s1) ≤ (ByteArray.size a2 : Int) then
      bif x1 then
        if inK .i64 (a3 + s1) then
          some (.inr (Sum.inl s2.2))
        else none
      else
        let c1 := (ref05_begins N (a4.getD (s2.2).toNat ⟨#[]⟩) (ByteArray.extract a2 (a3).toNat (a3 + s1).toNat))
        if ((!s2.1) = true → (0 : Int) ≤ s2.2) ∧ ((!s2.1) = true → s2.2 < (a1 : Int)) ∧ ((!s2.1) = true → (s2.2).toNat < a4.length) ∧ ((!s2.1) = true → inK .i64 (a3 + s1)) ∧ ((!s2.1) = true → (0 : Int) ≤ a3) ∧ ((!s2.1) = true → a3 ≤ (a3 + s1)) ∧ ((!s2.1) = true → (a3 + s1) ≤ (ByteArray.size a2 : Int)) ∧ ((!s2.1) = true → c1.isSome = true) then
          if inK .i64 (s2.2 + 1) then
            some (.inl ((bif s2.1 then true else (c1.getD default)), (s2.2 + 1)))
          else none
        else none
    else none
  else
    some (.inr (Sum.inr (s2.1, s2.2, s2.2, (decide (s2.2 < (a1 : Int))))))
def ref05_Take_b1 (N : Nat) (a1 : Nat) (a2 : ByteArray) (a3 : Int) (a4 : (List ByteArray)) (s1 : Int) : Option (Int ⊕ ((Int × Int × Int) ⊕ Unit)) :=
  bif (decide (s1 ≤ 25)) then
    if inK .i64 ((ByteArray.size a2 : Int) - a3) then
      bif (decide (((ByteArray.size a2 : Int) - a3) < s1)) then
        some (.inr (Sum.inl (0, a3, 2)))
      else
        (iter (ref05_Take_b2 N a1 a2 a3 a4 s1) N (false, 0)).bind fun w2 =>
          (Sum.elim (fun v3 =>
            some (.inr (Sum.inl (v3, (a3 + s1), 0)))
          )
            (fun v4 =>
              bif (!v4.1) then
                some (.inr (Sum.inl (0, a3, 3)))
              else
                if inK .i64 (s1 + 1) then
                  some (.inl (s1 + 1))
                else none
            )
          ) w2
    else none
  else
    some (.inr (Sum.inr ()))
def ref05_Take (N : Nat) (a1 : Nat) (a2 : ByteArray) (a3 : Int) (a4 : (List ByteArray)) : Option (Int × Int × Int) :=
  (iter (ref05_Take_b1 N a1 a2 a3 a4) N 1).bind fun w1 =>
    (Sum.elim (fun v1 =>
      some (v1.1, v1.2.1, v1.2.2)
    )
      (fun v2 =>
        some (0, a3, 3)
      )
    ) w1
def sp_ref05_Take (N : Nat) : X.Spec := fun args lk => match args with
  | [.v (.c (.sl i0 0 a1 1)), .v (.c (.str a2)), .v (.c (.int .i64 a3))] => (match lk i0 with
    | some (.mem _ _ _ b0) => (match frzB .str b0 with
    | some a4 => some ⟨(ref05_Take N a1 a2 a3 a4).isSome = true, .tup [.c (.int .i64 ((ref05_Take N a1 a2 a3 a4).getD default).1), .c (.int .i64 ((ref05_Take N a1 a2 a3 a4).getD default).2.1), .c (.int .i64 ((ref05_Take N a1 a2 a3 a4).getD default).2.2)], [], []⟩
    | none => none)
    | _ => none)
  | _ => none
set_option maxRecDepth 100000 in
set_option maxHeartbeats 1000000 in
theorem ok_ref05_Take (N : Nat) : FnOK Tryd.prog gt0 19 (sp_ref05_Take N) := by
  refine fnOK_handed Tryd.func19 rfl (by kernel_rfl) tt_ok (ktCons (ok_ref05_begins N) (ktNil)) ?_
  intro args lk r h hp
  unfold sp_ref05_Take at h
  split at h
  · rename_i i0 a1 a2 a3
    split at h
    · rename_i _ _ _ b0 hl0
      split at h
      · rename_i a4 hf0
        change (List ByteArray) at a4
        cases h
        obtain ⟨x, hx⟩ := Option.isSome_iff_exists.1 hp
        simp only [hx, Option.getD_some]
        refine handL [i0] 1 [(0, .mem false 9 none (.lst .str a4))] [.v (.c (.sl 0 0 a1 1)), .v (.c (.str a2)), .v (.c (.int .i64 a3))] rfl rfl rfl ⟨isSome_of hl0, trivial⟩ ⟨⟨rfl, (by repeat' first | exact True.intro | exact rfl | exact ⟨_, rfl, rfl⟩ | apply And.intro | exact Or.inl rfl), _, hl0, sub_frz hf0⟩, trivial⟩ rfl (fun w0 M ε0 hX => ?_)
        refine rCount (fun hε => ?_)
        have hT : ref05_Take N a1 a2 a3 a4 = some x := hx; clear hx hp; unfold ref05_Take at hT
        refine rSeq ?_
        refine zReg md0 hX rfl rfl rfl ?_
        refine rThen ?_
        refine rSeq ?_
        refine rSeq ?_
        refine zReg md0 hX rfl rfl rfl ?_
        refine rThen ?_
        refine rBlock ?_
        replace hT := sBind hT; obtain ⟨w1, hl, hT⟩ := hT
        refine rJoinA (fun v1 => (Sum.inl v1) = w1) (fun v1 => ⟨[(6, .v (.c (.int .i64 v1.1))), (7, .v (.c (.int .i64 v1.2.1))), (8, .v (.c (.int .i64 v1.2.2)))], [(0, .mem false 9 none (.lst .str a4))], 1⟩) .ret (fun v1 hv => ?_) (fun hxs10 => ?_)
        · subst hv; clear hl; replace hT := (sElimL hT)
          refine rInRet ?_
          refine rThenRet ?_
          have hy := Option.some.inj hT; subst hy
          exact zEnd0 hX rfl
        refine rJoinA (fun v2 => (Sum.inr v2) = w1) (fun v2 => ⟨[(2, .v (.c (.int .i64 a3))), (6, .v (.c (.int .i64 0))), (7, .v (.c (.int .i64 0))), (8, .v (.c (.int .i64 0)))], [(0, .mem false 9 none (.lst .str a4))], 1⟩) (.exit 0) (fun v2 hv => ?_) (fun hxs11 => ?_)
        · subst hv; clear hl; replace hT := (sElimR hT)
          refine rInHit ?_
          refine rThen ?_
          refine rSeq ?_
          refine zReg md0 hX rfl rfl rfl ?_
          refine rThen ?_
          refine rRet ?_
          have hy := Option.some.inj hT; subst hy
          exact zEnd0 hX rfl
        refine rLoopM (ref05_Take_b1 N a1 a2 a3 a4) (fun s1 => ⟨[(0, .v (.c (.sl 0 0 a1 1))), (1, .v (.c (.str a2))), (2, .v (.c (.int .i64 a3))), (6, .v (.c (.int .i64 0))), (7, .v (.c (.int .i64 0))), (8, .v (.c (.int .i64 0))), (9, .v (.c (.int .i64 s1)))], [(0, .mem false 9 none (.lst .str a4))], 1⟩) hl (To.mk' [] 1 hε rfl (by repeat' first | exact True.intro | exact rfl | apply And.intro) (by repeat' first | exact True.intro | exact rfl | apply And.intro)) (fun s1 zs1 NNs1 hz hnexts1 houts1 => ?_)
        clear hl hT
        have hT := hz; clear hz
        refine rSeq ?_
        refine rSeq ?_
        refine zReg md0 hX rfl rfl rfl ?_
        refine rThen ?_
        refine zCond rfl rfl (fun hc => ?_) (fun hc => ?_)
        · replace hT := sT hc hT
          refine rSkip ?_
          refine rThen ?_
          refine rSeq ?_
          refine rBlock ?_
          refine rSeq ?_
          refine rSeq ?_
          replace hT := sIf hT; obtain ⟨o1, hT⟩ := hT
          refine zReg md0 hX rfl rfl rfl ?_
          refine rThen ?_
          refine zCond rfl rfl (fun hc => ?_) (fun hc => ?_)
          · replace hT := sT hc hT
            refine rSeq ?_
            refine zReg md0 hX rfl rfl rfl ?_
            refine rThen ?_
            refine rRet ?_
            refine rThenRet ?_
            refine rInRet ?_
            refine rThenRet ?_
            refine rThenRet ?_
            exact zTo [] 1 hε (hxs10 _ (houts1 _ (Option.some.inj hT).symm))
          · replace hT := sF hc hT
            refine rSkip ?_
            refine rThen ?_
            refine rSeq ?_
            refine zReg md0 hX rfl rfl rfl ?_
            refine rThen ?_
            refine rSeq ?_
            refine rSeq ?_
            refine zReg md0 hX rfl rfl rfl ?_
            refine rThen ?_
            refine rBlock ?_
            replace hT := sBind hT; obtain ⟨w2, hl, hT⟩ := hT
            refine rJoinA (fun v3 => (Sum.inl v3) = w2) (fun v3 => ⟨[(6, .v (.c (.int .i64 v3))), (7, .v (.c (.int .i64 (a3 + s1)))), (8, .v (.c (.int .i64 0)))], [(0, .mem false 9 none (.lst .str a4))], 1⟩) .ret (fun v3 hv => ?_) (fun hxs20 => ?_)
            · subst hv; clear hl; replace hT := (sElimL hT)
              refine rInRet ?_
              refine rThenRet ?_
              refine rInRet ?_
              refine rThenRet ?_
              refine rThenRet ?_
              exact zTo [] 1 hε (hxs10 _ (houts1 _ (Option.some.inj hT).symm))
            refine rJoinA (fun v4 => (Sum.inr v4) = w2) (fun v4 => ⟨[(0, .v (.c (.sl 0 0 a1 1))), (1, .v (.c (.str a2))), (2, .v (.c (.int .i64 a3))), (6, .v (.c (.int .i64 0))), (7, .v (.c (.int .i64 0))), (8, .v (.c (.int .i64 0))), (9, .v (.c (.int .i64 s1))), (10, .v (.c (.bool v4.1))), (11, .v (.c (.int .i64 v4.2.1))), (12, .v (.c (.int .i64 s1))), (13, .v (.c (.bool (decide (s1 ≤ 25))))), (16, .v (.c (.str a2))), (17, .v (.c (.int .i64 (ByteArray.size a2 : Int)))), (18, .v (.c (.int .i64 a3))), (19, .v (.c (.int .i64 ((ByteArray.size a2 : Int) - a3)))), (20, .v (.c (.int .i64 s1))), (21, .v (.c (.bool (decide (((ByteArray.size a2 : Int) - a3) < s1))))), (23, .v (.c (.int .i64 v4.2.2.1))), (24, .v (.c (.sl 0 0 a1 1))), (25, .v (.c (.int .i64 (a1 : Int)))), (26, .v (.c (.bool v4.2.2.2)))], [(0, .mem false 9 none (.lst .str a4))], 1⟩) (.exit 2) (fun v4 hv => ?_) (fun hxs21 => ?_)
            · subst hv; clear hl; replace hT := (sElimR hT)
              refine rInHit ?_
              refine rThen ?_
              refine rSeq ?_
              refine zReg md0 hX rfl rfl rfl ?_
              refine rThen ?_
              refine zCond rfl rfl (fun hc => ?_) (fun hc => ?_)
              · replace hT := sT hc hT
                refine rSeq ?_
                refine zReg md0 hX rfl rfl rfl ?_
                refine rThen ?_
                refine rRet ?_
                refine rInRet ?_
                refine rThenRet ?_
                refine rThenRet ?_
                exact zTo [] 1 hε (hxs10 _ (houts1 _ (Option.some.inj hT).symm))
              · replace hT := sF hc hT
                refine rSkip ?_
                refine rInNormal ?_
                refine rThen ?_
                replace hT := sIf hT; obtain ⟨o1, hT⟩ := hT
                refine zReg md0 hX rfl rfl rfl ?_
                exact hnexts1 _ (Option.some.inj hT).symm _ (To.mk' [] 1 hε rfl (by repeat' first | exact True.intro | exact rfl | apply And.intro) (by repeat' first | exact True.intro | exact rfl | apply And.intro))
            refine rLoopM (ref05_Take_b2 N a1 a2 a3 a4 s1) (fun s2 => ⟨[(0, .v (.c (.sl 0 0 a1 1))), (1, .v (.c (.str a2))), (2, .v (.c (.int .i64 a3))), (6, .v (.c (.int .i64 0))), (7, .v (.c (.int .i64 0))), (8, .v (.c (.int .i64 0))), (9, .v (.c (.int .i64 s1))), (10, .v (.c (.bool s2.1))), (11, .v (.c (.int .i64 s2.2))), (12, .v (.c (.int .i64 s1))), (13, .v (.c (.bool (decide (s1 ≤ 25))))), (16, .v (.c (.str a2))), (17, .v (.c (.int .i64 (ByteArray.size a2 : Int)))), (18, .v (.c (.int .i64 a3))), (19, .v (.c (.int .i64 ((ByteArray.size a2 : Int) - a3)))), (20, .v (.c (.int .i64 s1))), (21, .v (.c (.bool (decide (((ByteArray.size a2 : Int) - a3) < s1)))))], [(0, .mem false 9 none (.lst .str a4))], 1⟩) hl (To.mk' [] 1 hε rfl (by repeat' first | exact True.intro | exact rfl | apply And.intro) (by repeat' first | exact True.intro | exact rfl | apply And.intro)) (fun s2 zs2 NNs2 hz hnexts2 houts2 => ?_)
            clear hl hT
            have hT := hz; clear hz
            refine rSeq ?_
            refine rSeq ?_
            refine zReg md0 hX rfl rfl rfl ?_
            refine rThen ?_
            refine zCond rfl rfl (fun hc => ?_) (fun hc => ?_)
            · replace hT := sT hc hT
              refine rSkip ?_
              refine rThen ?_
              refine rSeq ?_
              refine rBlock ?_
              refine rSeq ?_
              refine rSeq ?_
              let x1 := (decide (ByteArray.toList (a4.getD (s2.2).toNat ⟨#[]⟩) = ByteArray.toList (ByteArray.extract a2 (a3).toNat (a3 + s1).toNat)))
              replace hT := sIf hT; obtain ⟨⟨o1, o2, o3, o4, o5, o6, o7⟩, hT⟩ := hT
              refine zDraw md0 0 [] hX mixed rfl rfl rfl rfl rfl ?_
              refine rThen ?_
              refine zCond rfl rfl (fun hc => ?_) (fun hc => ?_)
              · replace hT := sT hc hT
                refine rSeq ?_
                replace hT := sIf hT; obtain ⟨o1, hT⟩ := hT
                refine zReg md0 hX rfl rfl rfl ?_
                refine rThen ?_
                refine rRet ?_
                refine rThenRet ?_
                refine rInRet ?_
                refine rThenRet ?_
                refine rThenRet ?_
                exact zTo [] 1 hε (hxs20 _ (houts2 _ (Option.some.inj hT).symm))
              · replace hT := sF hc hT
                refine rSkip ?_
                refine rThen ?_
                let c1 := (ref05_begins N (a4.getD (s2.2).toNat ⟨#[]⟩) (ByteArray.extract a2 (a3).toNat (a3 + s1).toNat))
                replace hT := sIf hT; obtain ⟨⟨o1, o2, o3, o4, o5, o6, o7, o8⟩, hT⟩ := hT
                refine rDrawM md0 1 [14] hX mixed rfl rfl rfl rfl rfl (by (repeat' first | exact True.intro | with_reducible assumption | (with_reducible apply And.intro) | intro _) <;> first | assumption | exact o1 (by assumption) | exact o2 (by assumption) | exact o3 (by assumption) | exact o4 (by assumption) | exact o5 (by assumption) | exact o6 (by assumption) | exact o7 (by assumption) | exact o8 (by assumption) | exact rfl | omega | exact Nat.le_of_ble_eq_true rfl | exact selF (by assumption) | exact selT (by assumption) | exact And.intro rfl rfl | exact And.intro (by assumption) rfl | exact And.intro (by omega) rfl | (simp only [inK] at *; omega) | (simp_all [sel] <;> fail) | fail) ?_
                refine rInNormal ?_
                refine rThen ?_
                replace hT := sIf hT; obtain ⟨o1, hT⟩ := hT
                refine zReg md0 hX rfl rfl rfl ?_
                exact hnexts2 _ (Option.some.inj hT).symm _ (To.mk' [] 1 hε rfl (by repeat' first | exact True.intro | exact rfl | apply And.intro) (by repeat' first | exact True.intro | exact rfl | apply And.intro))
            · replace hT := sF hc hT
              refine rExit ?_
              refine rThenExit ?_
              refine rThenExit ?_
              exact zTo [] 1 hε (hxs21 _ (houts2 _ (Option.some.inj hT).symm))
        · replace hT := sF hc hT
          refine rExit ?_
          refine rThenExit ?_
          refine rThenExit ?_
          exact zTo [] 1 hε (hxs11 _ (houts1 _ (Option.some.inj hT).symm))
      · cases h
    · cases h
  · cases h
def ref09_Right (N : Nat) (a1 : Bool) (a2 : Int) (a3 : Int) : Option Bool :=
  let x1 := (bif (bif (bif (bif (decide ((0 : Int) ≤ a2)) then (decide (a2 ≤ 63)) else false) then (decide (((-127) : Int) ≤ a3)) else false) then (decide (a3 ≤ 127)) else false) then (decide (a3 ≠ 0)) else false)
  some x1
def sp_ref09_Right (N : Nat) : X.Spec := fun args lk => match args with
  | [.v (.agg [.cs [.bool a1, .int .i64 a2, .int .i64 a3]])] => some ⟨(ref09_Right N a1 a2 a3).isSome = true, .v (.c (.bool ((ref09_Right N a1 a2 a3).getD default))), [], []⟩
  | _ => none
set_option maxRecDepth 100000 in
set_option maxHeartbeats 1000000 in
theorem ok_ref09_Right (N : Nat) : FnOK Tryd.prog gt0 21 (sp_ref09_Right N) := by
  refine fnOK_handed Tryd.func21 rfl (by kernel_rfl) tt_ok (ktNil) ?_
  intro args lk r h hp
  unfold sp_ref09_Right at h
  split at h
  · rename_i a1 a2 a3
    cases h
    obtain ⟨x, hx⟩ := Option.isSome_iff_exists.1 hp
    simp only [hx, Option.getD_some]
    refine hand0 rfl rfl (fun w0 M ε0 hX => ?_)
    refine rCount (fun hε => ?_)
    have hT : ref09_Right N a1 a2 a3 = some x := hx; clear hx hp; unfold ref09_Right at hT
    refine rSeq ?_
    refine zReg md0 hX rfl rfl rfl ?_
    refine rThen ?_
    refine rSeq ?_
    let x1 := (bif (bif (bif (bif (decide ((0 : Int) ≤ a2)) then (decide (a2 ≤ 63)) else false) then (decide (((-127) : Int) ≤ a3)) else false) then (decide (a3 ≤ 127)) else false) then (decide (a3 ≠ 0)) else false)
    refine zReg md0 hX rfl rfl rfl ?_
    refine rThen ?_
    refine rRet ?_
    have hy := Option.some.inj hT; subst hy
    exact zEnd0 hX rfl
  · cases h
def ref09_amount (N : Nat) (a1 : Int) : Option Int :=
  bif (decide (a1 < 0)) then
    if inK .i64 (-a1) then
      some (-a1)
    else none
  else
    some a1
def sp_ref09_amount (N : Nat) : X.Spec := fun args lk => match args with
  | [.v (.c (.int .i64 a1))] => some ⟨(ref09_amount N a1).isSome = true, .v (.c (.int .i64 ((ref09_amount N a1).getD default))), [], []⟩
  | _ => none
set_option maxRecDepth 100000 in
set_option maxHeartbeats 1000000 in
theorem ok_ref09_amount (N : Nat) : FnOK Tryd.prog gt0 23 (sp_ref09_amount N) := by
  refine fnOK_handed Tryd.func23 rfl (by kernel_rfl) tt_ok (ktNil) ?_
  intro args lk r h hp
  unfold sp_ref09_amount at h
  split at h
  · rename_i a1
    cases h
    obtain ⟨x, hx⟩ := Option.isSome_iff_exists.1 hp
    simp only [hx, Option.getD_some]
    refine hand0 rfl rfl (fun w0 M ε0 hX => ?_)
    refine rCount (fun hε => ?_)
    have hT : ref09_amount N a1 = some x := hx; clear hx hp; unfold ref09_amount at hT
    refine rSeq ?_
    refine zReg md0 hX rfl rfl rfl ?_
    refine rThen ?_
    refine rSeq ?_
    refine rSeq ?_
    refine zReg md0 hX rfl rfl rfl ?_
    refine rThen ?_
    refine zCond rfl rfl (fun hc => ?_) (fun hc => ?_)
    · replace hT := sT hc hT
      refine rSeq ?_
      replace hT := sIf hT; obtain ⟨o1, hT⟩ := hT
      refine zReg md0 hX rfl rfl rfl ?_
      refine rThen ?_
      refine rRet ?_
      refine rThenRet ?_
      have hy := Option.some.inj hT; subst hy
      exact zEnd0 hX rfl
    · replace hT := sF hc hT
      refine rSkip ?_
      refine rThen ?_
      refine rSeq ?_
      refine zReg md0 hX rfl rfl rfl ?_
      refine rThen ?_
      refine rRet ?_
      have hy := Option.some.inj hT; subst hy
      exact zEnd0 hX rfl
  · cases h
def ref09_has (N : Nat) (a1 : Bool) (a2 : Int) (a3 : Int) : Option ByteArray :=
  let c1 := (ref09_rows N a1 a2)
  if c1.isSome = true then
    bif (decide (((c1.getD default).length : Int) < a3)) then
      some ⟨#[]⟩
    else
      if inK .i64 (a3 - 1) ∧ (0 : Int) ≤ (a3 - 1) ∧ (a3 - 1) < ((c1.getD default).length : Int) then
        some ((c1.getD default).getD (a3 - 1).toNat ⟨#[]⟩)
      else none
  else none
def sp_ref09_has (N : Nat) : X.Spec := fun args lk => match args with
  | [.v (.c (.bool a1)), .v (.c (.int .i64 a2)), .v (.c (.int .i64 a3))] => some ⟨(ref09_has N a1 a2 a3).isSome = true, .v (.c (.str ((ref09_has N a1 a2 a3).getD default))), [], []⟩
  | _ => none
set_option maxRecDepth 100000 in
set_option maxHeartbeats 1000000 in
theorem ok_ref09_has (N : Nat) : FnOK Tryd.prog gt0 22 (sp_ref09_has N) := by
  refine fnOK_handed Tryd.func22 rfl (by kernel_rfl) tt_ok (ktCons (ok_ref09_rows N) (ktNil)) ?_
  intro args lk r h hp
  unfold sp_ref09_has at h
  split at h
  · rename_i a1 a2 a3
    cases h
    obtain ⟨x, hx⟩ := Option.isSome_iff_exists.1 hp
    simp only [hx, Option.getD_some]
    refine hand0 rfl rfl (fun w0 M ε0 hX => ?_)
    refine rCount (fun hε => ?_)
    have hT : ref09_has N a1 a2 a3 = some x := hx; clear hx hp; unfold ref09_has at hT
    refine rSeq ?_
    refine zReg md0 hX rfl rfl rfl ?_
    refine rThen ?_
    refine rSeq ?_
    let c1 := (ref09_rows N a1 a2)
    replace hT := sIf hT; obtain ⟨o1, hT⟩ := hT
    refine zReg md0 hX rfl rfl rfl ?_
    refine rThen ?_
    refine rSeq ?_
    refine rSeq ?_
    refine zReg md0 hX rfl rfl rfl ?_
    refine rThen ?_
    refine zCond rfl rfl (fun hc => ?_) (fun hc => ?_)
    · replace hT := sT hc hT
      refine rSeq ?_
      refine zReg md0 hX rfl rfl rfl ?_
      refine rThen ?_
      refine rRet ?_
      refine rThenRet ?_
      have hy := Option.some.inj hT; subst hy
      exact zEnd0 hX rfl
    · replace hT := sF hc hT
      refine rSkip ?_
      refine rThen ?_
      refine rSeq ?_
      replace hT := sIf hT; obtain ⟨⟨o1, o2, o3⟩, hT⟩ := hT
      refine zReg md0 hX rfl rfl rfl ?_
      refine rThen ?_
      refine rRet ?_
      have hy := Option.some.inj hT; subst hy
      exact zEnd0 hX rfl
  · cases h
def ref09_Take_b3 (N : Nat) (s1 : (Nat × Nat × Int × (List ByteArray) × (List (Bool × (Int × Int))))) (s2 : (Nat × Nat × Int × (List ByteArray) × (List (Bool × (Int × Int))))) (c7 : (Option (List ByteArray))) (s3 : (Nat × Nat × Int × (List ByteArray) × (List (Bool × (Int × Int))))) : Option ((Nat × Nat × Int × (List ByteArray) × (List (Bool × (Int × Int)))) ⊕ (Nat × Nat × Int × Int × Bool × (List ByteArray) × (List (Bool × (Int × Int))))) :=
  bif (decide (s3.2.2.1 < ((c7.getD default).length : Int))) then
    if (0 : Int) ≤ s3.2.2.1 ∧ s3.2.2.1 < ((c7.getD default).length : Int) ∧ s3.2.2.2.1.length = s3.1 ∧ (s3.1 + 1) * 16 ≤ 140737488355328 ∧ s3.1 + 1 ≤ 9223372036854775807 then
      if inK .i64 (s3.2.2.1 + 1) ∧ s3.2.2.2.2.length = s3.2.1 ∧ (s3.2.1 + 1) * 24 ≤ 140737488355328 ∧ s3.2.1 + 1 ≤ 9223372036854775807 then
        if inK .i64 (s3.2.2.1 + 1) then
          some (.inl ((s3.1 + 1), (s3.2.1 + 1), (s3.2.2.1 + 1), (s3.2.2.2.1 ++ [((c7.getD default).getD (s3.2.2.1).toNat ⟨#[]⟩)]), (s3.2.2.2.2 ++ [((decide (s2.2.2.1 = 1)), (s1.2.2.1, (s3.2.2.1 + 1)))])))
        else none
      else none
    else none
  else
    some (.inr (s3.1, s3.2.1, s3.2.2.1, s3.2.2.1, (decide (s3.2.2.1 < ((c7.getD default).length : Int))), s3.2.2.2.1, s3.2.2.2.2))
def ref09_Take_b2 (N : Nat) (s1 : (Nat × Nat × Int × (List ByteArray) × (List (Bool × (Int × Int))))) (s2 : (Nat × Nat × Int × (List ByteArray) × (List (Bool × (Int × Int))))) : Option ((Nat × Nat × Int × (List ByteArray) × (List (Bool × (Int × Int)))) ⊕ (Nat × Nat × Int × Int × Bool × (List ByteArray) × (List (Bool × (Int × Int))))) :=
  bif (decide (s2.2.2.1 < 2)) then
    let c7 := (ref09_rows N (decide (s2.2.2.1 = 1)) s1.2.2.1)
    if c7.isSome = true then
      (iter (ref09_Take_b3 N s1 s2 c7) N (s2.1, s2.2.1, 0, s2.2.2.2.1, s2.2.2.2.2)).bind fun v3 =>
        if inK .i64 (s2.2.2.1 + 1) then
          some (.inl (v3.1, v3.2.1, (s2.2.2.1 + 1), v3.2.2.2.2.2.1, v3.2.2.2.2.2.2))
        else none
    else none
  else
    some (.inr (s2.1, s2.2.1, s2.2.2.1, s2.2.2.1, (decide (s2.2.2.1 < 2)), s2.2.2.2.1, s2.2.2.2.2))
def ref09_Take_b1 (N : Nat) (s1 : (Nat × Nat × Int × (List ByteArray) × (List (Bool × (Int × Int))))) : Option ((Nat × Nat × Int × (List ByteArray) × (List (Bool × (Int × Int)))) ⊕ (Nat × Nat × (List ByteArray) × (List (Bool × (Int × Int))))) :=
  bif (decide (s1.2.2.1 ≤ 63)) then
    (iter (ref09_Take_b2 N s1) N (s1.1, s1.2.1, 0, s1.2.2.2.1, s1.2.2.2.2)).bind fun v2 =>
      if inK .i64 (s1.2.2.1 + 1) then
        some (.inl (v2.1, v2.2.1, (s1.2.2.1 + 1), v2.2.2.2.2.2.1, v2.2.2.2.2.2.2))
      else none
  else
    some (.inr (s1.1, s1.2.1, s1.2.2.2.1, s1.2.2.2.2))
def ref09_Take (N : Nat) (a1 : ByteArray) (a2 : Int) : Option (Bool × Int × Int × Int × Int) :=
  (iter (ref09_Take_b1 N) N (1, 1, 0, ([⟨#[48, 48, 48, 48, 48, 49, 49]⟩] : List ByteArray), [(false, ((0 : Int), (0 : Int)))])).bind fun v1 =>
    let c1 := (ref05_Take N v1.1 a1 a2 v1.2.2.1)
    if c1.isSome = true then
      bif (decide ((c1.getD default).2.2 ≠ 0)) then
        some (false, 0, 0, a2, (c1.getD default).2.2)
      else
        bif (decide ((0 : Int) < (c1.getD default).1)) then
          bif (decide ((c1.getD default).2.1 = (ByteArray.size a1 : Int))) then
            some (false, 0, 0, a2, 2)
          else
            if (0 : Int) ≤ (c1.getD default).1 ∧ (c1.getD default).1 < (v1.2.1 : Int) ∧ (c1.getD default).1.toNat < v1.2.2.2.length then
              if (0 : Int) ≤ (c1.getD default).2.1 ∧ (c1.getD default).2.1 < (ByteArray.size a1 : Int) then
                if ((decide ((byteI a1 (c1.getD default).2.1.toNat) = 49)) = true → inK .i64 (-(v1.2.2.2.getD (c1.getD default).1.toNat (false, ((0 : Int), (0 : Int)))).2.2)) then
                  let x1 := (bif (decide ((byteI a1 (c1.getD default).2.1.toNat) = 49)) then (-(v1.2.2.2.getD (c1.getD default).1.toNat (false, ((0 : Int), (0 : Int)))).2.2) else (v1.2.2.2.getD (c1.getD default).1.toNat (false, ((0 : Int), (0 : Int)))).2.2)
                  if inK .i64 ((c1.getD default).2.1 + 1) then
                    some ((v1.2.2.2.getD (c1.getD default).1.toNat (false, ((0 : Int), (0 : Int)))).1, (v1.2.2.2.getD (c1.getD default).1.toNat (false, ((0 : Int), (0 : Int)))).2.1, x1, ((c1.getD default).2.1 + 1), 0)
                  else none
                else none
              else none
            else none
        else
          if inK .i64 ((ByteArray.size a1 : Int) - (c1.getD default).2.1) then
            bif (decide (((ByteArray.size a1 : Int) - (c1.getD default).2.1) < 15)) then
              some (false, 0, 0, a2, 2)
            else
              let c2 := (ref02_Number N (ByteArray.extract a1 ((c1.getD default).2.1 + 1).toNat ((c1.getD default).2.1 + 7).toNat))
              let c3 := (ref02_Number N (ByteArray.extract a1 ((c1.getD default).2.1 + 7).toNat ((c1.getD default).2.1 + 15).toNat))
              if (0 : Int) ≤ (c1.getD default).2.1 ∧ (c1.getD default).2.1 < (ByteArray.size a1 : Int) ∧ inK .i64 ((c1.getD default).2.1 + 1) ∧ inK .i64 ((c1.getD default).2.1 + 7) ∧ (0 : Int) ≤ ((c1.getD default).2.1 + 1) ∧ ((c1.getD default).2.1 + 1) ≤ ((c1.getD default).2.1 + 7) ∧ ((c1.getD default).2.1 + 7) ≤ (ByteArray.size a1 : Int) ∧ c2.isSome = true ∧ inK .i64 ((c1.getD default).2.1 + 15) ∧ (0 : Int) ≤ ((c1.getD default).2.1 + 7) ∧ ((c1.getD default).2.1 + 7) ≤ ((c1.getD default).2.1 + 15) ∧ ((c1.getD default).2.1 + 15) ≤ (ByteArray.size a1 : Int) ∧ c3.isSome = true then
                if ((decide ((127 : Int) < (c3.getD default))) = true → inK .i64 ((c3.getD default) - 256)) then
                  let x4 := (bif (decide ((127 : Int) < (c3.getD default))) then ((c3.getD default) - 256) else (c3.getD default))
                  let c4 := (ref09_Right N (decide ((byteI a1 (c1.getD default).2.1.toNat) = 49)) (c2.getD default) x4)
                  let c5 := (ref09_amount N x4)
                  let c6 := (ref09_has N (decide ((byteI a1 (c1.getD default).2.1.toNat) = 49)) (c2.getD default) (c5.getD default))
                  let x5 := (bif (!(c4.getD default)) then true else (decide (ByteArray.toList (c6.getD default) ≠ ByteArray.toList ⟨#[]⟩)))
                  if c4.isSome = true ∧ ((!(!(c4.getD default))) = true → c5.isSome = true) ∧ ((!(!(c4.getD default))) = true → c6.isSome = true) then
                    bif x5 then
                      some (false, 0, 0, a2, 7)
                    else
                      if inK .i64 ((c1.getD default).2.1 + 15) then
                        some ((decide ((byteI a1 (c1.getD default).2.1.toNat) = 49)), (c2.getD default), x4, ((c1.getD default).2.1 + 15), 0)
                      else none
                  else none
                else none
              else none
          else none
    else none
def sp_ref09_Take (N : Nat) : X.Spec := fun args lk => match args with
  | [.v (.c (.str a1)), .v (.c (.int .i64 a2))] => some ⟨(ref09_Take N a1 a2).isSome = true, .tup [.agg [.cs [.bool ((ref09_Take N a1 a2).getD default).1, .int .i64 ((ref09_Take N a1 a2).getD default).2.1, .int .i64 ((ref09_Take N a1 a2).getD default).2.2.1]], .c (.int .i64 ((ref09_Take N a1 a2).getD default).2.2.2.1), .c (.int .i64 ((ref09_Take N a1 a2).getD default).2.2.2.2)], [], []⟩
  | _ => none
set_option maxRecDepth 100000 in
set_option maxHeartbeats 1000000 in
theorem ok_ref09_Take (N : Nat) : FnOK Tryd.prog gt0 9 (sp_ref09_Take N) := by
  refine fnOK_handed Tryd.func9 rfl (by kernel_rfl) tt_ok (ktCons (ok_ref09_rows N) (ktCons (ok_ref09_has N) (ktCons (ok_ref09_amount N) (ktCons (ok_ref09_Right N) (ktCons (ok_ref02_Number N) (ktCons (ok_ref05_Take N) (ktNil))))))) ?_
  intro args lk r h hp
  unfold sp_ref09_Take at h
  split at h
  · rename_i a1 a2
    cases h
    obtain ⟨x, hx⟩ := Option.isSome_iff_exists.1 hp
    simp only [hx, Option.getD_some]
    refine hand0 rfl rfl (fun w0 M ε0 hX => ?_)
    refine rCount (fun hε => ?_)
    have hT : ref09_Take N a1 a2 = some x := hx; clear hx hp; unfold ref09_Take at hT
    refine rSeq ?_
    refine zReg md0 hX rfl rfl rfl ?_
    refine rThen ?_
    refine rSeq ?_
    refine zReg md0 hX rfl rfl rfl ?_
    refine rLstQ 1 .str [⟨#[48, 48, 48, 48, 48, 49, 49]⟩] rfl rfl rfl ?_
    refine rThen ?_
    refine rSeq ?_
    refine zReg md0 hX rfl rfl rfl ?_
    refine rLstQ 2 (.pair .bool (.pair (.int .i64) (.int .i64))) [(false, ((0 : Int), (0 : Int)))] rfl rfl rfl ?_
    refine rThen ?_
    refine rSeq ?_
    refine rSeq ?_
    refine zReg md0 hX rfl rfl rfl ?_
    refine rThen ?_
    refine rBlock ?_
    replace hT := sBind hT; obtain ⟨w1, hl, hT⟩ := hT
    refine rJoinA (fun v1 => v1 = w1) (fun v1 => ⟨[(0, .v (.c (.str a1))), (1, .v (.c (.int .i64 a2))), (4, .v (.c (.ptr 0 0 0 0 0 0))), (5, .v (.c (.int .i64 0))), (6, .v (.c (.int .i64 0))), (7, .v (.c (.sl 1 0 v1.1 1))), (8, .v (.c (.sl 2 0 v1.2.1 3)))], [(0, .mem true 28 none (.flat [.cs [.bool false, .int .i64 0, .int .i64 0]])), (1, .mem true 9 (some 1) (.lst .str v1.2.2.1)), (2, .mem true 28 (some 3) (.lst (.pair .bool (.pair (.int .i64) (.int .i64))) v1.2.2.2))], 3⟩) (.exit 0) (fun v1 hv => ?_) (fun hxs10 => ?_)
    · subst hv; clear hl
      refine rInHit ?_
      refine rThen ?_
      refine rSeq ?_
      let c1 := (ref05_Take N v1.1 a1 a2 v1.2.2.1)
      replace hT := sIf hT; obtain ⟨o1, hT⟩ := hT
      refine zReg md0 hX rfl rfl rfl ?_
      refine rThen ?_
      refine rSeq ?_
      refine rSeq ?_
      refine zReg md0 hX rfl rfl rfl ?_
      refine rThen ?_
      refine zCond rfl rfl (fun hc => ?_) (fun hc => ?_)
      · replace hT := sT hc hT
        refine rSeq ?_
        refine zReg md0 hX rfl rfl rfl ?_
        refine rThen ?_
        refine rRet ?_
        refine rThenRet ?_
        have hy := Option.some.inj hT; subst hy
        exact zEnd0 hX rfl
      · replace hT := sF hc hT
        refine rSkip ?_
        refine rThen ?_
        refine rSeq ?_
        refine rSeq ?_
        refine zReg md0 hX rfl rfl rfl ?_
        refine rThen ?_
        refine zCond rfl rfl (fun hc => ?_) (fun hc => ?_)
        · replace hT := sT hc hT
          refine rSeq ?_
          refine rSeq ?_
          refine zReg md0 hX rfl rfl rfl ?_
          refine rThen ?_
          refine zCond rfl rfl (fun hc => ?_) (fun hc => ?_)
          · replace hT := sT hc hT
            refine rSeq ?_
            refine zReg md0 hX rfl rfl rfl ?_
            refine rThen ?_
            refine rRet ?_
            refine rThenRet ?_
            refine rThenRet ?_
            have hy := Option.some.inj hT; subst hy
            exact zEnd0 hX rfl
          · replace hT := sF hc hT
            refine rSkip ?_
            refine rThen ?_
            refine rSeq ?_
            replace hT := sIf hT; obtain ⟨⟨o1, o2, o3⟩, hT⟩ := hT
            refine zReg md0 hX rfl rfl rfl ?_
            refine rThen ?_
            refine rSeq ?_
            refine rSeq ?_
            replace hT := sIf hT; obtain ⟨⟨o1, o2⟩, hT⟩ := hT
            refine zReg md0 hX rfl rfl rfl ?_
            refine rThen ?_
            replace hT := sIf hT; obtain ⟨q1, hT⟩ := hT
            refine rJoin ⟨[(0, .v (.c (.str a1))), (1, .v (.c (.int .i64 a2))), (4, .v (.c (.ptr 0 0 0 0 0 0))), (5, .v (.c (.int .i64 0))), (6, .v (.c (.int .i64 0))), (14, .v (.c (.int .i64 (c1.getD default).2.1))), (16, .v (.c (.ptr 3 0 0 0 0 0)))], [(0, .mem true 28 none (.flat [.cs [.bool false, .int .i64 0, .int .i64 0]])), (3, .mem true 28 none (.flat [.cs [.bool (v1.2.2.2.getD (c1.getD default).1.toNat (false, ((0 : Int), (0 : Int)))).1, .int .i64 (v1.2.2.2.getD (c1.getD default).1.toNat (false, ((0 : Int), (0 : Int)))).2.1, .int .i64 (bif (decide ((byteI a1 (c1.getD default).2.1.toNat) = 49)) then (-(v1.2.2.2.getD (c1.getD default).1.toNat (false, ((0 : Int), (0 : Int)))).2.2) else (v1.2.2.2.getD (c1.getD default).1.toNat (false, ((0 : Int), (0 : Int)))).2.2)]]))], 4⟩ ?_ (fun hj => ?_)
            · skip
              let x1 := (bif (decide ((byteI a1 (c1.getD default).2.1.toNat) = 49)) then (-(v1.2.2.2.getD (c1.getD default).1.toNat (false, ((0 : Int), (0 : Int)))).2.2) else (v1.2.2.2.getD (c1.getD default).1.toNat (false, ((0 : Int), (0 : Int)))).2.2)
              refine rThen ?_
              refine rSeq ?_
              replace hT := sIf hT; obtain ⟨o1, hT⟩ := hT
              refine zReg md0 hX rfl rfl rfl ?_
              refine rThen ?_
              refine rRet ?_
              refine rThenRet ?_
              have hy := Option.some.inj hT; subst hy
              exact zEnd0 hX rfl
            · clear hT
              refine zCond rfl rfl (fun hc => ?_) (fun hc => ?_)
              · skip
                have q1 := q1 hc
                refine zReg md0 hX rfl rfl rfl ?_
                exact rTo (To.mk' [] 0 hε rfl (by (repeat' first | exact True.intro | exact rfl | apply And.intro) <;> (repeat' first | exact rfl | refine Eq.trans ?_ (cTr (by assumption)) | refine Eq.trans ?_ (cFr (by assumption)) | refine Eq.trans (cTl (by assumption)) ?_ | refine Eq.trans (cFl (by assumption)) ?_)) (by (repeat' first | exact True.intro | exact rfl | apply And.intro) <;> (repeat' first | exact rfl | refine Eq.trans ?_ (cTr (by assumption)) | refine Eq.trans ?_ (cFr (by assumption)) | refine Eq.trans (cTl (by assumption)) ?_ | refine Eq.trans (cFl (by assumption)) ?_))) hj
              · skip
                refine rSkip ?_
                exact rTo (To.mk' [] 0 hε rfl (by (repeat' first | exact True.intro | exact rfl | apply And.intro) <;> (repeat' first | exact rfl | refine Eq.trans ?_ (cTr (by assumption)) | refine Eq.trans ?_ (cFr (by assumption)) | refine Eq.trans (cTl (by assumption)) ?_ | refine Eq.trans (cFl (by assumption)) ?_)) (by (repeat' first | exact True.intro | exact rfl | apply And.intro) <;> (repeat' first | exact rfl | refine Eq.trans ?_ (cTr (by assumption)) | refine Eq.trans ?_ (cFr (by assumption)) | refine Eq.trans (cTl (by assumption)) ?_ | refine Eq.trans (cFl (by assumption)) ?_))) hj
        · replace hT := sF hc hT
          refine rSkip ?_
          refine rThen ?_
          refine rSeq ?_
          refine rSeq ?_
          replace hT := sIf hT; obtain ⟨o1, hT⟩ := hT
          refine zReg md0 hX rfl rfl rfl ?_
          refine rThen ?_
          refine zCond rfl rfl (fun hc => ?_) (fun hc => ?_)
          · replace hT := sT hc hT
            refine rSeq ?_
            refine zReg md0 hX rfl rfl rfl ?_
            refine rThen ?_
            refine rRet ?_
            refine rThenRet ?_
            have hy := Option.some.inj hT; subst hy
            exact zEnd0 hX rfl
          · replace hT := sF hc hT
            refine rSkip ?_
            refine rThen ?_
            refine rSeq ?_
            let c2 := (ref02_Number N (ByteArray.extract a1 ((c1.getD default).2.1 + 1).toNat ((c1.getD default).2.1 + 7).toNat))
            let c3 := (ref02_Number N (ByteArray.extract a1 ((c1.getD default).2.1 + 7).toNat ((c1.getD default).2.1 + 15).toNat))
            replace hT := sIf hT; obtain ⟨⟨o1, o2, o3, o4, o5, o6, o7, o8, o9, o10, o11, o12, o13⟩, hT⟩ := hT
            refine rDrawA md0 0 19 20 [] hX mixed rfl rfl rfl rfl rfl rfl rfl rfl rfl rfl rfl rfl rfl rfl rfl (by repeat' first | exact True.intro | exact rfl | apply And.intro) rfl rfl (by (repeat' first | exact True.intro | with_reducible assumption | (with_reducible apply And.intro) | intro _) <;> first | assumption | exact rfl | omega | exact Nat.le_of_ble_eq_true rfl | exact selF (by assumption) | exact selT (by assumption) | exact And.intro rfl rfl | exact And.intro (by assumption) rfl | exact And.intro (by omega) rfl | (simp only [inK] at *; omega) | (simp_all [sel] <;> fail) | fail) ?_
            refine rThen ?_
            refine rSeq ?_
            refine rSeq ?_
            refine zReg md0 hX rfl rfl rfl ?_
            refine rThen ?_
            replace hT := sIf hT; obtain ⟨q2, hT⟩ := hT
            refine rJoin ⟨[(1, .v (.c (.int .i64 a2))), (4, .v (.c (.ptr 0 0 0 0 0 0))), (5, .v (.c (.int .i64 0))), (6, .v (.c (.int .i64 0))), (14, .v (.c (.int .i64 (c1.getD default).2.1))), (17, .v (.c (.ptr 3 0 0 0 0 0)))], [(0, .mem true 28 none (.flat [.cs [.bool false, .int .i64 0, .int .i64 0]])), (3, .mem true 28 none (.flat [.cs [.bool (decide ((byteI a1 (c1.getD default).2.1.toNat) = 49)), .int .i64 (c2.getD default), .int .i64 (bif (decide ((127 : Int) < (c3.getD default))) then ((c3.getD default) - 256) else (c3.getD default))]]))], 4⟩ ?_ (fun hj => ?_)
            · skip
              let x4 := (bif (decide ((127 : Int) < (c3.getD default))) then ((c3.getD default) - 256) else (c3.getD default))
              refine rThen ?_
              refine rSeq ?_
              refine rSeq ?_
              let c4 := (ref09_Right N (decide ((byteI a1 (c1.getD default).2.1.toNat) = 49)) (c2.getD default) x4)
              let c5 := (ref09_amount N x4)
              let c6 := (ref09_has N (decide ((byteI a1 (c1.getD default).2.1.toNat) = 49)) (c2.getD default) (c5.getD default))
              let x5 := (bif (!(c4.getD default)) then true else (decide (ByteArray.toList (c6.getD default) ≠ ByteArray.toList ⟨#[]⟩)))
              replace hT := sIf hT; obtain ⟨⟨o1, o2, o3⟩, hT⟩ := hT
              refine rDrawM md0 0 [] hX mixed rfl rfl rfl rfl rfl (by (repeat' first | exact True.intro | with_reducible assumption | (with_reducible apply And.intro) | intro _) <;> first | assumption | exact o2 (by assumption) | exact o3 (by assumption) | exact rfl | omega | exact Nat.le_of_ble_eq_true rfl | exact selF (by assumption) | exact selT (by assumption) | exact And.intro rfl rfl | exact And.intro (by assumption) rfl | exact And.intro (by omega) rfl | (simp only [inK] at *; omega) | (simp_all [sel] <;> fail) | fail) ?_
              refine rThen ?_
              refine zCond rfl rfl (fun hc => ?_) (fun hc => ?_)
              · replace hT := sT hc hT
                refine rSeq ?_
                refine zReg md0 hX rfl rfl rfl ?_
                refine rThen ?_
                refine rRet ?_
                refine rThenRet ?_
                have hy := Option.some.inj hT; subst hy
                exact zEnd0 hX rfl
              · replace hT := sF hc hT
                refine rSkip ?_
                refine rThen ?_
                refine rSeq ?_
                replace hT := sIf hT; obtain ⟨o1, hT⟩ := hT
                refine zReg md0 hX rfl rfl rfl ?_
                refine rThen ?_
                refine rRet ?_
                have hy := Option.some.inj hT; subst hy
                exact zEnd0 hX rfl
            · clear hT
              refine zCond rfl rfl (fun hc => ?_) (fun hc => ?_)
              · skip
                have q2 := q2 hc
                refine zReg md0 hX rfl rfl rfl ?_
                exact rTo (To.mk' [] 0 hε rfl (by (repeat' first | exact True.intro | exact rfl | apply And.intro) <;> (repeat' first | exact rfl | refine Eq.trans ?_ (cTr (by assumption)) | refine Eq.trans ?_ (cFr (by assumption)) | refine Eq.trans (cTl (by assumption)) ?_ | refine Eq.trans (cFl (by assumption)) ?_)) (by (repeat' first | exact True.intro | exact rfl | apply And.intro) <;> (repeat' first | exact rfl | refine Eq.trans ?_ (cTr (by assumption)) | refine Eq.trans ?_ (cFr (by assumption)) | refine Eq.trans (cTl (by assumption)) ?_ | refine Eq.trans (cFl (by assumption)) ?_))) hj
              · skip
                refine rSkip ?_
                exact rTo (To.mk' [] 0 hε rfl (by (repeat' first | exact True.intro | exact rfl | apply And.intro) <;> (repeat' first | exact rfl | refine Eq.trans ?_ (cTr (by assumption)) | refine Eq.trans ?_ (cFr (by assumption)) | refine Eq.trans (cTl (by assumption)) ?_ | refine Eq.trans (cFl (by assumption)) ?_)) (by (repeat' first | exact True.intro | exact rfl | apply And.intro) <;> (repeat' first | exact rfl | refine Eq.trans ?_ (cTr (by assumption)) | refine Eq.trans ?_ (cFr (by assumption)) | refine Eq.trans (cTl (by assumption)) ?_ | refine Eq.trans (cFl (by assumption)) ?_))) hj
    refine rLoopM (ref09_Take_b1 N) (fun s1 => ⟨[(0, .v (.c (.str a1))), (1, .v (.c (.int .i64 a2))), (4, .v (.c (.ptr 0 0 0 0 0 0))), (5, .v (.c (.int .i64 0))), (6, .v (.c (.int .i64 0))), (7, .v (.c (.sl 1 0 s1.1 1))), (8, .v (.c (.sl 2 0 s1.2.1 3))), (9, .v (.c (.int .i64 s1.2.2.1)))], [(0, .mem true 28 none (.flat [.cs [.bool false, .int .i64 0, .int .i64 0]])), (1, .mem true 9 (some 1) (.lst .str s1.2.2.2.1)), (2, .mem true 28 (some 3) (.lst (.pair .bool (.pair (.int .i64) (.int .i64))) s1.2.2.2.2))], 3⟩) hl (To.mk' [] 0 hε rfl (by repeat' first | exact True.intro | exact rfl | apply And.intro) (by repeat' first | exact True.intro | exact rfl | apply And.intro)) (fun s1 zs1 NNs1 hz hnexts1 houts1 => ?_)
    clear hl hT
    have hT := hz; clear hz
    refine rSeq ?_
    refine rSeq ?_
    refine zReg md0 hX rfl rfl rfl ?_
    refine rThen ?_
    refine zCond rfl rfl (fun hc => ?_) (fun hc => ?_)
    · replace hT := sT hc hT
      refine rSkip ?_
      refine rThen ?_
      refine rSeq ?_
      refine rBlock ?_
      refine rSeq ?_
      refine zReg md0 hX rfl rfl rfl ?_
      refine rThen ?_
      refine rBlock ?_
      replace hT := sBind hT; obtain ⟨w2, hl, hT⟩ := hT
      refine rJoinA (fun v2 => v2 = w2) (fun v2 => ⟨[(0, .v (.c (.str a1))), (1, .v (.c (.int .i64 a2))), (4, .v (.c (.ptr 0 0 0 0 0 0))), (5, .v (.c (.int .i64 0))), (6, .v (.c (.int .i64 0))), (7, .v (.c (.sl 1 0 v2.1 1))), (8, .v (.c (.sl 2 0 v2.2.1 3))), (9, .v (.c (.int .i64 s1.2.2.1))), (10, .v (.c (.int .i64 v2.2.2.1))), (21, .v (.c (.int .i64 s1.2.2.1))), (22, .v (.c (.bool (decide (s1.2.2.1 ≤ 63))))), (25, .v (.c (.int .i64 v2.2.2.2.1))), (26, .v (.c (.bool v2.2.2.2.2.1)))], [(0, .mem true 28 none (.flat [.cs [.bool false, .int .i64 0, .int .i64 0]])), (1, .mem true 9 (some 1) (.lst .str v2.2.2.2.2.2.1)), (2, .mem true 28 (some 3) (.lst (.pair .bool (.pair (.int .i64) (.int .i64))) v2.2.2.2.2.2.2))], 3⟩) (.exit 2) (fun v2 hv => ?_) (fun hxs20 => ?_)
      · subst hv; clear hl
        refine rInHit ?_
        refine rInNormal ?_
        refine rThen ?_
        replace hT := sIf hT; obtain ⟨o1, hT⟩ := hT
        refine zReg md0 hX rfl rfl rfl ?_
        exact hnexts1 _ (Option.some.inj hT).symm _ (To.mk' [] 0 hε rfl (by repeat' first | exact True.intro | exact rfl | apply And.intro) (by repeat' first | exact True.intro | exact rfl | apply And.intro))
      refine rLoopM (ref09_Take_b2 N s1) (fun s2 => ⟨[(0, .v (.c (.str a1))), (1, .v (.c (.int .i64 a2))), (4, .v (.c (.ptr 0 0 0 0 0 0))), (5, .v (.c (.int .i64 0))), (6, .v (.c (.int .i64 0))), (7, .v (.c (.sl 1 0 s2.1 1))), (8, .v (.c (.sl 2 0 s2.2.1 3))), (9, .v (.c (.int .i64 s1.2.2.1))), (10, .v (.c (.int .i64 s2.2.2.1))), (21, .v (.c (.int .i64 s1.2.2.1))), (22, .v (.c (.bool (decide (s1.2.2.1 ≤ 63)))))], [(0, .mem true 28 none (.flat [.cs [.bool false, .int .i64 0, .int .i64 0]])), (1, .mem true 9 (some 1) (.lst .str s2.2.2.2.1)), (2, .mem true 28 (some 3) (.lst (.pair .bool (.pair (.int .i64) (.int .i64))) s2.2.2.2.2))], 3⟩) hl (To.mk' [] 0 hε rfl (by repeat' first | exact True.intro | exact rfl | apply And.intro) (by repeat' first | exact True.intro | exact rfl | apply And.intro)) (fun s2 zs2 NNs2 hz hnexts2 houts2 => ?_)
      clear hl hT
      have hT := hz; clear hz
      refine rSeq ?_
      refine rSeq ?_
      refine zReg md0 hX rfl rfl rfl ?_
      refine rThen ?_
      refine zCond rfl rfl (fun hc => ?_) (fun hc => ?_)
      · replace hT := sT hc hT
        refine rSkip ?_
        refine rThen ?_
        refine rSeq ?_
        refine rBlock ?_
        refine rSeq ?_
        let c7 := (ref09_rows N (decide (s2.2.2.1 = 1)) s1.2.2.1)
        replace hT := sIf hT; obtain ⟨o1, hT⟩ := hT
        refine zReg md0 hX rfl rfl rfl ?_
        refine rThen ?_
        refine rSeq ?_
        refine zReg md0 hX rfl rfl rfl ?_
        refine rThen ?_
        refine rBlock ?_
        replace hT := sBind hT; obtain ⟨w3, hl, hT⟩ := hT
        refine rJoinA (fun v3 => v3 = w3) (fun v3 => ⟨[(0, .v (.c (.str a1))), (1, .v (.c (.int .i64 a2))), (4, .v (.c (.ptr 0 0 0 0 0 0))), (5, .v (.c (.int .i64 0))), (6, .v (.c (.int .i64 0))), (7, .v (.c (.sl 1 0 v3.1 1))), (8, .v (.c (.sl 2 0 v3.2.1 3))), (9, .v (.c (.int .i64 s1.2.2.1))), (10, .v (.c (.int .i64 s2.2.2.1))), (11, .v (.c (.fz .str (c7.getD default)))), (12, .v (.c (.int .i64 v3.2.2.1))), (21, .v (.c (.int .i64 s1.2.2.1))), (22, .v (.c (.bool (decide (s1.2.2.1 ≤ 63))))), (25, .v (.c (.int .i64 s2.2.2.1))), (26, .v (.c (.bool (decide (s2.2.2.1 < 2))))), (29, .v (.c (.int .i64 s2.2.2.1))), (30, .v (.c (.bool (decide (s2.2.2.1 = 1))))), (31, .v (.c (.int .i64 s1.2.2.1))), (32, .v (.c (.fz .str (c7.getD default)))), (33, .v (.c (.int .i64 v3.2.2.2.1))), (34, .v (.c (.fz .str (c7.getD default)))), (35, .v (.c (.int .i64 ((c7.getD default).length : Int)))), (36, .v (.c (.bool v3.2.2.2.2.1)))], [(0, .mem true 28 none (.flat [.cs [.bool false, .int .i64 0, .int .i64 0]])), (1, .mem true 9 (some 1) (.lst .str v3.2.2.2.2.2.1)), (2, .mem true 28 (some 3) (.lst (.pair .bool (.pair (.int .i64) (.int .i64))) v3.2.2.2.2.2.2))], 3⟩) (.exit 4) (fun v3 hv => ?_) (fun hxs30 => ?_)
        · subst hv; clear hl
          refine rInHit ?_
          refine rInNormal ?_
          refine rThen ?_
          replace hT := sIf hT; obtain ⟨o1, hT⟩ := hT
          refine zReg md0 hX rfl rfl rfl ?_
          exact hnexts2 _ (Option.some.inj hT).symm _ (To.mk' [] 0 hε rfl (by repeat' first | exact True.intro | exact rfl | apply And.intro) (by repeat' first | exact True.intro | exact rfl | apply And.intro))
        refine rLoopM (ref09_Take_b3 N s1 s2 c7) (fun s3 => ⟨[(0, .v (.c (.str a1))), (1, .v (.c (.int .i64 a2))), (4, .v (.c (.ptr 0 0 0 0 0 0))), (5, .v (.c (.int .i64 0))), (6, .v (.c (.int .i64 0))), (7, .v (.c (.sl 1 0 s3.1 1))), (8, .v (.c (.sl 2 0 s3.2.1 3))), (9, .v (.c (.int .i64 s1.2.2.1))), (10, .v (.c (.int .i64 s2.2.2.1))), (11, .v (.c (.fz .str (c7.getD default)))), (12, .v (.c (.int .i64 s3.2.2.1))), (21, .v (.c (.int .i64 s1.2.2.1))), (22, .v (.c (.bool (decide (s1.2.2.1 ≤ 63))))), (25, .v (.c (.int .i64 s2.2.2.1))), (26, .v (.c (.bool (decide (s2.2.2.1 < 2))))), (29, .v (.c (.int .i64 s2.2.2.1))), (30, .v (.c (.bool (decide (s2.2.2.1 = 1))))), (31, .v (.c (.int .i64 s1.2.2.1))), (32, .v (.c (.fz .str (c7.getD default))))], [(0, .mem true 28 none (.flat [.cs [.bool false, .int .i64 0, .int .i64 0]])), (1, .mem true 9 (some 1) (.lst .str s3.2.2.2.1)), (2, .mem true 28 (some 3) (.lst (.pair .bool (.pair (.int .i64) (.int .i64))) s3.2.2.2.2))], 3⟩) hl (To.mk' [] 0 hε rfl (by repeat' first | exact True.intro | exact rfl | apply And.intro) (by repeat' first | exact True.intro | exact rfl | apply And.intro)) (fun s3 zs3 NNs3 hz hnexts3 houts3 => ?_)
        clear hl hT
        have hT := hz; clear hz
        refine rSeq ?_
        refine rSeq ?_
        refine zReg md0 hX rfl rfl rfl ?_
        refine rThen ?_
        refine zCond rfl rfl (fun hc => ?_) (fun hc => ?_)
        · replace hT := sT hc hT
          refine rSkip ?_
          refine rThen ?_
          refine rSeq ?_
          refine rBlock ?_
          refine rSeq ?_
          replace hT := sIf hT; obtain ⟨⟨o1, o2, o3, o4, o5⟩, hT⟩ := hT
          refine zReg md0 hX rfl rfl rfl ?_
          refine rLstQ 3 .str [((c7.getD default).getD (s3.2.2.1).toNat ⟨#[]⟩)] rfl rfl rfl ?_
          refine rThen ?_
          replace hT := sIf hT; obtain ⟨⟨o1, o2, o3, o4⟩, hT⟩ := hT
          refine zReg md0 hX rfl rfl rfl ?_
          refine rLstQ 5 (.pair .bool (.pair (.int .i64) (.int .i64))) [((decide (s2.2.2.1 = 1)), (s1.2.2.1, (s3.2.2.1 + 1)))] rfl rfl rfl ?_
          refine rInNormal ?_
          refine rThen ?_
          replace hT := sIf hT; obtain ⟨o1, hT⟩ := hT
          refine zReg md0 hX rfl rfl rfl ?_
          exact hnexts3 _ (Option.some.inj hT).symm _ (To.mk' [0, 4, 6] 0 hε rfl (by repeat' first | exact True.intro | exact rfl | apply And.intro) (by repeat' first | exact True.intro | exact rfl | apply And.intro))
        · replace hT := sF hc hT
          refine rExit ?_
          refine rThenExit ?_
          refine rThenExit ?_
          exact zTo [] 0 hε (hxs30 _ (houts3 _ (Option.some.inj hT).symm))
      · replace hT := sF hc hT
        refine rExit ?_
        refine rThenExit ?_
        refine rThenExit ?_
        exact zTo [] 0 hε (hxs20 _ (houts2 _ (Option.some.inj hT).symm))
    · replace hT := sF hc hT
      refine rExit ?_
      refine rThenExit ?_
      refine rThenExit ?_
      exact zTo [] 0 hε (hxs10 _ (houts1 _ (Option.some.inj hT).symm))
  · cases h
def ref15_Take_b1 (N : Nat) (a1 : ByteArray) (s2 : (Bool × Int × Nat × Int × (List (Bool × (Int × Int))))) : Option ((Bool × Int × Nat × Int × (List (Bool × (Int × Int)))) ⊕ (Int ⊕ (Int × Nat × (List (Bool × (Int × Int)))))) :=
  bif s2.1 then
    let c2 := (ref09_Take N a1 s2.2.1)
    if c2.isSome = true then
      bif (decide ((c2.getD default).2.2.2.2 ≠ 0)) then
        some (.inr (Sum.inl (c2.getD default).2.2.2.2))
      else
        if inK .i64 (s2.2.2.2.1 + (c2.getD default).2.1) ∧ inK .i64 ((s2.2.2.2.1 + (c2.getD default).2.1) + 1) then
          bif (decide ((63 : Int) < ((s2.2.2.2.1 + (c2.getD default).2.1) + 1))) then
            some (.inr (Sum.inl 7))
          else
            if s2.2.2.2.2.length = s2.2.2.1 ∧ (s2.2.2.1 + 1) * 24 ≤ 140737488355328 ∧ s2.2.2.1 + 1 ≤ 9223372036854775807 then
              some (.inl ((!(c2.getD default).1), (c2.getD default).2.2.2.1, (s2.2.2.1 + 1), ((s2.2.2.2.1 + (c2.getD default).2.1) + 1), (s2.2.2.2.2 ++ [((c2.getD default).1, ((c2.getD default).2.1, (c2.getD default).2.2.1))])))
            else none
        else none
    else none
  else
    some (.inr (Sum.inr (s2.2.1, s2.2.2.1, s2.2.2.2.2)))
def ref15_Take (N : Nat) (a1 : ByteArray) (a2 : Int) (a3 : Bool) (a4 : Bool) : Option (Int × (List (Bool × (Int × Int))) × Int × Int) :=
  joinK (fun (v1 : (Int × Int)) =>
    let c1 := (ref15_from N a3)
    if c1.isSome = true ∧ inK .i64 ((c1.getD default) - 1) then
      (iter (ref15_Take_b1 N a1) N (a4, v1.2, 0, ((c1.getD default) - 1), [])).bind fun w1 =>
        (Sum.elim (fun v2 =>
          some (0, [], a2, v2)
        )
          (fun v3 =>
            if v3.2.1 = v3.2.2.length then
              some (v1.1, v3.2.2, v3.1, 0)
            else none
          )
        ) w1
    else none
  ) fun k1 =>
    bif a3 then
      if inK .i64 ((ByteArray.size a1 : Int) - a2) then
        bif (decide (((ByteArray.size a1 : Int) - a2) < 8)) then
          some (0, [], a2, 2)
        else
          let c3 := (ref02_Number N (ByteArray.extract a1 (a2).toNat (a2 + 8).toNat))
          if inK .i64 (a2 + 8) ∧ (0 : Int) ≤ a2 ∧ a2 ≤ (a2 + 8) ∧ (a2 + 8) ≤ (ByteArray.size a1 : Int) ∧ c3.isSome = true then
            bif (bif (decide ((c3.getD default) = 0)) then true else (decide ((c3.getD default) = 128))) then
              some (0, [], a2, 7)
            else
              if inK .i64 (a2 + 8) then
                k1 ((bif (decide ((c3.getD default) = 255)) then 128 else (c3.getD default)), (a2 + 8))
              else none
          else none
      else none
    else
      k1 (0, a2)
def sp_ref15_Take (N : Nat) : X.Spec := fun args lk => match args with
  | [.v (.c (.str a1)), .v (.c (.int .i64 a2)), .v (.c (.bool a3)), .v (.c (.bool a4))] => some ⟨(ref15_Take N a1 a2 a3 a4).isSome = true, .tup [.c (.int .i64 ((ref15_Take N a1 a2 a3 a4).getD default).1), .c (.fz (.pair .bool (.pair (.int .i64) (.int .i64))) ((ref15_Take N a1 a2 a3 a4).getD default).2.1), .c (.int .i64 ((ref15_Take N a1 a2 a3 a4).getD default).2.2.1), .c (.int .i64 ((ref15_Take N a1 a2 a3 a4).getD default).2.2.2)], [], []⟩
  | _ => none
set_option maxRecDepth 100000 in
set_option maxHeartbeats 1000000 in
theorem ok_ref15_Take (N : Nat) : FnOK Tryd.prog gt0 14 (sp_ref15_Take N) := by
  refine fnOK_handed Tryd.func14 rfl (by kernel_rfl) tt_ok (ktCons (ok_ref02_Number N) (ktCons (ok_ref09_Take N) (ktCons (ok_ref15_from N) (ktNil)))) ?_
  intro args lk r h hp
  unfold sp_ref15_Take at h
  split at h
  · rename_i a1 a2 a3 a4
    cases h
    obtain ⟨x, hx⟩ := Option.isSome_iff_exists.1 hp
    simp only [hx, Option.getD_some]
    refine hand0 rfl rfl (fun w0 M ε0 hX => ?_)
    refine rCount (fun hε => ?_)
    have hT : ref15_Take N a1 a2 a3 a4 = some x := hx; clear hx hp; unfold ref15_Take at hT
    refine rSeq ?_
    refine zReg md0 hX rfl rfl rfl ?_
    refine rThen ?_
    refine rSeq ?_
    refine zReg md0 hX rfl rfl rfl ?_
    refine rThen ?_
    refine rSeq ?_
    refine zReg md0 hX rfl rfl rfl ?_
    refine rThen ?_
    refine rSeq ?_
    refine rSeq ?_
    refine zReg md0 hX rfl rfl rfl ?_
    refine rThen ?_
    refine rJoinK hT (fun v1 => ⟨[(0, .v (.c (.str a1))), (1, .v (.c (.int .i64 a2))), (2, .v (.c (.bool a3))), (3, .v (.c (.bool a4))), (8, .v (.c (.int .i64 0))), (9, .v (.c (.val (.slice none 0 0)))), (10, .v (.c (.int .i64 0))), (11, .v (.c (.int .i64 0))), (12, .v (.c (.int .i64 v1.1))), (13, .v (.c (.int .i64 v1.2)))], [], 0⟩) (fun v1 hT => ?_) (fun k1 hjk1 hT => ?_)
    · skip
      refine rThen ?_
      refine rSeq ?_
      refine zReg md0 hX rfl rfl rfl ?_
      refine rThen ?_
      refine rSeq ?_
      let c1 := (ref15_from N a3)
      replace hT := sIf hT; obtain ⟨⟨o1, o2⟩, hT⟩ := hT
      refine zReg md0 hX rfl rfl rfl ?_
      refine rThen ?_
      refine rSeq ?_
      refine rBlock ?_
      refine rNil 28 3 (.lst (.pair .bool (.pair (.int .i64) (.int .i64))) []) [(0, .v (.c (.str a1))), (1, .v (.c (.int .i64 a2))), (3, .v (.c (.bool a4))), (8, .v (.c (.int .i64 0))), (9, .v (.c (.val (.slice none 0 0)))), (10, .v (.c (.int .i64 0))), (11, .v (.c (.int .i64 0))), (12, .v (.c (.int .i64 v1.1))), (13, .v (.c (.int .i64 v1.2))), (14, .v (.c (.sl 0 0 0 3))), (15, .v (.c (.int .i64 ((c1.getD default) - 1))))] [] (nil_lst _) (by (repeat' first | exact True.intro | exact rfl | apply And.intro) <;> first | assumption | rfl) (by (repeat' first | exact True.intro | exact rfl | apply And.intro) <;> first | assumption | rfl) ?_
      replace hT := sBind hT; obtain ⟨w1, hl, hT⟩ := hT
      refine rJoinA (fun v2 => (Sum.inl v2) = w1) (fun v2 => ⟨[(8, .v (.c (.int .i64 0))), (9, .v (.c (.val (.slice none 0 0)))), (10, .v (.c (.int .i64 a2))), (11, .v (.c (.int .i64 v2)))], [], 1⟩) .ret (fun v2 hv => ?_) (fun hxs20 => ?_)
      · subst hv; clear hl; replace hT := (sElimL hT)
        refine rInRet ?_
        refine rThenRet ?_
        have hy := Option.some.inj hT; subst hy
        exact zEnd0 hX rfl
      refine rJoinA (fun v3 => (Sum.inr v3) = w1) (fun v3 => ⟨[(8, .v (.c (.int .i64 0))), (9, .v (.c (.val (.slice none 0 0)))), (10, .v (.c (.int .i64 0))), (11, .v (.c (.int .i64 0))), (12, .v (.c (.int .i64 v1.1))), (13, .v (.c (.int .i64 v3.1))), (14, .v (.c (.sl 0 0 v3.2.1 3)))], [(0, .mem true 28 (some 3) (.lst (.pair .bool (.pair (.int .i64) (.int .i64))) v3.2.2))], 1⟩) (.exit 0) (fun v3 hv => ?_) (fun hxs21 => ?_)
      · subst hv; clear hl; replace hT := (sElimR hT)
        refine rInHit ?_
        refine rThen ?_
        refine rSeq ?_
        refine zReg md0 hX rfl rfl rfl ?_
        refine rThen ?_
        refine rRet ?_
        replace hT := sIf hT; obtain ⟨p1, hT⟩ := hT
        refine rFreezeQ 0 (.pair .bool (.pair (.int .i64) (.int .i64))) v3.2.2 [(8, .v (.c (.int .i64 v1.1))), (9, .v (.c (.fz (.pair .bool (.pair (.int .i64) (.int .i64))) v3.2.2))), (10, .v (.c (.int .i64 v3.1))), (11, .v (.c (.int .i64 0)))] [] rfl rfl (by (repeat' first | exact True.intro | exact rfl | apply And.intro) <;> first | assumption | rfl) (by (repeat' first | exact True.intro | exact rfl | apply And.intro) <;> first | assumption | rfl) ?_
        have hy := Option.some.inj hT; subst hy
        exact zEnd0 hX rfl
      refine rLoopM (ref15_Take_b1 N a1) (fun s2 => ⟨[(0, .v (.c (.str a1))), (1, .v (.c (.int .i64 a2))), (3, .v (.c (.bool s2.1))), (8, .v (.c (.int .i64 0))), (9, .v (.c (.val (.slice none 0 0)))), (10, .v (.c (.int .i64 0))), (11, .v (.c (.int .i64 0))), (12, .v (.c (.int .i64 v1.1))), (13, .v (.c (.int .i64 s2.2.1))), (14, .v (.c (.sl 0 0 s2.2.2.1 3))), (15, .v (.c (.int .i64 s2.2.2.2.1)))], [(0, .mem true 28 (some 3) (.lst (.pair .bool (.pair (.int .i64) (.int .i64))) s2.2.2.2.2))], 1⟩) hl (To.mk' [] 0 hε rfl (by repeat' first | exact True.intro | exact rfl | apply And.intro) (by repeat' first | exact True.intro | exact rfl | apply And.intro)) (fun s2 zs2 NNs2 hz hnexts2 houts2 => ?_)
      clear hl hT
      have hT := hz; clear hz
      refine rSeq ?_
      refine rSeq ?_
      refine zReg md0 hX rfl rfl rfl ?_
      refine rThen ?_
      refine zCond rfl rfl (fun hc => ?_) (fun hc => ?_)
      · replace hT := sT hc hT
        refine rSkip ?_
        refine rThen ?_
        refine rBlock ?_
        refine rSeq ?_
        let c2 := (ref09_Take N a1 s2.2.1)
        replace hT := sIf hT; obtain ⟨o1, hT⟩ := hT
        refine zReg md0 hX rfl rfl rfl ?_
        refine rThen ?_
        refine rSeq ?_
        refine rSeq ?_
        refine zReg md0 hX rfl rfl rfl ?_
        refine rThen ?_
        refine zCond rfl rfl (fun hc => ?_) (fun hc => ?_)
        · replace hT := sT hc hT
          refine rSeq ?_
          refine zReg md0 hX rfl rfl rfl ?_
          refine rThen ?_
          refine rRet ?_
          refine rThenRet ?_
          refine rInRet ?_
          refine rThenRet ?_
          exact zTo [] 0 hε (hxs20 _ (houts2 _ (Option.some.inj hT).symm))
        · replace hT := sF hc hT
          refine rSkip ?_
          refine rThen ?_
          refine rSeq ?_
          replace hT := sIf hT; obtain ⟨⟨o1, o2⟩, hT⟩ := hT
          refine zReg md0 hX rfl rfl rfl ?_
          refine rThen ?_
          refine rSeq ?_
          refine rSeq ?_
          refine zReg md0 hX rfl rfl rfl ?_
          refine rThen ?_
          refine zCond rfl rfl (fun hc => ?_) (fun hc => ?_)
          · replace hT := sT hc hT
            refine rSeq ?_
            refine zReg md0 hX rfl rfl rfl ?_
            refine rThen ?_
            refine rRet ?_
            refine rThenRet ?_
            refine rInRet ?_
            refine rThenRet ?_
            exact zTo [] 0 hε (hxs20 _ (houts2 _ (Option.some.inj hT).symm))
          · replace hT := sF hc hT
            refine rSkip ?_
            refine rThen ?_
            refine rSeq ?_
            replace hT := sIf hT; obtain ⟨⟨o1, o2, o3⟩, hT⟩ := hT
            refine zReg md0 hX rfl rfl rfl ?_
            refine rLstQ 2 (.pair .bool (.pair (.int .i64) (.int .i64))) [((c2.getD default).1, ((c2.getD default).2.1, (c2.getD default).2.2.1))] rfl rfl rfl ?_
            refine rThen ?_
            refine rSeq ?_
            refine zReg md0 hX rfl rfl rfl ?_
            refine rThen ?_
            refine zReg md0 hX rfl rfl rfl ?_
            refine rInNormal ?_
            exact hnexts2 _ (Option.some.inj hT).symm _ (To.mk' [3] 0 hε rfl (by repeat' first | exact True.intro | exact rfl | apply And.intro) (by repeat' first | exact True.intro | exact rfl | apply And.intro))
      · replace hT := sF hc hT
        refine rExit ?_
        refine rThenExit ?_
        refine rThenExit ?_
        exact zTo [] 0 hε (hxs21 _ (houts2 _ (Option.some.inj hT).symm))
    · skip
      refine zCond rfl rfl (fun hc => ?_) (fun hc => ?_)
      · replace hT := sT hc hT
        refine rSeq ?_
        refine rSeq ?_
        replace hT := sIf hT; obtain ⟨o1, hT⟩ := hT
        refine zReg md0 hX rfl rfl rfl ?_
        refine rThen ?_
        refine zCond rfl rfl (fun hc => ?_) (fun hc => ?_)
        · replace hT := sT hc hT
          refine rSeq ?_
          refine zReg md0 hX rfl rfl rfl ?_
          refine rThen ?_
          refine rRet ?_
          refine rThenRet ?_
          refine rThenRet ?_
          have hy := Option.some.inj hT; subst hy
          exact zEnd0 hX rfl
        · replace hT := sF hc hT
          refine rSkip ?_
          refine rThen ?_
          refine rSeq ?_
          let c3 := (ref02_Number N (ByteArray.extract a1 (a2).toNat (a2 + 8).toNat))
          replace hT := sIf hT; obtain ⟨⟨o1, o2, o3, o4, o5⟩, hT⟩ := hT
          refine zReg md0 hX rfl rfl rfl ?_
          refine rThen ?_
          refine rSeq ?_
          refine rSeq ?_
          refine zReg md0 hX rfl rfl rfl ?_
          refine rThen ?_
          refine zCond rfl rfl (fun hc => ?_) (fun hc => ?_)
          · replace hT := sT hc hT
            refine rSeq ?_
            refine zReg md0 hX rfl rfl rfl ?_
            refine rThen ?_
            refine rRet ?_
            refine rThenRet ?_
            refine rThenRet ?_
            have hy := Option.some.inj hT; subst hy
            exact zEnd0 hX rfl
          · replace hT := sF hc hT
            refine rSkip ?_
            refine rThen ?_
            refine rSeq ?_
            refine rSeq ?_
            refine zReg md0 hX rfl rfl rfl ?_
            refine rThen ?_
            refine rJoin ⟨[(0, .v (.c (.str a1))), (1, .v (.c (.int .i64 a2))), (2, .v (.c (.bool a3))), (3, .v (.c (.bool a4))), (8, .v (.c (.int .i64 0))), (9, .v (.c (.val (.slice none 0 0)))), (10, .v (.c (.int .i64 0))), (11, .v (.c (.int .i64 0))), (12, .v (.c (.int .i64 (bif (decide ((c3.getD default) = 255)) then 128 else (c3.getD default))))), (13, .v (.c (.int .i64 a2)))], [], 0⟩ ?_ (fun hj => ?_)
            · skip
              refine rThen ?_
              replace hT := sIf hT; obtain ⟨o1, hT⟩ := hT
              refine zReg md0 hX rfl rfl rfl ?_
              exact zTo [] 0 hε (hjk1 _ hT)
            · clear hT
              refine zCond rfl rfl (fun hc => ?_) (fun hc => ?_)
              · skip
                refine zReg md0 hX rfl rfl rfl ?_
                exact rTo (To.mk' [] 0 hε rfl (by (repeat' first | exact True.intro | exact rfl | apply And.intro) <;> (repeat' first | exact rfl | refine Eq.trans ?_ (cTr (by assumption)) | refine Eq.trans ?_ (cFr (by assumption)) | refine Eq.trans (cTl (by assumption)) ?_ | refine Eq.trans (cFl (by assumption)) ?_)) (by (repeat' first | exact True.intro | exact rfl | apply And.intro) <;> (repeat' first | exact rfl | refine Eq.trans ?_ (cTr (by assumption)) | refine Eq.trans ?_ (cFr (by assumption)) | refine Eq.trans (cTl (by assumption)) ?_ | refine Eq.trans (cFl (by assumption)) ?_))) hj
              · skip
                refine rSkip ?_
                exact rTo (To.mk' [] 0 hε rfl (by (repeat' first | exact True.intro | exact rfl | apply And.intro) <;> (repeat' first | exact rfl | refine Eq.trans ?_ (cTr (by assumption)) | refine Eq.trans ?_ (cFr (by assumption)) | refine Eq.trans (cTl (by assumption)) ?_ | refine Eq.trans (cFl (by assumption)) ?_)) (by (repeat' first | exact True.intro | exact rfl | apply And.intro) <;> (repeat' first | exact rfl | refine Eq.trans ?_ (cTr (by assumption)) | refine Eq.trans ?_ (cFr (by assumption)) | refine Eq.trans (cTl (by assumption)) ?_ | refine Eq.trans (cFl (by assumption)) ?_))) hj
      · replace hT := sF hc hT
        refine rSkip ?_
        exact zTo [] 0 hε (hjk1 _ hT)
  · cases h
def blocks_Take_v1 (N : Nat) (a1 : Bool) (a2 : Bool) : Option (Int × Int) :=
  some (0, 1)
def sp_blocks_Take_v1 (N : Nat) : X.Spec := fun args lk => match args with
  | [.v (.c (.val (.pointer none))), .v (.c (.bool a1)), .v (.c (.bool a2))] => some ⟨(blocks_Take_v1 N a1 a2).isSome = true, .tup [.c (.int .i64 ((blocks_Take_v1 N a1 a2).getD default).1), .c (.val (.slice none 0 0)), .c (.int .i64 ((blocks_Take_v1 N a1 a2).getD default).2)], [], []⟩
  | _ => none
set_option maxRecDepth 100000 in
set_option maxHeartbeats 1000000 in
theorem ok_blocks_Take_v1 (N : Nat) : FnOK Tryd.prog gt0 13 (sp_blocks_Take_v1 N) := by
  refine fnOK_handed Tryd.func13 rfl (by kernel_rfl) tt_ok (ktNil) ?_
  intro args lk r h hp
  unfold sp_blocks_Take_v1 at h
  split at h
  · rename_i a1 a2
    cases h
    obtain ⟨x, hx⟩ := Option.isSome_iff_exists.1 hp
    simp only [hx, Option.getD_some]
    refine hand0 rfl rfl (fun w0 M ε0 hX => ?_)
    refine rCount (fun hε => ?_)
    have hT : blocks_Take_v1 N a1 a2 = some x := hx; clear hx hp; unfold blocks_Take_v1 at hT
    refine rSeq ?_
    refine zReg md0 hX rfl rfl rfl ?_
    refine rThen ?_
    refine rSeq ?_
    refine rSeq ?_
    refine zReg md0 hX rfl rfl rfl ?_
    refine rThen ?_
    refine rCondT rfl rfl (by (repeat' first | exact True.intro | with_reducible assumption | (with_reducible apply And.intro) | intro _) <;> first | assumption | exact rfl | omega | exact Nat.le_of_ble_eq_true rfl | exact selF (by assumption) | exact selT (by assumption) | exact And.intro rfl rfl | exact And.intro (by assumption) rfl | exact And.intro (by omega) rfl | (simp only [inK] at *; omega) | (simp_all [sel] <;> fail) | fail) rfl ?_
    refine rSeq ?_
    refine zReg md0 hX rfl rfl rfl ?_
    refine rThen ?_
    refine rRet ?_
    refine rThenRet ?_
    have hy := Option.some.inj hT; subst hy
    exact zEnd0 hX rfl
  · cases h
def ref10_Same_b1 (N : Nat) (a1 : (List (Bool × (Int × Int)))) (a2 : (List (Bool × (Int × Int)))) (s1 : Int) : Option (Int ⊕ (Unit ⊕ Unit)) :=
  bif (decide (s1 < (a1.length : Int))) then
    let x1 := (!(((a1.getD (s1).toNat (false, ((0 : Int), (0 : Int)))).1 == (a2.getD (s1).toNat (false, ((0 : Int), (0 : Int)))).1) && (decide ((a1.getD (s1).toNat (false, ((0 : Int), (0 : Int)))).2.1 = (a2.getD (s1).toNat (false, ((0 : Int), (0 : Int)))).2.1) && (decide ((a1.getD (s1).toNat (false, ((0 : Int), (0 : Int)))).2.2 = (a2.getD (s1).toNat (false, ((0 : Int), (0 : Int)))).2.2) && true))))
    if (0 : Int) ≤ s1 ∧ s1 < (a1.length : Int) ∧ s1 < (a2.length : Int) then
      bif x1 then
        some (.inr (Sum.inl ()))
      else
        if inK .i64 (s1 + 1) then
          some (.inl (s1 + 1))
        else none
    else none
  else
    some (.inr (Sum.inr ()))
def ref10_Same (N : Nat) (a1 : (List (Bool × (Int × Int)))) (a2 : (List (Bool × (Int × Int)))) : Option Bool :=
  bif (decide ((a1.length : Int) ≠ (a2.length : Int))) then
    some false
  else
    (iter (ref10_Same_b1 N a1 a2) N 0).bind fun w1 =>
      (Sum.elim (fun v1 =>
        some false
      )
        (fun v2 =>
          some true
        )
      ) w1
def sp_ref10_Same (N : Nat) : X.Spec := fun args lk => match args with
  | [.v (.c (.fz (.pair .bool (.pair (.int .i64) (.int .i64))) a1)), .v (.c (.fz (.pair .bool (.pair (.int .i64) (.int .i64))) a2))] => some ⟨(ref10_Same N a1 a2).isSome = true, .v (.c (.bool ((ref10_Same N a1 a2).getD default))), [], []⟩
  | _ => none
set_option maxRecDepth 100000 in
set_option maxHeartbeats 1000000 in
theorem ok_ref10_Same (N : Nat) : FnOK Tryd.prog gt0 15 (sp_ref10_Same N) := by
  refine fnOK_handed Tryd.func15 rfl (by kernel_rfl) tt_ok (ktNil) ?_
  intro args lk r h hp
  unfold sp_ref10_Same at h
  split at h
  · rename_i a1 a2
    change (List (Bool × (Int × Int))) at a1
    change (List (Bool × (Int × Int))) at a2
    cases h
    obtain ⟨x, hx⟩ := Option.isSome_iff_exists.1 hp
    simp only [hx, Option.getD_some]
    refine hand0 rfl rfl (fun w0 M ε0 hX => ?_)
    refine rCount (fun hε => ?_)
    have hT : ref10_Same N a1 a2 = some x := hx; clear hx hp; unfold ref10_Same at hT
    refine rSeq ?_
    refine zReg md0 hX rfl rfl rfl ?_
    refine rThen ?_
    refine rSeq ?_
    refine rSeq ?_
    refine zReg md0 hX rfl rfl rfl ?_
    refine rThen ?_
    refine zCond rfl rfl (fun hc => ?_) (fun hc => ?_)
    · replace hT := sT hc hT
      refine rSeq ?_
      refine zReg md0 hX rfl rfl rfl ?_
      refine rThen ?_
      refine rRet ?_
      refine rThenRet ?_
      have hy := Option.some.inj hT; subst hy
      exact zEnd0 hX rfl
    · replace hT := sF hc hT
      refine rSkip ?_
      refine rThen ?_
      refine rSeq ?_
      refine rSeq ?_
      refine zReg md0 hX rfl rfl rfl ?_
      refine rThen ?_
      refine rBlock ?_
      replace hT := sBind hT; obtain ⟨w1, hl, hT⟩ := hT
      refine rJoinA (fun v1 => (Sum.inl v1) = w1) (fun v1 => ⟨[(4, .v (.c (.bool false)))], [], 0⟩) .ret (fun v1 hv => ?_) (fun hxs10 => ?_)
      · subst hv; clear hl; replace hT := (sElimL hT)
        refine rInRet ?_
        refine rThenRet ?_
        have hy := Option.some.inj hT; subst hy
        exact zEnd0 hX rfl
      refine rJoinA (fun v2 => (Sum.inr v2) = w1) (fun v2 => ⟨[(4, .v (.c (.bool false)))], [], 0⟩) (.exit 0) (fun v2 hv => ?_) (fun hxs11 => ?_)
      · subst hv; clear hl; replace hT := (sElimR hT)
        refine rInHit ?_
        refine rThen ?_
        refine rSeq ?_
        refine zReg md0 hX rfl rfl rfl ?_
        refine rThen ?_
        refine rRet ?_
        have hy := Option.some.inj hT; subst hy
        exact zEnd0 hX rfl
      refine rLoopM (ref10_Same_b1 N a1 a2) (fun s1 => ⟨[(0, .v (.c (.fz (.pair .bool (.pair (.int .i64) (.int .i64))) a1))), (1, .v (.c (.fz (.pair .bool (.pair (.int .i64) (.int .i64))) a2))), (4, .v (.c (.bool false))), (5, .v (.c (.int .i64 s1)))], [], 0⟩) hl (To.mk' [] 0 hε rfl (by repeat' first | exact True.intro | exact rfl | apply And.intro) (by repeat' first | exact True.intro | exact rfl | apply And.intro)) (fun s1 zs1 NNs1 hz hnexts1 houts1 => ?_)
      clear hl hT
      have hT := hz; clear hz
      refine rSeq ?_
      refine rSeq ?_
      refine zReg md0 hX rfl rfl rfl ?_
      refine rThen ?_
      refine zCond rfl rfl (fun hc => ?_) (fun hc => ?_)
      · replace hT := sT hc hT
        refine rSkip ?_
        refine rThen ?_
        refine rSeq ?_
        refine rBlock ?_
        refine rSeq ?_
        let x1 := (!(((a1.getD (s1).toNat (false, ((0 : Int), (0 : Int)))).1 == (a2.getD (s1).toNat (false, ((0 : Int), (0 : Int)))).1) && (decide ((a1.getD (s1).toNat (false, ((0 : Int), (0 : Int)))).2.1 = (a2.getD (s1).toNat (false, ((0 : Int), (0 : Int)))).2.1) && (decide ((a1.getD (s1).toNat (false, ((0 : Int), (0 : Int)))).2.2 = (a2.getD (s1).toNat (false, ((0 : Int), (0 : Int)))).2.2) && true))))
        replace hT := sIf hT; obtain ⟨⟨o1, o2, o3⟩, hT⟩ := hT
        refine zDraw md0 0 [] hX mixed rfl rfl rfl rfl rfl ?_
        refine rThen ?_
        refine zCond rfl rfl (fun hc => ?_) (fun hc => ?_)
        · replace hT := sT hc hT
          refine rSeq ?_
          refine zReg md0 hX rfl rfl rfl ?_
          refine rThen ?_
          refine rRet ?_
          refine rInRet ?_
          refine rThenRet ?_
          refine rThenRet ?_
          exact zTo [] 0 hε (hxs10 _ (houts1 _ (Option.some.inj hT).symm))
        · replace hT := sF hc hT
          refine rSkip ?_
          refine rInNormal ?_
          refine rThen ?_
          replace hT := sIf hT; obtain ⟨o1, hT⟩ := hT
          refine zReg md0 hX rfl rfl rfl ?_
          exact hnexts1 _ (Option.some.inj hT).symm _ (To.mk' [] 0 hε rfl (by repeat' first | exact True.intro | exact rfl | apply And.intro) (by repeat' first | exact True.intro | exact rfl | apply And.intro))
      · replace hT := sF hc hT
        refine rExit ?_
        refine rThenExit ?_
        refine rThenExit ?_
        exact zTo [] 0 hε (hxs11 _ (houts1 _ (Option.some.inj hT).symm))
  · cases h
def law15_BlocksTakes (N : Nat) (a1 : ByteArray) (a2 : Int) (a3 : Bool) (a4 : Bool) : Option Bool :=
  let c1 := (inbits_New N a1)
  if c1.isSome = true then
    joinK (fun (v1 : (Bool × ByteArray × Int)) =>
      bif v1.1 then
        let c4 := (law15_lives N)
        if c4.isSome = true then
          some (c4.getD default)
        else none
      else
        let c5 := (blocks_Take N a3 a4 v1.2.1 v1.2.2)
        if c5.isSome = true then
          let c6 := (ref02_Show N a1)
          let c7 := (ref15_Take N (c6.getD default) a2 a3 a4)
          if c6.isSome = true ∧ c7.isSome = true then
            let c8 := (blocks_Take_v1 N a3 a4)
            if c8.isSome = true then
              let c9 := (ref10_Same N (c5.getD default).2.1 (c7.getD default).2.1)
              let c10 := (overspill_inbits_Reader_At N (c5.getD default).2.2.2.1 (c5.getD default).2.2.2.2)
              let c11 := (law15_lives N)
              let x1 := (bif (bif (bif (bif (bif (decide ((c5.getD default).1 = (c7.getD default).1)) then (c9.getD default) else false) then (decide ((c5.getD default).2.2.1 = (c7.getD default).2.2.2)) else false) then (decide ((c10.getD default) = (c7.getD default).2.2.1)) else false) then (decide ((c8.getD default).2 = 1)) else false) then (c11.getD default) else false)
              if ((decide ((c5.getD default).1 = (c7.getD default).1)) = true → c9.isSome = true) ∧ ((bif (bif (decide ((c5.getD default).1 = (c7.getD default).1)) then (c9.getD default) else false) then (decide ((c5.getD default).2.2.1 = (c7.getD default).2.2.2)) else false) = true → c10.isSome = true) ∧ ((bif (bif (bif (bif (decide ((c5.getD default).1 = (c7.getD default).1)) then (c9.getD default) else false) then (decide ((c5.getD default).2.2.1 = (c7.getD default).2.2.2)) else false) then (decide ((c10.getD default) = (c7.getD default).2.2.1)) else false) then (decide ((c8.getD default).2 = 1)) else false) = true → c11.isSome = true) then
                some x1
              else none
            else none
          else none
        else none
    ) fun k1 =>
      let c3 := (overspill_inbits_Reader_Seek N a2 (c1.getD default).1 (c1.getD default).2)
      if ((!(decide ((300 : Int) < (ByteArray.size a1 : Int)))) = true → c3.isSome = true) then
        bif (!(decide ((300 : Int) < (ByteArray.size a1 : Int)))) then
          let x6 := (bif (decide ((300 : Int) < (ByteArray.size a1 : Int))) then true else (decide ((c3.getD default).1 ≠ 0)))
          k1 (x6, (c3.getD default).2.1, (c3.getD default).2.2)
        else
          k1 ((bif (decide ((300 : Int) < (ByteArray.size a1 : Int))) then true else false), (c1.getD default).1, (c1.getD default).2)
      else none
  else none
def sp_law15_BlocksTakes (N : Nat) : X.Spec := fun args lk => match args with
  | [.v (.c (.str a1)), .v (.c (.int .i64 a2)), .v (.agg [.cs [.bool a3, .bool a4]])] => some ⟨(law15_BlocksTakes N a1 a2 a3 a4).isSome = true, .v (.c (.bool ((law15_BlocksTakes N a1 a2 a3 a4).getD default))), [], []⟩
  | _ => none
set_option maxRecDepth 100000 in
set_option maxHeartbeats 1000000 in
theorem ok_law15_BlocksTakes (N : Nat) : FnOK Tryd.prog gt0 4 (sp_law15_BlocksTakes N) := by
  refine fnOK_handed Tryd.func4 rfl (by kernel_rfl) tt_ok (ktCons (ok_overspill_inbits_Reader_At N) (ktCons (ok_ref10_Same N) (ktCons (ok_ref15_Take N) (ktCons (ok_ref02_Show N) (ktCons (FnOK.or (ok_blocks_Take N) (ok_blocks_Take_v1 N)) (ktCons (ok_law15_lives N) (ktCons (ok_overspill_inbits_Reader_Seek N) (ktCons (ok_inbits_New N) (ktNil))))))))) ?_
  intro args lk r h hp
  unfold sp_law15_BlocksTakes at h
  split at h
  · rename_i a1 a2 a3 a4
    cases h
    obtain ⟨x, hx⟩ := Option.isSome_iff_exists.1 hp
    simp only [hx, Option.getD_some]
    refine hand0 rfl rfl (fun w0 M ε0 hX => ?_)
    refine rCount (fun hε => ?_)
    have hT : law15_BlocksTakes N a1 a2 a3 a4 = some x := hx; clear hx hp; unfold law15_BlocksTakes at hT
    refine rSeq ?_
    refine zReg md0 hX rfl rfl rfl ?_
    refine rThen ?_
    refine rSeq ?_
    let c1 := (inbits_New N a1)
    replace hT := sIf hT; obtain ⟨o1, hT⟩ := hT
    refine zReg md0 hX rfl rfl rfl ?_
    refine rThen ?_
    refine rSeq ?_
    refine rSeq ?_
    refine rRegSL ?_
    refine rJoinKL hT (fun v1 => ⟨[(0, .v (.c (.str a1))), (1, .v (.c (.int .i64 a2))), (5, .v (.c (.ptr 0 0 0 0 0 0))), (6, .v (.c (.bool false))), (7, .v (.c (.ptr 1 0 0 0 0 0))), (28, .v (.c (.bool v1.1)))], [(0, .mem true 36 none (.flat [.cs [.bool a3, .bool a4]])), (1, .mem true 45 none (.flat [.cs [.str v1.2.1, .int .i64 v1.2.2]]))], 2⟩) (fun v1 hT => ?_) (fun k1 hjk1 hT => ?_)
    · skip
      refine rThen ?_
      refine zCond rfl rfl (fun hc => ?_) (fun hc => ?_)
      · replace hT := sT hc hT
        refine rSeq ?_
        let c4 := (law15_lives N)
        replace hT := sIf hT; obtain ⟨o1, hT⟩ := hT
        refine zReg md0 hX rfl rfl rfl ?_
        refine rThen ?_
        refine rRet ?_
        refine rThenRet ?_
        have hy := Option.some.inj hT; subst hy
        exact zEnd0 hX rfl
      · replace hT := sF hc hT
        refine rSkip ?_
        refine rThen ?_
        refine rSeq ?_
        let c5 := (blocks_Take N a3 a4 v1.2.1 v1.2.2)
        replace hT := sIf hT; obtain ⟨o1, hT⟩ := hT
        refine zReg md0 hX rfl rfl rfl ?_
        refine rThen ?_
        refine rSeq ?_
        let c6 := (ref02_Show N a1)
        let c7 := (ref15_Take N (c6.getD default) a2 a3 a4)
        replace hT := sIf hT; obtain ⟨⟨o1, o2⟩, hT⟩ := hT
        refine zDraw md0 0 [] hX mixed rfl rfl rfl rfl rfl ?_
        refine rThen ?_
        refine rSeq ?_
        let c8 := (blocks_Take_v1 N a3 a4)
        replace hT := sIf hT; obtain ⟨o1, hT⟩ := hT
        refine zReg md0 hX rfl rfl rfl ?_
        refine rThen ?_
        refine rSeq ?_
        let c9 := (ref10_Same N (c5.getD default).2.1 (c7.getD default).2.1)
        let c10 := (overspill_inbits_Reader_At N (c5.getD default).2.2.2.1 (c5.getD default).2.2.2.2)
        let c11 := (law15_lives N)
        let x1 := (bif (bif (bif (bif (bif (decide ((c5.getD default).1 = (c7.getD default).1)) then (c9.getD default) else false) then (decide ((c5.getD default).2.2.1 = (c7.getD default).2.2.2)) else false) then (decide ((c10.getD default) = (c7.getD default).2.2.1)) else false) then (decide ((c8.getD default).2 = 1)) else false) then (c11.getD default) else false)
        replace hT := sIf hT; obtain ⟨⟨o1, o2, o3⟩, hT⟩ := hT
        refine rRegC md0 hX rfl rfl rfl (by (repeat' first | exact True.intro | with_reducible assumption | (with_reducible apply And.intro) | intro _) <;> first | assumption | exact o1 (by assumption) | exact o2 (by assumption) | exact o3 (by assumption) | exact rfl | omega | exact Nat.le_of_ble_eq_true rfl | exact selF (by assumption) | exact selT (by assumption) | exact And.intro rfl rfl | exact And.intro (by assumption) rfl | exact And.intro (by omega) rfl | (simp only [inK] at *; omega) | (simp_all [sel] <;> fail) | fail) ?_
        refine rThen ?_
        refine rRet ?_
        have hy := Option.some.inj hT; subst hy
        exact zEnd0 hX rfl
    · skip
      let c3 := (overspill_inbits_Reader_Seek N a2 (c1.getD default).1 (c1.getD default).2)
      replace hT := sIf hT; obtain ⟨r1, hT⟩ := hT
      refine rSLG md0 hX rfl rfl rfl (by (repeat' first | exact True.intro | with_reducible assumption | (with_reducible apply And.intro) | intro _) <;> first | assumption | exact rfl | omega | exact Nat.le_of_ble_eq_true rfl | exact selF (by assumption) | exact selT (by assumption) | exact And.intro rfl rfl | exact And.intro (by assumption) rfl | exact And.intro (by omega) rfl | (simp only [inK] at *; omega) | (simp_all [sel] <;> fail) | fail) rfl rfl rfl rfl (fun hg => (by (repeat' first | exact True.intro | with_reducible assumption | (with_reducible apply And.intro)) <;> first | exact rfl | assumption | exact r1 hg | omega | exact Nat.le_of_ble_eq_true rfl)) (fun hg => ?_) (fun hg => ?_)
      · replace hT := sT hg hT
        let x6 := (bif (decide ((300 : Int) < (ByteArray.size a1 : Int))) then true else (decide ((c3.getD default).1 ≠ 0)))
        refine rSLDone md0 hX rfl rfl rfl (by (repeat' first | exact True.intro | with_reducible assumption | (with_reducible apply And.intro) | intro _) <;> first | assumption | exact rfl | omega | exact Nat.le_of_ble_eq_true rfl | exact selF (by assumption) | exact selT (by assumption) | exact And.intro rfl rfl | exact And.intro (by assumption) rfl | exact And.intro (by omega) rfl | (simp only [inK] at *; omega) | (simp_all [sel] <;> fail) | fail) ?_
        exact zTo [] 0 hε (hjk1 _ hT)
      · replace hT := sF hg hT
        refine rSLSkip md0 hX rfl rfl rfl (by (repeat' first | exact True.intro | with_reducible assumption | (with_reducible apply And.intro) | intro _) <;> first | assumption | exact rfl | omega | exact Nat.le_of_ble_eq_true rfl | exact selF (by assumption) | exact selT (by assumption) | exact And.intro rfl rfl | exact And.intro (by assumption) rfl | exact And.intro (by omega) rfl | (simp only [inK] at *; omega) | (simp_all [sel] <;> fail) | fail) rfl rfl rfl (by assumption) ?_
        refine rSLDone md0 hX rfl rfl rfl (by (repeat' first | exact True.intro | with_reducible assumption | (with_reducible apply And.intro) | intro _) <;> first | assumption | exact rfl | omega | exact Nat.le_of_ble_eq_true rfl | exact selF (by assumption) | exact selT (by assumption) | exact And.intro rfl rfl | exact And.intro (by assumption) rfl | exact And.intro (by omega) rfl | (simp only [inK] at *; omega) | (simp_all [sel] <;> fail) | fail) ?_
        exact zTo [] 0 hε (hjk1 _ hT)
  · cases h

end Go.Proofs.YtcfffichdcnlgaaDoor
