/- Models of functions, and that the program does what they tell. -/
import Derived.Test.YtkfaebbbjahcpaaDoorX1
set_option linter.unusedVariables false
set_option linter.unusedSimpArgs false
namespace Go.Proofs.YtkfaebbbjahcpaaDoor
open Go.X

def blocks_Put_b1 (N : Nat) (a3 : (List (Bool × (Int × Int)))) (s1 : (Int × (List Bool))) : Option ((Int × (List Bool)) ⊕ (List Bool)) :=
 bif (decide (s1.1 < (a3.length : Int))) then
  if (0 : Int) ≤ s1.1 ∧ s1.1 < (a3.length : Int) then
   let c3 := (tcoef_Row N (a3.getD (s1.1).toNat (false, ((0 : Int), (0 : Int)))).1 (a3.getD (s1.1).toNat (false, ((0 : Int), (0 : Int)))).2.1 (a3.getD (s1.1).toNat (false, ((0 : Int), (0 : Int)))).2.2)
   if c3.isSome = true then
    let c4 := (overspill_outbits_Writer_Add N (c3.getD default).1 s1.2)
    if c4.isSome = true then
     if inK .i64 (s1.1 + 1) then
      some (.inl ((s1.1 + 1), (c4.getD default).2))
     else none
    else none
   else none
  else none
 else
  some (.inr s1.2)
def blocks_Put (N : Nat) (a1 : Bool) (a2 : Int) (a3 : (List (Bool × (Int × Int)))) (a4 : (List Bool)) : Option (Int × (List Bool)) :=
 let c1 := (blocks_may N a1 a2 a3)
 if c1.isSome = true then
  bif (!(c1.getD default)) then
   some (7, a4)
  else
   let c2 := (overspill_outbits_Writer_Put N (bif (decide (a2 = 128)) then 255 else a2) 8 a4)
   if (a1 = true → c2.isSome = true) then
    (iter (blocks_Put_b1 N a3) N (0, (bif a1 then (c2.getD default).2 else a4))).bind fun v1 =>
     some (0, v1)
   else none
 else none
def sp_blocks_Put (N : Nat) : X.Spec := fun args lk => match args with
 | [.v (.c (.ptr i0 0 0 0 0 0)), .v (.c (.bool a1)), .v (.c (.int .i64 a2)), .v (.c (.fz (.pair .bool (.pair (.int .i64) (.int .i64))) a3))] => (match lk i0 with
  | some (.obj 5 a4) => some ⟨(blocks_Put N a1 a2 a3 a4).isSome = true, .v (.c (.int .i64 ((blocks_Put N a1 a2 a3 a4).getD default).1)), [], [(i0, .obj 5 ((blocks_Put N a1 a2 a3 a4).getD default).2)]⟩
  | _ => none)
 | _ => none
set_option maxRecDepth 100000 in
set_option maxHeartbeats 1000000 in
theorem ok_blocks_Put (N : Nat) : FnOK Tryd.prog gt0 74 (sp_blocks_Put N) := by
 refine fnOK_handed Tryd.func74 rfl (by kernel_rfl) tt_ok (ktCons (ok_overspill_outbits_Writer_Add N) (ktCons (ok_tcoef_Row N) (ktCons (ok_overspill_outbits_Writer_Put N) (ktCons (ok_blocks_may N) (ktNil))))) ?_
 intro args lk r h hp
 unfold sp_blocks_Put at h
 split at h
 ·
  rename_i i0 a1 a2 a3
  split at h
  ·
   rename_i a4 hl0
   change (List (Bool × (Int × Int))) at a3
   cases h
   obtain ⟨x, hx⟩ := Option.isSome_iff_exists.1 hp
   simp only [hx, Option.getD_some]
   refine handL [i0] 1 [(0, .obj 5 a4)] [.v (.c (.ptr 0 0 0 0 0 0)), .v (.c (.bool a1)), .v (.c (.int .i64 a2)), .v (.c (.fz (.pair .bool (.pair (.int .i64) (.int .i64))) a3))] rfl rfl rfl ⟨isSome_of hl0, trivial⟩ ⟨⟨rfl, (by repeat' first | exact True.intro | exact rfl | exact ⟨_, rfl, rfl⟩ | apply And.intro | exact Or.inl rfl), _, hl0, .inl rfl⟩, trivial⟩ rfl (fun w0 M ε0 hX => ?_)
   refine rCount (fun hε => ?_)
   have hT : blocks_Put N a1 a2 a3 a4 = some x := hx; clear hx hp; unfold blocks_Put at hT
   refine rSeq ?_
   refine zReg md0 hX rfl rfl rfl ?_
   refine rThen ?_
   refine rSeq ?_
   refine rBlock ?_
   refine rSeq ?_
   refine zReg md0 hX rfl rfl rfl ?_
   refine rThen ?_
   refine rCondF rfl rfl (by (repeat' first | exact True.intro | with_reducible assumption | (with_reducible apply And.intro) | intro _) <;> first | assumption | exact rfl | omega | exact Nat.le_of_ble_eq_true rfl | exact selF (by assumption) | exact selT (by assumption) | exact And.intro rfl rfl | exact And.intro (by assumption) rfl | exact And.intro (by omega) rfl | (simp only [inK] at *; omega) | (simp_all [sel] <;> fail) | fail) rfl ?_
   refine rSeq ?_
   let c1 := (blocks_may N a1 a2 a3)
   replace hT := sIf hT; obtain ⟨o1, hT⟩ := hT
   refine zReg md0 hX rfl rfl rfl ?_
   refine rThen ?_
   refine zCond rfl rfl (fun hc => ?_) (fun hc => ?_)
   ·
    replace hT := sT hc hT
    refine rSeq ?_
    refine zReg md0 hX rfl rfl rfl ?_
    refine rThen ?_
    refine rRet ?_
    refine rInRet ?_
    refine rThenRet ?_
    have hy := Option.some.inj hT; subst hy
    exact rEndA [] [] [(0, .obj 5 a4)] (.v (.c (.int .i64 7))) hX rfl (by repeat' first | exact True.intro | exact rfl | apply And.intro | omega | exact Nat.le_of_ble_eq_true rfl) (by repeat' first | exact True.intro | exact rfl | apply And.intro) rfl rfl rfl (by repeat' first | exact True.intro | exact rfl | exact ⟨_, rfl, rfl⟩ | apply And.intro | exact Or.inl rfl) rfl rfl (by repeat' first | exact True.intro | exact rfl | exact ⟨_, rfl, rfl⟩ | apply And.intro | exact Or.inl rfl) rfl rfl
   ·
    replace hT := sF hc hT
    refine rSkip ?_
    refine rInNormal ?_
    refine rThen ?_
    refine rSeq ?_
    refine rSeq ?_
    refine zReg md0 hX rfl rfl rfl ?_
    refine rThen ?_
    refine rJoin ⟨[(0, .v (.c (.ptr 0 0 0 0 0 0))), (1, .v (.c (.bool a1))), (2, .v (.c (.int .i64 (bif (decide (a2 = 128)) then 255 else a2)))), (3, .v (.c (.fz (.pair .bool (.pair (.int .i64) (.int .i64))) a3))), (8, .v (.c (.int .i64 0)))], [(0, .obj 5 a4)], 1⟩ ?_ (fun hj => ?_)
    ·
     refine rThen ?_
     refine rSeq ?_
     refine rSeq ?_
     refine zReg md0 hX rfl rfl rfl ?_
     refine rThen ?_
     let c2 := (overspill_outbits_Writer_Put N (bif (decide (a2 = 128)) then 255 else a2) 8 a4)
     replace hT := sIf hT; obtain ⟨q1, hT⟩ := hT
     refine rJoin ⟨[(0, .v (.c (.ptr 0 0 0 0 0 0))), (3, .v (.c (.fz (.pair .bool (.pair (.int .i64) (.int .i64))) a3))), (8, .v (.c (.int .i64 0)))], [(0, .obj 5 (bif a1 then (c2.getD default).2 else a4))], 1⟩ ?_ (fun hj => ?_)
     ·
      refine rThen ?_
      refine rSeq ?_
      refine rSeq ?_
      refine zReg md0 hX rfl rfl rfl ?_
      refine rThen ?_
      refine rBlock ?_
      replace hT := sBind hT; obtain ⟨w1, hl, hT⟩ := hT
      refine rJoinA (fun v1 => v1 = w1) (fun v1 => ⟨[(8, .v (.c (.int .i64 0)))], [(0, .obj 5 v1)], 1⟩) (.exit 1) (fun v1 hv => ?_) (fun hxs10 => ?_)
      ·
       subst hv; clear hl
       refine rInHit ?_
       refine rThen ?_
       refine rSeq ?_
       refine zReg md0 hX rfl rfl rfl ?_
       refine rThen ?_
       refine rRet ?_
       have hy := Option.some.inj hT; subst hy
       exact rEndA [] [] [(0, .obj 5 v1)] (.v (.c (.int .i64 0))) hX rfl (by repeat' first | exact True.intro | exact rfl | apply And.intro | omega | exact Nat.le_of_ble_eq_true rfl) (by repeat' first | exact True.intro | exact rfl | apply And.intro) rfl rfl rfl (by repeat' first | exact True.intro | exact rfl | exact ⟨_, rfl, rfl⟩ | apply And.intro | exact Or.inl rfl) rfl rfl (by repeat' first | exact True.intro | exact rfl | exact ⟨_, rfl, rfl⟩ | apply And.intro | exact Or.inl rfl) rfl rfl
      refine rLoopM (blocks_Put_b1 N a3) (fun s1 => ⟨[(0, .v (.c (.ptr 0 0 0 0 0 0))), (8, .v (.c (.int .i64 0))), (28, .v (.c (.fz (.pair .bool (.pair (.int .i64) (.int .i64))) a3))), (29, .v (.c (.int .i64 (a3.length : Int)))), (30, .v (.c (.int .i64 s1.1)))], [(0, .obj 5 s1.2)], 1⟩) hl (To.mk' [] 1 hε rfl (by repeat' first | exact True.intro | exact rfl | apply And.intro) (by repeat' first | exact True.intro | exact rfl | apply And.intro)) (fun s1 zs1 NNs1 hz hnexts1 houts1 => ?_)
      clear hl hT
      have hT := hz; clear hz
      refine rSeq ?_
      refine zReg md0 hX rfl rfl rfl ?_
      refine rThen ?_
      refine rSeq ?_
      refine zCond rfl rfl (fun hc => ?_) (fun hc => ?_)
      ·
       replace hT := sT hc hT
       refine rSkip ?_
       refine rThen ?_
       refine rSeq ?_
       refine rBlock ?_
       refine rSeq ?_
       replace hT := sIf hT; obtain ⟨⟨o1, o2⟩, hT⟩ := hT
       refine zReg md0 hX rfl rfl rfl ?_
       refine rThen ?_
       refine rSeq ?_
       let c3 := (tcoef_Row N (a3.getD (s1.1).toNat (false, ((0 : Int), (0 : Int)))).1 (a3.getD (s1.1).toNat (false, ((0 : Int), (0 : Int)))).2.1 (a3.getD (s1.1).toNat (false, ((0 : Int), (0 : Int)))).2.2)
       replace hT := sIf hT; obtain ⟨o1, hT⟩ := hT
       refine zReg md0 hX rfl rfl rfl ?_
       refine rThen ?_
       let c4 := (overspill_outbits_Writer_Add N (c3.getD default).1 s1.2)
       replace hT := sIf hT; obtain ⟨o1, hT⟩ := hT
       refine zReg md0 hX rfl rfl rfl ?_
       refine rInNormal ?_
       refine rThen ?_
       replace hT := sIf hT; obtain ⟨o1, hT⟩ := hT
       refine zReg md0 hX rfl rfl rfl ?_
       exact hnexts1 _ (Option.some.inj hT).symm _ (To.mk' [] 1 hε rfl (by repeat' first | exact True.intro | exact rfl | apply And.intro) (by repeat' first | exact True.intro | exact rfl | apply And.intro))
      ·
       replace hT := sF hc hT
       refine rExit ?_
       refine rThenExit ?_
       refine rThenExit ?_
       exact zTo [] 1 hε (hxs10 _ (houts1 _ (Option.some.inj hT).symm))
     ·
      clear hT
      refine zCond rfl rfl (fun hc => ?_) (fun hc => ?_)
      ·
       have q1 := q1 hc
       refine zReg md0 hX rfl rfl rfl ?_
       exact rTo (To.mk' [] 1 hε rfl (by (repeat' first | exact True.intro | exact rfl | apply And.intro) <;> (repeat' first | exact rfl | refine Eq.trans ?_ (cTr (by assumption)) | refine Eq.trans ?_ (cFr (by assumption)) | refine Eq.trans (cTl (by assumption)) ?_ | refine Eq.trans (cFl (by assumption)) ?_)) (by (repeat' first | exact True.intro | exact rfl | apply And.intro) <;> (repeat' first | exact rfl | refine Eq.trans ?_ (cTr (by assumption)) | refine Eq.trans ?_ (cFr (by assumption)) | refine Eq.trans (cTl (by assumption)) ?_ | refine Eq.trans (cFl (by assumption)) ?_))) hj
      ·
       refine rSkip ?_
       exact rTo (To.mk' [] 1 hε rfl (by (repeat' first | exact True.intro | exact rfl | apply And.intro) <;> (repeat' first | exact rfl | refine Eq.trans ?_ (cTr (by assumption)) | refine Eq.trans ?_ (cFr (by assumption)) | refine Eq.trans (cTl (by assumption)) ?_ | refine Eq.trans (cFl (by assumption)) ?_)) (by (repeat' first | exact True.intro | exact rfl | apply And.intro) <;> (repeat' first | exact rfl | refine Eq.trans ?_ (cTr (by assumption)) | refine Eq.trans ?_ (cFr (by assumption)) | refine Eq.trans (cTl (by assumption)) ?_ | refine Eq.trans (cFl (by assumption)) ?_))) hj
    ·
     clear hT
     refine zCond rfl rfl (fun hc => ?_) (fun hc => ?_)
     ·
      refine zReg md0 hX rfl rfl rfl ?_
      exact rTo (To.mk' [] 1 hε rfl (by (repeat' first | exact True.intro | exact rfl | apply And.intro) <;> (repeat' first | exact rfl | refine Eq.trans ?_ (cTr (by assumption)) | refine Eq.trans ?_ (cFr (by assumption)) | refine Eq.trans (cTl (by assumption)) ?_ | refine Eq.trans (cFl (by assumption)) ?_)) (by (repeat' first | exact True.intro | exact rfl | apply And.intro) <;> (repeat' first | exact rfl | refine Eq.trans ?_ (cTr (by assumption)) | refine Eq.trans ?_ (cFr (by assumption)) | refine Eq.trans (cTl (by assumption)) ?_ | refine Eq.trans (cFl (by assumption)) ?_))) hj
     ·
      refine rSkip ?_
      exact rTo (To.mk' [] 1 hε rfl (by (repeat' first | exact True.intro | exact rfl | apply And.intro) <;> (repeat' first | exact rfl | refine Eq.trans ?_ (cTr (by assumption)) | refine Eq.trans ?_ (cFr (by assumption)) | refine Eq.trans (cTl (by assumption)) ?_ | refine Eq.trans (cFl (by assumption)) ?_)) (by (repeat' first | exact True.intro | exact rfl | apply And.intro) <;> (repeat' first | exact rfl | refine Eq.trans ?_ (cTr (by assumption)) | refine Eq.trans ?_ (cFr (by assumption)) | refine Eq.trans (cTl (by assumption)) ?_ | refine Eq.trans (cFl (by assumption)) ?_))) hj
  ·
   cases h
 ·
  cases h
def cellout_Right_b1 (N : Nat) (a4 : Int) (a7 : (List Int)) (a8 : (List (List (Bool × (Int × Int))))) (s1 : Int) : Option (Int ⊕ (Unit ⊕ Unit)) :=
 bif (decide (s1 < 6)) then
  let c6 := (outbits_New N)
  let c7 := (cellout_intra N a4)
  let c8 := (blocks_Put N (c7.getD default) (a7.getD (s1).toNat 0) (a8.getD (s1).toNat []) (c6.getD default))
  if c6.isSome = true ∧ c7.isSome = true ∧ (0 : Int) ≤ s1 ∧ s1 < 6 ∧ (s1).toNat < 6 ∧ c8.isSome = true then
   bif (decide ((c8.getD default).1 ≠ 0)) then
    some (.inr (Sum.inl ()))
   else
    if inK .i64 (s1 + 1) then
     some (.inl (s1 + 1))
    else none
  else none
 else
  some (.inr (Sum.inr ()))
def cellout_Right (N : Nat) (a1 : Bool) (a2 : Int) (a3 : Bool) (a4 : Int) (a5 : Int) (a6 : (List Int)) (a7 : (List Int)) (a8 : (List (List (Bool × (Int × Int))))) : Option Bool :=
 bif (bif (decide (a2 < 0)) then true else (decide ((64 : Int) < a2))) then
  some false
 else
  bif a3 then
   let c1 := (cellout_bare N a2 a3 a4 a5 a6 a7 a8)
   if (a1 = true → c1.isSome = true) then
    some (bif a1 then (c1.getD default) else false)
   else none
  else
   let c2 := (cellout_intra N a4)
   let x1 := (bif (!(c2.getD default)) then (bif (!a1) then true else (bif (decide (a4 ≠ 0)) then (decide (a4 ≠ 1)) else false)) else false)
   if c2.isSome = true ∧ (((!(c2.getD default)) && (!(!a1))) = true → ((decide (a4 ≠ 0)) = true → (((!(c2.getD default)) && (!(!a1))) && (decide (a4 ≠ 0))) = true)) ∧ ((!(c2.getD default)) = true → ((!a1) = false → ((!(c2.getD default)) && (!(!a1))) = true)) then
    bif x1 then
     some false
    else
     let c3 := (steps_Row N a5)
     if c3.isSome = true then
      let c4 := (cellout_stepped N a4)
      let c5 := (cellout_vector N a2 a3 a4 a5 a6 a7 a8)
      let x4 := (bif (bif (!((c3.getD default).2 == (c4.getD default))) then true else (bif (!(c3.getD default).2) then (decide (a5 ≠ 0)) else false)) then true else (!(c5.getD default)))
      if c4.isSome = true ∧ ((!(!((c3.getD default).2 == (c4.getD default)))) = true → ((!(c3.getD default).2) = true → ((!(!((c3.getD default).2 == (c4.getD default)))) && (!(c3.getD default).2)) = true)) ∧ ((!(bif (!((c3.getD default).2 == (c4.getD default))) then true else (bif (!(c3.getD default).2) then (decide (a5 ≠ 0)) else false))) = true → c5.isSome = true) then
       bif x4 then
        some false
       else
        (iter (cellout_Right_b1 N a4 a7 a8) N 0).bind fun w1 =>
         (Sum.elim (fun v1 =>
          some false
         )
          (fun v2 =>
           some true
          )
         ) w1
      else none
     else none
   else none
def sp_cellout_Right (N : Nat) : X.Spec := fun args lk => match args with
 | [.v (.c (.bool a1)), .v (.agg [.cs [.int .i64 a2, .bool a3, .int .i64 a4, .int .i64 a5], .ints 2 .i64 a6, .ints 6 .i64 a7, .fzs 6 (.pair .bool (.pair (.int .i64) (.int .i64))) a8])] => some ⟨(cellout_Right N a1 a2 a3 a4 a5 a6 a7 a8).isSome = true, .v (.c (.bool ((cellout_Right N a1 a2 a3 a4 a5 a6 a7 a8).getD default))), [], []⟩
 | _ => none
set_option maxRecDepth 100000 in
set_option maxHeartbeats 1000000 in
theorem ok_cellout_Right (N : Nat) : FnOK Tryd.prog gt0 25 (sp_cellout_Right N) := by
 refine fnOK_handed Tryd.func25 rfl (by kernel_rfl) tt_ok (ktCons (ok_blocks_Put N) (ktCons (ok_outbits_New N) (ktCons (ok_cellout_vector N) (ktCons (ok_cellout_stepped N) (ktCons (ok_steps_Row N) (ktCons (ok_cellout_intra N) (ktCons (ok_cellout_bare N) (ktNil)))))))) ?_
 intro args lk r h hp
 unfold sp_cellout_Right at h
 split at h
 ·
  rename_i a1 a2 a3 a4 a5 a6 a7 a8
  change (List Int) at a6
  change (List Int) at a7
  change (List (List (Bool × (Int × Int)))) at a8
  cases h
  obtain ⟨x, hx⟩ := Option.isSome_iff_exists.1 hp
  simp only [hx, Option.getD_some]
  refine hand0 rfl rfl (fun w0 M ε0 hX => ?_)
  refine rCount (fun hε => ?_)
  have hT : cellout_Right N a1 a2 a3 a4 a5 a6 a7 a8 = some x := hx; clear hx hp; unfold cellout_Right at hT
  refine rSeq ?_
  refine zReg md0 hX rfl rfl rfl ?_
  refine rThen ?_
  refine rSeq ?_
  refine rSeq ?_
  refine zReg md0 hX rfl rfl rfl ?_
  refine rThen ?_
  refine zCond rfl rfl (fun hc => ?_) (fun hc => ?_)
  ·
   replace hT := sT hc hT
   refine rSeq ?_
   refine zReg md0 hX rfl rfl rfl ?_
   refine rThen ?_
   refine rRet ?_
   refine rThenRet ?_
   have hy := Option.some.inj hT; subst hy
   exact zEnd0 hX rfl
  ·
   replace hT := sF hc hT
   refine rSkip ?_
   refine rThen ?_
   refine rSeq ?_
   refine rSeq ?_
   refine zReg md0 hX rfl rfl rfl ?_
   refine rThen ?_
   refine zCond rfl rfl (fun hc => ?_) (fun hc => ?_)
   ·
    replace hT := sT hc hT
    refine rSeq ?_
    let c1 := (cellout_bare N a2 a3 a4 a5 a6 a7 a8)
    replace hT := sIf hT; obtain ⟨o1, hT⟩ := hT
    refine rRegC md0 hX rfl rfl rfl (by (repeat' first | exact True.intro | with_reducible assumption | (with_reducible apply And.intro) | intro _) <;> first | assumption | exact o1 (by assumption) | exact rfl | omega | exact Nat.le_of_ble_eq_true rfl | exact selF (by assumption) | exact selT (by assumption) | exact And.intro rfl rfl | exact And.intro (by assumption) rfl | exact And.intro (by omega) rfl | (simp only [inK] at *; omega) | (simp_all [sel] <;> fail) | fail) ?_
    refine rThen ?_
    refine rRet ?_
    refine rThenRet ?_
    have hy := Option.some.inj hT; subst hy
    exact zEnd0 hX rfl
   ·
    replace hT := sF hc hT
    refine rSkip ?_
    refine rThen ?_
    refine rSeq ?_
    refine rSeq ?_
    let c2 := (cellout_intra N a4)
    let x1 := (bif (!(c2.getD default)) then (bif (!a1) then true else (bif (decide (a4 ≠ 0)) then (decide (a4 ≠ 1)) else false)) else false)
    replace hT := sIf hT; obtain ⟨⟨o1, o2, o3⟩, hT⟩ := hT
    refine rRegC md0 hX rfl rfl rfl (by (repeat' first | exact True.intro | with_reducible assumption | (with_reducible apply And.intro) | intro _) <;> first | assumption | exact o2 (by assumption) (by assumption) | exact o3 (by assumption) (by assumption) | exact rfl | omega | exact Nat.le_of_ble_eq_true rfl | exact selF (by assumption) | exact selT (by assumption) | exact And.intro rfl rfl | exact And.intro (by assumption) rfl | exact And.intro (by omega) rfl | (simp only [inK] at *; omega) | (simp_all [sel] <;> fail) | fail) ?_
    refine rThen ?_
    refine zCond rfl rfl (fun hc => ?_) (fun hc => ?_)
    ·
     replace hT := sT hc hT
     refine rSeq ?_
     refine zReg md0 hX rfl rfl rfl ?_
     refine rThen ?_
     refine rRet ?_
     refine rThenRet ?_
     have hy := Option.some.inj hT; subst hy
     exact zEnd0 hX rfl
    ·
     replace hT := sF hc hT
     refine rSkip ?_
     refine rThen ?_
     refine rSeq ?_
     refine rSeq ?_
     let c3 := (steps_Row N a5)
     replace hT := sIf hT; obtain ⟨o1, hT⟩ := hT
     refine zReg md0 hX rfl rfl rfl ?_
     refine rThen ?_
     refine rSeq ?_
     let c4 := (cellout_stepped N a4)
     let c5 := (cellout_vector N a2 a3 a4 a5 a6 a7 a8)
     let x4 := (bif (bif (!((c3.getD default).2 == (c4.getD default))) then true else (bif (!(c3.getD default).2) then (decide (a5 ≠ 0)) else false)) then true else (!(c5.getD default)))
     replace hT := sIf hT; obtain ⟨⟨o1, o2, o3⟩, hT⟩ := hT
     refine rRegC md0 hX rfl rfl rfl (by (repeat' first | exact True.intro | with_reducible assumption | (with_reducible apply And.intro) | intro _) <;> first | assumption | exact o2 (by assumption) (by assumption) | exact o3 (by assumption) | exact rfl | omega | exact Nat.le_of_ble_eq_true rfl | exact selF (by assumption) | exact selT (by assumption) | exact And.intro rfl rfl | exact And.intro (by assumption) rfl | exact And.intro (by omega) rfl | (simp only [inK] at *; omega) | (simp_all [sel] <;> fail) | fail) ?_
     refine rThen ?_
     refine zCond rfl rfl (fun hc => ?_) (fun hc => ?_)
     ·
      replace hT := sT hc hT
      refine rSeq ?_
      refine zReg md0 hX rfl rfl rfl ?_
      refine rThen ?_
      refine rRet ?_
      refine rThenRet ?_
      have hy := Option.some.inj hT; subst hy
      exact zEnd0 hX rfl
     ·
      replace hT := sF hc hT
      refine rSkip ?_
      refine rThen ?_
      refine rSeq ?_
      refine rSeq ?_
      refine zReg md0 hX rfl rfl rfl ?_
      refine rThen ?_
      refine rBlock ?_
      replace hT := sBind hT; obtain ⟨w1, hl, hT⟩ := hT
      refine rJoinA (fun v1 => (Sum.inl v1) = w1) (fun v1 => ⟨[(4, .v (.c (.bool false)))], [], 1⟩) .ret (fun v1 hv => ?_) (fun hxs10 => ?_)
      ·
       subst hv; clear hl; replace hT := (sElimL hT)
       refine rInRet ?_
       refine rThenRet ?_
       have hy := Option.some.inj hT; subst hy
       exact zEnd0 hX rfl
      refine rJoinA (fun v2 => (Sum.inr v2) = w1) (fun v2 => ⟨[(4, .v (.c (.bool false)))], [], 1⟩) (.exit 0) (fun v2 hv => ?_) (fun hxs11 => ?_)
      ·
       subst hv; clear hl; replace hT := (sElimR hT)
       refine rInHit ?_
       refine rThen ?_
       refine rSeq ?_
       refine zReg md0 hX rfl rfl rfl ?_
       refine rThen ?_
       refine rRet ?_
       have hy := Option.some.inj hT; subst hy
       exact zEnd0 hX rfl
      refine rLoopM (cellout_Right_b1 N a4 a7 a8) (fun s1 => ⟨[(3, .v (.c (.ptr 0 0 0 0 0 0))), (4, .v (.c (.bool false))), (66, .v (.c (.int .i64 s1)))], [(0, .mem true 37 none (.flat [.cs [.int .i64 a2, .bool a3, .int .i64 a4, .int .i64 a5], .ints 2 .i64 a6, .ints 6 .i64 a7, .fzs 6 (.pair .bool (.pair (.int .i64) (.int .i64))) a8]))], 1⟩) hl (To.mk' [] 0 hε rfl (by repeat' first | exact True.intro | exact rfl | apply And.intro) (by repeat' first | exact True.intro | exact rfl | apply And.intro)) (fun s1 zs1 NNs1 hz hnexts1 houts1 => ?_)
      clear hl hT
      have hT := hz; clear hz
      refine rSeq ?_
      refine zReg md0 hX rfl rfl rfl ?_
      refine rThen ?_
      refine rSeq ?_
      refine zCond rfl rfl (fun hc => ?_) (fun hc => ?_)
      ·
       replace hT := sT hc hT
       refine rSkip ?_
       refine rThen ?_
       refine rSeq ?_
       refine rBlock ?_
       refine rSeq ?_
       refine zReg md0 hX rfl rfl rfl ?_
       refine rThen ?_
       refine rSeq ?_
       let c6 := (outbits_New N)
       let c7 := (cellout_intra N a4)
       let c8 := (blocks_Put N (c7.getD default) (a7.getD (s1).toNat 0) (a8.getD (s1).toNat []) (c6.getD default))
       replace hT := sIf hT; obtain ⟨⟨o1, o2, o3, o4, o5, o6⟩, hT⟩ := hT
       refine rDrawA md0 0 0 12 [] hX mixed rfl rfl rfl rfl rfl rfl rfl rfl rfl rfl rfl rfl rfl rfl rfl (by repeat' first | exact True.intro | exact rfl | apply And.intro) rfl rfl (by (repeat' first | exact True.intro | with_reducible assumption | (with_reducible apply And.intro) | intro _) <;> first | assumption | exact rfl | omega | exact Nat.le_of_ble_eq_true rfl | exact selF (by assumption) | exact selT (by assumption) | exact And.intro rfl rfl | exact And.intro (by assumption) rfl | exact And.intro (by omega) rfl | (simp only [inK] at *; omega) | (simp_all [sel] <;> fail) | fail) ?_
       refine rThen ?_
       refine zCond rfl rfl (fun hc => ?_) (fun hc => ?_)
       ·
        replace hT := sT hc hT
        refine rSeq ?_
        refine zReg md0 hX rfl rfl rfl ?_
        refine rThen ?_
        refine rRet ?_
        refine rInRet ?_
        refine rThenRet ?_
        refine rThenRet ?_
        exact zTo [] 0 hε (hxs10 _ (houts1 _ (Option.some.inj hT).symm))
       ·
        replace hT := sF hc hT
        refine rSkip ?_
        refine rInNormal ?_
        refine rThen ?_
        replace hT := sIf hT; obtain ⟨o1, hT⟩ := hT
        refine zReg md0 hX rfl rfl rfl ?_
        exact hnexts1 _ (Option.some.inj hT).symm _ (To.mk' [] 0 hε rfl (by repeat' first | exact True.intro | exact rfl | apply And.intro) (by repeat' first | exact True.intro | exact rfl | apply And.intro))
      ·
       replace hT := sF hc hT
       refine rExit ?_
       refine rThenExit ?_
       refine rThenExit ?_
       exact zTo [] 0 hε (hxs11 _ (houts1 _ (Option.some.inj hT).symm))
 ·
  cases h
def overspill_residue_cell_intra (N : Nat) (a1 : Int) (a2 : Bool) (a3 : Int) (a4 : Int) (a5 : (List Int)) (a6 : (List Int)) (a7 : (List (List (Bool × (Int × Int))))) (a8 : Int) : Option Bool :=
 some (bif (decide (a3 = 3)) then true else (decide (a3 = 4)))
def sp_overspill_residue_cell_intra (N : Nat) : X.Spec := fun args lk => match args with
 | [.v (.agg [.cs [.int .i64 a1, .bool a2, .int .i64 a3, .int .i64 a4], .ints 2 .i64 a5, .ints 6 .i64 a6, .fzs 6 (.pair .bool (.pair (.int .i64) (.int .i64))) a7, .cs [.int .i64 a8]])] => some ⟨(overspill_residue_cell_intra N a1 a2 a3 a4 a5 a6 a7 a8).isSome = true, .v (.c (.bool ((overspill_residue_cell_intra N a1 a2 a3 a4 a5 a6 a7 a8).getD default))), [], []⟩
 | _ => none
set_option maxRecDepth 100000 in
set_option maxHeartbeats 1000000 in
theorem ok_overspill_residue_cell_intra (N : Nat) : FnOK Tryd.prog gt0 118 (sp_overspill_residue_cell_intra N) := by
 refine fnOK_handed Tryd.func118 rfl (by kernel_rfl) tt_ok (ktNil) ?_
 intro args lk r h hp
 unfold sp_overspill_residue_cell_intra at h
 split at h
 ·
  rename_i a1 a2 a3 a4 a5 a6 a7 a8
  change (List Int) at a5
  change (List Int) at a6
  change (List (List (Bool × (Int × Int)))) at a7
  cases h
  obtain ⟨x, hx⟩ := Option.isSome_iff_exists.1 hp
  simp only [hx, Option.getD_some]
  refine hand0 rfl rfl (fun w0 M ε0 hX => ?_)
  refine rCount (fun hε => ?_)
  have hT : overspill_residue_cell_intra N a1 a2 a3 a4 a5 a6 a7 a8 = some x := hx; clear hx hp; unfold overspill_residue_cell_intra at hT
  refine rSeq ?_
  refine zReg md0 hX rfl rfl rfl ?_
  refine rThen ?_
  refine rSeq ?_
  refine zReg md0 hX rfl rfl rfl ?_
  refine rThen ?_
  refine rRet ?_
  have hy := Option.some.inj hT; subst hy
  exact zEnd0 hX rfl
 ·
  cases h
def scan_Raster_b1 (N : Nat) (a1 : (List Int)) (s1 : (Int × (List Int))) : Option ((Int × (List Int)) ⊕ (List Int)) :=
 bif (decide (s1.1 < 64)) then
  if (0 : Int) ≤ s1.1 ∧ s1.1 < 64 ∧ (s1.1).toNat < 64 ∧ (0 : Int) ≤ (placesL.getD (s1.1).toNat 0) ∧ (placesL.getD (s1.1).toNat 0) < 64 ∧ (placesL.getD (s1.1).toNat 0).toNat < 64 then
   if inK .i64 (s1.1 + 1) then
    some (.inl ((s1.1 + 1), (s1.2.set (placesL.getD (s1.1).toNat 0).toNat (a1.getD (s1.1).toNat 0))))
   else none
  else none
 else
  some (.inr s1.2)
def scan_Raster (N : Nat) (a1 : (List Int)) : Option (List Int) :=
 (iter (scan_Raster_b1 N a1) N (0, (List.replicate 64 0))).bind fun v1 =>
  some v1
def sp_scan_Raster (N : Nat) : X.Spec := fun args lk => match args with
 | [.v (.agg [.ints 64 .i64 a1])] => some ⟨(scan_Raster N a1).isSome = true, .v (.agg [.ints 64 .i64 ((scan_Raster N a1).getD default)]), [], []⟩
 | _ => none
set_option maxRecDepth 100000 in
set_option maxHeartbeats 1000000 in
theorem ok_scan_Raster (N : Nat) : FnOK Tryd.prog gt0 120 (sp_scan_Raster N) := by
 refine fnOK_handed Tryd.func120 rfl (by kernel_rfl) tt_ok (ktNil) ?_
 intro args lk r h hp
 unfold sp_scan_Raster at h
 split at h
 ·
  rename_i a1
  change (List Int) at a1
  cases h
  obtain ⟨x, hx⟩ := Option.isSome_iff_exists.1 hp
  simp only [hx, Option.getD_some]
  refine hand0 rfl rfl (fun w0 M ε0 hX => ?_)
  refine rCount (fun hε => ?_)
  have hT : scan_Raster N a1 = some x := hx; clear hx hp; unfold scan_Raster at hT
  refine rSeq ?_
  refine zReg md0 hX rfl rfl rfl ?_
  refine rThen ?_
  refine rSeq ?_
  refine zReg md0 hX rfl rfl rfl ?_
  refine rThen ?_
  refine rSeq ?_
  refine rSeq ?_
  refine zReg md0 hX rfl rfl rfl ?_
  refine rThen ?_
  refine rBlock ?_
  replace hT := sBind hT; obtain ⟨w1, hl, hT⟩ := hT
  refine rJoinA (fun v1 => v1 = w1) (fun v1 => ⟨[(2, .v (.c (.ptr 1 0 0 0 0 0))), (3, .v (.c (.ptr 2 0 0 0 0 0)))], [(1, .mem true 22 none (.flat [.ints 64 .i64 (List.replicate 64 0)])), (2, .mem true 22 none (.flat [.ints 64 .i64 v1]))], 3⟩) (.exit 0) (fun v1 hv => ?_) (fun hxs10 => ?_)
  ·
   subst hv; clear hl
   refine rInHit ?_
   refine rThen ?_
   refine rSeq ?_
   refine zReg md0 hX rfl rfl rfl ?_
   refine rThen ?_
   refine rRet ?_
   have hy := Option.some.inj hT; subst hy
   exact zEnd0 hX rfl
  refine rLoopM (scan_Raster_b1 N a1) (fun s1 => ⟨[(1, .v (.c (.ptr 0 0 0 0 0 0))), (2, .v (.c (.ptr 1 0 0 0 0 0))), (3, .v (.c (.ptr 2 0 0 0 0 0))), (5, .v (.c (.int .i64 s1.1)))], [(0, .mem true 22 none (.flat [.ints 64 .i64 a1])), (1, .mem true 22 none (.flat [.ints 64 .i64 (List.replicate 64 0)])), (2, .mem true 22 none (.flat [.ints 64 .i64 s1.2]))], 3⟩) hl (To.mk' [] 0 hε rfl (by repeat' first | exact True.intro | exact rfl | apply And.intro) (by repeat' first | exact True.intro | exact rfl | apply And.intro)) (fun s1 zs1 NNs1 hz hnexts1 houts1 => ?_)
  clear hl hT
  have hT := hz; clear hz
  refine rSeq ?_
  refine zReg md0 hX rfl rfl rfl ?_
  refine rThen ?_
  refine rSeq ?_
  refine zCond rfl rfl (fun hc => ?_) (fun hc => ?_)
  ·
   replace hT := sT hc hT
   refine rSkip ?_
   refine rThen ?_
   refine rSeq ?_
   refine rBlock ?_
   refine rSeq ?_
   refine zReg md0 hX rfl rfl rfl ?_
   refine rThen ?_
   replace hT := sIf hT; obtain ⟨⟨o1, o2, o3, o4, o5, o6⟩, hT⟩ := hT
   refine zDraw md0 1 [7] hX mixed rfl rfl rfl rfl rfl ?_
   refine rInNormal ?_
   refine rThen ?_
   replace hT := sIf hT; obtain ⟨o1, hT⟩ := hT
   refine zReg md0 hX rfl rfl rfl ?_
   exact hnexts1 _ (Option.some.inj hT).symm _ (To.mk' [] 0 hε rfl (by repeat' first | exact True.intro | exact rfl | apply And.intro) (by repeat' first | exact True.intro | exact rfl | apply And.intro))
  ·
   replace hT := sF hc hT
   refine rExit ?_
   refine rThenExit ?_
   refine rThenExit ?_
   exact zTo [] 0 hε (hxs10 _ (houts1 _ (Option.some.inj hT).symm))
 ·
  cases h
def overspill_residue_cell_levels (N : Nat) (a1 : Int) (a2 : Bool) (a3 : Int) (a4 : Int) (a5 : (List Int)) (a6 : (List Int)) (a7 : (List (List (Bool × (Int × Int))))) (a8 : Int) (a9 : Int) : Option (List Int) :=
 let c1 := (overspill_residue_cell_intra N a1 a2 a3 a4 a5 a6 a7 a8)
 if c1.isSome = true then
  let c2 := (runs_Levels N (a7.getD (a9).toNat []) (bif (c1.getD default) then (1 : Int) else 0))
  if (0 : Int) ≤ a9 ∧ a9 < 6 ∧ (a9).toNat < 6 ∧ c2.isSome = true then
   let c3 := (scan_Raster N (c2.getD default).1)
   if c3.isSome = true then
    some (c3.getD default)
   else none
  else none
 else none
def sp_overspill_residue_cell_levels (N : Nat) : X.Spec := fun args lk => match args with
 | [.v (.agg [.cs [.int .i64 a1, .bool a2, .int .i64 a3, .int .i64 a4], .ints 2 .i64 a5, .ints 6 .i64 a6, .fzs 6 (.pair .bool (.pair (.int .i64) (.int .i64))) a7, .cs [.int .i64 a8]]), .v (.c (.int .i64 a9))] => some ⟨(overspill_residue_cell_levels N a1 a2 a3 a4 a5 a6 a7 a8 a9).isSome = true, .v (.agg [.ints 64 .i64 ((overspill_residue_cell_levels N a1 a2 a3 a4 a5 a6 a7 a8 a9).getD default)]), [], []⟩
 | _ => none
set_option maxRecDepth 100000 in
set_option maxHeartbeats 1000000 in
theorem ok_overspill_residue_cell_levels (N : Nat) : FnOK Tryd.prog gt0 69 (sp_overspill_residue_cell_levels N) := by
 refine fnOK_handed Tryd.func69 rfl (by kernel_rfl) tt_ok (ktCons (ok_scan_Raster N) (ktCons (ok_runs_Levels N) (ktCons (ok_overspill_residue_cell_intra N) (ktNil)))) ?_
 intro args lk r h hp
 unfold sp_overspill_residue_cell_levels at h
 split at h
 ·
  rename_i a1 a2 a3 a4 a5 a6 a7 a8 a9
  change (List Int) at a5
  change (List Int) at a6
  change (List (List (Bool × (Int × Int)))) at a7
  cases h
  obtain ⟨x, hx⟩ := Option.isSome_iff_exists.1 hp
  simp only [hx, Option.getD_some]
  refine hand0 rfl rfl (fun w0 M ε0 hX => ?_)
  refine rCount (fun hε => ?_)
  have hT : overspill_residue_cell_levels N a1 a2 a3 a4 a5 a6 a7 a8 a9 = some x := hx; clear hx hp; unfold overspill_residue_cell_levels at hT
  refine rSeq ?_
  refine zReg md0 hX rfl rfl rfl ?_
  refine rThen ?_
  refine rSeq ?_
  refine zReg md0 hX rfl rfl rfl ?_
  refine rThen ?_
  refine rSeq ?_
  refine rSeq ?_
  let c1 := (overspill_residue_cell_intra N a1 a2 a3 a4 a5 a6 a7 a8)
  replace hT := sIf hT; obtain ⟨o1, hT⟩ := hT
  refine zReg md0 hX rfl rfl rfl ?_
  refine rThen ?_
  refine rJoin ⟨[(1, .v (.c (.int .i64 a9))), (2, .v (.c (.ptr 0 0 0 0 0 0))), (4, .v (.c (.ptr 1 0 0 0 0 0))), (5, .v (.c (.int .i64 (bif (c1.getD default) then (1 : Int) else 0))))], [(0, .mem true 104 none (.flat [.cs [.int .i64 a1, .bool a2, .int .i64 a3, .int .i64 a4], .ints 2 .i64 a5, .ints 6 .i64 a6, .fzs 6 (.pair .bool (.pair (.int .i64) (.int .i64))) a7, .cs [.int .i64 a8]])), (1, .mem true 22 none (.flat [.ints 64 .i64 (List.replicate 64 0)]))], 2⟩ ?_ (fun hj => ?_)
  ·
   refine rThen ?_
   refine rSeq ?_
   let c2 := (runs_Levels N (a7.getD (a9).toNat []) (bif (c1.getD default) then (1 : Int) else 0))
   replace hT := sIf hT; obtain ⟨⟨o1, o2, o3, o4⟩, hT⟩ := hT
   refine zReg md0 hX rfl rfl rfl ?_
   refine rThen ?_
   refine rSeq ?_
   let c3 := (scan_Raster N (c2.getD default).1)
   replace hT := sIf hT; obtain ⟨o1, hT⟩ := hT
   refine zReg md0 hX rfl rfl rfl ?_
   refine rThen ?_
   refine rRet ?_
   have hy := Option.some.inj hT; subst hy
   exact zEnd0 hX rfl
  ·
   clear hT
   refine zCond rfl rfl (fun hc => ?_) (fun hc => ?_)
   ·
    refine zReg md0 hX rfl rfl rfl ?_
    exact rTo (To.mk' [] 0 hε rfl (by (repeat' first | exact True.intro | exact rfl | apply And.intro) <;> (repeat' first | exact rfl | refine Eq.trans ?_ (cTr (by assumption)) | refine Eq.trans ?_ (cFr (by assumption)) | refine Eq.trans (cTl (by assumption)) ?_ | refine Eq.trans (cFl (by assumption)) ?_)) (by (repeat' first | exact True.intro | exact rfl | apply And.intro) <;> (repeat' first | exact rfl | refine Eq.trans ?_ (cTr (by assumption)) | refine Eq.trans ?_ (cFr (by assumption)) | refine Eq.trans (cTl (by assumption)) ?_ | refine Eq.trans (cFl (by assumption)) ?_))) hj
   ·
    refine rSkip ?_
    exact rTo (To.mk' [] 0 hε rfl (by (repeat' first | exact True.intro | exact rfl | apply And.intro) <;> (repeat' first | exact rfl | refine Eq.trans ?_ (cTr (by assumption)) | refine Eq.trans ?_ (cFr (by assumption)) | refine Eq.trans (cTl (by assumption)) ?_ | refine Eq.trans (cFl (by assumption)) ?_)) (by (repeat' first | exact True.intro | exact rfl | apply And.intro) <;> (repeat' first | exact rfl | refine Eq.trans ?_ (cTr (by assumption)) | refine Eq.trans ?_ (cFr (by assumption)) | refine Eq.trans (cTl (by assumption)) ?_ | refine Eq.trans (cFl (by assumption)) ?_))) hj
 ·
  cases h
def residue_every_levels_b1 (N : Nat) (a8 : Int) (a9 : Bool) (a10 : Int) (a11 : Int) (a12 : (List Int)) (a13 : (List Int)) (a14 : (List (List (Bool × (Int × Int))))) (a15 : Int) (s1 : (Int × (List Int))) : Option ((Int × (List Int)) ⊕ (List Int)) :=
 bif (decide (s1.1 < 6)) then
  let c2 := (overspill_residue_cell_levels N a8 a9 a10 a11 a12 a13 a14 a15 s1.1)
  if c2.isSome = true ∧ (0 : Int) ≤ s1.1 ∧ s1.1 < 6 ∧ (64 * (s1.1).toNat) + 64 ≤ 384 then
   if inK .i64 (s1.1 + 1) then
    some (.inl ((s1.1 + 1), (layL s1.2 (64 * (s1.1).toNat) (c2.getD default) 64)))
   else none
  else none
 else
  some (.inr s1.2)
def residue_every_levels (N : Nat) (a1 : Int) (a2 : Bool) (a3 : Int) (a4 : Int) (a5 : (List Int)) (a6 : (List Int)) (a7 : (List (List (Bool × (Int × Int))))) (a8 : Int) (a9 : Bool) (a10 : Int) (a11 : Int) (a12 : (List Int)) (a13 : (List Int)) (a14 : (List (List (Bool × (Int × Int))))) (a15 : Int) : Option ((List Int) × Int) :=
 let c1 := (cellout_Right N true a1 a2 a3 a4 a5 a6 a7)
 if c1.isSome = true then
  bif (!(c1.getD default)) then
   some ((List.replicate 384 0), 12)
  else
   (iter (residue_every_levels_b1 N a8 a9 a10 a11 a12 a13 a14 a15) N (0, (List.replicate 384 0))).bind fun v1 =>
    some (v1, 0)
 else none
def sp_residue_every_levels (N : Nat) : X.Spec := fun args lk => match args with
 | [.v (.agg [.cs [.int .i64 a1, .bool a2, .int .i64 a3, .int .i64 a4], .ints 2 .i64 a5, .ints 6 .i64 a6, .fzs 6 (.pair .bool (.pair (.int .i64) (.int .i64))) a7]), .fnv 69 [.agg [.cs [.int .i64 a8, .bool a9, .int .i64 a10, .int .i64 a11], .ints 2 .i64 a12, .ints 6 .i64 a13, .fzs 6 (.pair .bool (.pair (.int .i64) (.int .i64))) a14, .cs [.int .i64 a15]]] []] => some ⟨(residue_every_levels N a1 a2 a3 a4 a5 a6 a7 a8 a9 a10 a11 a12 a13 a14 a15).isSome = true, .tup [.agg [.ints 384 .i64 ((residue_every_levels N a1 a2 a3 a4 a5 a6 a7 a8 a9 a10 a11 a12 a13 a14 a15).getD default).1], .c (.int .i64 ((residue_every_levels N a1 a2 a3 a4 a5 a6 a7 a8 a9 a10 a11 a12 a13 a14 a15).getD default).2)], [], []⟩
 | _ => none
set_option maxRecDepth 100000 in
set_option maxHeartbeats 1000000 in
theorem ok_residue_every_levels (N : Nat) : FnOK Tryd.prog gt0 68 (sp_residue_every_levels N) := by
 refine fnOK_handed Tryd.func68 rfl (by kernel_rfl) tt_ok (ktCons (ok_overspill_residue_cell_levels N) (ktCons (ok_cellout_Right N) (ktNil))) ?_
 intro args lk r h hp
 unfold sp_residue_every_levels at h
 split at h
 ·
  rename_i a1 a2 a3 a4 a5 a6 a7 a8 a9 a10 a11 a12 a13 a14 a15
  change (List Int) at a5
  change (List Int) at a6
  change (List (List (Bool × (Int × Int)))) at a7
  change (List Int) at a12
  change (List Int) at a13
  change (List (List (Bool × (Int × Int)))) at a14
  cases h
  obtain ⟨x, hx⟩ := Option.isSome_iff_exists.1 hp
  simp only [hx, Option.getD_some]
  refine hand0 rfl rfl (fun w0 M ε0 hX => ?_)
  refine rCount (fun hε => ?_)
  have hT : residue_every_levels N a1 a2 a3 a4 a5 a6 a7 a8 a9 a10 a11 a12 a13 a14 a15 = some x := hx; clear hx hp; unfold residue_every_levels at hT
  refine rSeq ?_
  refine zReg md0 hX rfl rfl rfl ?_
  refine rThen ?_
  refine rSeq ?_
  refine rSeq ?_
  let c1 := (cellout_Right N true a1 a2 a3 a4 a5 a6 a7)
  replace hT := sIf hT; obtain ⟨o1, hT⟩ := hT
  refine zReg md0 hX rfl rfl rfl ?_
  refine rThen ?_
  refine zCond rfl rfl (fun hc => ?_) (fun hc => ?_)
  ·
   replace hT := sT hc hT
   refine rSeq ?_
   refine zReg md0 hX rfl rfl rfl ?_
   refine rThen ?_
   refine rRet ?_
   refine rThenRet ?_
   have hy := Option.some.inj hT; subst hy
   exact zEnd0 hX rfl
  ·
   replace hT := sF hc hT
   refine rSkip ?_
   refine rThen ?_
   refine rSeq ?_
   refine zReg md0 hX rfl rfl rfl ?_
   refine rThen ?_
   refine rSeq ?_
   refine rSeq ?_
   refine zReg md0 hX rfl rfl rfl ?_
   refine rThen ?_
   refine rBlock ?_
   replace hT := sBind hT; obtain ⟨w1, hl, hT⟩ := hT
   refine rJoinA (fun v1 => v1 = w1) (fun v1 => ⟨[(4, .v (.c (.ptr 1 0 0 0 0 0))), (5, .v (.c (.int .i64 0))), (6, .v (.c (.ptr 2 0 0 0 0 0)))], [(1, .mem true 39 none (.flat [.ints 384 .i64 (List.replicate 384 0)])), (2, .mem true 39 none (.flat [.ints 384 .i64 v1]))], 3⟩) (.exit 0) (fun v1 hv => ?_) (fun hxs10 => ?_)
   ·
    subst hv; clear hl
    refine rInHit ?_
    refine rThen ?_
    refine rSeq ?_
    refine zReg md0 hX rfl rfl rfl ?_
    refine rThen ?_
    refine rRet ?_
    have hy := Option.some.inj hT; subst hy
    exact zEnd0 hX rfl
   refine rLoopM (residue_every_levels_b1 N a8 a9 a10 a11 a12 a13 a14 a15) (fun s1 => ⟨[(1, .fnv 69 [.agg [.cs [.int .i64 a8, .bool a9, .int .i64 a10, .int .i64 a11], .ints 2 .i64 a12, .ints 6 .i64 a13, .fzs 6 (.pair .bool (.pair (.int .i64) (.int .i64))) a14, .cs [.int .i64 a15]]] []), (4, .v (.c (.ptr 1 0 0 0 0 0))), (5, .v (.c (.int .i64 0))), (6, .v (.c (.ptr 2 0 0 0 0 0))), (12, .v (.c (.int .i64 s1.1)))], [(1, .mem true 39 none (.flat [.ints 384 .i64 (List.replicate 384 0)])), (2, .mem true 39 none (.flat [.ints 384 .i64 s1.2]))], 3⟩) hl (To.mk' [] 0 hε rfl (by repeat' first | exact True.intro | exact rfl | apply And.intro) (by repeat' first | exact True.intro | exact rfl | apply And.intro)) (fun s1 zs1 NNs1 hz hnexts1 houts1 => ?_)
   clear hl hT
   have hT := hz; clear hz
   refine rSeq ?_
   refine zReg md0 hX rfl rfl rfl ?_
   refine rThen ?_
   refine rSeq ?_
   refine zCond rfl rfl (fun hc => ?_) (fun hc => ?_)
   ·
    replace hT := sT hc hT
    refine rSkip ?_
    refine rThen ?_
    refine rSeq ?_
    refine rBlock ?_
    refine rSeq ?_
    refine zReg md0 hX rfl rfl rfl ?_
    refine rThen ?_
    let c2 := (overspill_residue_cell_levels N a8 a9 a10 a11 a12 a13 a14 a15 s1.1)
    replace hT := sIf hT; obtain ⟨⟨o1, o2, o3, o4⟩, hT⟩ := hT
    refine zReg md0 hX rfl rfl rfl ?_
    refine rInNormal ?_
    refine rThen ?_
    replace hT := sIf hT; obtain ⟨o1, hT⟩ := hT
    refine zReg md0 hX rfl rfl rfl ?_
    exact hnexts1 _ (Option.some.inj hT).symm _ (To.mk' [] 0 hε rfl (by repeat' first | exact True.intro | exact rfl | apply And.intro) (by repeat' first | exact True.intro | exact rfl | apply And.intro))
   ·
    replace hT := sF hc hT
    refine rExit ?_
    refine rThenExit ?_
    refine rThenExit ?_
    exact zTo [] 0 hε (hxs10 _ (houts1 _ (Option.some.inj hT).symm))
 ·
  cases h
def residue_Levels (N : Nat) (a1 : Int) (a2 : Bool) (a3 : Int) (a4 : Int) (a5 : (List Int)) (a6 : (List Int)) (a7 : (List (List (Bool × (Int × Int))))) : Option ((List Int) × Int) :=
 let c1 := (residue_every_levels N a1 a2 a3 a4 a5 a6 a7 a1 a2 a3 a4 a5 a6 a7 0)
 if c1.isSome = true then
  some ((c1.getD default).1, (c1.getD default).2)
 else none
def sp_residue_Levels (N : Nat) : X.Spec := fun args lk => match args with
 | [.v (.agg [.cs [.int .i64 a1, .bool a2, .int .i64 a3, .int .i64 a4], .ints 2 .i64 a5, .ints 6 .i64 a6, .fzs 6 (.pair .bool (.pair (.int .i64) (.int .i64))) a7])] => some ⟨(residue_Levels N a1 a2 a3 a4 a5 a6 a7).isSome = true, .tup [.agg [.ints 384 .i64 ((residue_Levels N a1 a2 a3 a4 a5 a6 a7).getD default).1], .c (.int .i64 ((residue_Levels N a1 a2 a3 a4 a5 a6 a7).getD default).2)], [], []⟩
 | _ => none
set_option maxRecDepth 100000 in
set_option maxHeartbeats 1000000 in
theorem ok_residue_Levels (N : Nat) : FnOK Tryd.prog gt0 24 (sp_residue_Levels N) := by
 refine fnOK_handed Tryd.func24 rfl (by kernel_rfl) tt_ok (ktCons (ok_residue_every_levels N) (ktNil)) ?_
 intro args lk r h hp
 unfold sp_residue_Levels at h
 split at h
 ·
  rename_i a1 a2 a3 a4 a5 a6 a7
  change (List Int) at a5
  change (List Int) at a6
  change (List (List (Bool × (Int × Int)))) at a7
  cases h
  obtain ⟨x, hx⟩ := Option.isSome_iff_exists.1 hp
  simp only [hx, Option.getD_some]
  refine hand0 rfl rfl (fun w0 M ε0 hX => ?_)
  refine rCount (fun hε => ?_)
  have hT : residue_Levels N a1 a2 a3 a4 a5 a6 a7 = some x := hx; clear hx hp; unfold residue_Levels at hT
  refine rSeq ?_
  refine zReg md0 hX rfl rfl rfl ?_
  refine rThen ?_
  refine rSeq ?_
  let c1 := (residue_every_levels N a1 a2 a3 a4 a5 a6 a7 a1 a2 a3 a4 a5 a6 a7 0)
  replace hT := sIf hT; obtain ⟨o1, hT⟩ := hT
  refine zReg md0 hX rfl rfl rfl ?_
  refine rThen ?_
  refine rRet ?_
  have hy := Option.some.inj hT; subst hy
  exact zEnd0 hX rfl
 ·
  cases h
def stores_Right_b2 (N : Nat) (a2 : (List (List Int))) (s1 : (Bool × Int)) (s2 : (Bool × Int)) : Option ((Bool × Int) ⊕ (Bool × Int × Bool)) :=
 bif (decide (s2.2 < ((a2.getD (s1.2).toNat []).length : Int))) then
  if (0 : Int) ≤ s2.2 ∧ s2.2 < ((a2.getD (s1.2).toNat []).length : Int) then
   let x3 := (bif (bif s2.1 then (decide (((-255) : Int) ≤ ((a2.getD (s1.2).toNat []).getD (s2.2).toNat 0))) else false) then (decide (((a2.getD (s1.2).toNat []).getD (s2.2).toNat 0) ≤ 255)) else false)
   if inK .i64 (s2.2 + 1) then
    some (.inl (x3, (s2.2 + 1)))
   else none
  else none
 else
  some (.inr (s2.1, s2.2, (decide (s2.2 < ((a2.getD (s1.2).toNat []).length : Int)))))
def stores_Right_b1 (N : Nat) (a1 : Int) (a2 : (List (List Int))) (s1 : (Bool × Int)) : Option ((Bool × Int) ⊕ Bool) :=
 bif (decide (s1.2 < 3)) then
  if (0 : Int) ≤ s1.2 ∧ s1.2 < 3 ∧ (s1.2).toNat < 3 then
   let c2 := (formats_Plane N a1 s1.2)
   if c2.isSome = true then
    let x1 := (bif s1.1 then (decide (((a2.getD (s1.2).toNat []).length : Int) = ((c2.getD default).1 * (c2.getD default).2))) else false)
    if (s1.1 = true → inK .i64 ((c2.getD default).1 * (c2.getD default).2)) then
     (iter (stores_Right_b2 N a2 s1) N (x1, 0)).bind fun v2 =>
      if inK .i64 (s1.2 + 1) then
       some (.inl (v2.1, (s1.2 + 1)))
      else none
    else none
   else none
  else none
 else
  some (.inr s1.1)
def stores_Right (N : Nat) (a1 : Int) (a2 : (List (List Int))) : Option Bool :=
 let c1 := (formats_Size N a1)
 if c1.isSome = true then
  (iter (stores_Right_b1 N a1 a2) N ((c1.getD default).2.2, 0)).bind fun v1 =>
   some v1
 else none
def sp_stores_Right (N : Nat) : X.Spec := fun args lk => match args with
 | [.v (.agg [.cs [.int .i64 a1], .fzs 3 (.int .i64) a2])] => some ⟨(stores_Right N a1 a2).isSome = true, .v (.c (.bool ((stores_Right N a1 a2).getD default))), [], []⟩
 | _ => none
set_option maxRecDepth 100000 in
set_option maxHeartbeats 1000000 in
theorem ok_stores_Right (N : Nat) : FnOK Tryd.prog gt0 158 (sp_stores_Right N) := by
 refine fnOK_handed Tryd.func158 rfl (by kernel_rfl) tt_ok (ktCons (ok_formats_Plane N) (ktCons (ok_formats_Size N) (ktNil))) ?_
 intro args lk r h hp
 unfold sp_stores_Right at h
 split at h
 ·
  rename_i a1 a2
  change (List (List Int)) at a2
  cases h
  obtain ⟨x, hx⟩ := Option.isSome_iff_exists.1 hp
  simp only [hx, Option.getD_some]
  refine hand0 rfl rfl (fun w0 M ε0 hX => ?_)
  refine rCount (fun hε => ?_)
  have hT : stores_Right N a1 a2 = some x := hx; clear hx hp; unfold stores_Right at hT
  refine rSeq ?_
  refine zReg md0 hX rfl rfl rfl ?_
  refine rThen ?_
  refine rSeq ?_
  let c1 := (formats_Size N a1)
  replace hT := sIf hT; obtain ⟨o1, hT⟩ := hT
  refine zReg md0 hX rfl rfl rfl ?_
  refine rThen ?_
  refine rSeq ?_
  refine rSeq ?_
  refine zReg md0 hX rfl rfl rfl ?_
  refine rThen ?_
  refine rBlock ?_
  replace hT := sBind hT; obtain ⟨w1, hl, hT⟩ := hT
  refine rJoinA (fun v1 => v1 = w1) (fun v1 => ⟨[(2, .v (.c (.bool false))), (5, .v (.c (.bool v1)))], [], 1⟩) (.exit 0) (fun v1 hv => ?_) (fun hxs10 => ?_)
  ·
   subst hv; clear hl
   refine rInHit ?_
   refine rThen ?_
   refine rSeq ?_
   refine zReg md0 hX rfl rfl rfl ?_
   refine rThen ?_
   refine rRet ?_
   have hy := Option.some.inj hT; subst hy
   exact zEnd0 hX rfl
  refine rLoopM (stores_Right_b1 N a1 a2) (fun s1 => ⟨[(1, .v (.c (.ptr 0 0 0 0 0 0))), (2, .v (.c (.bool false))), (5, .v (.c (.bool s1.1))), (20, .v (.agg [.fzs 3 (.int .i64) a2])), (21, .v (.c (.int .i64 s1.2)))], [(0, .mem true 76 none (.flat [.cs [.int .i64 a1], .fzs 3 (.int .i64) a2]))], 1⟩) hl (To.mk' [] 0 hε rfl (by repeat' first | exact True.intro | exact rfl | apply And.intro) (by repeat' first | exact True.intro | exact rfl | apply And.intro)) (fun s1 zs1 NNs1 hz hnexts1 houts1 => ?_)
  clear hl hT
  have hT := hz; clear hz
  refine rSeq ?_
  refine zReg md0 hX rfl rfl rfl ?_
  refine rThen ?_
  refine rSeq ?_
  refine zCond rfl rfl (fun hc => ?_) (fun hc => ?_)
  ·
   replace hT := sT hc hT
   refine rSkip ?_
   refine rThen ?_
   refine rSeq ?_
   refine rBlock ?_
   refine rSeq ?_
   replace hT := sIf hT; obtain ⟨⟨o1, o2, o3⟩, hT⟩ := hT
   refine zReg md0 hX rfl rfl rfl ?_
   refine rThen ?_
   refine rSeq ?_
   let c2 := (formats_Plane N a1 s1.2)
   replace hT := sIf hT; obtain ⟨o1, hT⟩ := hT
   refine zReg md0 hX rfl rfl rfl ?_
   refine rThen ?_
   refine rSeq ?_
   let x1 := (bif s1.1 then (decide (((a2.getD (s1.2).toNat []).length : Int) = ((c2.getD default).1 * (c2.getD default).2))) else false)
   replace hT := sIf hT; obtain ⟨o1, hT⟩ := hT
   refine rRegC md0 hX rfl rfl rfl (by (repeat' first | exact True.intro | with_reducible assumption | (with_reducible apply And.intro) | intro _) <;> first | assumption | exact o1 (by assumption) | exact rfl | omega | exact Nat.le_of_ble_eq_true rfl | exact selF (by assumption) | exact selT (by assumption) | exact And.intro rfl rfl | exact And.intro (by assumption) rfl | exact And.intro (by omega) rfl | (simp only [inK] at *; omega) | (simp_all [sel] <;> fail) | fail) ?_
   refine rThen ?_
   refine rSeq ?_
   refine zReg md0 hX rfl rfl rfl ?_
   refine rThen ?_
   refine rBlock ?_
   replace hT := sBind hT; obtain ⟨w2, hl, hT⟩ := hT
   refine rJoinA (fun v2 => v2 = w2) (fun v2 => ⟨[(1, .v (.c (.ptr 0 0 0 0 0 0))), (2, .v (.c (.bool false))), (5, .v (.c (.bool v2.1))), (6, .v (.c (.int .i64 s1.2))), (7, .v (.c (.fz (.int .i64) (a2.getD (s1.2).toNat [])))), (8, .v (.c (.int .i64 (c2.getD default).1))), (9, .v (.c (.int .i64 (c2.getD default).2))), (20, .v (.agg [.fzs 3 (.int .i64) a2])), (21, .v (.c (.int .i64 s1.2))), (22, .v (.c (.bool (decide (s1.2 < 3))))), (23, .v (.c (.int .i64 s1.2))), (24, .v (.c (.fz (.int .i64) (a2.getD (s1.2).toNat [])))), (25, .tup [.c (.int .i64 (c2.getD default).1), .c (.int .i64 (c2.getD default).2)]), (26, .v (.c (.ptr 0 0 0 0 0 0))), (27, .v (.c (.int .i64 a1))), (28, .v (.c (.int .i64 s1.2))), (29, .tup [.c (.int .i64 (c2.getD default).1), .c (.int .i64 (c2.getD default).2)]), (30, .v (.c (.int .i64 (c2.getD default).1))), (31, .v (.c (.int .i64 (c2.getD default).2))), (32, .v (.c (.bool s1.1))), (33, .v (.c (.bool s1.1))), (40, .v (.c (.bool x1))), (41, .v (.c (.fz (.int .i64) (a2.getD (s1.2).toNat [])))), (42, .v (.c (.int .i64 ((a2.getD (s1.2).toNat []).length : Int)))), (43, .v (.c (.int .i64 v2.2.1))), (44, .v (.c (.bool v2.2.2)))], [(0, .mem true 76 none (.flat [.cs [.int .i64 a1], .fzs 3 (.int .i64) a2]))], 1⟩) (.exit 2) (fun v2 hv => ?_) (fun hxs20 => ?_)
   ·
    subst hv; clear hl
    refine rInHit ?_
    refine rInNormal ?_
    refine rThen ?_
    replace hT := sIf hT; obtain ⟨o1, hT⟩ := hT
    refine zReg md0 hX rfl rfl rfl ?_
    exact hnexts1 _ (Option.some.inj hT).symm _ (To.mk' [] 0 hε rfl (by repeat' first | exact True.intro | exact rfl | apply And.intro) (by repeat' first | exact True.intro | exact rfl | apply And.intro))
   refine rLoopM (stores_Right_b2 N a2 s1) (fun s2 => ⟨[(1, .v (.c (.ptr 0 0 0 0 0 0))), (2, .v (.c (.bool false))), (5, .v (.c (.bool s2.1))), (6, .v (.c (.int .i64 s1.2))), (7, .v (.c (.fz (.int .i64) (a2.getD (s1.2).toNat [])))), (8, .v (.c (.int .i64 (c2.getD default).1))), (9, .v (.c (.int .i64 (c2.getD default).2))), (20, .v (.agg [.fzs 3 (.int .i64) a2])), (21, .v (.c (.int .i64 s1.2))), (22, .v (.c (.bool (decide (s1.2 < 3))))), (23, .v (.c (.int .i64 s1.2))), (24, .v (.c (.fz (.int .i64) (a2.getD (s1.2).toNat [])))), (25, .tup [.c (.int .i64 (c2.getD default).1), .c (.int .i64 (c2.getD default).2)]), (26, .v (.c (.ptr 0 0 0 0 0 0))), (27, .v (.c (.int .i64 a1))), (28, .v (.c (.int .i64 s1.2))), (29, .tup [.c (.int .i64 (c2.getD default).1), .c (.int .i64 (c2.getD default).2)]), (30, .v (.c (.int .i64 (c2.getD default).1))), (31, .v (.c (.int .i64 (c2.getD default).2))), (32, .v (.c (.bool s1.1))), (33, .v (.c (.bool s1.1))), (40, .v (.c (.bool x1))), (41, .v (.c (.fz (.int .i64) (a2.getD (s1.2).toNat [])))), (42, .v (.c (.int .i64 ((a2.getD (s1.2).toNat []).length : Int)))), (43, .v (.c (.int .i64 s2.2)))], [(0, .mem true 76 none (.flat [.cs [.int .i64 a1], .fzs 3 (.int .i64) a2]))], 1⟩) hl (To.mk' [] 0 hε rfl (by repeat' first | exact True.intro | exact rfl | apply And.intro) (by repeat' first | exact True.intro | exact rfl | apply And.intro)) (fun s2 zs2 NNs2 hz hnexts2 houts2 => ?_)
   clear hl hT
   have hT := hz; clear hz
   refine rSeq ?_
   refine zReg md0 hX rfl rfl rfl ?_
   refine rThen ?_
   refine rSeq ?_
   refine zCond rfl rfl (fun hc => ?_) (fun hc => ?_)
   ·
    replace hT := sT hc hT
    refine rSkip ?_
    refine rThen ?_
    refine rSeq ?_
    refine rBlock ?_
    refine rSeq ?_
    replace hT := sIf hT; obtain ⟨⟨o1, o2⟩, hT⟩ := hT
    refine zReg md0 hX rfl rfl rfl ?_
    refine rThen ?_
    let x3 := (bif (bif s2.1 then (decide (((-255) : Int) ≤ ((a2.getD (s1.2).toNat []).getD (s2.2).toNat 0))) else false) then (decide (((a2.getD (s1.2).toNat []).getD (s2.2).toNat 0) ≤ 255)) else false)
    refine zReg md0 hX rfl rfl rfl ?_
    refine rInNormal ?_
    refine rThen ?_
    replace hT := sIf hT; obtain ⟨o1, hT⟩ := hT
    refine zReg md0 hX rfl rfl rfl ?_
    exact hnexts2 _ (Option.some.inj hT).symm _ (To.mk' [] 0 hε rfl (by repeat' first | exact True.intro | exact rfl | apply And.intro) (by repeat' first | exact True.intro | exact rfl | apply And.intro))
   ·
    replace hT := sF hc hT
    refine rExit ?_
    refine rThenExit ?_
    refine rThenExit ?_
    exact zTo [] 0 hε (hxs20 _ (houts2 _ (Option.some.inj hT).symm))
  ·
   replace hT := sF hc hT
   refine rExit ?_
   refine rThenExit ?_
   refine rThenExit ?_
   exact zTo [] 0 hε (hxs10 _ (houts1 _ (Option.some.inj hT).symm))
 ·
  cases h
def planes_New_own (N : Nat) (a1 : Int) (a2 : Int) : Option (Int × Nat × Nat × Nat × Int × Nat × (List Int) × Nat × (List Int) × Nat × (List Int)) :=
 let c1 := (formats_Size N a1)
 if c1.isSome = true then
  bif (!(c1.getD default).2.2) then
   some (0, 0, 0, 0, 1, 0, [], 0, [], 0, [])
  else
   let c2 := (formats_Plane N a1 0)
   if c2.isSome = true then
    let c3 := (whole_Clip N a2 0 255)
    let c4 := (rep N 1 ((c2.getD default).1 * (c2.getD default).2) ((List.replicate 1 0).set 0 (c3.getD default)))
    if c3.isSome = true ∧ inK .u8 (c3.getD default) ∧ inK .i64 ((c2.getD default).1 * (c2.getD default).2) ∧ c4.isSome = true then
     let c5 := (formats_Plane N a1 1)
     if c5.isSome = true then
      let c6 := (whole_Clip N a2 0 255)
      let c7 := (rep N 1 ((c5.getD default).1 * (c5.getD default).2) ((List.replicate 1 0).set 0 (c6.getD default)))
      if c6.isSome = true ∧ inK .u8 (c6.getD default) ∧ inK .i64 ((c5.getD default).1 * (c5.getD default).2) ∧ c7.isSome = true then
       let c8 := (formats_Plane N a1 2)
       if c8.isSome = true then
        let c9 := (whole_Clip N a2 0 255)
        let c10 := (rep N 1 ((c8.getD default).1 * (c8.getD default).2) ((List.replicate 1 0).set 0 (c9.getD default)))
        if c9.isSome = true ∧ inK .u8 (c9.getD default) ∧ inK .i64 ((c8.getD default).1 * (c8.getD default).2) ∧ c10.isSome = true then
         some (a1, (c4.getD default).1, (c7.getD default).1, (c10.getD default).1, 0, (c4.getD default).2.1, (c4.getD default).2.2, (c7.getD default).2.1, (c7.getD default).2.2, (c10.getD default).2.1, (c10.getD default).2.2)
        else none
       else none
      else none
     else none
    else none
   else none
 else none
def sp_planes_New_own (N : Nat) : X.Spec := fun args lk => match args with
 | [.v (.c (.int .i64 a1)), .v (.c (.int .i64 a2))] => some ⟨(planes_New_own N a1 a2).isSome = true, .tup [.agg [.cs [.int .i64 ((planes_New_own N a1 a2).getD default).1, .sl 0 0 ((planes_New_own N a1 a2).getD default).2.1 1, .sl 1 0 ((planes_New_own N a1 a2).getD default).2.2.1 1, .sl 2 0 ((planes_New_own N a1 a2).getD default).2.2.2.1 1]], .c (.int .i64 ((planes_New_own N a1 a2).getD default).2.2.2.2.1)], [.mem true 5 (some 0) (.flat [.ints ((planes_New_own N a1 a2).getD default).2.2.2.2.2.1 .u8 ((planes_New_own N a1 a2).getD default).2.2.2.2.2.2.1]), .mem true 5 (some 0) (.flat [.ints ((planes_New_own N a1 a2).getD default).2.2.2.2.2.2.2.1 .u8 ((planes_New_own N a1 a2).getD default).2.2.2.2.2.2.2.2.1]), .mem true 5 (some 0) (.flat [.ints ((planes_New_own N a1 a2).getD default).2.2.2.2.2.2.2.2.2.1 .u8 ((planes_New_own N a1 a2).getD default).2.2.2.2.2.2.2.2.2.2])], []⟩
 | _ => none
set_option maxRecDepth 100000 in
set_option maxHeartbeats 1000000 in
theorem ok_planes_New_own (N : Nat) : FnOK Tryd.prog gt0 94 (sp_planes_New_own N) := by
 refine fnOK_handed Tryd.func94 rfl (by kernel_rfl) ttC_ok (ktCons (ok_rep N) (ktCons (ok_whole_Clip N) (ktCons (ok_formats_Plane N) (ktCons (ok_formats_Size N) (ktNil))))) ?_
 intro args lk r h hp
 unfold sp_planes_New_own at h
 split at h
 ·
  rename_i a1 a2
  cases h
  obtain ⟨x, hx⟩ := Option.isSome_iff_exists.1 hp
  simp only [hx, Option.getD_some]
  refine hand0 rfl rfl (fun w0 M ε0 hX => ?_)
  refine rCount (fun hε => ?_)
  have hT : planes_New_own N a1 a2 = some x := hx; clear hx hp; unfold planes_New_own at hT
  refine rSeq ?_
  refine zReg md0 hX rfl rfl rfl ?_
  refine rThen ?_
  refine rSeq ?_
  refine rSeq ?_
  let c1 := (formats_Size N a1)
  replace hT := sIf hT; obtain ⟨o1, hT⟩ := hT
  refine zReg md0 hX rfl rfl rfl ?_
  refine rThen ?_
  refine rSeq ?_
  refine zReg md0 hX rfl rfl rfl ?_
  refine rThen ?_
  refine zCond rfl rfl (fun hc => ?_) (fun hc => ?_)
  ·
   replace hT := sT hc hT
   refine rSeq ?_
   refine zReg md0 hX rfl rfl rfl ?_
   refine rThen ?_
   refine rRet ?_
   refine rThenRet ?_
   refine rNilQ 5 1 (.flat [.ints 0 .u8 []]) [(4, .v (.c (.ptr 0 0 0 0 0 0))), (5, .v (.c (.int .i64 1)))] [(0, .mem true 62 none (.flat [.cs [.int .i64 0, .sl 1 0 0 1, .val (.slice none 0 0), .val (.slice none 0 0)]]))] (nil_ints _) (by (repeat' first | exact True.intro | exact rfl | apply And.intro) <;> first | assumption | rfl) (by (repeat' first | exact True.intro | exact rfl | apply And.intro) <;> first | assumption | rfl) ?_
   refine rNilQ 5 1 (.flat [.ints 0 .u8 []]) [(4, .v (.c (.ptr 0 0 0 0 0 0))), (5, .v (.c (.int .i64 1)))] [(0, .mem true 62 none (.flat [.cs [.int .i64 0, .sl 1 0 0 1, .sl 2 0 0 1, .val (.slice none 0 0)]])), (1, .mem true 5 (some 1) (.flat [.ints 0 .u8 []]))] (nil_ints _) (by (repeat' first | exact True.intro | exact rfl | apply And.intro) <;> first | assumption | rfl) (by (repeat' first | exact True.intro | exact rfl | apply And.intro) <;> first | assumption | rfl) ?_
   refine rNilQ 5 1 (.flat [.ints 0 .u8 []]) [(4, .v (.c (.ptr 0 0 0 0 0 0))), (5, .v (.c (.int .i64 1)))] [(0, .mem true 62 none (.flat [.cs [.int .i64 0, .sl 1 0 0 1, .sl 2 0 0 1, .sl 3 0 0 1]])), (1, .mem true 5 (some 1) (.flat [.ints 0 .u8 []])), (2, .mem true 5 (some 1) (.flat [.ints 0 .u8 []]))] (nil_ints _) (by (repeat' first | exact True.intro | exact rfl | apply And.intro) <;> first | assumption | rfl) (by (repeat' first | exact True.intro | exact rfl | apply And.intro) <;> first | assumption | rfl) ?_
   refine rTail0Q 1 rfl rfl ?_
   refine rTail0Q 2 rfl rfl ?_
   refine rTail0Q 3 rfl rfl ?_
   have hy := Option.some.inj hT; subst hy
   exact rEndA [1, 2, 3] [.mem true 5 (some 0) (.flat [.ints 0 .u8 []]), .mem true 5 (some 0) (.flat [.ints 0 .u8 []]), .mem true 5 (some 0) (.flat [.ints 0 .u8 []])] [] (.tup [.agg [.cs [.int .i64 0, .sl 1 0 0 1, .sl 2 0 0 1, .sl 3 0 0 1]], .c (.int .i64 1)]) hX rfl (by repeat' first | exact True.intro | exact rfl | apply And.intro | omega | exact Nat.le_of_ble_eq_true rfl) (by repeat' first | exact True.intro | exact rfl | apply And.intro) rfl rfl rfl (by repeat' first | exact True.intro | exact rfl | exact ⟨_, rfl, rfl⟩ | apply And.intro | exact Or.inl rfl) rfl rfl (by repeat' first | exact True.intro | exact rfl | exact ⟨_, rfl, rfl⟩ | apply And.intro | exact Or.inl rfl) rfl rfl
  ·
   replace hT := sF hc hT
   refine rSkip ?_
   refine rThen ?_
   refine rSeq ?_
   refine zReg md0 hX rfl rfl rfl ?_
   refine rThen ?_
   refine rSeq ?_
   refine rSeq ?_
   refine zReg md0 hX rfl rfl rfl ?_
   refine rThen ?_
   refine rBlock ?_
   refine rRounds 24 ?_
   refine rSeq ?_
   refine zReg md0 hX rfl rfl rfl ?_
   refine rThen ?_
   refine rSeq ?_
   refine rCondT rfl rfl (by (repeat' first | exact True.intro | with_reducible assumption | (with_reducible apply And.intro) | intro _) <;> first | assumption | exact rfl | omega | exact Nat.le_of_ble_eq_true rfl | exact selF (by assumption) | exact selT (by assumption) | exact And.intro rfl rfl | exact And.intro (by assumption) rfl | exact And.intro (by omega) rfl | (simp only [inK] at *; omega) | (simp_all [sel] <;> fail) | fail) rfl ?_
   refine rSkip ?_
   refine rThen ?_
   refine rSeq ?_
   refine rBlock ?_
   refine rSeq ?_
   refine zReg md0 hX rfl rfl rfl ?_
   refine rThen ?_
   refine rSeq ?_
   let c2 := (formats_Plane N a1 0)
   replace hT := sIf hT; obtain ⟨o1, hT⟩ := hT
   refine zReg md0 hX rfl rfl rfl ?_
   refine rThen ?_
   let c3 := (whole_Clip N a2 0 255)
   let c4 := (rep N 1 ((c2.getD default).1 * (c2.getD default).2) ((List.replicate 1 0).set 0 (c3.getD default)))
   replace hT := sIf hT; obtain ⟨⟨o1, o2, o3, o4⟩, hT⟩ := hT
   refine zReg md0 hX rfl rfl rfl ?_
   refine rInNormal ?_
   refine rThen ?_
   refine zReg md0 hX rfl rfl rfl ?_
   refine rRound ?_
   refine rSeq ?_
   refine zReg md0 hX rfl rfl rfl ?_
   refine rThen ?_
   refine rSeq ?_
   refine rCondT rfl rfl (by (repeat' first | exact True.intro | with_reducible assumption | (with_reducible apply And.intro) | intro _) <;> first | assumption | exact rfl | omega | exact Nat.le_of_ble_eq_true rfl | exact selF (by assumption) | exact selT (by assumption) | exact And.intro rfl rfl | exact And.intro (by assumption) rfl | exact And.intro (by omega) rfl | (simp only [inK] at *; omega) | (simp_all [sel] <;> fail) | fail) rfl ?_
   refine rSkip ?_
   refine rThen ?_
   refine rSeq ?_
   refine rBlock ?_
   refine rSeq ?_
   refine zReg md0 hX rfl rfl rfl ?_
   refine rThen ?_
   refine rSeq ?_
   let c5 := (formats_Plane N a1 1)
   replace hT := sIf hT; obtain ⟨o1, hT⟩ := hT
   refine zReg md0 hX rfl rfl rfl ?_
   refine rThen ?_
   let c6 := (whole_Clip N a2 0 255)
   let c7 := (rep N 1 ((c5.getD default).1 * (c5.getD default).2) ((List.replicate 1 0).set 0 (c6.getD default)))
   replace hT := sIf hT; obtain ⟨⟨o1, o2, o3, o4⟩, hT⟩ := hT
   refine zReg md0 hX rfl rfl rfl ?_
   refine rInNormal ?_
   refine rThen ?_
   refine zReg md0 hX rfl rfl rfl ?_
   refine rRound ?_
   refine rSeq ?_
   refine zReg md0 hX rfl rfl rfl ?_
   refine rThen ?_
   refine rSeq ?_
   refine rCondT rfl rfl (by (repeat' first | exact True.intro | with_reducible assumption | (with_reducible apply And.intro) | intro _) <;> first | assumption | exact rfl | omega | exact Nat.le_of_ble_eq_true rfl | exact selF (by assumption) | exact selT (by assumption) | exact And.intro rfl rfl | exact And.intro (by assumption) rfl | exact And.intro (by omega) rfl | (simp only [inK] at *; omega) | (simp_all [sel] <;> fail) | fail) rfl ?_
   refine rSkip ?_
   refine rThen ?_
   refine rSeq ?_
   refine rBlock ?_
   refine rSeq ?_
   refine zReg md0 hX rfl rfl rfl ?_
   refine rThen ?_
   refine rSeq ?_
   let c8 := (formats_Plane N a1 2)
   replace hT := sIf hT; obtain ⟨o1, hT⟩ := hT
   refine zReg md0 hX rfl rfl rfl ?_
   refine rThen ?_
   let c9 := (whole_Clip N a2 0 255)
   let c10 := (rep N 1 ((c8.getD default).1 * (c8.getD default).2) ((List.replicate 1 0).set 0 (c9.getD default)))
   replace hT := sIf hT; obtain ⟨⟨o1, o2, o3, o4⟩, hT⟩ := hT
   refine zReg md0 hX rfl rfl rfl ?_
   refine rInNormal ?_
   refine rThen ?_
   refine zReg md0 hX rfl rfl rfl ?_
   refine rRound ?_
   refine rSeq ?_
   refine zReg md0 hX rfl rfl rfl ?_
   refine rThen ?_
   refine rSeq ?_
   refine rCondF rfl rfl (by (repeat' first | exact True.intro | with_reducible assumption | (with_reducible apply And.intro) | intro _) <;> first | assumption | exact rfl | omega | exact Nat.le_of_ble_eq_true rfl | exact selF (by assumption) | exact selT (by assumption) | exact And.intro rfl rfl | exact And.intro (by assumption) rfl | exact And.intro (by omega) rfl | (simp only [inK] at *; omega) | (simp_all [sel] <;> fail) | fail) rfl ?_
   refine rExit ?_
   refine rThenExit ?_
   refine rThenExit ?_
   refine rInHit ?_
   refine rThen ?_
   refine rSeq ?_
   refine zReg md0 hX rfl rfl rfl ?_
   refine rThen ?_
   refine rRet ?_
   have hy := Option.some.inj hT; subst hy
   exact rEndA [3, 5, 7] [.mem true 5 (some 0) (.flat [.ints (c4.getD default).2.1 .u8 (c4.getD default).2.2]), .mem true 5 (some 0) (.flat [.ints (c7.getD default).2.1 .u8 (c7.getD default).2.2]), .mem true 5 (some 0) (.flat [.ints (c10.getD default).2.1 .u8 (c10.getD default).2.2])] [] (.tup [.agg [.cs [.int .i64 a1, .sl 3 0 (c4.getD default).1 1, .sl 5 0 (c7.getD default).1 1, .sl 7 0 (c10.getD default).1 1]], .c (.int .i64 0)]) hX rfl (by repeat' first | exact True.intro | exact rfl | apply And.intro | omega | exact Nat.le_of_ble_eq_true rfl) (by repeat' first | exact True.intro | exact rfl | apply And.intro) rfl rfl rfl (by repeat' first | exact True.intro | exact rfl | exact ⟨_, rfl, rfl⟩ | apply And.intro | exact Or.inl rfl) rfl rfl (by repeat' first | exact True.intro | exact rfl | exact ⟨_, rfl, rfl⟩ | apply And.intro | exact Or.inl rfl) rfl rfl
 ·
  cases h
def stores_Add_b1 (N : Nat) (a2 : (List (List Int))) (a4 : (List (List Int))) (c3 : (Option (Int × Nat × Nat × Nat × Int × Nat × (List Int) × Nat × (List Int) × Nat × (List Int)))) (s3 : (Int × Bool × (List Int))) : Option ((Int × Bool × (List Int)) ⊕ (Int × Bool × (List Int))) :=
 bif (decide (s3.1 < ((a2.getD 2 []).length : Int))) then
  if (0 : Int) ≤ s3.1 ∧ s3.1 < ((a2.getD 2 []).length : Int) then
   let c4 := (whole_Clip N (((a2.getD 2 []).getD (s3.1).toNat 0) + ((a4.getD 2 []).getD (s3.1).toNat 0)) 0 255)
   if inK .i64 ((a2.getD 2 []).getD (s3.1).toNat 0) ∧ (0 : Int) ≤ s3.1 ∧ s3.1 < ((a4.getD 2 []).length : Int) ∧ inK .i64 (((a2.getD 2 []).getD (s3.1).toNat 0) + ((a4.getD 2 []).getD (s3.1).toNat 0)) ∧ c4.isSome = true ∧ inK .u8 (c4.getD default) ∧ s3.1 < ((c3.getD default).2.2.2.1 : Int) ∧ (s3.1).toNat < (c3.getD default).2.2.2.2.2.2.2.2.2.1 then
    if inK .i64 (s3.1 + 1) then
     some (.inl ((s3.1 + 1), (decide (s3.1 < ((a2.getD 2 []).length : Int))), (s3.2.2.set (s3.1).toNat (c4.getD default))))
    else none
   else none
  else none
 else
  some (.inr (s3.1, (decide (s3.1 < ((a2.getD 2 []).length : Int))), s3.2.2))
def stores_Add_b2 (N : Nat) (a2 : (List (List Int))) (a4 : (List (List Int))) (c3 : (Option (Int × Nat × Nat × Nat × Int × Nat × (List Int) × Nat × (List Int) × Nat × (List Int)))) (s2 : (Int × Bool × (List Int))) : Option ((Int × Bool × (List Int)) ⊕ (Int × Bool × (List Int))) :=
 bif (decide (s2.1 < ((a2.getD 1 []).length : Int))) then
  if (0 : Int) ≤ s2.1 ∧ s2.1 < ((a2.getD 1 []).length : Int) then
   let c5 := (whole_Clip N (((a2.getD 1 []).getD (s2.1).toNat 0) + ((a4.getD 1 []).getD (s2.1).toNat 0)) 0 255)
   if inK .i64 ((a2.getD 1 []).getD (s2.1).toNat 0) ∧ (0 : Int) ≤ s2.1 ∧ s2.1 < ((a4.getD 1 []).length : Int) ∧ inK .i64 (((a2.getD 1 []).getD (s2.1).toNat 0) + ((a4.getD 1 []).getD (s2.1).toNat 0)) ∧ c5.isSome = true ∧ inK .u8 (c5.getD default) ∧ s2.1 < ((c3.getD default).2.2.1 : Int) ∧ (s2.1).toNat < (c3.getD default).2.2.2.2.2.2.2.1 then
    if inK .i64 (s2.1 + 1) then
     some (.inl ((s2.1 + 1), (decide (s2.1 < ((a2.getD 1 []).length : Int))), (s2.2.2.set (s2.1).toNat (c5.getD default))))
    else none
   else none
  else none
 else
  some (.inr (s2.1, (decide (s2.1 < ((a2.getD 1 []).length : Int))), s2.2.2))
def stores_Add_b3 (N : Nat) (a2 : (List (List Int))) (a4 : (List (List Int))) (c3 : (Option (Int × Nat × Nat × Nat × Int × Nat × (List Int) × Nat × (List Int) × Nat × (List Int)))) (s1 : (Int × (List Int))) : Option ((Int × (List Int)) ⊕ (Int × Bool × (List Int))) :=
 bif (decide (s1.1 < ((a2.getD 0 []).length : Int))) then
  if (0 : Int) ≤ s1.1 ∧ s1.1 < ((a2.getD 0 []).length : Int) then
   let c6 := (whole_Clip N (((a2.getD 0 []).getD (s1.1).toNat 0) + ((a4.getD 0 []).getD (s1.1).toNat 0)) 0 255)
   if inK .i64 ((a2.getD 0 []).getD (s1.1).toNat 0) ∧ (0 : Int) ≤ s1.1 ∧ s1.1 < ((a4.getD 0 []).length : Int) ∧ inK .i64 (((a2.getD 0 []).getD (s1.1).toNat 0) + ((a4.getD 0 []).getD (s1.1).toNat 0)) ∧ c6.isSome = true ∧ inK .u8 (c6.getD default) ∧ s1.1 < ((c3.getD default).2.1 : Int) ∧ (s1.1).toNat < (c3.getD default).2.2.2.2.2.1 then
    if inK .i64 (s1.1 + 1) then
     some (.inl ((s1.1 + 1), (s1.2.set (s1.1).toNat (c6.getD default))))
    else none
   else none
  else none
 else
  some (.inr (s1.1, (decide (s1.1 < ((a2.getD 0 []).length : Int))), s1.2))
def stores_Add (N : Nat) (a1 : Int) (a2 : (List (List Int))) (a3 : Int) (a4 : (List (List Int))) : Option (Int × (List (List Int)) × Int) :=
 let c1 := (planes_Right N a1 a2)
 let c2 := (stores_Right N a3 a4)
 let x1 := (bif (bif (!(c1.getD default)) then true else (!(c2.getD default))) then true else (decide (a1 ≠ a3)))
 if c1.isSome = true ∧ ((!(!(c1.getD default))) = true → c2.isSome = true) then
  bif x1 then
   some (0, [[], [], []], 1)
  else
   let c3 := (planes_New_own N a1 0)
   if c3.isSome = true then
    (iter (stores_Add_b3 N a2 a4 c3) N (0, (c3.getD default).2.2.2.2.2.2.1)).bind fun v1 =>
     (iter (stores_Add_b2 N a2 a4 c3) N (0, v1.2.1, (c3.getD default).2.2.2.2.2.2.2.2.1)).bind fun v2 =>
      (iter (stores_Add_b1 N a2 a4 c3) N (0, v2.2.1, (c3.getD default).2.2.2.2.2.2.2.2.2.2)).bind fun v3 =>
       if (c3.getD default).2.1 = v1.2.2.length ∧ (c3.getD default).2.2.1 = v2.2.2.length ∧ (c3.getD default).2.2.2.1 = v3.2.2.length then
        some ((c3.getD default).1, [v1.2.2, v2.2.2, v3.2.2], 0)
       else none
   else none
 else none
def sp_stores_Add (N : Nat) : X.Spec := fun args lk => match args with
 | [.v (.agg [.cs [.int .i64 a1], .fzs 3 (.int .u8) a2]), .v (.agg [.cs [.int .i64 a3], .fzs 3 (.int .i64) a4])] => some ⟨(stores_Add N a1 a2 a3 a4).isSome = true, .tup [.agg [.cs [.int .i64 ((stores_Add N a1 a2 a3 a4).getD default).1], .fzs 3 (.int .u8) ((stores_Add N a1 a2 a3 a4).getD default).2.1], .c (.int .i64 ((stores_Add N a1 a2 a3 a4).getD default).2.2)], [], []⟩
 | _ => none
set_option maxRecDepth 100000 in
set_option maxHeartbeats 1000000 in
theorem ok_stores_Add (N : Nat) : FnOK Tryd.prog gt0 138 (sp_stores_Add N) := by
 refine fnOK_handed Tryd.func138 rfl (by kernel_rfl) ttC_ok (ktCons (ok_whole_Clip N) (ktCons (ok_planes_New_own N) (ktCons (ok_stores_Right N) (ktCons (ok_planes_Right N) (ktNil))))) ?_
 intro args lk r h hp
 unfold sp_stores_Add at h
 split at h
 ·
  rename_i a1 a2 a3 a4
  change (List (List Int)) at a2
  change (List (List Int)) at a4
  cases h
  obtain ⟨x, hx⟩ := Option.isSome_iff_exists.1 hp
  simp only [hx, Option.getD_some]
  refine hand0 rfl rfl (fun w0 M ε0 hX => ?_)
  refine rCount (fun hε => ?_)
  have hT : stores_Add N a1 a2 a3 a4 = some x := hx; clear hx hp; unfold stores_Add at hT
  refine rSeq ?_
  refine zReg md0 hX rfl rfl rfl ?_
  refine rThen ?_
  refine rSeq ?_
  refine rSeq ?_
  let c1 := (planes_Right N a1 a2)
  let c2 := (stores_Right N a3 a4)
  let x1 := (bif (bif (!(c1.getD default)) then true else (!(c2.getD default))) then true else (decide (a1 ≠ a3)))
  replace hT := sIf hT; obtain ⟨⟨o1, o2⟩, hT⟩ := hT
  refine rRegC md0 hX rfl rfl rfl (by (repeat' first | exact True.intro | with_reducible assumption | (with_reducible apply And.intro) | intro _) <;> first | assumption | exact o2 (by assumption) | exact rfl | omega | exact Nat.le_of_ble_eq_true rfl | exact selF (by assumption) | exact selT (by assumption) | exact And.intro rfl rfl | exact And.intro (by assumption) rfl | exact And.intro (by omega) rfl | (simp only [inK] at *; omega) | (simp_all [sel] <;> fail) | fail) ?_
  refine rThen ?_
  refine zCond rfl rfl (fun hc => ?_) (fun hc => ?_)
  ·
   replace hT := sT hc hT
   refine rSeq ?_
   refine zReg md0 hX rfl rfl rfl ?_
   refine rThen ?_
   refine rRet ?_
   refine rThenRet ?_
   refine rPackNE 2 (.int .u8) rfl rfl ?_
   have hy := Option.some.inj hT; subst hy
   exact zEnd0 hX rfl
  ·
   replace hT := sF hc hT
   refine rSkip ?_
   refine rThen ?_
   refine rSeq ?_
   let c3 := (planes_New_own N a1 0)
   replace hT := sIf hT; obtain ⟨o1, hT⟩ := hT
   refine zReg md0 hX rfl rfl rfl ?_
   refine rThen ?_
   refine rSeq ?_
   refine rSeq ?_
   refine zReg md0 hX rfl rfl rfl ?_
   refine rThen ?_
   refine rBlock ?_
   refine rRounds 24 ?_
   refine rSeq ?_
   refine zReg md0 hX rfl rfl rfl ?_
   refine rThen ?_
   refine rSeq ?_
   refine rCondT rfl rfl (by (repeat' first | exact True.intro | with_reducible assumption | (with_reducible apply And.intro) | intro _) <;> first | assumption | exact rfl | omega | exact Nat.le_of_ble_eq_true rfl | exact selF (by assumption) | exact selT (by assumption) | exact And.intro rfl rfl | exact And.intro (by assumption) rfl | exact And.intro (by omega) rfl | (simp only [inK] at *; omega) | (simp_all [sel] <;> fail) | fail) rfl ?_
   refine rSkip ?_
   refine rThen ?_
   refine rSeq ?_
   refine rBlock ?_
   refine rSeq ?_
   refine zReg md0 hX rfl rfl rfl ?_
   refine rThen ?_
   refine rSeq ?_
   refine zReg md0 hX rfl rfl rfl ?_
   refine rThen ?_
   refine rBlock ?_
   replace hT := sBind hT; obtain ⟨w1, hl, hT⟩ := hT
   refine rJoinA (fun v1 => v1 = w1) (fun v1 => ⟨[(3, .v (.c (.ptr 1 0 0 0 0 0))), (4, .v (.c (.ptr 2 0 0 0 0 0))), (5, .v (.c (.int .i64 0))), (6, .v (.c (.ptr 6 0 0 0 0 0))), (8, .v (.c (.int .i64 0))), (9, .v (.c (.fz (.int .u8) (a2.getD 0 [])))), (35, .v (.agg [.fzs 3 (.int .u8) a2])), (36, .v (.c (.int .i64 0))), (37, .v (.c (.bool true))), (38, .v (.c (.int .i64 0))), (39, .v (.c (.fz (.int .u8) (a2.getD 0 [])))), (40, .v (.c (.fz (.int .u8) (a2.getD 0 [])))), (41, .v (.c (.int .i64 ((a2.getD 0 []).length : Int)))), (42, .v (.c (.int .i64 v1.1))), (43, .v (.c (.bool v1.2.1)))], [(1, .mem true 76 none (.flat [.cs [.int .i64 a3], .fzs 3 (.int .i64) a4])), (2, .mem true 62 none (.flat [.cs [.int .i64 0, .val (.slice none 0 0), .val (.slice none 0 0), .val (.slice none 0 0)]])), (3, .mem true 5 (some 0) (.flat [.ints (c3.getD default).2.2.2.2.2.1 .u8 v1.2.2])), (4, .mem true 5 (some 0) (.flat [.ints (c3.getD default).2.2.2.2.2.2.2.1 .u8 (c3.getD default).2.2.2.2.2.2.2.2.1])), (5, .mem true 5 (some 0) (.flat [.ints (c3.getD default).2.2.2.2.2.2.2.2.2.1 .u8 (c3.getD default).2.2.2.2.2.2.2.2.2.2])), (6, .mem true 62 none (.flat [.cs [.int .i64 (c3.getD default).1, .sl 3 0 (c3.getD default).2.1 1, .sl 4 0 (c3.getD default).2.2.1 1, .sl 5 0 (c3.getD default).2.2.2.1 1]]))], 7⟩) (.exit 2) (fun v1 hv => ?_) (fun hxs10 => ?_)
   ·
    subst hv; clear hl
    refine rInHit ?_
    refine rInNormal ?_
    refine rThen ?_
    refine zReg md0 hX rfl rfl rfl ?_
    refine rRound ?_
    refine rSeq ?_
    refine zReg md0 hX rfl rfl rfl ?_
    refine rThen ?_
    refine rSeq ?_
    refine rCondT rfl rfl (by (repeat' first | exact True.intro | with_reducible assumption | (with_reducible apply And.intro) | intro _) <;> first | assumption | exact rfl | omega | exact Nat.le_of_ble_eq_true rfl | exact selF (by assumption) | exact selT (by assumption) | exact And.intro rfl rfl | exact And.intro (by assumption) rfl | exact And.intro (by omega) rfl | (simp only [inK] at *; omega) | (simp_all [sel] <;> fail) | fail) rfl ?_
    refine rSkip ?_
    refine rThen ?_
    refine rSeq ?_
    refine rBlock ?_
    refine rSeq ?_
    refine zReg md0 hX rfl rfl rfl ?_
    refine rThen ?_
    refine rSeq ?_
    refine zReg md0 hX rfl rfl rfl ?_
    refine rThen ?_
    refine rBlock ?_
    replace hT := sBind hT; obtain ⟨w2, hl, hT⟩ := hT
    refine rJoinA (fun v2 => v2 = w2) (fun v2 => ⟨[(3, .v (.c (.ptr 1 0 0 0 0 0))), (4, .v (.c (.ptr 2 0 0 0 0 0))), (5, .v (.c (.int .i64 0))), (6, .v (.c (.ptr 6 0 0 0 0 0))), (8, .v (.c (.int .i64 1))), (9, .v (.c (.fz (.int .u8) (a2.getD 1 [])))), (35, .v (.agg [.fzs 3 (.int .u8) a2])), (36, .v (.c (.int .i64 1))), (37, .v (.c (.bool true))), (38, .v (.c (.int .i64 1))), (39, .v (.c (.fz (.int .u8) (a2.getD 1 [])))), (40, .v (.c (.fz (.int .u8) (a2.getD 1 [])))), (41, .v (.c (.int .i64 ((a2.getD 1 []).length : Int)))), (42, .v (.c (.int .i64 v2.1))), (43, .v (.c (.bool v2.2.1))), (66, .v (.c (.int .i64 1)))], [(1, .mem true 76 none (.flat [.cs [.int .i64 a3], .fzs 3 (.int .i64) a4])), (2, .mem true 62 none (.flat [.cs [.int .i64 0, .val (.slice none 0 0), .val (.slice none 0 0), .val (.slice none 0 0)]])), (3, .mem true 5 (some 0) (.flat [.ints (c3.getD default).2.2.2.2.2.1 .u8 v1.2.2])), (4, .mem true 5 (some 0) (.flat [.ints (c3.getD default).2.2.2.2.2.2.2.1 .u8 v2.2.2])), (5, .mem true 5 (some 0) (.flat [.ints (c3.getD default).2.2.2.2.2.2.2.2.2.1 .u8 (c3.getD default).2.2.2.2.2.2.2.2.2.2])), (6, .mem true 62 none (.flat [.cs [.int .i64 (c3.getD default).1, .sl 3 0 (c3.getD default).2.1 1, .sl 4 0 (c3.getD default).2.2.1 1, .sl 5 0 (c3.getD default).2.2.2.1 1]]))], 7⟩) (.exit 2) (fun v2 hv => ?_) (fun hxs20 => ?_)
    ·
     subst hv; clear hl
     refine rInHit ?_
     refine rInNormal ?_
     refine rThen ?_
     refine zReg md0 hX rfl rfl rfl ?_
     refine rRound ?_
     refine rSeq ?_
     refine zReg md0 hX rfl rfl rfl ?_
     refine rThen ?_
     refine rSeq ?_
     refine rCondT rfl rfl (by (repeat' first | exact True.intro | with_reducible assumption | (with_reducible apply And.intro) | intro _) <;> first | assumption | exact rfl | omega | exact Nat.le_of_ble_eq_true rfl | exact selF (by assumption) | exact selT (by assumption) | exact And.intro rfl rfl | exact And.intro (by assumption) rfl | exact And.intro (by omega) rfl | (simp only [inK] at *; omega) | (simp_all [sel] <;> fail) | fail) rfl ?_
     refine rSkip ?_
     refine rThen ?_
     refine rSeq ?_
     refine rBlock ?_
     refine rSeq ?_
     refine zReg md0 hX rfl rfl rfl ?_
     refine rThen ?_
     refine rSeq ?_
     refine zReg md0 hX rfl rfl rfl ?_
     refine rThen ?_
     refine rBlock ?_
     replace hT := sBind hT; obtain ⟨w3, hl, hT⟩ := hT
     refine rJoinA (fun v3 => v3 = w3) (fun v3 => ⟨[(3, .v (.c (.ptr 1 0 0 0 0 0))), (4, .v (.c (.ptr 2 0 0 0 0 0))), (5, .v (.c (.int .i64 0))), (6, .v (.c (.ptr 6 0 0 0 0 0))), (8, .v (.c (.int .i64 2))), (9, .v (.c (.fz (.int .u8) (a2.getD 2 [])))), (35, .v (.agg [.fzs 3 (.int .u8) a2])), (36, .v (.c (.int .i64 2))), (37, .v (.c (.bool true))), (38, .v (.c (.int .i64 2))), (39, .v (.c (.fz (.int .u8) (a2.getD 2 [])))), (40, .v (.c (.fz (.int .u8) (a2.getD 2 [])))), (41, .v (.c (.int .i64 ((a2.getD 2 []).length : Int)))), (42, .v (.c (.int .i64 v3.1))), (43, .v (.c (.bool v3.2.1))), (66, .v (.c (.int .i64 2)))], [(1, .mem true 76 none (.flat [.cs [.int .i64 a3], .fzs 3 (.int .i64) a4])), (2, .mem true 62 none (.flat [.cs [.int .i64 0, .val (.slice none 0 0), .val (.slice none 0 0), .val (.slice none 0 0)]])), (3, .mem true 5 (some 0) (.flat [.ints (c3.getD default).2.2.2.2.2.1 .u8 v1.2.2])), (4, .mem true 5 (some 0) (.flat [.ints (c3.getD default).2.2.2.2.2.2.2.1 .u8 v2.2.2])), (5, .mem true 5 (some 0) (.flat [.ints (c3.getD default).2.2.2.2.2.2.2.2.2.1 .u8 v3.2.2])), (6, .mem true 62 none (.flat [.cs [.int .i64 (c3.getD default).1, .sl 3 0 (c3.getD default).2.1 1, .sl 4 0 (c3.getD default).2.2.1 1, .sl 5 0 (c3.getD default).2.2.2.1 1]]))], 7⟩) (.exit 2) (fun v3 hv => ?_) (fun hxs30 => ?_)
     ·
      subst hv; clear hl
      refine rInHit ?_
      refine rInNormal ?_
      refine rThen ?_
      refine zReg md0 hX rfl rfl rfl ?_
      refine rRound ?_
      refine rSeq ?_
      refine zReg md0 hX rfl rfl rfl ?_
      refine rThen ?_
      refine rSeq ?_
      refine rCondF rfl rfl (by (repeat' first | exact True.intro | with_reducible assumption | (with_reducible apply And.intro) | intro _) <;> first | assumption | exact rfl | omega | exact Nat.le_of_ble_eq_true rfl | exact selF (by assumption) | exact selT (by assumption) | exact And.intro rfl rfl | exact And.intro (by assumption) rfl | exact And.intro (by omega) rfl | (simp only [inK] at *; omega) | (simp_all [sel] <;> fail) | fail) rfl ?_
      refine rExit ?_
      refine rThenExit ?_
      refine rThenExit ?_
      refine rInHit ?_
      refine rThen ?_
      refine rSeq ?_
      refine zReg md0 hX rfl rfl rfl ?_
      refine rThen ?_
      refine rRet ?_
      replace hT := sIf hT; obtain ⟨⟨p1, p2, p3⟩, hT⟩ := hT
      refine rFreezeQ 3 (.int .u8) v1.2.2 [(4, .v (.c (.ptr 2 0 0 0 0 0))), (5, .v (.c (.int .i64 0)))] [(2, .mem true 62 none (.flat [.cs [.int .i64 (c3.getD default).1, .fz (.int .u8) v1.2.2, .sl 4 0 (c3.getD default).2.2.1 1, .sl 5 0 (c3.getD default).2.2.2.1 1]])), (4, .mem true 5 (some 0) (.flat [.ints (c3.getD default).2.2.2.2.2.2.2.1 .u8 v2.2.2])), (5, .mem true 5 (some 0) (.flat [.ints (c3.getD default).2.2.2.2.2.2.2.2.2.1 .u8 v3.2.2]))] rfl rfl (by (repeat' first | exact True.intro | exact rfl | apply And.intro) <;> first | assumption | rfl) (by (repeat' first | exact True.intro | exact rfl | apply And.intro) <;> first | assumption | rfl) ?_
      refine rFreezeQ 4 (.int .u8) v2.2.2 [(4, .v (.c (.ptr 2 0 0 0 0 0))), (5, .v (.c (.int .i64 0)))] [(2, .mem true 62 none (.flat [.cs [.int .i64 (c3.getD default).1, .fz (.int .u8) v1.2.2, .fz (.int .u8) v2.2.2, .sl 5 0 (c3.getD default).2.2.2.1 1]])), (5, .mem true 5 (some 0) (.flat [.ints (c3.getD default).2.2.2.2.2.2.2.2.2.1 .u8 v3.2.2]))] rfl rfl (by (repeat' first | exact True.intro | exact rfl | apply And.intro) <;> first | assumption | rfl) (by (repeat' first | exact True.intro | exact rfl | apply And.intro) <;> first | assumption | rfl) ?_
      refine rFreezeQ 5 (.int .u8) v3.2.2 [(4, .v (.c (.ptr 2 0 0 0 0 0))), (5, .v (.c (.int .i64 0)))] [(2, .mem true 62 none (.flat [.cs [.int .i64 (c3.getD default).1, .fz (.int .u8) v1.2.2, .fz (.int .u8) v2.2.2, .fz (.int .u8) v3.2.2]]))] rfl rfl (by (repeat' first | exact True.intro | exact rfl | apply And.intro) <;> first | assumption | rfl) (by (repeat' first | exact True.intro | exact rfl | apply And.intro) <;> first | assumption | rfl) ?_
      refine rPackE 2 rfl rfl ?_
      have hy := Option.some.inj hT; subst hy
      exact zEnd0 hX rfl
     refine rLoopM (stores_Add_b1 N a2 a4 c3) (fun s3 => ⟨[(3, .v (.c (.ptr 1 0 0 0 0 0))), (4, .v (.c (.ptr 2 0 0 0 0 0))), (5, .v (.c (.int .i64 0))), (6, .v (.c (.ptr 6 0 0 0 0 0))), (8, .v (.c (.int .i64 2))), (9, .v (.c (.fz (.int .u8) (a2.getD 2 [])))), (35, .v (.agg [.fzs 3 (.int .u8) a2])), (36, .v (.c (.int .i64 2))), (37, .v (.c (.bool true))), (38, .v (.c (.int .i64 2))), (39, .v (.c (.fz (.int .u8) (a2.getD 2 [])))), (40, .v (.c (.fz (.int .u8) (a2.getD 2 [])))), (41, .v (.c (.int .i64 ((a2.getD 2 []).length : Int)))), (42, .v (.c (.int .i64 s3.1))), (43, .v (.c (.bool s3.2.1))), (66, .v (.c (.int .i64 2)))], [(1, .mem true 76 none (.flat [.cs [.int .i64 a3], .fzs 3 (.int .i64) a4])), (2, .mem true 62 none (.flat [.cs [.int .i64 0, .val (.slice none 0 0), .val (.slice none 0 0), .val (.slice none 0 0)]])), (3, .mem true 5 (some 0) (.flat [.ints (c3.getD default).2.2.2.2.2.1 .u8 v1.2.2])), (4, .mem true 5 (some 0) (.flat [.ints (c3.getD default).2.2.2.2.2.2.2.1 .u8 v2.2.2])), (5, .mem true 5 (some 0) (.flat [.ints (c3.getD default).2.2.2.2.2.2.2.2.2.1 .u8 s3.2.2])), (6, .mem true 62 none (.flat [.cs [.int .i64 (c3.getD default).1, .sl 3 0 (c3.getD default).2.1 1, .sl 4 0 (c3.getD default).2.2.1 1, .sl 5 0 (c3.getD default).2.2.2.1 1]]))], 7⟩) hl (To.mk' [] 0 hε rfl (by repeat' first | exact True.intro | exact rfl | apply And.intro) (by repeat' first | exact True.intro | exact rfl | apply And.intro)) (fun s3 zs3 NNs3 hz hnexts3 houts3 => ?_)
     clear hl hT
     have hT := hz; clear hz
     refine rSeq ?_
     refine zReg md0 hX rfl rfl rfl ?_
     refine rThen ?_
     refine rSeq ?_
     refine zCond rfl rfl (fun hc => ?_) (fun hc => ?_)
     ·
      replace hT := sT hc hT
      refine rSkip ?_
      refine rThen ?_
      refine rSeq ?_
      refine rBlock ?_
      refine rSeq ?_
      replace hT := sIf hT; obtain ⟨⟨o1, o2⟩, hT⟩ := hT
      refine zReg md0 hX rfl rfl rfl ?_
      refine rThen ?_
      let c4 := (whole_Clip N (((a2.getD 2 []).getD (s3.1).toNat 0) + ((a4.getD 2 []).getD (s3.1).toNat 0)) 0 255)
      replace hT := sIf hT; obtain ⟨⟨o1, o2, o3, o4, o5, o6, o7, o8⟩, hT⟩ := hT
      refine zDraw md0 1 [18] hX mixed rfl rfl rfl rfl rfl ?_
      refine rInNormal ?_
      refine rThen ?_
      replace hT := sIf hT; obtain ⟨o1, hT⟩ := hT
      refine zReg md0 hX rfl rfl rfl ?_
      exact hnexts3 _ (Option.some.inj hT).symm _ (To.mk' [] 0 hε rfl (by repeat' first | exact True.intro | exact rfl | apply And.intro) (by repeat' first | exact True.intro | exact rfl | apply And.intro))
     ·
      replace hT := sF hc hT
      refine rExit ?_
      refine rThenExit ?_
      refine rThenExit ?_
      exact zTo [] 0 hε (hxs30 _ (houts3 _ (Option.some.inj hT).symm))
    refine rLoopM (stores_Add_b2 N a2 a4 c3) (fun s2 => ⟨[(3, .v (.c (.ptr 1 0 0 0 0 0))), (4, .v (.c (.ptr 2 0 0 0 0 0))), (5, .v (.c (.int .i64 0))), (6, .v (.c (.ptr 6 0 0 0 0 0))), (8, .v (.c (.int .i64 1))), (9, .v (.c (.fz (.int .u8) (a2.getD 1 [])))), (35, .v (.agg [.fzs 3 (.int .u8) a2])), (36, .v (.c (.int .i64 1))), (37, .v (.c (.bool true))), (38, .v (.c (.int .i64 1))), (39, .v (.c (.fz (.int .u8) (a2.getD 1 [])))), (40, .v (.c (.fz (.int .u8) (a2.getD 1 [])))), (41, .v (.c (.int .i64 ((a2.getD 1 []).length : Int)))), (42, .v (.c (.int .i64 s2.1))), (43, .v (.c (.bool s2.2.1))), (66, .v (.c (.int .i64 1)))], [(1, .mem true 76 none (.flat [.cs [.int .i64 a3], .fzs 3 (.int .i64) a4])), (2, .mem true 62 none (.flat [.cs [.int .i64 0, .val (.slice none 0 0), .val (.slice none 0 0), .val (.slice none 0 0)]])), (3, .mem true 5 (some 0) (.flat [.ints (c3.getD default).2.2.2.2.2.1 .u8 v1.2.2])), (4, .mem true 5 (some 0) (.flat [.ints (c3.getD default).2.2.2.2.2.2.2.1 .u8 s2.2.2])), (5, .mem true 5 (some 0) (.flat [.ints (c3.getD default).2.2.2.2.2.2.2.2.2.1 .u8 (c3.getD default).2.2.2.2.2.2.2.2.2.2])), (6, .mem true 62 none (.flat [.cs [.int .i64 (c3.getD default).1, .sl 3 0 (c3.getD default).2.1 1, .sl 4 0 (c3.getD default).2.2.1 1, .sl 5 0 (c3.getD default).2.2.2.1 1]]))], 7⟩) hl (To.mk' [] 0 hε rfl (by repeat' first | exact True.intro | exact rfl | apply And.intro) (by repeat' first | exact True.intro | exact rfl | apply And.intro)) (fun s2 zs2 NNs2 hz hnexts2 houts2 => ?_)
    clear hl hT
    have hT := hz; clear hz
    refine rSeq ?_
    refine zReg md0 hX rfl rfl rfl ?_
    refine rThen ?_
    refine rSeq ?_
    refine zCond rfl rfl (fun hc => ?_) (fun hc => ?_)
    ·
     replace hT := sT hc hT
     refine rSkip ?_
     refine rThen ?_
     refine rSeq ?_
     refine rBlock ?_
     refine rSeq ?_
     replace hT := sIf hT; obtain ⟨⟨o1, o2⟩, hT⟩ := hT
     refine zReg md0 hX rfl rfl rfl ?_
     refine rThen ?_
     let c5 := (whole_Clip N (((a2.getD 1 []).getD (s2.1).toNat 0) + ((a4.getD 1 []).getD (s2.1).toNat 0)) 0 255)
     replace hT := sIf hT; obtain ⟨⟨o1, o2, o3, o4, o5, o6, o7, o8⟩, hT⟩ := hT
     refine zDraw md0 1 [18] hX mixed rfl rfl rfl rfl rfl ?_
     refine rInNormal ?_
     refine rThen ?_
     replace hT := sIf hT; obtain ⟨o1, hT⟩ := hT
     refine zReg md0 hX rfl rfl rfl ?_
     exact hnexts2 _ (Option.some.inj hT).symm _ (To.mk' [] 0 hε rfl (by repeat' first | exact True.intro | exact rfl | apply And.intro) (by repeat' first | exact True.intro | exact rfl | apply And.intro))
    ·
     replace hT := sF hc hT
     refine rExit ?_
     refine rThenExit ?_
     refine rThenExit ?_
     exact zTo [] 0 hε (hxs20 _ (houts2 _ (Option.some.inj hT).symm))
   refine rLoopM (stores_Add_b3 N a2 a4 c3) (fun s1 => ⟨[(3, .v (.c (.ptr 1 0 0 0 0 0))), (4, .v (.c (.ptr 2 0 0 0 0 0))), (5, .v (.c (.int .i64 0))), (6, .v (.c (.ptr 6 0 0 0 0 0))), (8, .v (.c (.int .i64 0))), (9, .v (.c (.fz (.int .u8) (a2.getD 0 [])))), (35, .v (.agg [.fzs 3 (.int .u8) a2])), (36, .v (.c (.int .i64 0))), (37, .v (.c (.bool true))), (38, .v (.c (.int .i64 0))), (39, .v (.c (.fz (.int .u8) (a2.getD 0 [])))), (40, .v (.c (.fz (.int .u8) (a2.getD 0 [])))), (41, .v (.c (.int .i64 ((a2.getD 0 []).length : Int)))), (42, .v (.c (.int .i64 s1.1)))], [(1, .mem true 76 none (.flat [.cs [.int .i64 a3], .fzs 3 (.int .i64) a4])), (2, .mem true 62 none (.flat [.cs [.int .i64 0, .val (.slice none 0 0), .val (.slice none 0 0), .val (.slice none 0 0)]])), (3, .mem true 5 (some 0) (.flat [.ints (c3.getD default).2.2.2.2.2.1 .u8 s1.2])), (4, .mem true 5 (some 0) (.flat [.ints (c3.getD default).2.2.2.2.2.2.2.1 .u8 (c3.getD default).2.2.2.2.2.2.2.2.1])), (5, .mem true 5 (some 0) (.flat [.ints (c3.getD default).2.2.2.2.2.2.2.2.2.1 .u8 (c3.getD default).2.2.2.2.2.2.2.2.2.2])), (6, .mem true 62 none (.flat [.cs [.int .i64 (c3.getD default).1, .sl 3 0 (c3.getD default).2.1 1, .sl 4 0 (c3.getD default).2.2.1 1, .sl 5 0 (c3.getD default).2.2.2.1 1]]))], 7⟩) hl (To.mk' [] 0 hε rfl (by repeat' first | exact True.intro | exact rfl | apply And.intro) (by repeat' first | exact True.intro | exact rfl | apply And.intro)) (fun s1 zs1 NNs1 hz hnexts1 houts1 => ?_)
   clear hl hT
   have hT := hz; clear hz
   refine rSeq ?_
   refine zReg md0 hX rfl rfl rfl ?_
   refine rThen ?_
   refine rSeq ?_
   refine zCond rfl rfl (fun hc => ?_) (fun hc => ?_)
   ·
    replace hT := sT hc hT
    refine rSkip ?_
    refine rThen ?_
    refine rSeq ?_
    refine rBlock ?_
    refine rSeq ?_
    replace hT := sIf hT; obtain ⟨⟨o1, o2⟩, hT⟩ := hT
    refine zReg md0 hX rfl rfl rfl ?_
    refine rThen ?_
    let c6 := (whole_Clip N (((a2.getD 0 []).getD (s1.1).toNat 0) + ((a4.getD 0 []).getD (s1.1).toNat 0)) 0 255)
    replace hT := sIf hT; obtain ⟨⟨o1, o2, o3, o4, o5, o6, o7, o8⟩, hT⟩ := hT
    refine zDraw md0 1 [18] hX mixed rfl rfl rfl rfl rfl ?_
    refine rInNormal ?_
    refine rThen ?_
    replace hT := sIf hT; obtain ⟨o1, hT⟩ := hT
    refine zReg md0 hX rfl rfl rfl ?_
    exact hnexts1 _ (Option.some.inj hT).symm _ (To.mk' [] 0 hε rfl (by repeat' first | exact True.intro | exact rfl | apply And.intro) (by repeat' first | exact True.intro | exact rfl | apply And.intro))
   ·
    replace hT := sF hc hT
    refine rExit ?_
    refine rThenExit ?_
    refine rThenExit ?_
    exact zTo [] 0 hε (hxs10 _ (houts1 _ (Option.some.inj hT).symm))
 ·
  cases h
def formats_Cells (N : Nat) (a1 : Int) : Option (Int × Int) :=
 let c1 := (formats_Size N a1)
 if c1.isSome = true then
  if (0 : Int) ≤ (c1.getD default).1 ∧ (0 : Int) ≤ (c1.getD default).2.1 then
   some (((c1.getD default).1 / 16), ((c1.getD default).2.1 / 16))
  else none
 else none
def sp_formats_Cells (N : Nat) : X.Spec := fun args lk => match args with
 | [.v (.c (.int .i64 a1))] => some ⟨(formats_Cells N a1).isSome = true, .tup [.c (.int .i64 ((formats_Cells N a1).getD default).1), .c (.int .i64 ((formats_Cells N a1).getD default).2)], [], []⟩
 | _ => none
set_option maxRecDepth 100000 in
set_option maxHeartbeats 1000000 in
theorem ok_formats_Cells (N : Nat) : FnOK Tryd.prog gt0 129 (sp_formats_Cells N) := by
 refine fnOK_handed Tryd.func129 rfl (by kernel_rfl) tt_ok (ktCons (ok_formats_Size N) (ktNil)) ?_
 intro args lk r h hp
 unfold sp_formats_Cells at h
 split at h
 ·
  rename_i a1
  cases h
  obtain ⟨x, hx⟩ := Option.isSome_iff_exists.1 hp
  simp only [hx, Option.getD_some]
  refine hand0 rfl rfl (fun w0 M ε0 hX => ?_)
  refine rCount (fun hε => ?_)
  have hT : formats_Cells N a1 = some x := hx; clear hx hp; unfold formats_Cells at hT
  refine rSeq ?_
  refine zReg md0 hX rfl rfl rfl ?_
  refine rThen ?_
  refine rSeq ?_
  let c1 := (formats_Size N a1)
  replace hT := sIf hT; obtain ⟨o1, hT⟩ := hT
  refine zReg md0 hX rfl rfl rfl ?_
  refine rThen ?_
  refine rSeq ?_
  replace hT := sIf hT; obtain ⟨⟨o1, o2⟩, hT⟩ := hT
  refine zReg md0 hX rfl rfl rfl ?_
  refine rThen ?_
  refine rRet ?_
  have hy := Option.some.inj hT; subst hy
  exact zEnd0 hX rfl
 ·
  cases h
def motion_within (N : Nat) (a1 : Int) (a2 : Int) (a3 : Int) : Option Bool :=
 if ((decide ((0 : Int) ≤ a1)) = true → inK .i64 (a1 + 1)) ∧ ((decide ((0 : Int) ≤ a1)) = true → (0 : Int) ≤ (a1 + 1)) ∧ ((decide ((0 : Int) ≤ a1)) = true → inK .i64 (((a1 + 1) / 2) + a2)) then
  some (bif (decide ((0 : Int) ≤ a1)) then (decide ((((a1 + 1) / 2) + a2) ≤ a3)) else false)
 else none
def sp_motion_within (N : Nat) : X.Spec := fun args lk => match args with
 | [.v (.c (.int .i64 a1)), .v (.c (.int .i64 a2)), .v (.c (.int .i64 a3))] => some ⟨(motion_within N a1 a2 a3).isSome = true, .v (.c (.bool ((motion_within N a1 a2 a3).getD default))), [], []⟩
 | _ => none
set_option maxRecDepth 100000 in
set_option maxHeartbeats 1000000 in
theorem ok_motion_within (N : Nat) : FnOK Tryd.prog gt0 152 (sp_motion_within N) := by
 refine fnOK_handed Tryd.func152 rfl (by kernel_rfl) tt_ok (ktNil) ?_
 intro args lk r h hp
 unfold sp_motion_within at h
 split at h
 ·
  rename_i a1 a2 a3
  cases h
  obtain ⟨x, hx⟩ := Option.isSome_iff_exists.1 hp
  simp only [hx, Option.getD_some]
  refine hand0 rfl rfl (fun w0 M ε0 hX => ?_)
  refine rCount (fun hε => ?_)
  have hT : motion_within N a1 a2 a3 = some x := hx; clear hx hp; unfold motion_within at hT
  refine rSeq ?_
  refine zReg md0 hX rfl rfl rfl ?_
  refine rThen ?_
  refine rSeq ?_
  replace hT := sIf hT; obtain ⟨⟨o1, o2, o3⟩, hT⟩ := hT
  refine rRegC md0 hX rfl rfl rfl (by (repeat' first | exact True.intro | with_reducible assumption | (with_reducible apply And.intro) | intro _) <;> first | assumption | exact o1 (by assumption) | exact o2 (by assumption) | exact o3 (by assumption) | exact rfl | omega | exact Nat.le_of_ble_eq_true rfl | exact selF (by assumption) | exact selT (by assumption) | exact And.intro rfl rfl | exact And.intro (by assumption) rfl | exact And.intro (by omega) rfl | (simp only [inK] at *; omega) | (simp_all [sel] <;> fail) | fail) ?_
  refine rThen ?_
  refine rRet ?_
  have hy := Option.some.inj hT; subst hy
  exact zEnd0 hX rfl
 ·
  cases h
def motion_May_b1 (N : Nat) (a3 : (List Int)) (s1 : Int) : Option (Int ⊕ (Unit ⊕ Unit)) :=
 bif (decide (s1 < 2)) then
  if (0 : Int) ≤ s1 ∧ s1 < 2 ∧ (s1).toNat < 2 then
   let x2 := (bif (decide ((a3.getD (s1).toNat 0) < (-32))) then true else (decide ((31 : Int) < (a3.getD (s1).toNat 0))))
   bif x2 then
    some (.inr (Sum.inl ()))
   else
    if inK .i64 (s1 + 1) then
     some (.inl (s1 + 1))
    else none
  else none
 else
  some (.inr (Sum.inr ()))
def motion_May (N : Nat) (a1 : Int) (a2 : Int) (a3 : (List Int)) : Option Bool :=
 let c1 := (formats_Cells N a1)
 if c1.isSome = true then
  let c2 := (formats_Size N a1)
  if c2.isSome = true then
   let x1 := (bif (bif (!(c2.getD default).2.2) then true else (decide (a2 < 0))) then true else (decide (((c1.getD default).1 * (c1.getD default).2) ≤ a2)))
   if ((!(bif (!(c2.getD default).2.2) then true else (decide (a2 < 0)))) = true → inK .i64 ((c1.getD default).1 * (c1.getD default).2)) then
    bif x1 then
     some false
    else
     (iter (motion_May_b1 N a3) N 0).bind fun w1 =>
      (Sum.elim (fun v1 =>
       some false
      )
       (fun v2 =>
        let c3 := (motion_within N (((32 : Int) * (a2 % (c1.getD default).1)) + (a3.getD 0 0)) 16 (c2.getD default).1)
        let c4 := (motion_within N (((32 : Int) * (a2 / (c1.getD default).1)) + (a3.getD 1 0)) 16 (c2.getD default).2.1)
        if (0 : Int) ≤ a2 ∧ (0 : Int) < (c1.getD default).1 ∧ inK .i64 ((32 : Int) * (a2 % (c1.getD default).1)) ∧ inK .i64 (((32 : Int) * (a2 % (c1.getD default).1)) + (a3.getD 0 0)) ∧ c3.isSome = true ∧ ((c3.getD default) = true → (0 : Int) ≤ a2) ∧ ((c3.getD default) = true → (0 : Int) < (c1.getD default).1) ∧ ((c3.getD default) = true → inK .i64 ((32 : Int) * (a2 / (c1.getD default).1))) ∧ ((c3.getD default) = true → inK .i64 (((32 : Int) * (a2 / (c1.getD default).1)) + (a3.getD 1 0))) ∧ ((c3.getD default) = true → c4.isSome = true) then
         some (bif (c3.getD default) then (c4.getD default) else false)
        else none
       )
      ) w1
   else none
  else none
 else none
def sp_motion_May (N : Nat) : X.Spec := fun args lk => match args with
 | [.v (.c (.int .i64 a1)), .v (.c (.int .i64 a2)), .v (.agg [.ints 2 .i64 a3])] => some ⟨(motion_May N a1 a2 a3).isSome = true, .v (.c (.bool ((motion_May N a1 a2 a3).getD default))), [], []⟩
 | _ => none
set_option maxRecDepth 100000 in
set_option maxHeartbeats 1000000 in
theorem ok_motion_May (N : Nat) : FnOK Tryd.prog gt0 130 (sp_motion_May N) := by
 refine fnOK_handed Tryd.func130 rfl (by kernel_rfl) tt_ok (ktCons (ok_motion_within N) (ktCons (ok_formats_Size N) (ktCons (ok_formats_Cells N) (ktNil)))) ?_
 intro args lk r h hp
 unfold sp_motion_May at h
 split at h
 ·
  rename_i a1 a2 a3
  change (List Int) at a3
  cases h
  obtain ⟨x, hx⟩ := Option.isSome_iff_exists.1 hp
  simp only [hx, Option.getD_some]
  refine hand0 rfl rfl (fun w0 M ε0 hX => ?_)
  refine rCount (fun hε => ?_)
  have hT : motion_May N a1 a2 a3 = some x := hx; clear hx hp; unfold motion_May at hT
  refine rSeq ?_
  refine zReg md0 hX rfl rfl rfl ?_
  refine rThen ?_
  refine rSeq ?_
  let c1 := (formats_Cells N a1)
  replace hT := sIf hT; obtain ⟨o1, hT⟩ := hT
  refine zReg md0 hX rfl rfl rfl ?_
  refine rThen ?_
  refine rSeq ?_
  let c2 := (formats_Size N a1)
  replace hT := sIf hT; obtain ⟨o1, hT⟩ := hT
  refine zReg md0 hX rfl rfl rfl ?_
  refine rThen ?_
  refine rSeq ?_
  refine rSeq ?_
  let x1 := (bif (bif (!(c2.getD default).2.2) then true else (decide (a2 < 0))) then true else (decide (((c1.getD default).1 * (c1.getD default).2) ≤ a2)))
  replace hT := sIf hT; obtain ⟨o1, hT⟩ := hT
  refine rRegC md0 hX rfl rfl rfl (by (repeat' first | exact True.intro | with_reducible assumption | (with_reducible apply And.intro) | intro _) <;> first | assumption | exact o1 (by assumption) | exact rfl | omega | exact Nat.le_of_ble_eq_true rfl | exact selF (by assumption) | exact selT (by assumption) | exact And.intro rfl rfl | exact And.intro (by assumption) rfl | exact And.intro (by omega) rfl | (simp only [inK] at *; omega) | (simp_all [sel] <;> fail) | fail) ?_
  refine rThen ?_
  refine zCond rfl rfl (fun hc => ?_) (fun hc => ?_)
  ·
   replace hT := sT hc hT
   refine rSeq ?_
   refine zReg md0 hX rfl rfl rfl ?_
   refine rThen ?_
   refine rRet ?_
   refine rThenRet ?_
   have hy := Option.some.inj hT; subst hy
   exact zEnd0 hX rfl
  ·
   replace hT := sF hc hT
   refine rSkip ?_
   refine rThen ?_
   refine rSeq ?_
   refine rSeq ?_
   refine zReg md0 hX rfl rfl rfl ?_
   refine rThen ?_
   refine rBlock ?_
   replace hT := sBind hT; obtain ⟨w1, hl, hT⟩ := hT
   refine rJoinA (fun v1 => (Sum.inl v1) = w1) (fun v1 => ⟨[(6, .v (.c (.bool false)))], [], 1⟩) .ret (fun v1 hv => ?_) (fun hxs10 => ?_)
   ·
    subst hv; clear hl; replace hT := (sElimL hT)
    refine rInRet ?_
    refine rThenRet ?_
    have hy := Option.some.inj hT; subst hy
    exact zEnd0 hX rfl
   refine rJoinA (fun v2 => (Sum.inr v2) = w1) (fun v2 => ⟨[(1, .v (.c (.int .i64 a2))), (5, .v (.c (.ptr 0 0 0 0 0 0))), (6, .v (.c (.bool false))), (7, .v (.c (.int .i64 (c1.getD default).1))), (9, .v (.c (.int .i64 (c2.getD default).1))), (10, .v (.c (.int .i64 (c2.getD default).2.1)))], [(0, .mem true 32 none (.flat [.ints 2 .i64 a3]))], 1⟩) (.exit 0) (fun v2 hv => ?_) (fun hxs11 => ?_)
   ·
    subst hv; clear hl; replace hT := (sElimR hT)
    refine rInHit ?_
    refine rThen ?_
    refine rSeq ?_
    let c3 := (motion_within N (((32 : Int) * (a2 % (c1.getD default).1)) + (a3.getD 0 0)) 16 (c2.getD default).1)
    let c4 := (motion_within N (((32 : Int) * (a2 / (c1.getD default).1)) + (a3.getD 1 0)) 16 (c2.getD default).2.1)
    replace hT := sIf hT; obtain ⟨⟨o1, o2, o3, o4, o5, o6, o7, o8, o9, o10⟩, hT⟩ := hT
    refine rDrawM md0 0 [] hX mixed rfl rfl rfl rfl rfl (by (repeat' first | exact True.intro | with_reducible assumption | (with_reducible apply And.intro) | intro _) <;> first | assumption | exact o6 (by assumption) | exact o7 (by assumption) | exact o8 (by assumption) | exact o9 (by assumption) | exact o10 (by assumption) | exact rfl | omega | exact Nat.le_of_ble_eq_true rfl | exact selF (by assumption) | exact selT (by assumption) | exact And.intro rfl rfl | exact And.intro (by assumption) rfl | exact And.intro (by omega) rfl | (simp only [inK] at *; omega) | (simp_all [sel] <;> fail) | fail) ?_
    refine rThen ?_
    refine rRet ?_
    have hy := Option.some.inj hT; subst hy
    exact zEnd0 hX rfl
   refine rLoopM (motion_May_b1 N a3) (fun s1 => ⟨[(1, .v (.c (.int .i64 a2))), (5, .v (.c (.ptr 0 0 0 0 0 0))), (6, .v (.c (.bool false))), (7, .v (.c (.int .i64 (c1.getD default).1))), (9, .v (.c (.int .i64 (c2.getD default).1))), (10, .v (.c (.int .i64 (c2.getD default).2.1))), (38, .v (.agg [.ints 2 .i64 a3])), (39, .v (.c (.int .i64 s1)))], [(0, .mem true 32 none (.flat [.ints 2 .i64 a3]))], 1⟩) hl (To.mk' [] 0 hε rfl (by repeat' first | exact True.intro | exact rfl | apply And.intro) (by repeat' first | exact True.intro | exact rfl | apply And.intro)) (fun s1 zs1 NNs1 hz hnexts1 houts1 => ?_)
   clear hl hT
   have hT := hz; clear hz
   refine rSeq ?_
   refine zReg md0 hX rfl rfl rfl ?_
   refine rThen ?_
   refine rSeq ?_
   refine zCond rfl rfl (fun hc => ?_) (fun hc => ?_)
   ·
    replace hT := sT hc hT
    refine rSkip ?_
    refine rThen ?_
    refine rSeq ?_
    refine rBlock ?_
    refine rSeq ?_
    replace hT := sIf hT; obtain ⟨⟨o1, o2, o3⟩, hT⟩ := hT
    refine zReg md0 hX rfl rfl rfl ?_
    refine rThen ?_
    refine rSeq ?_
    let x2 := (bif (decide ((a3.getD (s1).toNat 0) < (-32))) then true else (decide ((31 : Int) < (a3.getD (s1).toNat 0))))
    refine zReg md0 hX rfl rfl rfl ?_
    refine rThen ?_
    refine zCond rfl rfl (fun hc => ?_) (fun hc => ?_)
    ·
     replace hT := sT hc hT
     refine rSeq ?_
     refine zReg md0 hX rfl rfl rfl ?_
     refine rThen ?_
     refine rRet ?_
     refine rInRet ?_
     refine rThenRet ?_
     refine rThenRet ?_
     exact zTo [] 0 hε (hxs10 _ (houts1 _ (Option.some.inj hT).symm))
    ·
     replace hT := sF hc hT
     refine rSkip ?_
     refine rInNormal ?_
     refine rThen ?_
     replace hT := sIf hT; obtain ⟨o1, hT⟩ := hT
     refine zReg md0 hX rfl rfl rfl ?_
     exact hnexts1 _ (Option.some.inj hT).symm _ (To.mk' [] 0 hε rfl (by repeat' first | exact True.intro | exact rfl | apply And.intro) (by repeat' first | exact True.intro | exact rfl | apply And.intro))
   ·
    replace hT := sF hc hT
    refine rExit ?_
    refine rThenExit ?_
    refine rThenExit ?_
    exact zTo [] 0 hε (hxs11 _ (houts1 _ (Option.some.inj hT).symm))
 ·
  cases h
def motion_halves (N : Nat) (a1 : (List Int)) (a2 : Int) : Option ((List Int) × Int) :=
 some (a1, a2)
def sp_motion_halves (N : Nat) : X.Spec := fun args lk => match args with
 | [.v (.c (.fz (.int .u8) a1)), .v (.c (.int .i64 a2))] => some ⟨(motion_halves N a1 a2).isSome = true, .v (.c (.clo 154 [0])), [.mem true 90 none (.flat [.cs [.clo 153 [1, 2]]]), .mem true 59 none (.flat [.cs [.fz (.int .u8) ((motion_halves N a1 a2).getD default).1]]), .mem true 3 none (.flat [.cs [.int .i64 ((motion_halves N a1 a2).getD default).2]])], []⟩
 | _ => none
set_option maxRecDepth 100000 in
set_option maxHeartbeats 1000000 in
theorem ok_motion_halves (N : Nat) : FnOK Tryd.prog gt0 131 (sp_motion_halves N) := by
 refine fnOK_handed Tryd.func131 rfl (by kernel_rfl) tt_ok (ktNil) ?_
 intro args lk r h hp
 unfold sp_motion_halves at h
 split at h
 ·
  rename_i a1 a2
  change (List Int) at a1
  cases h
  obtain ⟨x, hx⟩ := Option.isSome_iff_exists.1 hp
  simp only [hx, Option.getD_some]
  refine hand0 rfl rfl (fun w0 M ε0 hX => ?_)
  refine rCount (fun hε => ?_)
  have hT : motion_halves N a1 a2 = some x := hx; clear hx hp; unfold motion_halves at hT
  refine rSeq ?_
  refine zReg md0 hX rfl rfl rfl ?_
  refine rThen ?_
  refine rSeq ?_
  refine zReg md0 hX rfl rfl rfl ?_
  refine rThen ?_
  refine rSeq ?_
  refine zReg md0 hX rfl rfl rfl ?_
  refine rThen ?_
  refine rRet ?_
  have hy := Option.some.inj hT; subst hy
  exact rEndA [2, 0, 1] [.mem true 90 none (.flat [.cs [.clo 153 [0, 1]]]), .mem true 59 none (.flat [.cs [.fz (.int .u8) a1]]), .mem true 3 none (.flat [.cs [.int .i64 a2]])] [] (.v (.c (.clo 154 [2]))) hX rfl (by repeat' first | exact True.intro | exact rfl | apply And.intro | omega | exact Nat.le_of_ble_eq_true rfl) (by repeat' first | exact True.intro | exact rfl | apply And.intro) rfl rfl rfl (by repeat' first | exact True.intro | exact rfl | exact ⟨_, rfl, rfl⟩ | apply And.intro | exact Or.inl rfl) rfl rfl (by repeat' first | exact True.intro | exact rfl | exact ⟨_, rfl, rfl⟩ | apply And.intro | exact Or.inl rfl) rfl rfl
 ·
  cases h
def motion_halves_1 (N : Nat) (a1 : Int) (a2 : Int) (a3 : (List Int)) (a4 : Int) : Option Int :=
 if inK .i64 (a2 * a4) ∧ inK .i64 ((a2 * a4) + a1) ∧ (0 : Int) ≤ ((a2 * a4) + a1) ∧ ((a2 * a4) + a1) < (a3.length : Int) ∧ inK .i64 (a3.getD ((a2 * a4) + a1).toNat 0) then
  some (a3.getD ((a2 * a4) + a1).toNat 0)
 else none
def sp_motion_halves_1 (N : Nat) : X.Spec := fun args lk => match args with
 | [.v (.c (.int .i64 a1)), .v (.c (.int .i64 a2)), .v (.c (.ptr i0 0 0 0 0 0)), .v (.c (.ptr i1 0 0 0 0 0))] => (match lk i0 with
  | some (.mem _ _ _ (.flat [.cs [.fz (.int .u8) a3]])) => (match lk i1 with
  | some (.mem _ _ _ (.flat [.cs [.int .i64 a4]])) => some ⟨(motion_halves_1 N a1 a2 a3 a4).isSome = true, .v (.c (.int .i64 ((motion_halves_1 N a1 a2 a3 a4).getD default))), [], []⟩
  | _ => none)
  | _ => none)
 | _ => none
set_option maxRecDepth 100000 in
set_option maxHeartbeats 1000000 in
theorem ok_motion_halves_1 (N : Nat) : FnOK Tryd.prog gt0 153 (sp_motion_halves_1 N) := by
 refine fnOK_handed Tryd.func153 rfl (by kernel_rfl) tt_ok (ktNil) ?_
 intro args lk r h hp
 unfold sp_motion_halves_1 at h
 split at h
 ·
  rename_i a1 a2 i0 i1
  split at h
  ·
   rename_i _ _ _ a3 hl0
   split at h
   ·
    rename_i _ _ _ a4 hl1
    change (List Int) at a3
    cases h
    obtain ⟨x, hx⟩ := Option.isSome_iff_exists.1 hp
    simp only [hx, Option.getD_some]
    refine handL [i0, i1] 2 [(0, .mem false 59 none (.flat [.cs [.fz (.int .u8) a3]])), (1, .mem false 3 none (.flat [.cs [.int .i64 a4]]))] [.v (.c (.int .i64 a1)), .v (.c (.int .i64 a2)), .v (.c (.ptr 0 0 0 0 0 0)), .v (.c (.ptr 1 0 0 0 0 0))] rfl rfl rfl ⟨isSome_of hl1, isSome_of hl0, trivial⟩ ⟨⟨rfl, (by repeat' first | exact True.intro | exact rfl | exact ⟨_, rfl, rfl⟩ | apply And.intro | exact Or.inl rfl), _, hl0, sub_ro⟩, ⟨rfl, (by repeat' first | exact True.intro | exact rfl | exact ⟨_, rfl, rfl⟩ | apply And.intro | exact Or.inl rfl), _, hl1, sub_ro⟩, trivial⟩ rfl (fun w0 M ε0 hX => ?_)
    refine rCount (fun hε => ?_)
    have hT : motion_halves_1 N a1 a2 a3 a4 = some x := hx; clear hx hp; unfold motion_halves_1 at hT
    refine rSeq ?_
    refine zReg md0 hX rfl rfl rfl ?_
    refine rThen ?_
    refine rSeq ?_
    replace hT := sIf hT; obtain ⟨⟨o1, o2, o3, o4, o5⟩, hT⟩ := hT
    refine zReg md0 hX rfl rfl rfl ?_
    refine rThen ?_
    refine rRet ?_
    have hy := Option.some.inj hT; subst hy
    exact zEnd0 hX rfl
   ·
    cases h
  ·
   cases h
 ·
  cases h
def motion_halves_2 (N : Nat) (a1 : Int) (a2 : Int) (a3 : (List Int)) (a4 : Int) : Option Int :=
 if (0 : Int) ≤ a1 ∧ (0 : Int) ≤ a2 then
  if (0 : Int) ≤ a1 ∧ ((decide ((a1 % 2) = 0)) = true → (0 : Int) ≤ a2) then
   bif (bif (decide ((a1 % 2) = 0)) then (decide ((a2 % 2) = 0)) else false) then
    let c1 := (motion_halves_1 N (a1 / 2) (a2 / 2) a3 a4)
    if c1.isSome = true then
     some (c1.getD default)
    else none
   else
    if (0 : Int) ≤ a2 then
     bif (decide ((a2 % 2) = 0)) then
      let c2 := (motion_halves_1 N (a1 / 2) (a2 / 2) a3 a4)
      let c3 := (motion_halves_1 N ((a1 / 2) + 1) (a2 / 2) a3 a4)
      if c2.isSome = true ∧ inK .i64 ((a1 / 2) + 1) ∧ c3.isSome = true ∧ inK .i64 ((c2.getD default) + (c3.getD default)) ∧ inK .i64 (((c2.getD default) + (c3.getD default)) + 1) ∧ (0 : Int) ≤ (((c2.getD default) + (c3.getD default)) + 1) then
       some ((((c2.getD default) + (c3.getD default)) + 1) / 2)
      else none
     else
      if (0 : Int) ≤ a1 then
       bif (decide ((a1 % 2) = 0)) then
        let c4 := (motion_halves_1 N (a1 / 2) (a2 / 2) a3 a4)
        let c5 := (motion_halves_1 N (a1 / 2) ((a2 / 2) + 1) a3 a4)
        if c4.isSome = true ∧ inK .i64 ((a2 / 2) + 1) ∧ c5.isSome = true ∧ inK .i64 ((c4.getD default) + (c5.getD default)) ∧ inK .i64 (((c4.getD default) + (c5.getD default)) + 1) ∧ (0 : Int) ≤ (((c4.getD default) + (c5.getD default)) + 1) then
         some ((((c4.getD default) + (c5.getD default)) + 1) / 2)
        else none
       else
        let c6 := (motion_halves_1 N (a1 / 2) (a2 / 2) a3 a4)
        let c7 := (motion_halves_1 N ((a1 / 2) + 1) (a2 / 2) a3 a4)
        let c8 := (motion_halves_1 N (a1 / 2) ((a2 / 2) + 1) a3 a4)
        let c9 := (motion_halves_1 N ((a1 / 2) + 1) ((a2 / 2) + 1) a3 a4)
        let x1 := ((((((c6.getD default) + (c7.getD default)) + (c8.getD default)) + (c9.getD default)) + 2) / 4)
        if c6.isSome = true ∧ inK .i64 ((a1 / 2) + 1) ∧ c7.isSome = true ∧ inK .i64 ((c6.getD default) + (c7.getD default)) ∧ inK .i64 ((a2 / 2) + 1) ∧ c8.isSome = true ∧ inK .i64 (((c6.getD default) + (c7.getD default)) + (c8.getD default)) ∧ c9.isSome = true ∧ inK .i64 ((((c6.getD default) + (c7.getD default)) + (c8.getD default)) + (c9.getD default)) ∧ inK .i64 (((((c6.getD default) + (c7.getD default)) + (c8.getD default)) + (c9.getD default)) + 2) ∧ (0 : Int) ≤ (((((c6.getD default) + (c7.getD default)) + (c8.getD default)) + (c9.getD default)) + 2) then
         some x1
        else none
      else none
    else none
  else none
 else none
def sp_motion_halves_2 (N : Nat) : X.Spec := fun args lk => match args with
 | [.v (.c (.int .i64 a1)), .v (.c (.int .i64 a2)), .v (.c (.ptr i0 0 0 0 0 0))] => (match lk i0 with
  | some (.mem _ _ _ (.flat [.cs [.clo 153 [i1, i2]]])) => (match lk i1 with
  | some (.mem _ _ _ (.flat [.cs [.fz (.int .u8) a3]])) => (match lk i2 with
  | some (.mem _ _ _ (.flat [.cs [.int .i64 a4]])) => some ⟨(motion_halves_2 N a1 a2 a3 a4).isSome = true, .v (.c (.int .i64 ((motion_halves_2 N a1 a2 a3 a4).getD default))), [], []⟩
  | _ => none)
  | _ => none)
  | _ => none)
 | _ => none
set_option maxRecDepth 100000 in
set_option maxHeartbeats 1000000 in
theorem ok_motion_halves_2 (N : Nat) : FnOK Tryd.prog gt0 154 (sp_motion_halves_2 N) := by
 refine fnOK_handed Tryd.func154 rfl (by kernel_rfl) tt_ok (ktCons (ok_motion_halves_1 N) (ktNil)) ?_
 intro args lk r h hp
 unfold sp_motion_halves_2 at h
 split at h
 ·
  rename_i a1 a2 i0
  split at h
  ·
   rename_i _ _ _ i1 i2 hl0
   split at h
   ·
    rename_i _ _ _ a3 hl1
    split at h
    ·
     rename_i _ _ _ a4 hl2
     change (List Int) at a3
     cases h
     obtain ⟨x, hx⟩ := Option.isSome_iff_exists.1 hp
     simp only [hx, Option.getD_some]
     refine handL [i0, i1, i2] 3 [(0, .mem false 90 none (.flat [.cs [.clo 153 [1, 2]]])), (1, .mem false 59 none (.flat [.cs [.fz (.int .u8) a3]])), (2, .mem false 3 none (.flat [.cs [.int .i64 a4]]))] [.v (.c (.int .i64 a1)), .v (.c (.int .i64 a2)), .v (.c (.ptr 0 0 0 0 0 0))] rfl rfl rfl ⟨isSome_of hl2, isSome_of hl1, isSome_of hl0, trivial⟩ ⟨⟨rfl, (by repeat' first | exact True.intro | exact rfl | exact ⟨_, rfl, rfl⟩ | apply And.intro | exact Or.inl rfl), _, hl0, sub_ro⟩, ⟨rfl, (by repeat' first | exact True.intro | exact rfl | exact ⟨_, rfl, rfl⟩ | apply And.intro | exact Or.inl rfl), _, hl1, sub_ro⟩, ⟨rfl, (by repeat' first | exact True.intro | exact rfl | exact ⟨_, rfl, rfl⟩ | apply And.intro | exact Or.inl rfl), _, hl2, sub_ro⟩, trivial⟩ rfl (fun w0 M ε0 hX => ?_)
     refine rCount (fun hε => ?_)
     have hT : motion_halves_2 N a1 a2 a3 a4 = some x := hx; clear hx hp; unfold motion_halves_2 at hT
     refine rSeq ?_
     refine zReg md0 hX rfl rfl rfl ?_
     refine rThen ?_
     refine rSeq ?_
     replace hT := sIf hT; obtain ⟨⟨o1, o2⟩, hT⟩ := hT
     refine zReg md0 hX rfl rfl rfl ?_
     refine rThen ?_
     refine rSeq ?_
     refine rBlock ?_
     refine rSeq ?_
     replace hT := sIf hT; obtain ⟨⟨o1, o2⟩, hT⟩ := hT
     refine rRegC md0 hX rfl rfl rfl (by (repeat' first | exact True.intro | with_reducible assumption | (with_reducible apply And.intro) | intro _) <;> first | assumption | exact o2 (by assumption) | exact rfl | omega | exact Nat.le_of_ble_eq_true rfl | exact selF (by assumption) | exact selT (by assumption) | exact And.intro rfl rfl | exact And.intro (by assumption) rfl | exact And.intro (by omega) rfl | (simp only [inK] at *; omega) | (simp_all [sel] <;> fail) | fail) ?_
     refine rThen ?_
     refine zCond rfl rfl (fun hc => ?_) (fun hc => ?_)
     ·
      replace hT := sT hc hT
      refine rSeq ?_
      let c1 := (motion_halves_1 N (a1 / 2) (a2 / 2) a3 a4)
      replace hT := sIf hT; obtain ⟨o1, hT⟩ := hT
      refine zReg md0 hX rfl rfl rfl ?_
      refine rThen ?_
      refine rRet ?_
      refine rInRet ?_
      refine rThenRet ?_
      have hy := Option.some.inj hT; subst hy
      exact zEnd0 hX rfl
     ·
      replace hT := sF hc hT
      refine rSeq ?_
      replace hT := sIf hT; obtain ⟨o1, hT⟩ := hT
      refine zReg md0 hX rfl rfl rfl ?_
      refine rThen ?_
      refine zCond rfl rfl (fun hc => ?_) (fun hc => ?_)
      ·
       replace hT := sT hc hT
       refine rSeq ?_
       let c2 := (motion_halves_1 N (a1 / 2) (a2 / 2) a3 a4)
       let c3 := (motion_halves_1 N ((a1 / 2) + 1) (a2 / 2) a3 a4)
       replace hT := sIf hT; obtain ⟨⟨o1, o2, o3, o4, o5, o6⟩, hT⟩ := hT
       refine zDraw md0 0 [] hX mixed rfl rfl rfl rfl rfl ?_
       refine rThen ?_
       refine rRet ?_
       refine rInRet ?_
       refine rThenRet ?_
       have hy := Option.some.inj hT; subst hy
       exact zEnd0 hX rfl
      ·
       replace hT := sF hc hT
       refine rSeq ?_
       replace hT := sIf hT; obtain ⟨o1, hT⟩ := hT
       refine zReg md0 hX rfl rfl rfl ?_
       refine rThen ?_
       refine zCond rfl rfl (fun hc => ?_) (fun hc => ?_)
       ·
        replace hT := sT hc hT
        refine rSeq ?_
        let c4 := (motion_halves_1 N (a1 / 2) (a2 / 2) a3 a4)
        let c5 := (motion_halves_1 N (a1 / 2) ((a2 / 2) + 1) a3 a4)
        replace hT := sIf hT; obtain ⟨⟨o1, o2, o3, o4, o5, o6⟩, hT⟩ := hT
        refine zDraw md0 0 [] hX mixed rfl rfl rfl rfl rfl ?_
        refine rThen ?_
        refine rRet ?_
        refine rInRet ?_
        refine rThenRet ?_
        have hy := Option.some.inj hT; subst hy
        exact zEnd0 hX rfl
       ·
        replace hT := sF hc hT
        refine rSkip ?_
        refine rInNormal ?_
        refine rThen ?_
        refine rSeq ?_
        let c6 := (motion_halves_1 N (a1 / 2) (a2 / 2) a3 a4)
        let c7 := (motion_halves_1 N ((a1 / 2) + 1) (a2 / 2) a3 a4)
        let c8 := (motion_halves_1 N (a1 / 2) ((a2 / 2) + 1) a3 a4)
        let c9 := (motion_halves_1 N ((a1 / 2) + 1) ((a2 / 2) + 1) a3 a4)
        let x1 := ((((((c6.getD default) + (c7.getD default)) + (c8.getD default)) + (c9.getD default)) + 2) / 4)
        replace hT := sIf hT; obtain ⟨⟨o1, o2, o3, o4, o5, o6, o7, o8, o9, o10, o11⟩, hT⟩ := hT
        refine zDraw md0 0 [] hX mixed rfl rfl rfl rfl rfl ?_
        refine rThen ?_
        refine rRet ?_
        have hy := Option.some.inj hT; subst hy
        exact zEnd0 hX rfl
    ·
     cases h
   ·
    cases h
  ·
   cases h
 ·
  cases h
def motion_laid_halves_2_b1 (N : Nat) (a1 : Int) (a2 : Int) (a3 : (List Int)) (a4 : Int) (s1 : (Int × (List Int))) : Option ((Int × (List Int)) ⊕ (List Int)) :=
 bif (decide (s1.1 < 64)) then
  let c1 := (motion_halves_2 N (a1 + ((2 : Int) * (s1.1 % 8))) (a2 + ((2 : Int) * (s1.1 / 8))) a3 a4)
  if (0 : Int) ≤ s1.1 ∧ inK .i64 ((2 : Int) * (s1.1 % 8)) ∧ inK .i64 (a1 + ((2 : Int) * (s1.1 % 8))) ∧ inK .i64 ((2 : Int) * (s1.1 / 8)) ∧ inK .i64 (a2 + ((2 : Int) * (s1.1 / 8))) ∧ c1.isSome = true ∧ s1.1 < 64 ∧ (s1.1).toNat < 64 then
   if inK .i64 (s1.1 + 1) then
    some (.inl ((s1.1 + 1), (s1.2.set (s1.1).toNat (c1.getD default))))
   else none
  else none
 else
  some (.inr s1.2)
def motion_laid_halves_2 (N : Nat) (a1 : Int) (a2 : Int) (a3 : (List Int)) (a4 : Int) : Option (List Int) :=
 (iter (motion_laid_halves_2_b1 N a1 a2 a3 a4) N (0, (List.replicate 64 0))).bind fun v1 =>
  some v1
def sp_motion_laid_halves_2 (N : Nat) : X.Spec := fun args lk => match args with
 | [.v (.c (.clo 154 [i0])), .v (.c (.int .i64 a1)), .v (.c (.int .i64 a2))] => (match lk i0 with
  | some (.mem _ _ _ (.flat [.cs [.clo 153 [i1, i2]]])) => (match lk i1 with
  | some (.mem _ _ _ (.flat [.cs [.fz (.int .u8) a3]])) => (match lk i2 with
  | some (.mem _ _ _ (.flat [.cs [.int .i64 a4]])) => some ⟨(motion_laid_halves_2 N a1 a2 a3 a4).isSome = true, .v (.agg [.ints 64 .i64 ((motion_laid_halves_2 N a1 a2 a3 a4).getD default)]), [], []⟩
  | _ => none)
  | _ => none)
  | _ => none)
 | _ => none
set_option maxRecDepth 100000 in
set_option maxHeartbeats 1000000 in
theorem ok_motion_laid_halves_2 (N : Nat) : FnOK Tryd.prog gt0 132 (sp_motion_laid_halves_2 N) := by
 refine fnOK_handed Tryd.func132 rfl (by kernel_rfl) tt_ok (ktCons (ok_motion_halves_2 N) (ktNil)) ?_
 intro args lk r h hp
 unfold sp_motion_laid_halves_2 at h
 split at h
 ·
  rename_i i0 a1 a2
  split at h
  ·
   rename_i _ _ _ i1 i2 hl0
   split at h
   ·
    rename_i _ _ _ a3 hl1
    split at h
    ·
     rename_i _ _ _ a4 hl2
     change (List Int) at a3
     cases h
     obtain ⟨x, hx⟩ := Option.isSome_iff_exists.1 hp
     simp only [hx, Option.getD_some]
     refine handL [i0, i1, i2] 3 [(0, .mem false 90 none (.flat [.cs [.clo 153 [1, 2]]])), (1, .mem false 59 none (.flat [.cs [.fz (.int .u8) a3]])), (2, .mem false 3 none (.flat [.cs [.int .i64 a4]]))] [.v (.c (.clo 154 [0])), .v (.c (.int .i64 a1)), .v (.c (.int .i64 a2))] rfl rfl rfl ⟨isSome_of hl2, isSome_of hl1, isSome_of hl0, trivial⟩ ⟨⟨rfl, (by repeat' first | exact True.intro | exact rfl | exact ⟨_, rfl, rfl⟩ | apply And.intro | exact Or.inl rfl), _, hl0, sub_ro⟩, ⟨rfl, (by repeat' first | exact True.intro | exact rfl | exact ⟨_, rfl, rfl⟩ | apply And.intro | exact Or.inl rfl), _, hl1, sub_ro⟩, ⟨rfl, (by repeat' first | exact True.intro | exact rfl | exact ⟨_, rfl, rfl⟩ | apply And.intro | exact Or.inl rfl), _, hl2, sub_ro⟩, trivial⟩ rfl (fun w0 M ε0 hX => ?_)
     refine rCount (fun hε => ?_)
     have hT : motion_laid_halves_2 N a1 a2 a3 a4 = some x := hx; clear hx hp; unfold motion_laid_halves_2 at hT
     refine rSeq ?_
     refine zReg md0 hX rfl rfl rfl ?_
     refine rThen ?_
     refine rSeq ?_
     refine zReg md0 hX rfl rfl rfl ?_
     refine rThen ?_
     refine rSeq ?_
     refine rSeq ?_
     refine zReg md0 hX rfl rfl rfl ?_
     refine rThen ?_
     refine rBlock ?_
     replace hT := sBind hT; obtain ⟨w1, hl, hT⟩ := hT
     refine rJoinA (fun v1 => v1 = w1) (fun v1 => ⟨[(6, .v (.c (.ptr 3 0 0 0 0 0))), (7, .v (.c (.ptr 4 0 0 0 0 0)))], [(0, .mem false 90 none (.flat [.cs [.clo 153 [1, 2]]])), (1, .mem false 59 none (.flat [.cs [.fz (.int .u8) a3]])), (2, .mem false 3 none (.flat [.cs [.int .i64 a4]])), (3, .mem true 22 none (.flat [.ints 64 .i64 (List.replicate 64 0)])), (4, .mem true 22 none (.flat [.ints 64 .i64 v1]))], 5⟩) (.exit 0) (fun v1 hv => ?_) (fun hxs10 => ?_)
     ·
      subst hv; clear hl
      refine rInHit ?_
      refine rThen ?_
      refine rSeq ?_
      refine zReg md0 hX rfl rfl rfl ?_
      refine rThen ?_
      refine rRet ?_
      have hy := Option.some.inj hT; subst hy
      exact zEnd0 hX rfl
     refine rLoopM (motion_laid_halves_2_b1 N a1 a2 a3 a4) (fun s1 => ⟨[(0, .v (.c (.clo 154 [0]))), (1, .v (.c (.int .i64 a1))), (2, .v (.c (.int .i64 a2))), (6, .v (.c (.ptr 3 0 0 0 0 0))), (7, .v (.c (.ptr 4 0 0 0 0 0))), (9, .v (.c (.int .i64 s1.1)))], [(0, .mem false 90 none (.flat [.cs [.clo 153 [1, 2]]])), (1, .mem false 59 none (.flat [.cs [.fz (.int .u8) a3]])), (2, .mem false 3 none (.flat [.cs [.int .i64 a4]])), (3, .mem true 22 none (.flat [.ints 64 .i64 (List.replicate 64 0)])), (4, .mem true 22 none (.flat [.ints 64 .i64 s1.2]))], 5⟩) hl (To.mk' [] 3 hε rfl (by repeat' first | exact True.intro | exact rfl | apply And.intro) (by repeat' first | exact True.intro | exact rfl | apply And.intro)) (fun s1 zs1 NNs1 hz hnexts1 houts1 => ?_)
     clear hl hT
     have hT := hz; clear hz
     refine rSeq ?_
     refine zReg md0 hX rfl rfl rfl ?_
     refine rThen ?_
     refine rSeq ?_
     refine zCond rfl rfl (fun hc => ?_) (fun hc => ?_)
     ·
      replace hT := sT hc hT
      refine rSkip ?_
      refine rThen ?_
      refine rSeq ?_
      refine rBlock ?_
      refine rSeq ?_
      refine zReg md0 hX rfl rfl rfl ?_
      refine rThen ?_
      let c1 := (motion_halves_2 N (a1 + ((2 : Int) * (s1.1 % 8))) (a2 + ((2 : Int) * (s1.1 / 8))) a3 a4)
      replace hT := sIf hT; obtain ⟨⟨o1, o2, o3, o4, o5, o6, o7, o8⟩, hT⟩ := hT
      refine zReg md0 hX rfl rfl rfl ?_
      refine rInNormal ?_
      refine rThen ?_
      replace hT := sIf hT; obtain ⟨o1, hT⟩ := hT
      refine zReg md0 hX rfl rfl rfl ?_
      exact hnexts1 _ (Option.some.inj hT).symm _ (To.mk' [] 3 hε rfl (by repeat' first | exact True.intro | exact rfl | apply And.intro) (by repeat' first | exact True.intro | exact rfl | apply And.intro))
     ·
      replace hT := sF hc hT
      refine rExit ?_
      refine rThenExit ?_
      refine rThenExit ?_
      exact zTo [] 3 hε (hxs10 _ (houts1 _ (Option.some.inj hT).symm))
    ·
     cases h
   ·
    cases h
  ·
   cases h
 ·
  cases h
def motion_Chroma (N : Nat) (a1 : Int) : Option Int :=
 let c1 := (whole_Clip N a1 (-64) 64)
 if c1.isSome = true then
  if inK .i64 (-(c1.getD default)) then
   if (0 : Int) ≤ (max (c1.getD default) (-(c1.getD default))) ∧ inK .i64 ((2 : Int) * ((max (c1.getD default) (-(c1.getD default))) / 4)) then
    if (0 : Int) ≤ (max (c1.getD default) (-(c1.getD default))) then
     if ((decide (((max (c1.getD default) (-(c1.getD default))) % 4) ≠ 0)) = true → inK .i64 (((2 : Int) * ((max (c1.getD default) (-(c1.getD default))) / 4)) + 1)) then
      let x1 := (bif (decide (((max (c1.getD default) (-(c1.getD default))) % 4) ≠ 0)) then (((2 : Int) * ((max (c1.getD default) (-(c1.getD default))) / 4)) + 1) else ((2 : Int) * ((max (c1.getD default) (-(c1.getD default))) / 4)))
      bif (decide ((c1.getD default) < 0)) then
       if inK .i64 (-x1) then
        some (-x1)
       else none
      else
       some x1
     else none
    else none
   else none
  else none
 else none
def sp_motion_Chroma (N : Nat) : X.Spec := fun args lk => match args with
 | [.v (.c (.int .i64 a1))] => some ⟨(motion_Chroma N a1).isSome = true, .v (.c (.int .i64 ((motion_Chroma N a1).getD default))), [], []⟩
 | _ => none
set_option maxRecDepth 100000 in
set_option maxHeartbeats 1000000 in
theorem ok_motion_Chroma (N : Nat) : FnOK Tryd.prog gt0 133 (sp_motion_Chroma N) := by
 refine fnOK_handed Tryd.func133 rfl (by kernel_rfl) tt_ok (ktCons (ok_whole_Clip N) (ktNil)) ?_
 intro args lk r h hp
 unfold sp_motion_Chroma at h
 split at h
 ·
  rename_i a1
  cases h
  obtain ⟨x, hx⟩ := Option.isSome_iff_exists.1 hp
  simp only [hx, Option.getD_some]
  refine hand0 rfl rfl (fun w0 M ε0 hX => ?_)
  refine rCount (fun hε => ?_)
  have hT : motion_Chroma N a1 = some x := hx; clear hx hp; unfold motion_Chroma at hT
  refine rSeq ?_
  refine zReg md0 hX rfl rfl rfl ?_
  refine rThen ?_
  refine rSeq ?_
  let c1 := (whole_Clip N a1 (-64) 64)
  replace hT := sIf hT; obtain ⟨o1, hT⟩ := hT
  refine zReg md0 hX rfl rfl rfl ?_
  refine rThen ?_
  refine rSeq ?_
  replace hT := sIf hT; obtain ⟨o1, hT⟩ := hT
  refine zReg md0 hX rfl rfl rfl ?_
  refine rThen ?_
  refine rSeq ?_
  replace hT := sIf hT; obtain ⟨⟨o1, o2⟩, hT⟩ := hT
  refine zReg md0 hX rfl rfl rfl ?_
  refine rThen ?_
  refine rSeq ?_
  refine rSeq ?_
  replace hT := sIf hT; obtain ⟨o1, hT⟩ := hT
  refine zReg md0 hX rfl rfl rfl ?_
  refine rThen ?_
  replace hT := sIf hT; obtain ⟨q1, hT⟩ := hT
  refine rJoin ⟨[(0, .v (.c (.int .i64 (c1.getD default)))), (2, .v (.c (.int .i64 0))), (4, .v (.c (.int .i64 (bif (decide (((max (c1.getD default) (-(c1.getD default))) % 4) ≠ 0)) then (((2 : Int) * ((max (c1.getD default) (-(c1.getD default))) / 4)) + 1) else ((2 : Int) * ((max (c1.getD default) (-(c1.getD default))) / 4))))))], [], 0⟩ ?_ (fun hj => ?_)
  ·
   let x1 := (bif (decide (((max (c1.getD default) (-(c1.getD default))) % 4) ≠ 0)) then (((2 : Int) * ((max (c1.getD default) (-(c1.getD default))) / 4)) + 1) else ((2 : Int) * ((max (c1.getD default) (-(c1.getD default))) / 4)))
   refine rThen ?_
   refine rSeq ?_
   refine rSeq ?_
   refine zReg md0 hX rfl rfl rfl ?_
   refine rThen ?_
   refine zCond rfl rfl (fun hc => ?_) (fun hc => ?_)
   ·
    replace hT := sT hc hT
    refine rSeq ?_
    replace hT := sIf hT; obtain ⟨o1, hT⟩ := hT
    refine zReg md0 hX rfl rfl rfl ?_
    refine rThen ?_
    refine rRet ?_
    refine rThenRet ?_
    have hy := Option.some.inj hT; subst hy
    exact zEnd0 hX rfl
   ·
    replace hT := sF hc hT
    refine rSkip ?_
    refine rThen ?_
    refine rSeq ?_
    refine zReg md0 hX rfl rfl rfl ?_
    refine rThen ?_
    refine rRet ?_
    have hy := Option.some.inj hT; subst hy
    exact zEnd0 hX rfl
  ·
   clear hT
   refine zCond rfl rfl (fun hc => ?_) (fun hc => ?_)
   ·
    have q1 := q1 hc
    refine zReg md0 hX rfl rfl rfl ?_
    exact rTo (To.mk' [] 0 hε rfl (by (repeat' first | exact True.intro | exact rfl | apply And.intro) <;> (repeat' first | exact rfl | refine Eq.trans ?_ (cTr (by assumption)) | refine Eq.trans ?_ (cFr (by assumption)) | refine Eq.trans (cTl (by assumption)) ?_ | refine Eq.trans (cFl (by assumption)) ?_)) (by (repeat' first | exact True.intro | exact rfl | apply And.intro) <;> (repeat' first | exact rfl | refine Eq.trans ?_ (cTr (by assumption)) | refine Eq.trans ?_ (cFr (by assumption)) | refine Eq.trans (cTl (by assumption)) ?_ | refine Eq.trans (cFl (by assumption)) ?_))) hj
   ·
    refine rSkip ?_
    exact rTo (To.mk' [] 0 hε rfl (by (repeat' first | exact True.intro | exact rfl | apply And.intro) <;> (repeat' first | exact rfl | refine Eq.trans ?_ (cTr (by assumption)) | refine Eq.trans ?_ (cFr (by assumption)) | refine Eq.trans (cTl (by assumption)) ?_ | refine Eq.trans (cFl (by assumption)) ?_)) (by (repeat' first | exact True.intro | exact rfl | apply And.intro) <;> (repeat' first | exact rfl | refine Eq.trans ?_ (cTr (by assumption)) | refine Eq.trans ?_ (cFr (by assumption)) | refine Eq.trans (cTl (by assumption)) ?_ | refine Eq.trans (cFl (by assumption)) ?_))) hj
 ·
  cases h
def motion_Predict_b1 (N : Nat) (a1 : Int) (a2 : (List (List Int))) (a3 : Int) (a4 : (List Int)) (c1 : (Option (Int × Int))) (s1 : (Int × (List Int))) : Option ((Int × (List Int)) ⊕ (List Int)) :=
 bif (decide (s1.1 < 6)) then
  if inK .i64 (s1.1 - 4) ∧ inK .i64 ((s1.1 - 4) + 1) then
   let c4 := (formats_Plane N a1 (max (0 : Int) ((s1.1 - 4) + 1)))
   if c4.isSome = true then
    let c5 := (motion_halves N (a2.getD (max (0 : Int) ((s1.1 - 4) + 1)).toNat []) (c4.getD default).1)
    if (0 : Int) ≤ (max (0 : Int) ((s1.1 - 4) + 1)) ∧ (max (0 : Int) ((s1.1 - 4) + 1)) < 3 ∧ (max (0 : Int) ((s1.1 - 4) + 1)).toNat < 3 ∧ c5.isSome = true then
     bif (decide ((max (0 : Int) ((s1.1 - 4) + 1)) = 0)) then
      let c6 := (motion_laid_halves_2 N (((2 : Int) * (((16 : Int) * (a3 % (c1.getD default).1)) + ((s1.1 % 2) * 8))) + (a4.getD 0 0)) (((2 : Int) * (((16 : Int) * (a3 / (c1.getD default).1)) + ((s1.1 / 2) * 8))) + (a4.getD 1 0)) (c5.getD default).1 (c5.getD default).2)
      if inK .i64 ((16 : Int) * (a3 % (c1.getD default).1)) ∧ (0 : Int) ≤ s1.1 ∧ inK .i64 ((s1.1 % 2) * 8) ∧ inK .i64 (((16 : Int) * (a3 % (c1.getD default).1)) + ((s1.1 % 2) * 8)) ∧ inK .i64 ((2 : Int) * (((16 : Int) * (a3 % (c1.getD default).1)) + ((s1.1 % 2) * 8))) ∧ inK .i64 (((2 : Int) * (((16 : Int) * (a3 % (c1.getD default).1)) + ((s1.1 % 2) * 8))) + (a4.getD 0 0)) ∧ inK .i64 ((16 : Int) * (a3 / (c1.getD default).1)) ∧ inK .i64 ((s1.1 / 2) * 8) ∧ inK .i64 (((16 : Int) * (a3 / (c1.getD default).1)) + ((s1.1 / 2) * 8)) ∧ inK .i64 ((2 : Int) * (((16 : Int) * (a3 / (c1.getD default).1)) + ((s1.1 / 2) * 8))) ∧ inK .i64 (((2 : Int) * (((16 : Int) * (a3 / (c1.getD default).1)) + ((s1.1 / 2) * 8))) + (a4.getD 1 0)) ∧ c6.isSome = true ∧ s1.1 < 6 ∧ (64 * (s1.1).toNat) + 64 ≤ 384 then
       if inK .i64 (s1.1 + 1) then
        some (.inl ((s1.1 + 1), (layL s1.2 (64 * (s1.1).toNat) (c6.getD default) 64)))
       else none
      else none
     else
      let c7 := (motion_Chroma N (a4.getD 0 0))
      let c8 := (motion_Chroma N (a4.getD 1 0))
      let c9 := (motion_laid_halves_2 N (((16 : Int) * (a3 % (c1.getD default).1)) + (c7.getD default)) (((16 : Int) * (a3 / (c1.getD default).1)) + (c8.getD default)) (c5.getD default).1 (c5.getD default).2)
      if inK .i64 ((16 : Int) * (a3 % (c1.getD default).1)) ∧ c7.isSome = true ∧ inK .i64 (((16 : Int) * (a3 % (c1.getD default).1)) + (c7.getD default)) ∧ inK .i64 ((16 : Int) * (a3 / (c1.getD default).1)) ∧ c8.isSome = true ∧ inK .i64 (((16 : Int) * (a3 / (c1.getD default).1)) + (c8.getD default)) ∧ c9.isSome = true ∧ (0 : Int) ≤ s1.1 ∧ s1.1 < 6 ∧ (64 * (s1.1).toNat) + 64 ≤ 384 then
       if inK .i64 (s1.1 + 1) then
        some (.inl ((s1.1 + 1), (layL s1.2 (64 * (s1.1).toNat) (c9.getD default) 64)))
       else none
      else none
    else none
   else none
  else none
 else
  some (.inr s1.2)
def motion_Predict (N : Nat) (a1 : Int) (a2 : (List (List Int))) (a3 : Int) (a4 : (List Int)) : Option ((List Int) × Int) :=
 let c1 := (formats_Cells N a1)
 if c1.isSome = true then
  let c2 := (planes_Right N a1 a2)
  if c2.isSome = true then
   if ((!(c2.getD default)) = false → ((decide (a3 < 0)) = false → inK .i64 ((c1.getD default).1 * (c1.getD default).2))) then
    let x1 := (bif (!(c2.getD default)) then (!(c2.getD default)) else (bif (decide (a3 < 0)) then (decide (a3 < 0)) else (decide (((c1.getD default).1 * (c1.getD default).2) ≤ a3))))
    bif x1 then
     some ((List.replicate 384 0), 1)
    else
     let c3 := (motion_May N a1 a3 a4)
     if c3.isSome = true then
      bif (!(c3.getD default)) then
       some ((List.replicate 384 0), 8)
      else
       if (0 : Int) ≤ a3 ∧ (0 : Int) < (c1.getD default).1 then
        (iter (motion_Predict_b1 N a1 a2 a3 a4 c1) N (0, (List.replicate 384 0))).bind fun v1 =>
         some (v1, 0)
       else none
     else none
   else none
  else none
 else none
def sp_motion_Predict (N : Nat) : X.Spec := fun args lk => match args with
 | [.v (.agg [.cs [.int .i64 a1], .fzs 3 (.int .u8) a2]), .v (.c (.int .i64 a3)), .v (.agg [.ints 2 .i64 a4])] => some ⟨(motion_Predict N a1 a2 a3 a4).isSome = true, .tup [.agg [.ints 384 .i64 ((motion_Predict N a1 a2 a3 a4).getD default).1], .c (.int .i64 ((motion_Predict N a1 a2 a3 a4).getD default).2)], [], []⟩
 | _ => none
set_option maxRecDepth 100000 in
set_option maxHeartbeats 1000000 in
theorem ok_motion_Predict (N : Nat) : FnOK Tryd.prog gt0 82 (sp_motion_Predict N) := by
 refine fnOK_handed Tryd.func82 rfl (by kernel_rfl) tt_ok (ktCons (ok_motion_Chroma N) (ktCons (ok_motion_laid_halves_2 N) (ktCons (ok_motion_halves N) (ktCons (ok_formats_Plane N) (ktCons (ok_motion_May N) (ktCons (ok_planes_Right N) (ktCons (ok_formats_Cells N) (ktNil)))))))) ?_
 intro args lk r h hp
 unfold sp_motion_Predict at h
 split at h
 ·
  rename_i a1 a2 a3 a4
  change (List (List Int)) at a2
  change (List Int) at a4
  cases h
  obtain ⟨x, hx⟩ := Option.isSome_iff_exists.1 hp
  simp only [hx, Option.getD_some]
  refine hand0 rfl rfl (fun w0 M ε0 hX => ?_)
  refine rCount (fun hε => ?_)
  have hT : motion_Predict N a1 a2 a3 a4 = some x := hx; clear hx hp; unfold motion_Predict at hT
  refine rSeq ?_
  refine zReg md0 hX rfl rfl rfl ?_
  refine rThen ?_
  refine rSeq ?_
  let c1 := (formats_Cells N a1)
  replace hT := sIf hT; obtain ⟨o1, hT⟩ := hT
  refine zReg md0 hX rfl rfl rfl ?_
  refine rThen ?_
  refine rSeq ?_
  refine rBlock ?_
  refine rSeq ?_
  refine rSeq ?_
  let c2 := (planes_Right N a1 a2)
  replace hT := sIf hT; obtain ⟨o1, hT⟩ := hT
  refine zReg md0 hX rfl rfl rfl ?_
  refine rThen ?_
  replace hT := sIf hT; obtain ⟨q1, hT⟩ := hT
  refine rJoin ⟨[(1, .v (.c (.int .i64 a3))), (3, .v (.c (.ptr 0 0 0 0 0 0))), (5, .v (.c (.ptr 1 0 0 0 0 0))), (6, .v (.c (.ptr 2 0 0 0 0 0))), (7, .v (.c (.int .i64 0))), (8, .v (.c (.int .i64 (c1.getD default).1))), (24, .v (.c (.bool (bif (!(c2.getD default)) then (!(c2.getD default)) else (bif (decide (a3 < 0)) then (decide (a3 < 0)) else (decide (((c1.getD default).1 * (c1.getD default).2) ≤ a3)))))))], [(0, .mem true 62 none (.flat [.cs [.int .i64 a1], .fzs 3 (.int .u8) a2])), (1, .mem true 32 none (.flat [.ints 2 .i64 a4])), (2, .mem true 39 none (.flat [.ints 384 .i64 (List.replicate 384 0)]))], 3⟩ ?_ (fun hj => ?_)
  ·
   let x1 := (bif (!(c2.getD default)) then (!(c2.getD default)) else (bif (decide (a3 < 0)) then (decide (a3 < 0)) else (decide (((c1.getD default).1 * (c1.getD default).2) ≤ a3))))
   refine rThen ?_
   refine zCond rfl rfl (fun hc => ?_) (fun hc => ?_)
   ·
    replace hT := sT hc hT
    refine rSeq ?_
    refine zReg md0 hX rfl rfl rfl ?_
    refine rThen ?_
    refine rRet ?_
    refine rInRet ?_
    refine rThenRet ?_
    have hy := Option.some.inj hT; subst hy
    exact zEnd0 hX rfl
   ·
    replace hT := sF hc hT
    refine rSeq ?_
    let c3 := (motion_May N a1 a3 a4)
    replace hT := sIf hT; obtain ⟨o1, hT⟩ := hT
    refine zReg md0 hX rfl rfl rfl ?_
    refine rThen ?_
    refine zCond rfl rfl (fun hc => ?_) (fun hc => ?_)
    ·
     replace hT := sT hc hT
     refine rSeq ?_
     refine zReg md0 hX rfl rfl rfl ?_
     refine rThen ?_
     refine rRet ?_
     refine rInRet ?_
     refine rThenRet ?_
     have hy := Option.some.inj hT; subst hy
     exact zEnd0 hX rfl
    ·
     replace hT := sF hc hT
     refine rSkip ?_
     refine rInNormal ?_
     refine rThen ?_
     refine rSeq ?_
     refine zReg md0 hX rfl rfl rfl ?_
     refine rThen ?_
     refine rSeq ?_
     replace hT := sIf hT; obtain ⟨⟨o1, o2⟩, hT⟩ := hT
     refine zDraw md0 0 [] hX mixed rfl rfl rfl rfl rfl ?_
     refine rThen ?_
     refine rSeq ?_
     refine rSeq ?_
     refine zReg md0 hX rfl rfl rfl ?_
     refine rThen ?_
     refine rBlock ?_
     replace hT := sBind hT; obtain ⟨w1, hl, hT⟩ := hT
     refine rJoinA (fun v1 => v1 = w1) (fun v1 => ⟨[(6, .v (.c (.ptr 2 0 0 0 0 0))), (7, .v (.c (.int .i64 0))), (10, .v (.c (.ptr 3 0 0 0 0 0)))], [(2, .mem true 39 none (.flat [.ints 384 .i64 (List.replicate 384 0)])), (3, .mem true 39 none (.flat [.ints 384 .i64 v1]))], 4⟩) (.exit 1) (fun v1 hv => ?_) (fun hxs10 => ?_)
     ·
      subst hv; clear hl
      refine rInHit ?_
      refine rThen ?_
      refine rSeq ?_
      refine zReg md0 hX rfl rfl rfl ?_
      refine rThen ?_
      refine rRet ?_
      have hy := Option.some.inj hT; subst hy
      exact zEnd0 hX rfl
     refine rLoopM (motion_Predict_b1 N a1 a2 a3 a4 c1) (fun s1 => ⟨[(3, .v (.c (.ptr 0 0 0 0 0 0))), (5, .v (.c (.ptr 1 0 0 0 0 0))), (6, .v (.c (.ptr 2 0 0 0 0 0))), (7, .v (.c (.int .i64 0))), (10, .v (.c (.ptr 3 0 0 0 0 0))), (11, .v (.c (.int .i64 (a3 % (c1.getD default).1)))), (12, .v (.c (.int .i64 (a3 / (c1.getD default).1)))), (50, .v (.c (.int .i64 s1.1)))], [(0, .mem true 62 none (.flat [.cs [.int .i64 a1], .fzs 3 (.int .u8) a2])), (1, .mem true 32 none (.flat [.ints 2 .i64 a4])), (2, .mem true 39 none (.flat [.ints 384 .i64 (List.replicate 384 0)])), (3, .mem true 39 none (.flat [.ints 384 .i64 s1.2]))], 4⟩) hl (To.mk' [] 0 hε rfl (by repeat' first | exact True.intro | exact rfl | apply And.intro) (by repeat' first | exact True.intro | exact rfl | apply And.intro)) (fun s1 zs1 NNs1 hz hnexts1 houts1 => ?_)
     clear hl hT
     have hT := hz; clear hz
     refine rSeq ?_
     refine zReg md0 hX rfl rfl rfl ?_
     refine rThen ?_
     refine rSeq ?_
     refine zCond rfl rfl (fun hc => ?_) (fun hc => ?_)
     ·
      replace hT := sT hc hT
      refine rSkip ?_
      refine rThen ?_
      refine rSeq ?_
      refine rBlock ?_
      refine rSeq ?_
      refine zReg md0 hX rfl rfl rfl ?_
      refine rThen ?_
      refine rSeq ?_
      replace hT := sIf hT; obtain ⟨⟨o1, o2⟩, hT⟩ := hT
      refine zReg md0 hX rfl rfl rfl ?_
      refine rThen ?_
      refine rSeq ?_
      let c4 := (formats_Plane N a1 (max (0 : Int) ((s1.1 - 4) + 1)))
      replace hT := sIf hT; obtain ⟨o1, hT⟩ := hT
      refine zReg md0 hX rfl rfl rfl ?_
      refine rThen ?_
      refine rSeq ?_
      let c5 := (motion_halves N (a2.getD (max (0 : Int) ((s1.1 - 4) + 1)).toNat []) (c4.getD default).1)
      replace hT := sIf hT; obtain ⟨⟨o1, o2, o3, o4⟩, hT⟩ := hT
      refine zReg md0 hX rfl rfl rfl ?_
      refine rThen ?_
      refine rSeq ?_
      refine rSeq ?_
      refine zReg md0 hX rfl rfl rfl ?_
      refine rThen ?_
      refine zCond rfl rfl (fun hc => ?_) (fun hc => ?_)
      ·
       replace hT := sT hc hT
       refine rSeq ?_
       let c6 := (motion_laid_halves_2 N (((2 : Int) * (((16 : Int) * (a3 % (c1.getD default).1)) + ((s1.1 % 2) * 8))) + (a4.getD 0 0)) (((2 : Int) * (((16 : Int) * (a3 / (c1.getD default).1)) + ((s1.1 / 2) * 8))) + (a4.getD 1 0)) (c5.getD default).1 (c5.getD default).2)
       replace hT := sIf hT; obtain ⟨⟨o1, o2, o3, o4, o5, o6, o7, o8, o9, o10, o11, o12, o13, o14⟩, hT⟩ := hT
       refine zReg md0 hX rfl rfl rfl ?_
       refine rThen ?_
       refine rExit ?_
       refine rThenExit ?_
       refine rInHit ?_
       refine rThen ?_
       replace hT := sIf hT; obtain ⟨o1, hT⟩ := hT
       refine zReg md0 hX rfl rfl rfl ?_
       exact hnexts1 _ (Option.some.inj hT).symm _ (To.mk' [] 0 hε rfl (by repeat' first | exact True.intro | exact rfl | apply And.intro) (by repeat' first | exact True.intro | exact rfl | apply And.intro))
      ·
       replace hT := sF hc hT
       refine rSkip ?_
       refine rThen ?_
       let c7 := (motion_Chroma N (a4.getD 0 0))
       let c8 := (motion_Chroma N (a4.getD 1 0))
       let c9 := (motion_laid_halves_2 N (((16 : Int) * (a3 % (c1.getD default).1)) + (c7.getD default)) (((16 : Int) * (a3 / (c1.getD default).1)) + (c8.getD default)) (c5.getD default).1 (c5.getD default).2)
       replace hT := sIf hT; obtain ⟨⟨o1, o2, o3, o4, o5, o6, o7, o8, o9, o10⟩, hT⟩ := hT
       refine zDraw md0 1 [16] hX mixed rfl rfl rfl rfl rfl ?_
       refine rInNormal ?_
       refine rThen ?_
       replace hT := sIf hT; obtain ⟨o1, hT⟩ := hT
       refine zReg md0 hX rfl rfl rfl ?_
       exact hnexts1 _ (Option.some.inj hT).symm _ (To.mk' [] 0 hε rfl (by repeat' first | exact True.intro | exact rfl | apply And.intro) (by repeat' first | exact True.intro | exact rfl | apply And.intro))
     ·
      replace hT := sF hc hT
      refine rExit ?_
      refine rThenExit ?_
      refine rThenExit ?_
      exact zTo [] 0 hε (hxs10 _ (houts1 _ (Option.some.inj hT).symm))
  ·
   clear hT
   refine zCond rfl rfl (fun hc => ?_) (fun hc => ?_)
   ·
    refine rSkip ?_
    exact rTo (To.mk' [] 0 hε rfl (by (repeat' first | exact True.intro | exact rfl | apply And.intro) <;> (repeat' first | exact rfl | refine Eq.trans ?_ (cTr (by assumption)) | refine Eq.trans ?_ (cFr (by assumption)) | refine Eq.trans (cTl (by assumption)) ?_ | refine Eq.trans (cFl (by assumption)) ?_)) (by (repeat' first | exact True.intro | exact rfl | apply And.intro) <;> (repeat' first | exact rfl | refine Eq.trans ?_ (cTr (by assumption)) | refine Eq.trans ?_ (cFr (by assumption)) | refine Eq.trans (cTl (by assumption)) ?_ | refine Eq.trans (cFl (by assumption)) ?_))) hj
   ·
    have q1 := q1 hc
    refine rSeq ?_
    refine zReg md0 hX rfl rfl rfl ?_
    refine rThen ?_
    refine zCond rfl rfl (fun hc => ?_) (fun hc => ?_)
    ·
     refine rSkip ?_
     exact rTo (To.mk' [] 0 hε rfl (by (repeat' first | exact True.intro | exact rfl | apply And.intro) <;> (repeat' first | exact rfl | refine Eq.trans ?_ (cTr (by assumption)) | refine Eq.trans ?_ (cFr (by assumption)) | refine Eq.trans (cTl (by assumption)) ?_ | refine Eq.trans (cFl (by assumption)) ?_)) (by (repeat' first | exact True.intro | exact rfl | apply And.intro) <;> (repeat' first | exact rfl | refine Eq.trans ?_ (cTr (by assumption)) | refine Eq.trans ?_ (cFr (by assumption)) | refine Eq.trans (cTl (by assumption)) ?_ | refine Eq.trans (cFl (by assumption)) ?_))) hj
    ·
     have q1 := q1 hc
     refine zReg md0 hX rfl rfl rfl ?_
     exact rTo (To.mk' [] 0 hε rfl (by (repeat' first | exact True.intro | exact rfl | apply And.intro) <;> (repeat' first | exact rfl | refine Eq.trans ?_ (cTr (by assumption)) | refine Eq.trans ?_ (cFr (by assumption)) | refine Eq.trans (cTl (by assumption)) ?_ | refine Eq.trans (cFl (by assumption)) ?_)) (by (repeat' first | exact True.intro | exact rfl | apply And.intro) <;> (repeat' first | exact rfl | refine Eq.trans ?_ (cTr (by assumption)) | refine Eq.trans ?_ (cFr (by assumption)) | refine Eq.trans (cTl (by assumption)) ?_ | refine Eq.trans (cFl (by assumption)) ?_))) hj
 ·
  cases h
def stores_Drift_b2 (N : Nat) (c3 : (Option ((List Int) × Int))) (s1 : (Int × (List Int))) (s2 : (Int × (List Int))) : Option ((Int × (List Int)) ⊕ (Int × Bool × (List Int))) :=
 bif (decide (s2.1 < 64)) then
  let x2 := (s2.2.set ((s1.1).toNat * 64 + (s2.1).toNat) ((s2.2.getD ((s1.1).toNat * 64 + (s2.1).toNat) 0) - ((c3.getD default).1.getD ((s1.1).toNat * 64 + (s2.1).toNat) 0)))
  if (0 : Int) ≤ s1.1 ∧ s1.1 < 6 ∧ (0 : Int) ≤ s2.1 ∧ s2.1 < 64 ∧ ((s1.1).toNat * 64 + (s2.1).toNat) < 384 ∧ inK .i64 ((s2.2.getD ((s1.1).toNat * 64 + (s2.1).toNat) 0) - ((c3.getD default).1.getD ((s1.1).toNat * 64 + (s2.1).toNat) 0)) then
   if inK .i64 (s2.1 + 1) then
    some (.inl ((s2.1 + 1), x2))
   else none
  else none
 else
  some (.inr (s2.1, (decide (s2.1 < 64)), s2.2))
def stores_Drift_b1 (N : Nat) (c3 : (Option ((List Int) × Int))) (s1 : (Int × (List Int))) : Option ((Int × (List Int)) ⊕ (List Int)) :=
 bif (decide (s1.1 < 6)) then
  (iter (stores_Drift_b2 N c3 s1) N (0, s1.2)).bind fun v2 =>
   if inK .i64 (s1.1 + 1) then
    some (.inl ((s1.1 + 1), v2.2.2))
   else none
 else
  some (.inr s1.2)
def stores_Drift (N : Nat) (a1 : Int) (a2 : (List (List Int))) (a3 : Int) (a4 : (List (List Int))) (a5 : Int) (a6 : (List Int)) : Option ((List Int) × Int) :=
 let c1 := (stores_Add N a1 a2 a3 a4)
 if c1.isSome = true then
  bif (decide ((c1.getD default).2.2 ≠ 0)) then
   some ((List.replicate 384 0), (c1.getD default).2.2)
  else
   let c2 := (motion_Predict N (c1.getD default).1 (c1.getD default).2.1 a5 a6)
   if c2.isSome = true then
    bif (decide ((c2.getD default).2 ≠ 0)) then
     some ((List.replicate 384 0), (c2.getD default).2)
    else
     let c3 := (motion_Predict N a1 a2 a5 a6)
     if c3.isSome = true then
      (iter (stores_Drift_b1 N c3) N (0, (c2.getD default).1)).bind fun v1 =>
       some (v1, 0)
     else none
   else none
 else none
def sp_stores_Drift (N : Nat) : X.Spec := fun args lk => match args with
 | [.v (.agg [.cs [.int .i64 a1], .fzs 3 (.int .u8) a2]), .v (.agg [.cs [.int .i64 a3], .fzs 3 (.int .i64) a4]), .v (.c (.int .i64 a5)), .v (.agg [.ints 2 .i64 a6])] => some ⟨(stores_Drift N a1 a2 a3 a4 a5 a6).isSome = true, .tup [.agg [.ints 384 .i64 ((stores_Drift N a1 a2 a3 a4 a5 a6).getD default).1], .c (.int .i64 ((stores_Drift N a1 a2 a3 a4 a5 a6).getD default).2)], [], []⟩
 | _ => none
set_option maxRecDepth 100000 in
set_option maxHeartbeats 1000000 in
theorem ok_stores_Drift (N : Nat) : FnOK Tryd.prog gt0 99 (sp_stores_Drift N) := by
 refine fnOK_handed Tryd.func99 rfl (by kernel_rfl) tt_ok (ktCons (ok_motion_Predict N) (ktCons (ok_stores_Add N) (ktNil))) ?_
 intro args lk r h hp
 unfold sp_stores_Drift at h
 split at h
 ·
  rename_i a1 a2 a3 a4 a5 a6
  change (List (List Int)) at a2
  change (List (List Int)) at a4
  change (List Int) at a6
  cases h
  obtain ⟨x, hx⟩ := Option.isSome_iff_exists.1 hp
  simp only [hx, Option.getD_some]
  refine hand0 rfl rfl (fun w0 M ε0 hX => ?_)
  refine rCount (fun hε => ?_)
  have hT : stores_Drift N a1 a2 a3 a4 a5 a6 = some x := hx; clear hx hp; unfold stores_Drift at hT
  refine rSeq ?_
  refine zReg md0 hX rfl rfl rfl ?_
  refine rThen ?_
  refine rSeq ?_
  let c1 := (stores_Add N a1 a2 a3 a4)
  replace hT := sIf hT; obtain ⟨o1, hT⟩ := hT
  refine zReg md0 hX rfl rfl rfl ?_
  refine rThen ?_
  refine rSeq ?_
  refine rSeq ?_
  refine zReg md0 hX rfl rfl rfl ?_
  refine rThen ?_
  refine zCond rfl rfl (fun hc => ?_) (fun hc => ?_)
  ·
   replace hT := sT hc hT
   refine rSeq ?_
   refine zReg md0 hX rfl rfl rfl ?_
   refine rThen ?_
   refine rRet ?_
   refine rThenRet ?_
   have hy := Option.some.inj hT; subst hy
   exact zEnd0 hX rfl
  ·
   replace hT := sF hc hT
   refine rSkip ?_
   refine rThen ?_
   refine rSeq ?_
   let c2 := (motion_Predict N (c1.getD default).1 (c1.getD default).2.1 a5 a6)
   replace hT := sIf hT; obtain ⟨o1, hT⟩ := hT
   refine zReg md0 hX rfl rfl rfl ?_
   refine rThen ?_
   refine rSeq ?_
   refine rSeq ?_
   refine zReg md0 hX rfl rfl rfl ?_
   refine rThen ?_
   refine zCond rfl rfl (fun hc => ?_) (fun hc => ?_)
   ·
    replace hT := sT hc hT
    refine rSeq ?_
    refine zReg md0 hX rfl rfl rfl ?_
    refine rThen ?_
    refine rRet ?_
    refine rThenRet ?_
    have hy := Option.some.inj hT; subst hy
    exact zEnd0 hX rfl
   ·
    replace hT := sF hc hT
    refine rSkip ?_
    refine rThen ?_
    refine rSeq ?_
    let c3 := (motion_Predict N a1 a2 a5 a6)
    replace hT := sIf hT; obtain ⟨o1, hT⟩ := hT
    refine zReg md0 hX rfl rfl rfl ?_
    refine rThen ?_
    refine rSeq ?_
    refine rSeq ?_
    refine zReg md0 hX rfl rfl rfl ?_
    refine rThen ?_
    refine rBlock ?_
    replace hT := sBind hT; obtain ⟨w1, hl, hT⟩ := hT
    refine rJoinA (fun v1 => v1 = w1) (fun v1 => ⟨[(8, .v (.c (.ptr 3 0 0 0 0 0))), (9, .v (.c (.int .i64 0))), (12, .v (.c (.ptr 5 0 0 0 0 0)))], [(3, .mem true 39 none (.flat [.ints 384 .i64 (List.replicate 384 0)])), (5, .mem true 39 none (.flat [.ints 384 .i64 v1]))], 7⟩) (.exit 0) (fun v1 hv => ?_) (fun hxs10 => ?_)
    ·
     subst hv; clear hl
     refine rInHit ?_
     refine rThen ?_
     refine rSeq ?_
     refine zReg md0 hX rfl rfl rfl ?_
     refine rThen ?_
     refine rRet ?_
     have hy := Option.some.inj hT; subst hy
     exact zEnd0 hX rfl
    refine rLoopM (stores_Drift_b1 N c3) (fun s1 => ⟨[(8, .v (.c (.ptr 3 0 0 0 0 0))), (9, .v (.c (.int .i64 0))), (12, .v (.c (.ptr 5 0 0 0 0 0))), (13, .v (.c (.ptr 6 0 0 0 0 0))), (45, .v (.c (.int .i64 s1.1)))], [(3, .mem true 39 none (.flat [.ints 384 .i64 (List.replicate 384 0)])), (5, .mem true 39 none (.flat [.ints 384 .i64 s1.2])), (6, .mem true 39 none (.flat [.ints 384 .i64 (c3.getD default).1]))], 7⟩) hl (To.mk' [] 0 hε rfl (by repeat' first | exact True.intro | exact rfl | apply And.intro) (by repeat' first | exact True.intro | exact rfl | apply And.intro)) (fun s1 zs1 NNs1 hz hnexts1 houts1 => ?_)
    clear hl hT
    have hT := hz; clear hz
    refine rSeq ?_
    refine zReg md0 hX rfl rfl rfl ?_
    refine rThen ?_
    refine rSeq ?_
    refine zCond rfl rfl (fun hc => ?_) (fun hc => ?_)
    ·
     replace hT := sT hc hT
     refine rSkip ?_
     refine rThen ?_
     refine rSeq ?_
     refine rBlock ?_
     refine rSeq ?_
     refine zReg md0 hX rfl rfl rfl ?_
     refine rThen ?_
     refine rSeq ?_
     refine zReg md0 hX rfl rfl rfl ?_
     refine rThen ?_
     refine rBlock ?_
     replace hT := sBind hT; obtain ⟨w2, hl, hT⟩ := hT
     refine rJoinA (fun v2 => v2 = w2) (fun v2 => ⟨[(8, .v (.c (.ptr 3 0 0 0 0 0))), (9, .v (.c (.int .i64 0))), (12, .v (.c (.ptr 5 0 0 0 0 0))), (13, .v (.c (.ptr 6 0 0 0 0 0))), (15, .v (.c (.int .i64 s1.1))), (45, .v (.c (.int .i64 s1.1))), (46, .v (.c (.bool (decide (s1.1 < 6))))), (47, .v (.c (.int .i64 s1.1))), (48, .v (.c (.int .i64 v2.1))), (49, .v (.c (.bool v2.2.1)))], [(3, .mem true 39 none (.flat [.ints 384 .i64 (List.replicate 384 0)])), (5, .mem true 39 none (.flat [.ints 384 .i64 v2.2.2])), (6, .mem true 39 none (.flat [.ints 384 .i64 (c3.getD default).1]))], 7⟩) (.exit 2) (fun v2 hv => ?_) (fun hxs20 => ?_)
     ·
      subst hv; clear hl
      refine rInHit ?_
      refine rInNormal ?_
      refine rThen ?_
      replace hT := sIf hT; obtain ⟨o1, hT⟩ := hT
      refine zReg md0 hX rfl rfl rfl ?_
      exact hnexts1 _ (Option.some.inj hT).symm _ (To.mk' [] 0 hε rfl (by repeat' first | exact True.intro | exact rfl | apply And.intro) (by repeat' first | exact True.intro | exact rfl | apply And.intro))
     refine rLoopM (stores_Drift_b2 N c3 s1) (fun s2 => ⟨[(8, .v (.c (.ptr 3 0 0 0 0 0))), (9, .v (.c (.int .i64 0))), (12, .v (.c (.ptr 5 0 0 0 0 0))), (13, .v (.c (.ptr 6 0 0 0 0 0))), (15, .v (.c (.int .i64 s1.1))), (45, .v (.c (.int .i64 s1.1))), (46, .v (.c (.bool (decide (s1.1 < 6))))), (47, .v (.c (.int .i64 s1.1))), (48, .v (.c (.int .i64 s2.1)))], [(3, .mem true 39 none (.flat [.ints 384 .i64 (List.replicate 384 0)])), (5, .mem true 39 none (.flat [.ints 384 .i64 s2.2])), (6, .mem true 39 none (.flat [.ints 384 .i64 (c3.getD default).1]))], 7⟩) hl (To.mk' [] 0 hε rfl (by repeat' first | exact True.intro | exact rfl | apply And.intro) (by repeat' first | exact True.intro | exact rfl | apply And.intro)) (fun s2 zs2 NNs2 hz hnexts2 houts2 => ?_)
     clear hl hT
     have hT := hz; clear hz
     refine rSeq ?_
     refine zReg md0 hX rfl rfl rfl ?_
     refine rThen ?_
     refine rSeq ?_
     refine zCond rfl rfl (fun hc => ?_) (fun hc => ?_)
     ·
      replace hT := sT hc hT
      refine rSkip ?_
      refine rThen ?_
      refine rSeq ?_
      refine rBlock ?_
      refine rSeq ?_
      refine zReg md0 hX rfl rfl rfl ?_
      refine rThen ?_
      let x2 := (s2.2.set ((s1.1).toNat * 64 + (s2.1).toNat) ((s2.2.getD ((s1.1).toNat * 64 + (s2.1).toNat) 0) - ((c3.getD default).1.getD ((s1.1).toNat * 64 + (s2.1).toNat) 0)))
      replace hT := sIf hT; obtain ⟨⟨o1, o2, o3, o4, o5, o6⟩, hT⟩ := hT
      refine zDraw md0 1 [13] hX mixed rfl rfl rfl rfl rfl ?_
      refine rInNormal ?_
      refine rThen ?_
      replace hT := sIf hT; obtain ⟨o1, hT⟩ := hT
      refine zReg md0 hX rfl rfl rfl ?_
      exact hnexts2 _ (Option.some.inj hT).symm _ (To.mk' [] 0 hε rfl (by repeat' first | exact True.intro | exact rfl | apply And.intro) (by repeat' first | exact True.intro | exact rfl | apply And.intro))
     ·
      replace hT := sF hc hT
      refine rExit ?_
      refine rThenExit ?_
      refine rThenExit ?_
      exact zTo [] 0 hε (hxs20 _ (houts2 _ (Option.some.inj hT).symm))
    ·
     replace hT := sF hc hT
     refine rExit ?_
     refine rThenExit ?_
     refine rThenExit ?_
     exact zTo [] 0 hε (hxs10 _ (houts1 _ (Option.some.inj hT).symm))
 ·
  cases h
def feed_plain_b1 (N : Nat) (a1 : (List Int)) (s1 : (Int × (List Int))) : Option ((Int × (List Int)) ⊕ (List Int)) :=
 bif (decide (s1.1 < 64)) then
  if (0 : Int) ≤ s1.1 ∧ s1.1 < 64 ∧ (s1.1).toNat < 64 then
   let c3 := (whole_Clip N (a1.getD (s1.1).toNat 0) (-127) 127)
   if c3.isSome = true ∧ (0 : Int) ≤ s1.1 ∧ s1.1 < 64 ∧ (s1.1).toNat < 64 then
    if inK .i64 (s1.1 + 1) then
     some (.inl ((s1.1 + 1), (s1.2.set (s1.1).toNat (c3.getD default))))
    else none
   else none
  else none
 else
  some (.inr s1.2)
def feed_plain (N : Nat) (a1 : (List Int)) (a2 : (List Int)) (a3 : Int) (a4 : Int) (a5 : Bool) : Option ((List Int) × (List Int) × Int × Int × Bool) :=
 (iter (feed_plain_b1 N a1) N (0, a1)).bind fun v1 =>
  let c1 := (whole_Clip N a3 1 31)
  let c2 := (whole_Clip N a4 1 31)
  if c1.isSome = true ∧ c2.isSome = true then
   some ((bif a5 then (v1.set 0 0) else v1), (bif a5 then (List.replicate 64 0) else a2), (c1.getD default), (c2.getD default), a5)
  else none
def sp_feed_plain (N : Nat) : X.Spec := fun args lk => match args with
 | [.v (.agg [.ints 64 .i64 a1, .ints 64 .i64 a2, .cs [.int .i64 a3, .int .i64 a4, .bool a5]])] => some ⟨(feed_plain N a1 a2 a3 a4 a5).isSome = true, .v (.agg [.ints 64 .i64 ((feed_plain N a1 a2 a3 a4 a5).getD default).1, .ints 64 .i64 ((feed_plain N a1 a2 a3 a4 a5).getD default).2.1, .cs [.int .i64 ((feed_plain N a1 a2 a3 a4 a5).getD default).2.2.1, .int .i64 ((feed_plain N a1 a2 a3 a4 a5).getD default).2.2.2.1, .bool ((feed_plain N a1 a2 a3 a4 a5).getD default).2.2.2.2]]), [], []⟩
 | _ => none
set_option maxRecDepth 100000 in
set_option maxHeartbeats 1000000 in
theorem ok_feed_plain (N : Nat) : FnOK Tryd.prog gt0 49 (sp_feed_plain N) := by
 refine fnOK_handed Tryd.func49 rfl (by kernel_rfl) tt_ok (ktCons (ok_whole_Clip N) (ktNil)) ?_
 intro args lk r h hp
 unfold sp_feed_plain at h
 split at h
 ·
  rename_i a1 a2 a3 a4 a5
  change (List Int) at a1
  change (List Int) at a2
  cases h
  obtain ⟨x, hx⟩ := Option.isSome_iff_exists.1 hp
  simp only [hx, Option.getD_some]
  refine hand0 rfl rfl (fun w0 M ε0 hX => ?_)
  refine rCount (fun hε => ?_)
  have hT : feed_plain N a1 a2 a3 a4 a5 = some x := hx; clear hx hp; unfold feed_plain at hT
  refine rSeq ?_
  refine zReg md0 hX rfl rfl rfl ?_
  refine rThen ?_
  refine rSeq ?_
  refine rSeq ?_
  refine zReg md0 hX rfl rfl rfl ?_
  refine rThen ?_
  refine rBlock ?_
  replace hT := sBind hT; obtain ⟨w1, hl, hT⟩ := hT
  refine rJoinA (fun v1 => v1 = w1) (fun v1 => ⟨[(1, .v (.c (.ptr 0 0 0 0 0 0))), (2, .v (.c (.ptr 1 0 0 0 0 0)))], [(0, .mem true 26 none (.flat [.ints 64 .i64 v1, .ints 64 .i64 a2, .cs [.int .i64 a3, .int .i64 a4, .bool a5]])), (1, .mem true 26 none (.flat [.ints 64 .i64 (List.replicate 64 0), .ints 64 .i64 (List.replicate 64 0), .cs [.int .i64 0, .int .i64 0, .bool false]]))], 2⟩) (.exit 0) (fun v1 hv => ?_) (fun hxs10 => ?_)
  ·
   subst hv; clear hl
   refine rInHit ?_
   refine rThen ?_
   refine rSeq ?_
   refine rSeq ?_
   refine zReg md0 hX rfl rfl rfl ?_
   refine rThen ?_
   refine rJoin ⟨[(1, .v (.c (.ptr 0 0 0 0 0 0))), (2, .v (.c (.ptr 1 0 0 0 0 0)))], [(0, .mem true 26 none (.flat [.ints 64 .i64 (bif a5 then (v1.set 0 0) else v1), .ints 64 .i64 (bif a5 then (List.replicate 64 0) else a2), .cs [.int .i64 a3, .int .i64 a4, .bool a5]])), (1, .mem true 26 none (.flat [.ints 64 .i64 (List.replicate 64 0), .ints 64 .i64 (List.replicate 64 0), .cs [.int .i64 0, .int .i64 0, .bool false]]))], 2⟩ ?_ (fun hj => ?_)
   ·
    refine rThen ?_
    refine rSeq ?_
    let c1 := (whole_Clip N a3 1 31)
    let c2 := (whole_Clip N a4 1 31)
    replace hT := sIf hT; obtain ⟨⟨o1, o2⟩, hT⟩ := hT
    refine zDraw md0 2 [7, 9] hX mixed rfl rfl rfl rfl rfl ?_
    refine rThen ?_
    refine rSeq ?_
    refine zReg md0 hX rfl rfl rfl ?_
    refine rThen ?_
    refine rRet ?_
    have hy := Option.some.inj hT; subst hy
    exact zEnd0 hX rfl
   ·
    clear hT
    refine zCond rfl rfl (fun hc => ?_) (fun hc => ?_)
    ·
     refine zReg md0 hX rfl rfl rfl ?_
     exact rTo (To.mk' [] 0 hε rfl (by (repeat' first | exact True.intro | exact rfl | apply And.intro) <;> (repeat' first | exact rfl | refine Eq.trans ?_ (cTr (by assumption)) | refine Eq.trans ?_ (cFr (by assumption)) | refine Eq.trans (cTl (by assumption)) ?_ | refine Eq.trans (cFl (by assumption)) ?_)) (by (repeat' first | exact True.intro | exact rfl | apply And.intro) <;> (repeat' first | exact rfl | refine Eq.trans ?_ (cTr (by assumption)) | refine Eq.trans ?_ (cFr (by assumption)) | refine Eq.trans (cTl (by assumption)) ?_ | refine Eq.trans (cFl (by assumption)) ?_))) hj
    ·
     refine rSkip ?_
     exact rTo (To.mk' [] 0 hε rfl (by (repeat' first | exact True.intro | exact rfl | apply And.intro) <;> (repeat' first | exact rfl | refine Eq.trans ?_ (cTr (by assumption)) | refine Eq.trans ?_ (cFr (by assumption)) | refine Eq.trans (cTl (by assumption)) ?_ | refine Eq.trans (cFl (by assumption)) ?_)) (by (repeat' first | exact True.intro | exact rfl | apply And.intro) <;> (repeat' first | exact rfl | refine Eq.trans ?_ (cTr (by assumption)) | refine Eq.trans ?_ (cFr (by assumption)) | refine Eq.trans (cTl (by assumption)) ?_ | refine Eq.trans (cFl (by assumption)) ?_))) hj
  refine rLoopM (feed_plain_b1 N a1) (fun s1 => ⟨[(1, .v (.c (.ptr 0 0 0 0 0 0))), (2, .v (.c (.ptr 1 0 0 0 0 0))), (6, .v (.agg [.ints 64 .i64 a1])), (7, .v (.c (.int .i64 s1.1)))], [(0, .mem true 26 none (.flat [.ints 64 .i64 s1.2, .ints 64 .i64 a2, .cs [.int .i64 a3, .int .i64 a4, .bool a5]])), (1, .mem true 26 none (.flat [.ints 64 .i64 (List.replicate 64 0), .ints 64 .i64 (List.replicate 64 0), .cs [.int .i64 0, .int .i64 0, .bool false]]))], 2⟩) hl (To.mk' [] 0 hε rfl (by repeat' first | exact True.intro | exact rfl | apply And.intro) (by repeat' first | exact True.intro | exact rfl | apply And.intro)) (fun s1 zs1 NNs1 hz hnexts1 houts1 => ?_)
  clear hl hT
  have hT := hz; clear hz
  refine rSeq ?_
  refine zReg md0 hX rfl rfl rfl ?_
  refine rThen ?_
  refine rSeq ?_
  refine zCond rfl rfl (fun hc => ?_) (fun hc => ?_)
  ·
   replace hT := sT hc hT
   refine rSkip ?_
   refine rThen ?_
   refine rSeq ?_
   refine rBlock ?_
   refine rSeq ?_
   replace hT := sIf hT; obtain ⟨⟨o1, o2, o3⟩, hT⟩ := hT
   refine zReg md0 hX rfl rfl rfl ?_
   refine rThen ?_
   let c3 := (whole_Clip N (a1.getD (s1.1).toNat 0) (-127) 127)
   replace hT := sIf hT; obtain ⟨⟨o1, o2, o3, o4⟩, hT⟩ := hT
   refine zReg md0 hX rfl rfl rfl ?_
   refine rInNormal ?_
   refine rThen ?_
   replace hT := sIf hT; obtain ⟨o1, hT⟩ := hT
   refine zReg md0 hX rfl rfl rfl ?_
   exact hnexts1 _ (Option.some.inj hT).symm _ (To.mk' [] 0 hε rfl (by repeat' first | exact True.intro | exact rfl | apply And.intro) (by repeat' first | exact True.intro | exact rfl | apply And.intro))
  ·
   replace hT := sF hc hT
   refine rExit ?_
   refine rThenExit ?_
   refine rThenExit ?_
   exact zTo [] 0 hε (hxs10 _ (houts1 _ (Option.some.inj hT).symm))
 ·
  cases h
def scale_Value (N : Nat) (a1 : Int) (a2 : Int) : Option Int :=
 let c1 := (whole_Clip N a1 (-127) 127)
 if c1.isSome = true then
  let c2 := (whole_Clip N a2 1 31)
  if c2.isSome = true then
   bif (decide ((c1.getD default) = 0)) then
    some 0
   else
    if inK .i64 (-(c1.getD default)) ∧ inK .i64 ((2 : Int) * (max (c1.getD default) (-(c1.getD default)))) ∧ inK .i64 (((2 : Int) * (max (c1.getD default) (-(c1.getD default)))) + 1) ∧ inK .i64 ((c2.getD default) * (((2 : Int) * (max (c1.getD default) (-(c1.getD default)))) + 1)) then
     if (0 : Int) ≤ (c2.getD default) then
      if ((decide (((c2.getD default) % 2) = 0)) = true → inK .i64 (((c2.getD default) * (((2 : Int) * (max (c1.getD default) (-(c1.getD default)))) + 1)) - 1)) then
       let x1 := (bif (decide (((c2.getD default) % 2) = 0)) then (((c2.getD default) * (((2 : Int) * (max (c1.getD default) (-(c1.getD default)))) + 1)) - 1) else ((c2.getD default) * (((2 : Int) * (max (c1.getD default) (-(c1.getD default)))) + 1)))
       if ((decide ((c1.getD default) < 0)) = true → inK .i64 (-x1)) then
        let c3 := (whole_Clip N (bif (decide ((c1.getD default) < 0)) then (-x1) else x1) (-2048) 2047)
        if c3.isSome = true then
         some (c3.getD default)
        else none
       else none
      else none
     else none
    else none
  else none
 else none
def sp_scale_Value (N : Nat) : X.Spec := fun args lk => match args with
 | [.v (.c (.int .i64 a1)), .v (.c (.int .i64 a2))] => some ⟨(scale_Value N a1 a2).isSome = true, .v (.c (.int .i64 ((scale_Value N a1 a2).getD default))), [], []⟩
 | _ => none
set_option maxRecDepth 100000 in
set_option maxHeartbeats 1000000 in
theorem ok_scale_Value (N : Nat) : FnOK Tryd.prog gt0 102 (sp_scale_Value N) := by
 refine fnOK_handed Tryd.func102 rfl (by kernel_rfl) tt_ok (ktCons (ok_whole_Clip N) (ktNil)) ?_
 intro args lk r h hp
 unfold sp_scale_Value at h
 split at h
 ·
  rename_i a1 a2
  cases h
  obtain ⟨x, hx⟩ := Option.isSome_iff_exists.1 hp
  simp only [hx, Option.getD_some]
  refine hand0 rfl rfl (fun w0 M ε0 hX => ?_)
  refine rCount (fun hε => ?_)
  have hT : scale_Value N a1 a2 = some x := hx; clear hx hp; unfold scale_Value at hT
  refine rSeq ?_
  refine zReg md0 hX rfl rfl rfl ?_
  refine rThen ?_
  refine rSeq ?_
  let c1 := (whole_Clip N a1 (-127) 127)
  replace hT := sIf hT; obtain ⟨o1, hT⟩ := hT
  refine zReg md0 hX rfl rfl rfl ?_
  refine rThen ?_
  refine rSeq ?_
  let c2 := (whole_Clip N a2 1 31)
  replace hT := sIf hT; obtain ⟨o1, hT⟩ := hT
  refine zReg md0 hX rfl rfl rfl ?_
  refine rThen ?_
  refine rSeq ?_
  refine rSeq ?_
  refine zReg md0 hX rfl rfl rfl ?_
  refine rThen ?_
  refine zCond rfl rfl (fun hc => ?_) (fun hc => ?_)
  ·
   replace hT := sT hc hT
   refine rSeq ?_
   refine zReg md0 hX rfl rfl rfl ?_
   refine rThen ?_
   refine rRet ?_
   refine rThenRet ?_
   have hy := Option.some.inj hT; subst hy
   exact zEnd0 hX rfl
  ·
   replace hT := sF hc hT
   refine rSkip ?_
   refine rThen ?_
   refine rSeq ?_
   replace hT := sIf hT; obtain ⟨⟨o1, o2, o3, o4⟩, hT⟩ := hT
   refine zReg md0 hX rfl rfl rfl ?_
   refine rThen ?_
   refine rSeq ?_
   refine rSeq ?_
   replace hT := sIf hT; obtain ⟨o1, hT⟩ := hT
   refine zReg md0 hX rfl rfl rfl ?_
   refine rThen ?_
   replace hT := sIf hT; obtain ⟨q2, hT⟩ := hT
   refine rJoin ⟨[(0, .v (.c (.int .i64 (c1.getD default)))), (4, .v (.c (.int .i64 0))), (5, .v (.c (.int .i64 (bif (decide (((c2.getD default) % 2) = 0)) then (((c2.getD default) * (((2 : Int) * (max (c1.getD default) (-(c1.getD default)))) + 1)) - 1) else ((c2.getD default) * (((2 : Int) * (max (c1.getD default) (-(c1.getD default)))) + 1))))))], [], 0⟩ ?_ (fun hj => ?_)
   ·
    let x1 := (bif (decide (((c2.getD default) % 2) = 0)) then (((c2.getD default) * (((2 : Int) * (max (c1.getD default) (-(c1.getD default)))) + 1)) - 1) else ((c2.getD default) * (((2 : Int) * (max (c1.getD default) (-(c1.getD default)))) + 1)))
    refine rThen ?_
    refine rSeq ?_
    refine rSeq ?_
    refine zReg md0 hX rfl rfl rfl ?_
    refine rThen ?_
    replace hT := sIf hT; obtain ⟨q1, hT⟩ := hT
    refine rJoin ⟨[(4, .v (.c (.int .i64 0))), (5, .v (.c (.int .i64 (bif (decide ((c1.getD default) < 0)) then (-x1) else x1))))], [], 0⟩ ?_ (fun hj => ?_)
    ·
     refine rThen ?_
     refine rSeq ?_
     let c3 := (whole_Clip N (bif (decide ((c1.getD default) < 0)) then (-x1) else x1) (-2048) 2047)
     replace hT := sIf hT; obtain ⟨o1, hT⟩ := hT
     refine zReg md0 hX rfl rfl rfl ?_
     refine rThen ?_
     refine rRet ?_
     have hy := Option.some.inj hT; subst hy
     exact zEnd0 hX rfl
    ·
     clear hT
     refine zCond rfl rfl (fun hc => ?_) (fun hc => ?_)
     ·
      have q1 := q1 hc
      refine zReg md0 hX rfl rfl rfl ?_
      exact rTo (To.mk' [] 0 hε rfl (by (repeat' first | exact True.intro | exact rfl | apply And.intro) <;> (repeat' first | exact rfl | refine Eq.trans ?_ (cTr (by assumption)) | refine Eq.trans ?_ (cFr (by assumption)) | refine Eq.trans (cTl (by assumption)) ?_ | refine Eq.trans (cFl (by assumption)) ?_)) (by (repeat' first | exact True.intro | exact rfl | apply And.intro) <;> (repeat' first | exact rfl | refine Eq.trans ?_ (cTr (by assumption)) | refine Eq.trans ?_ (cFr (by assumption)) | refine Eq.trans (cTl (by assumption)) ?_ | refine Eq.trans (cFl (by assumption)) ?_))) hj
     ·
      refine rSkip ?_
      exact rTo (To.mk' [] 0 hε rfl (by (repeat' first | exact True.intro | exact rfl | apply And.intro) <;> (repeat' first | exact rfl | refine Eq.trans ?_ (cTr (by assumption)) | refine Eq.trans ?_ (cFr (by assumption)) | refine Eq.trans (cTl (by assumption)) ?_ | refine Eq.trans (cFl (by assumption)) ?_)) (by (repeat' first | exact True.intro | exact rfl | apply And.intro) <;> (repeat' first | exact rfl | refine Eq.trans ?_ (cTr (by assumption)) | refine Eq.trans ?_ (cFr (by assumption)) | refine Eq.trans (cTl (by assumption)) ?_ | refine Eq.trans (cFl (by assumption)) ?_))) hj
   ·
    clear hT
    refine zCond rfl rfl (fun hc => ?_) (fun hc => ?_)
    ·
     have q2 := q2 hc
     refine zReg md0 hX rfl rfl rfl ?_
     exact rTo (To.mk' [] 0 hε rfl (by (repeat' first | exact True.intro | exact rfl | apply And.intro) <;> (repeat' first | exact rfl | refine Eq.trans ?_ (cTr (by assumption)) | refine Eq.trans ?_ (cFr (by assumption)) | refine Eq.trans (cTl (by assumption)) ?_ | refine Eq.trans (cFl (by assumption)) ?_)) (by (repeat' first | exact True.intro | exact rfl | apply And.intro) <;> (repeat' first | exact rfl | refine Eq.trans ?_ (cTr (by assumption)) | refine Eq.trans ?_ (cFr (by assumption)) | refine Eq.trans (cTl (by assumption)) ?_ | refine Eq.trans (cFl (by assumption)) ?_))) hj
    ·
     refine rSkip ?_
     exact rTo (To.mk' [] 0 hε rfl (by (repeat' first | exact True.intro | exact rfl | apply And.intro) <;> (repeat' first | exact rfl | refine Eq.trans ?_ (cTr (by assumption)) | refine Eq.trans ?_ (cFr (by assumption)) | refine Eq.trans (cTl (by assumption)) ?_ | refine Eq.trans (cFl (by assumption)) ?_)) (by (repeat' first | exact True.intro | exact rfl | apply And.intro) <;> (repeat' first | exact rfl | refine Eq.trans ?_ (cTr (by assumption)) | refine Eq.trans ?_ (cFr (by assumption)) | refine Eq.trans (cTl (by assumption)) ?_ | refine Eq.trans (cFl (by assumption)) ?_))) hj
 ·
  cases h
def scale_Dc (N : Nat) (a1 : Int) : Option Int :=
 let c1 := (whole_Clip N a1 1 254)
 if c1.isSome = true ∧ inK .i64 ((8 : Int) * (c1.getD default)) then
  some ((8 : Int) * (c1.getD default))
 else none
def sp_scale_Dc (N : Nat) : X.Spec := fun args lk => match args with
 | [.v (.c (.int .i64 a1))] => some ⟨(scale_Dc N a1).isSome = true, .v (.c (.int .i64 ((scale_Dc N a1).getD default))), [], []⟩
 | _ => none
set_option maxRecDepth 100000 in
set_option maxHeartbeats 1000000 in
theorem ok_scale_Dc (N : Nat) : FnOK Tryd.prog gt0 103 (sp_scale_Dc N) := by
 refine fnOK_handed Tryd.func103 rfl (by kernel_rfl) tt_ok (ktCons (ok_whole_Clip N) (ktNil)) ?_
 intro args lk r h hp
 unfold sp_scale_Dc at h
 split at h
 ·
  rename_i a1
  cases h
  obtain ⟨x, hx⟩ := Option.isSome_iff_exists.1 hp
  simp only [hx, Option.getD_some]
  refine hand0 rfl rfl (fun w0 M ε0 hX => ?_)
  refine rCount (fun hε => ?_)
  have hT : scale_Dc N a1 = some x := hx; clear hx hp; unfold scale_Dc at hT
  refine rSeq ?_
  refine zReg md0 hX rfl rfl rfl ?_
  refine rThen ?_
  refine rSeq ?_
  let c1 := (whole_Clip N a1 1 254)
  replace hT := sIf hT; obtain ⟨⟨o1, o2⟩, hT⟩ := hT
  refine zReg md0 hX rfl rfl rfl ?_
  refine rThen ?_
  refine rRet ?_
  have hy := Option.some.inj hT; subst hy
  exact zEnd0 hX rfl
 ·
  cases h
def scale_Block_b1 (N : Nat) (a1 : (List Int)) (a2 : Int) (s1 : (Int × (List Int))) : Option ((Int × (List Int)) ⊕ (List Int)) :=
 bif (decide (s1.1 < 64)) then
  if (0 : Int) ≤ s1.1 ∧ s1.1 < 64 ∧ (s1.1).toNat < 64 then
   let c2 := (scale_Value N (a1.getD (s1.1).toNat 0) a2)
   if c2.isSome = true ∧ (0 : Int) ≤ s1.1 ∧ s1.1 < 64 ∧ (s1.1).toNat < 64 then
    if inK .i64 (s1.1 + 1) then
     some (.inl ((s1.1 + 1), (s1.2.set (s1.1).toNat (c2.getD default))))
    else none
   else none
  else none
 else
  some (.inr s1.2)
def scale_Block (N : Nat) (a1 : (List Int)) (a2 : Int) (a3 : Bool) (a4 : Int) : Option (List Int) :=
 (iter (scale_Block_b1 N a1 a2) N (0, (List.replicate 64 0))).bind fun v1 =>
  let c1 := (scale_Dc N a4)
  if (a3 = true → c1.isSome = true) then
   some (bif a3 then (v1.set 0 (c1.getD default)) else v1)
  else none
def sp_scale_Block (N : Nat) : X.Spec := fun args lk => match args with
 | [.v (.agg [.ints 64 .i64 a1]), .v (.c (.int .i64 a2)), .v (.c (.bool a3)), .v (.c (.int .i64 a4))] => some ⟨(scale_Block N a1 a2 a3 a4).isSome = true, .v (.agg [.ints 64 .i64 ((scale_Block N a1 a2 a3 a4).getD default)]), [], []⟩
 | _ => none
set_option maxRecDepth 100000 in
set_option maxHeartbeats 1000000 in
theorem ok_scale_Block (N : Nat) : FnOK Tryd.prog gt0 50 (sp_scale_Block N) := by
 refine fnOK_handed Tryd.func50 rfl (by kernel_rfl) tt_ok (ktCons (ok_scale_Value N) (ktCons (ok_scale_Dc N) (ktNil))) ?_
 intro args lk r h hp
 unfold sp_scale_Block at h
 split at h
 ·
  rename_i a1 a2 a3 a4
  change (List Int) at a1
  cases h
  obtain ⟨x, hx⟩ := Option.isSome_iff_exists.1 hp
  simp only [hx, Option.getD_some]
  refine hand0 rfl rfl (fun w0 M ε0 hX => ?_)
  refine rCount (fun hε => ?_)
  have hT : scale_Block N a1 a2 a3 a4 = some x := hx; clear hx hp; unfold scale_Block at hT
  refine rSeq ?_
  refine zReg md0 hX rfl rfl rfl ?_
  refine rThen ?_
  refine rSeq ?_
  refine zReg md0 hX rfl rfl rfl ?_
  refine rThen ?_
  refine rSeq ?_
  refine rSeq ?_
  refine zReg md0 hX rfl rfl rfl ?_
  refine rThen ?_
  refine rBlock ?_
  replace hT := sBind hT; obtain ⟨w1, hl, hT⟩ := hT
  refine rJoinA (fun v1 => v1 = w1) (fun v1 => ⟨[(2, .v (.c (.bool a3))), (3, .v (.c (.int .i64 a4))), (8, .v (.c (.ptr 1 0 0 0 0 0))), (9, .v (.c (.ptr 2 0 0 0 0 0)))], [(1, .mem true 22 none (.flat [.ints 64 .i64 (List.replicate 64 0)])), (2, .mem true 22 none (.flat [.ints 64 .i64 v1]))], 3⟩) (.exit 0) (fun v1 hv => ?_) (fun hxs10 => ?_)
  ·
   subst hv; clear hl
   refine rInHit ?_
   refine rThen ?_
   refine rSeq ?_
   refine rSeq ?_
   refine zReg md0 hX rfl rfl rfl ?_
   refine rThen ?_
   let c1 := (scale_Dc N a4)
   replace hT := sIf hT; obtain ⟨q1, hT⟩ := hT
   refine rJoin ⟨[(8, .v (.c (.ptr 1 0 0 0 0 0))), (9, .v (.c (.ptr 2 0 0 0 0 0)))], [(1, .mem true 22 none (.flat [.ints 64 .i64 (List.replicate 64 0)])), (2, .mem true 22 none (.flat [.ints 64 .i64 (bif a3 then (v1.set 0 (c1.getD default)) else v1)]))], 3⟩ ?_ (fun hj => ?_)
   ·
    refine rThen ?_
    refine rSeq ?_
    refine zReg md0 hX rfl rfl rfl ?_
    refine rThen ?_
    refine rRet ?_
    have hy := Option.some.inj hT; subst hy
    exact zEnd0 hX rfl
   ·
    clear hT
    refine zCond rfl rfl (fun hc => ?_) (fun hc => ?_)
    ·
     have q1 := q1 hc
     refine zReg md0 hX rfl rfl rfl ?_
     exact rTo (To.mk' [] 0 hε rfl (by (repeat' first | exact True.intro | exact rfl | apply And.intro) <;> (repeat' first | exact rfl | refine Eq.trans ?_ (cTr (by assumption)) | refine Eq.trans ?_ (cFr (by assumption)) | refine Eq.trans (cTl (by assumption)) ?_ | refine Eq.trans (cFl (by assumption)) ?_)) (by (repeat' first | exact True.intro | exact rfl | apply And.intro) <;> (repeat' first | exact rfl | refine Eq.trans ?_ (cTr (by assumption)) | refine Eq.trans ?_ (cFr (by assumption)) | refine Eq.trans (cTl (by assumption)) ?_ | refine Eq.trans (cFl (by assumption)) ?_))) hj
    ·
     refine rSkip ?_
     exact rTo (To.mk' [] 0 hε rfl (by (repeat' first | exact True.intro | exact rfl | apply And.intro) <;> (repeat' first | exact rfl | refine Eq.trans ?_ (cTr (by assumption)) | refine Eq.trans ?_ (cFr (by assumption)) | refine Eq.trans (cTl (by assumption)) ?_ | refine Eq.trans (cFl (by assumption)) ?_)) (by (repeat' first | exact True.intro | exact rfl | apply And.intro) <;> (repeat' first | exact rfl | refine Eq.trans ?_ (cTr (by assumption)) | refine Eq.trans ?_ (cFr (by assumption)) | refine Eq.trans (cTl (by assumption)) ?_ | refine Eq.trans (cFl (by assumption)) ?_))) hj
  refine rLoopM (scale_Block_b1 N a1 a2) (fun s1 => ⟨[(1, .v (.c (.int .i64 a2))), (2, .v (.c (.bool a3))), (3, .v (.c (.int .i64 a4))), (8, .v (.c (.ptr 1 0 0 0 0 0))), (9, .v (.c (.ptr 2 0 0 0 0 0))), (12, .v (.agg [.ints 64 .i64 a1])), (13, .v (.c (.int .i64 s1.1)))], [(1, .mem true 22 none (.flat [.ints 64 .i64 (List.replicate 64 0)])), (2, .mem true 22 none (.flat [.ints 64 .i64 s1.2]))], 3⟩) hl (To.mk' [] 0 hε rfl (by repeat' first | exact True.intro | exact rfl | apply And.intro) (by repeat' first | exact True.intro | exact rfl | apply And.intro)) (fun s1 zs1 NNs1 hz hnexts1 houts1 => ?_)
  clear hl hT
  have hT := hz; clear hz
  refine rSeq ?_
  refine zReg md0 hX rfl rfl rfl ?_
  refine rThen ?_
  refine rSeq ?_
  refine zCond rfl rfl (fun hc => ?_) (fun hc => ?_)
  ·
   replace hT := sT hc hT
   refine rSkip ?_
   refine rThen ?_
   refine rSeq ?_
   refine rBlock ?_
   refine rSeq ?_
   replace hT := sIf hT; obtain ⟨⟨o1, o2, o3⟩, hT⟩ := hT
   refine zReg md0 hX rfl rfl rfl ?_
   refine rThen ?_
   let c2 := (scale_Value N (a1.getD (s1.1).toNat 0) a2)
   replace hT := sIf hT; obtain ⟨⟨o1, o2, o3, o4⟩, hT⟩ := hT
   refine zReg md0 hX rfl rfl rfl ?_
   refine rInNormal ?_
   refine rThen ?_
   replace hT := sIf hT; obtain ⟨o1, hT⟩ := hT
   refine zReg md0 hX rfl rfl rfl ?_
   exact hnexts1 _ (Option.some.inj hT).symm _ (To.mk' [] 0 hε rfl (by repeat' first | exact True.intro | exact rfl | apply And.intro) (by repeat' first | exact True.intro | exact rfl | apply And.intro))
  ·
   replace hT := sF hc hT
   refine rExit ?_
   refine rThenExit ?_
   refine rThenExit ?_
   exact zTo [] 0 hε (hxs10 _ (houts1 _ (Option.some.inj hT).symm))
 ·
  cases h
def dct_within_b1 (N : Nat) (a1 : (List Int)) (s1 : (Int × (List Int))) : Option ((Int × (List Int)) ⊕ (List Int)) :=
 bif (decide (s1.1 < 64)) then
  if (0 : Int) ≤ s1.1 ∧ s1.1 < 64 ∧ (s1.1).toNat < 64 then
   let c1 := (whole_Clip N (a1.getD (s1.1).toNat 0) (-2048) 2047)
   if c1.isSome = true ∧ (0 : Int) ≤ s1.1 ∧ s1.1 < 64 ∧ (s1.1).toNat < 64 then
    if inK .i64 (s1.1 + 1) then
     some (.inl ((s1.1 + 1), (s1.2.set (s1.1).toNat (c1.getD default))))
    else none
   else none
  else none
 else
  some (.inr s1.2)
def dct_within (N : Nat) (a1 : (List Int)) : Option (List Int) :=
 (iter (dct_within_b1 N a1) N (0, (List.replicate 64 0))).bind fun v1 =>
  some v1
def sp_dct_within (N : Nat) : X.Spec := fun args lk => match args with
 | [.v (.agg [.ints 64 .i64 a1])] => some ⟨(dct_within N a1).isSome = true, .v (.agg [.ints 64 .i64 ((dct_within N a1).getD default)]), [], []⟩
 | _ => none
set_option maxRecDepth 100000 in
set_option maxHeartbeats 1000000 in
theorem ok_dct_within (N : Nat) : FnOK Tryd.prog gt0 104 (sp_dct_within N) := by
 refine fnOK_handed Tryd.func104 rfl (by kernel_rfl) tt_ok (ktCons (ok_whole_Clip N) (ktNil)) ?_
 intro args lk r h hp
 unfold sp_dct_within at h
 split at h
 ·
  rename_i a1
  change (List Int) at a1
  cases h
  obtain ⟨x, hx⟩ := Option.isSome_iff_exists.1 hp
  simp only [hx, Option.getD_some]
  refine hand0 rfl rfl (fun w0 M ε0 hX => ?_)
  refine rCount (fun hε => ?_)
  have hT : dct_within N a1 = some x := hx; clear hx hp; unfold dct_within at hT
  refine rSeq ?_
  refine zReg md0 hX rfl rfl rfl ?_
  refine rThen ?_
  refine rSeq ?_
  refine zReg md0 hX rfl rfl rfl ?_
  refine rThen ?_
  refine rSeq ?_
  refine rSeq ?_
  refine zReg md0 hX rfl rfl rfl ?_
  refine rThen ?_
  refine rBlock ?_
  replace hT := sBind hT; obtain ⟨w1, hl, hT⟩ := hT
  refine rJoinA (fun v1 => v1 = w1) (fun v1 => ⟨[(2, .v (.c (.ptr 1 0 0 0 0 0))), (3, .v (.c (.ptr 2 0 0 0 0 0)))], [(1, .mem true 129 none (.flat [.ints 64 .i64 (List.replicate 64 0)])), (2, .mem true 129 none (.flat [.ints 64 .i64 v1]))], 3⟩) (.exit 0) (fun v1 hv => ?_) (fun hxs10 => ?_)
  ·
   subst hv; clear hl
   refine rInHit ?_
   refine rThen ?_
   refine rSeq ?_
   refine zReg md0 hX rfl rfl rfl ?_
   refine rThen ?_
   refine rRet ?_
   have hy := Option.some.inj hT; subst hy
   exact zEnd0 hX rfl
  refine rLoopM (dct_within_b1 N a1) (fun s1 => ⟨[(2, .v (.c (.ptr 1 0 0 0 0 0))), (3, .v (.c (.ptr 2 0 0 0 0 0))), (6, .v (.agg [.ints 64 .i64 a1])), (7, .v (.c (.int .i64 s1.1)))], [(1, .mem true 129 none (.flat [.ints 64 .i64 (List.replicate 64 0)])), (2, .mem true 129 none (.flat [.ints 64 .i64 s1.2]))], 3⟩) hl (To.mk' [] 0 hε rfl (by repeat' first | exact True.intro | exact rfl | apply And.intro) (by repeat' first | exact True.intro | exact rfl | apply And.intro)) (fun s1 zs1 NNs1 hz hnexts1 houts1 => ?_)
  clear hl hT
  have hT := hz; clear hz
  refine rSeq ?_
  refine zReg md0 hX rfl rfl rfl ?_
  refine rThen ?_
  refine rSeq ?_
  refine zCond rfl rfl (fun hc => ?_) (fun hc => ?_)
  ·
   replace hT := sT hc hT
   refine rSkip ?_
   refine rThen ?_
   refine rSeq ?_
   refine rBlock ?_
   refine rSeq ?_
   replace hT := sIf hT; obtain ⟨⟨o1, o2, o3⟩, hT⟩ := hT
   refine zReg md0 hX rfl rfl rfl ?_
   refine rThen ?_
   let c1 := (whole_Clip N (a1.getD (s1.1).toNat 0) (-2048) 2047)
   replace hT := sIf hT; obtain ⟨⟨o1, o2, o3, o4⟩, hT⟩ := hT
   refine zReg md0 hX rfl rfl rfl ?_
   refine rInNormal ?_
   refine rThen ?_
   replace hT := sIf hT; obtain ⟨o1, hT⟩ := hT
   refine zReg md0 hX rfl rfl rfl ?_
   exact hnexts1 _ (Option.some.inj hT).symm _ (To.mk' [] 0 hε rfl (by repeat' first | exact True.intro | exact rfl | apply And.intro) (by repeat' first | exact True.intro | exact rfl | apply And.intro))
  ·
   replace hT := sF hc hT
   refine rExit ?_
   refine rThenExit ?_
   refine rThenExit ?_
   exact zTo [] 0 hε (hxs10 _ (houts1 _ (Option.some.inj hT).symm))
 ·
  cases h
def overspill_dct_square_fore_b1 (N : Nat) (a1 : Int) (a2 : Int) (a3 : (List Int)) (s1 : (Int × Int)) : Option ((Int × Int) ⊕ Int) :=
 bif (decide (s1.2 < 8)) then
  let x1 := (s1.1 + ((weightsL.getD ((a2).toNat * 8 + (s1.2).toNat) 0) * (a3.getD (((8 : Int) * a1) + s1.2).toNat 0)))
  if (0 : Int) ≤ a2 ∧ a2 < 8 ∧ (0 : Int) ≤ s1.2 ∧ s1.2 < 8 ∧ ((a2).toNat * 8 + (s1.2).toNat) < 64 ∧ inK .i64 ((8 : Int) * a1) ∧ inK .i64 (((8 : Int) * a1) + s1.2) ∧ (0 : Int) ≤ (((8 : Int) * a1) + s1.2) ∧ (((8 : Int) * a1) + s1.2) < 64 ∧ (((8 : Int) * a1) + s1.2).toNat < 64 ∧ inK .i64 ((weightsL.getD ((a2).toNat * 8 + (s1.2).toNat) 0) * (a3.getD (((8 : Int) * a1) + s1.2).toNat 0)) ∧ inK .i64 (s1.1 + ((weightsL.getD ((a2).toNat * 8 + (s1.2).toNat) 0) * (a3.getD (((8 : Int) * a1) + s1.2).toNat 0))) then
   if inK .i64 (s1.2 + 1) then
    some (.inl (x1, (s1.2 + 1)))
   else none
  else none
 else
  some (.inr s1.1)
def overspill_dct_square_fore (N : Nat) (a1 : Int) (a2 : Int) (a3 : (List Int)) : Option Int :=
 (iter (overspill_dct_square_fore_b1 N a1 a2 a3) N (0, 0)).bind fun v1 =>
  some v1
def sp_overspill_dct_square_fore (N : Nat) : X.Spec := fun args lk => match args with
 | [.v (.c (.ptr i0 0 0 0 0 0)), .v (.c (.int .i64 a1)), .v (.c (.int .i64 a2))] => (match lk i0 with
  | some (.mem _ _ _ (.flat [.ints 64 .i64 a3])) => some ⟨(overspill_dct_square_fore N a1 a2 a3).isSome = true, .v (.c (.int .i64 ((overspill_dct_square_fore N a1 a2 a3).getD default))), [], []⟩
  | _ => none)
 | _ => none
set_option maxRecDepth 100000 in
set_option maxHeartbeats 1000000 in
theorem ok_overspill_dct_square_fore (N : Nat) : FnOK Tryd.prog gt0 106 (sp_overspill_dct_square_fore N) := by
 refine fnOK_handed Tryd.func106 rfl (by kernel_rfl) tt_ok (ktNil) ?_
 intro args lk r h hp
 unfold sp_overspill_dct_square_fore at h
 split at h
 ·
  rename_i i0 a1 a2
  split at h
  ·
   rename_i _ _ _ a3 hl0
   change (List Int) at a3
   cases h
   obtain ⟨x, hx⟩ := Option.isSome_iff_exists.1 hp
   simp only [hx, Option.getD_some]
   refine handL [i0] 1 [(0, .mem false 129 none (.flat [.ints 64 .i64 a3]))] [.v (.c (.ptr 0 0 0 0 0 0)), .v (.c (.int .i64 a1)), .v (.c (.int .i64 a2))] rfl rfl rfl ⟨isSome_of hl0, trivial⟩ ⟨⟨rfl, (by repeat' first | exact True.intro | exact rfl | exact ⟨_, rfl, rfl⟩ | apply And.intro | exact Or.inl rfl), _, hl0, sub_ro⟩, trivial⟩ rfl (fun w0 M ε0 hX => ?_)
   refine rCount (fun hε => ?_)
   have hT : overspill_dct_square_fore N a1 a2 a3 = some x := hx; clear hx hp; unfold overspill_dct_square_fore at hT
   refine rSeq ?_
   refine zReg md0 hX rfl rfl rfl ?_
   refine rThen ?_
   refine rSeq ?_
   refine zReg md0 hX rfl rfl rfl ?_
   refine rThen ?_
   refine rSeq ?_
   refine rSeq ?_
   refine zReg md0 hX rfl rfl rfl ?_
   refine rThen ?_
   refine rBlock ?_
   replace hT := sBind hT; obtain ⟨w1, hl, hT⟩ := hT
   refine rJoinA (fun v1 => v1 = w1) (fun v1 => ⟨[(6, .v (.c (.int .i64 0))), (7, .v (.c (.int .i64 v1)))], [(0, .mem false 129 none (.flat [.ints 64 .i64 a3]))], 1⟩) (.exit 0) (fun v1 hv => ?_) (fun hxs10 => ?_)
   ·
    subst hv; clear hl
    refine rInHit ?_
    refine rThen ?_
    refine rSeq ?_
    refine zReg md0 hX rfl rfl rfl ?_
    refine rThen ?_
    refine rRet ?_
    have hy := Option.some.inj hT; subst hy
    exact zEnd0 hX rfl
   refine rLoopM (overspill_dct_square_fore_b1 N a1 a2 a3) (fun s1 => ⟨[(0, .v (.c (.ptr 0 0 0 0 0 0))), (1, .v (.c (.int .i64 a1))), (2, .v (.c (.int .i64 a2))), (6, .v (.c (.int .i64 0))), (7, .v (.c (.int .i64 s1.1))), (9, .v (.c (.int .i64 s1.2)))], [(0, .mem false 129 none (.flat [.ints 64 .i64 a3]))], 1⟩) hl (To.mk' [] 1 hε rfl (by repeat' first | exact True.intro | exact rfl | apply And.intro) (by repeat' first | exact True.intro | exact rfl | apply And.intro)) (fun s1 zs1 NNs1 hz hnexts1 houts1 => ?_)
   clear hl hT
   have hT := hz; clear hz
   refine rSeq ?_
   refine zReg md0 hX rfl rfl rfl ?_
   refine rThen ?_
   refine rSeq ?_
   refine zCond rfl rfl (fun hc => ?_) (fun hc => ?_)
   ·
    replace hT := sT hc hT
    refine rSkip ?_
    refine rThen ?_
    refine rSeq ?_
    refine rBlock ?_
    refine rSeq ?_
    refine zReg md0 hX rfl rfl rfl ?_
    refine rThen ?_
    let x1 := (s1.1 + ((weightsL.getD ((a2).toNat * 8 + (s1.2).toNat) 0) * (a3.getD (((8 : Int) * a1) + s1.2).toNat 0)))
    replace hT := sIf hT; obtain ⟨⟨o1, o2, o3, o4, o5, o6, o7, o8, o9, o10, o11, o12⟩, hT⟩ := hT
    refine zDraw md0 1 [16] hX mixed rfl rfl rfl rfl rfl ?_
    refine rInNormal ?_
    refine rThen ?_
    replace hT := sIf hT; obtain ⟨o1, hT⟩ := hT
    refine zReg md0 hX rfl rfl rfl ?_
    exact hnexts1 _ (Option.some.inj hT).symm _ (To.mk' [] 1 hε rfl (by repeat' first | exact True.intro | exact rfl | apply And.intro) (by repeat' first | exact True.intro | exact rfl | apply And.intro))
   ·
    replace hT := sF hc hT
    refine rExit ?_
    refine rThenExit ?_
    refine rThenExit ?_
    exact zTo [] 1 hε (hxs10 _ (houts1 _ (Option.some.inj hT).symm))
  ·
   cases h
 ·
  cases h
def dct_pass_fore_b2 (N : Nat) (a1 : (List Int)) (s1 : (Int × (List Int))) (s2 : (Int × (List Int))) : Option ((Int × (List Int)) ⊕ (Int × Bool × (List Int))) :=
 bif (decide (s2.1 < 8)) then
  let c1 := (overspill_dct_square_fore N s1.1 s2.1 a1)
  if inK .i64 ((8 : Int) * s2.1) ∧ inK .i64 (((8 : Int) * s2.1) + s1.1) ∧ c1.isSome = true ∧ (0 : Int) ≤ (((8 : Int) * s2.1) + s1.1) ∧ (((8 : Int) * s2.1) + s1.1) < 64 ∧ (((8 : Int) * s2.1) + s1.1).toNat < 64 then
   if inK .i64 (s2.1 + 1) then
    some (.inl ((s2.1 + 1), (s2.2.set (((8 : Int) * s2.1) + s1.1).toNat (c1.getD default))))
   else none
  else none
 else
  some (.inr (s2.1, (decide (s2.1 < 8)), s2.2))
def dct_pass_fore_b1 (N : Nat) (a1 : (List Int)) (s1 : (Int × (List Int))) : Option ((Int × (List Int)) ⊕ (List Int)) :=
 bif (decide (s1.1 < 8)) then
  (iter (dct_pass_fore_b2 N a1 s1) N (0, s1.2)).bind fun v2 =>
   if inK .i64 (s1.1 + 1) then
    some (.inl ((s1.1 + 1), v2.2.2))
   else none
 else
  some (.inr s1.2)
def dct_pass_fore (N : Nat) (a1 : (List Int)) : Option (List Int) :=
 (iter (dct_pass_fore_b1 N a1) N (0, (List.replicate 64 0))).bind fun v1 =>
  some v1
def sp_dct_pass_fore (N : Nat) : X.Spec := fun args lk => match args with
 | [.fnv 106 [.c (.ptr i0 0 0 0 0 0)] []] => (match lk i0 with
  | some (.mem _ _ _ (.flat [.ints 64 .i64 a1])) => some ⟨(dct_pass_fore N a1).isSome = true, .v (.agg [.ints 64 .i64 ((dct_pass_fore N a1).getD default)]), [], []⟩
  | _ => none)
 | _ => none
set_option maxRecDepth 100000 in
set_option maxHeartbeats 1000000 in
theorem ok_dct_pass_fore (N : Nat) : FnOK Tryd.prog gt0 105 (sp_dct_pass_fore N) := by
 refine fnOK_handed Tryd.func105 rfl (by kernel_rfl) tt_ok (ktCons (ok_overspill_dct_square_fore N) (ktNil)) ?_
 intro args lk r h hp
 unfold sp_dct_pass_fore at h
 split at h
 ·
  rename_i i0
  split at h
  ·
   rename_i _ _ _ a1 hl0
   change (List Int) at a1
   cases h
   obtain ⟨x, hx⟩ := Option.isSome_iff_exists.1 hp
   simp only [hx, Option.getD_some]
   refine handL [i0] 1 [(0, .mem false 129 none (.flat [.ints 64 .i64 a1]))] [.fnv 106 [.c (.ptr 0 0 0 0 0 0)] []] rfl rfl rfl ⟨isSome_of hl0, trivial⟩ ⟨⟨rfl, (by repeat' first | exact True.intro | exact rfl | exact ⟨_, rfl, rfl⟩ | apply And.intro | exact Or.inl rfl), _, hl0, sub_ro⟩, trivial⟩ rfl (fun w0 M ε0 hX => ?_)
   refine rCount (fun hε => ?_)
   have hT : dct_pass_fore N a1 = some x := hx; clear hx hp; unfold dct_pass_fore at hT
   refine rSeq ?_
   refine zReg md0 hX rfl rfl rfl ?_
   refine rThen ?_
   refine rSeq ?_
   refine zReg md0 hX rfl rfl rfl ?_
   refine rThen ?_
   refine rSeq ?_
   refine rSeq ?_
   refine zReg md0 hX rfl rfl rfl ?_
   refine rThen ?_
   refine rBlock ?_
   replace hT := sBind hT; obtain ⟨w1, hl, hT⟩ := hT
   refine rJoinA (fun v1 => v1 = w1) (fun v1 => ⟨[(2, .v (.c (.ptr 1 0 0 0 0 0))), (3, .v (.c (.ptr 2 0 0 0 0 0)))], [(0, .mem false 129 none (.flat [.ints 64 .i64 a1])), (1, .mem true 129 none (.flat [.ints 64 .i64 (List.replicate 64 0)])), (2, .mem true 129 none (.flat [.ints 64 .i64 v1]))], 3⟩) (.exit 0) (fun v1 hv => ?_) (fun hxs10 => ?_)
   ·
    subst hv; clear hl
    refine rInHit ?_
    refine rThen ?_
    refine rSeq ?_
    refine zReg md0 hX rfl rfl rfl ?_
    refine rThen ?_
    refine rRet ?_
    have hy := Option.some.inj hT; subst hy
    exact zEnd0 hX rfl
   refine rLoopM (dct_pass_fore_b1 N a1) (fun s1 => ⟨[(0, .fnv 106 [.c (.ptr 0 0 0 0 0 0)] []), (2, .v (.c (.ptr 1 0 0 0 0 0))), (3, .v (.c (.ptr 2 0 0 0 0 0))), (6, .v (.c (.int .i64 s1.1)))], [(0, .mem false 129 none (.flat [.ints 64 .i64 a1])), (1, .mem true 129 none (.flat [.ints 64 .i64 (List.replicate 64 0)])), (2, .mem true 129 none (.flat [.ints 64 .i64 s1.2]))], 3⟩) hl (To.mk' [] 1 hε rfl (by repeat' first | exact True.intro | exact rfl | apply And.intro) (by repeat' first | exact True.intro | exact rfl | apply And.intro)) (fun s1 zs1 NNs1 hz hnexts1 houts1 => ?_)
   clear hl hT
   have hT := hz; clear hz
   refine rSeq ?_
   refine zReg md0 hX rfl rfl rfl ?_
   refine rThen ?_
   refine rSeq ?_
   refine zCond rfl rfl (fun hc => ?_) (fun hc => ?_)
   ·
    replace hT := sT hc hT
    refine rSkip ?_
    refine rThen ?_
    refine rSeq ?_
    refine rBlock ?_
    refine rSeq ?_
    refine zReg md0 hX rfl rfl rfl ?_
    refine rThen ?_
    refine rSeq ?_
    refine zReg md0 hX rfl rfl rfl ?_
    refine rThen ?_
    refine rBlock ?_
    replace hT := sBind hT; obtain ⟨w2, hl, hT⟩ := hT
    refine rJoinA (fun v2 => v2 = w2) (fun v2 => ⟨[(0, .fnv 106 [.c (.ptr 0 0 0 0 0 0)] []), (2, .v (.c (.ptr 1 0 0 0 0 0))), (3, .v (.c (.ptr 2 0 0 0 0 0))), (4, .v (.c (.int .i64 s1.1))), (6, .v (.c (.int .i64 s1.1))), (7, .v (.c (.bool (decide (s1.1 < 8))))), (8, .v (.c (.int .i64 s1.1))), (9, .v (.c (.int .i64 v2.1))), (10, .v (.c (.bool v2.2.1)))], [(0, .mem false 129 none (.flat [.ints 64 .i64 a1])), (1, .mem true 129 none (.flat [.ints 64 .i64 (List.replicate 64 0)])), (2, .mem true 129 none (.flat [.ints 64 .i64 v2.2.2]))], 3⟩) (.exit 2) (fun v2 hv => ?_) (fun hxs20 => ?_)
    ·
     subst hv; clear hl
     refine rInHit ?_
     refine rInNormal ?_
     refine rThen ?_
     replace hT := sIf hT; obtain ⟨o1, hT⟩ := hT
     refine zReg md0 hX rfl rfl rfl ?_
     exact hnexts1 _ (Option.some.inj hT).symm _ (To.mk' [] 1 hε rfl (by repeat' first | exact True.intro | exact rfl | apply And.intro) (by repeat' first | exact True.intro | exact rfl | apply And.intro))
    refine rLoopM (dct_pass_fore_b2 N a1 s1) (fun s2 => ⟨[(0, .fnv 106 [.c (.ptr 0 0 0 0 0 0)] []), (2, .v (.c (.ptr 1 0 0 0 0 0))), (3, .v (.c (.ptr 2 0 0 0 0 0))), (4, .v (.c (.int .i64 s1.1))), (6, .v (.c (.int .i64 s1.1))), (7, .v (.c (.bool (decide (s1.1 < 8))))), (8, .v (.c (.int .i64 s1.1))), (9, .v (.c (.int .i64 s2.1)))], [(0, .mem false 129 none (.flat [.ints 64 .i64 a1])), (1, .mem true 129 none (.flat [.ints 64 .i64 (List.replicate 64 0)])), (2, .mem true 129 none (.flat [.ints 64 .i64 s2.2]))], 3⟩) hl (To.mk' [] 1 hε rfl (by repeat' first | exact True.intro | exact rfl | apply And.intro) (by repeat' first | exact True.intro | exact rfl | apply And.intro)) (fun s2 zs2 NNs2 hz hnexts2 houts2 => ?_)
    clear hl hT
    have hT := hz; clear hz
    refine rSeq ?_
    refine zReg md0 hX rfl rfl rfl ?_
    refine rThen ?_
    refine rSeq ?_
    refine zCond rfl rfl (fun hc => ?_) (fun hc => ?_)
    ·
     replace hT := sT hc hT
     refine rSkip ?_
     refine rThen ?_
     refine rSeq ?_
     refine rBlock ?_
     refine rSeq ?_
     refine zReg md0 hX rfl rfl rfl ?_
     refine rThen ?_
     let c1 := (overspill_dct_square_fore N s1.1 s2.1 a1)
     replace hT := sIf hT; obtain ⟨⟨o1, o2, o3, o4, o5, o6⟩, hT⟩ := hT
     refine zReg md0 hX rfl rfl rfl ?_
     refine rInNormal ?_
     refine rThen ?_
     replace hT := sIf hT; obtain ⟨o1, hT⟩ := hT
     refine zReg md0 hX rfl rfl rfl ?_
     exact hnexts2 _ (Option.some.inj hT).symm _ (To.mk' [] 1 hε rfl (by repeat' first | exact True.intro | exact rfl | apply And.intro) (by repeat' first | exact True.intro | exact rfl | apply And.intro))
    ·
     replace hT := sF hc hT
     refine rExit ?_
     refine rThenExit ?_
     refine rThenExit ?_
     exact zTo [] 1 hε (hxs20 _ (houts2 _ (Option.some.inj hT).symm))
   ·
    replace hT := sF hc hT
    refine rExit ?_
    refine rThenExit ?_
    refine rThenExit ?_
    exact zTo [] 1 hε (hxs10 _ (houts1 _ (Option.some.inj hT).symm))
  ·
   cases h
 ·
  cases h

end Go.Proofs.YtkfaebbbjahcpaaDoor
