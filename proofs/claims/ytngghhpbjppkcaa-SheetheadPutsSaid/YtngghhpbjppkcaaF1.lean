/- Models of functions, and that the program does what they tell. -/
import Derived.Test.YtngghhpbjppkcaaF0
set_option linter.unusedVariables false
set_option linter.unusedSimpArgs false
namespace Go.Proofs.Ytngghhpbjppkcaa
open Go.X

def inbits_New (N : Nat) (a1 : ByteArray) : Option (ByteArray × Int) :=
  some (a1, 0)
def sp_inbits_New (N : Nat) : X.Spec := fun args lk => match args with
  | [.v (.c (.str a1))] => some ⟨(inbits_New N a1).isSome = true, .v (.c (.ptr 0 0 0 0 0 0)), [.mem true 49 none (.flat [.cs [.str ((inbits_New N a1).getD default).1, .int .i64 ((inbits_New N a1).getD default).2]])], []⟩
  | _ => none
set_option maxRecDepth 100000 in
set_option maxHeartbeats 1000000 in
theorem ok_inbits_New (N : Nat) : FnOK Try.prog gt0 5 (sp_inbits_New N) := by
  refine fnOK_handed Try.func5 rfl (by kernel_rfl) tt_ok (ktNil) ?_
  intro args lk r h hp
  unfold sp_inbits_New at h
  split at h
  · rename_i a1
    cases h
    obtain ⟨x, hx⟩ := Option.isSome_iff_exists.1 hp
    simp only [hx, Option.getD_some]
    refine hand0 rfl rfl (fun w0 M ε0 hX => ?_)
    refine rCount (fun hε => ?_)
    have hT : inbits_New N a1 = some x := hx; clear hx hp; unfold inbits_New at hT
    refine zA hX ?_
    refine zA hX ?_
    refine rRet ?_
    have hy := Option.some.inj hT; subst hy
    exact rEndA [0] [.mem true 49 none (.flat [.cs [.str a1, .int .i64 0]])] [] (.v (.c (.ptr 0 0 0 0 0 0))) hX rfl zZ zL rfl rfl rfl zT rfl rfl zT rfl rfl
  · cases h
def overspill_inbits_Reader_Seek (N : Nat) (a1 : Int) (a2 : ByteArray) (a3 : Int) : Option Zt7 :=
  let x1 := (bif (decide (a1 < 0)) then true else (decide (((8 : Int) * (ByteArray.size a2 : Int)) < a1)))
  if ((!(decide (a1 < 0))) = true → inK .i64 ((8 : Int) * (ByteArray.size a2 : Int))) then
    bif x1 then
      some (1, a2, a3)
    else
      some (0, a2, a1)
  else none
def sp_overspill_inbits_Reader_Seek (N : Nat) : X.Spec := fun args lk => match args with
  | [.v (.c (.ptr i0 0 0 0 0 0)), .v (.c (.int .i64 a1))] => (match lk i0 with
    | some (.mem true 49 none (.flat [.cs [.str a2, .int .i64 a3]])) => some ⟨(overspill_inbits_Reader_Seek N a1 a2 a3).isSome = true, .v (.c (.int .i64 ((overspill_inbits_Reader_Seek N a1 a2 a3).getD default).1)), [], [(i0, .mem true 49 none (.flat [.cs [.str ((overspill_inbits_Reader_Seek N a1 a2 a3).getD default).2.1, .int .i64 ((overspill_inbits_Reader_Seek N a1 a2 a3).getD default).2.2]]))]⟩
    | _ => none)
  | _ => none
set_option maxRecDepth 100000 in
set_option maxHeartbeats 1000000 in
theorem ok_overspill_inbits_Reader_Seek (N : Nat) : FnOK Try.prog gt0 6 (sp_overspill_inbits_Reader_Seek N) := by
  refine fnOK_handed Try.func6 rfl (by kernel_rfl) tt_ok (ktNil) ?_
  intro args lk r h hp
  unfold sp_overspill_inbits_Reader_Seek at h
  split at h
  · rename_i i0 a1
    split at h
    · rename_i a2 a3 hl0
      cases h
      obtain ⟨x, hx⟩ := Option.isSome_iff_exists.1 hp
      simp only [hx, Option.getD_some]
      refine handL [i0] 1 [(0, .mem true 49 none (.flat [.cs [.str a2, .int .i64 a3]]))] [.v (.c (.ptr 0 0 0 0 0 0)), .v (.c (.int .i64 a1))] rfl rfl rfl ⟨isSome_of hl0, trivial⟩ ⟨⟨rfl, zT, _, hl0, .inl rfl⟩, trivial⟩ rfl (fun w0 M ε0 hX => ?_)
      refine rCount (fun hε => ?_)
      have hT : overspill_inbits_Reader_Seek N a1 a2 a3 = some x := hx; clear hx hp; unfold overspill_inbits_Reader_Seek at hT
      refine zA hX ?_
      refine rSeq ?_
      let x1 := (bif (decide (a1 < 0)) then true else (decide (((8 : Int) * (ByteArray.size a2 : Int)) < a1)))
      replace hT := sIf hT; obtain ⟨o1, hT⟩ := hT
      refine rSeq (rRegC md0 hX rfl rfl rfl zO ?_)
      refine rThen ?_
      refine zCond rfl rfl (fun hc => ?_) (fun hc => ?_)
      · replace hT := sT hc hT
        refine zA hX ?_
        refine rRet (rThenRet ?_)
        have hy := Option.some.inj hT; subst hy
        exact rEndA [] [] [(0, .mem true 49 none (.flat [.cs [.str a2, .int .i64 a3]]))] (.v (.c (.int .i64 1))) hX rfl zZ zL rfl rfl rfl zT rfl rfl zT rfl rfl
      · replace hT := sF hc hT
        refine rSkip (rThen (zA hX ?_))
        refine zA hX ?_
        refine rRet ?_
        have hy := Option.some.inj hT; subst hy
        exact rEndA [] [] [(0, .mem true 49 none (.flat [.cs [.str a2, .int .i64 a1]]))] (.v (.c (.int .i64 0))) hX rfl zZ zL rfl rfl rfl zT rfl rfl zT rfl rfl
    · cases h
  · cases h
def outbits_New (N : Nat) : Option (List Bool) :=
  some []
def sp_outbits_New (N : Nat) : X.Spec := fun args lk => match args with
  | [] => some ⟨(outbits_New N).isSome = true, .v (.c (.ptr 0 0 0 0 0 0)), [.obj 5 ((outbits_New N).getD default)], []⟩
  | _ => none
set_option maxRecDepth 100000 in
set_option maxHeartbeats 1000000 in
theorem ok_outbits_New (N : Nat) : FnOK Try.prog gt0 14 (sp_outbits_New N) := by
  refine fnOK_handed Try.func14 rfl (by kernel_rfl) tt_ok (ktNil) ?_
  intro args lk r h hp
  unfold sp_outbits_New at h
  split at h
  · skip
    cases h
    obtain ⟨x, hx⟩ := Option.isSome_iff_exists.1 hp
    simp only [hx, Option.getD_some]
    refine hand0 rfl rfl (fun w0 M ε0 hX => ?_)
    refine rCount (fun hε => ?_)
    have hT : outbits_New N = some x := hx; clear hx hp; unfold outbits_New at hT
    refine zA hX ?_
    refine zA hX ?_
    refine rRet (rShut0Q 0 5 rfl rfl ?_)
    have hy := Option.some.inj hT; subst hy
    exact rEndA [0] [.obj 5 []] [] (.v (.c (.ptr 0 0 0 0 0 0))) hX rfl zZ zL rfl rfl rfl zT rfl rfl zT rfl rfl
  · cases h
def formats_Size (N : Nat) (a1 : Int) : Option (Int × Int × Bool) :=
  bif (decide (a1 = 1)) then
    some (128, 96, true)
  else
    bif (decide (a1 = 2)) then
      some (176, 144, true)
    else
      bif (decide (a1 = 3)) then
        some (352, 288, true)
      else
        bif (decide (a1 = 4)) then
          some (704, 576, true)
        else
          bif (decide (a1 = 5)) then
            some (1408, 1152, true)
          else
            bif (decide (a1 = 6)) then
              some (32, 32, true)
            else
              some (0, 0, false)
def sp_formats_Size (N : Nat) : X.Spec := fun args lk => match args with
  | [.v (.c (.int .i64 a1))] => some ⟨(formats_Size N a1).isSome = true, .tup [.c (.int .i64 ((formats_Size N a1).getD default).1), .c (.int .i64 ((formats_Size N a1).getD default).2.1), .c (.bool ((formats_Size N a1).getD default).2.2)], [], []⟩
  | _ => none
set_option maxRecDepth 100000 in
set_option maxHeartbeats 1000000 in
theorem ok_formats_Size (N : Nat) : FnOK Try.prog gt0 39 (sp_formats_Size N) := by
  refine fnOK_handed Try.func39 rfl (by kernel_rfl) tt_ok (ktNil) ?_
  intro args lk r h hp
  unfold sp_formats_Size at h
  split at h
  · rename_i a1
    cases h
    obtain ⟨x, hx⟩ := Option.isSome_iff_exists.1 hp
    simp only [hx, Option.getD_some]
    refine hand0 rfl rfl (fun w0 M ε0 hX => ?_)
    refine rCount (fun hε => ?_)
    have hT : formats_Size N a1 = some x := hx; clear hx hp; unfold formats_Size at hT
    refine zA hX ?_
    refine rSeq (zA hX ?_)
    refine rBlock (zA hX ?_)
    refine zCond rfl rfl (fun hc => ?_) (fun hc => ?_)
    · replace hT := sT hc hT
      refine zA hX ?_
      refine rRet (rInRet (rThenRet ?_))
      have hy := Option.some.inj hT; subst hy
      exact zEnd0 hX rfl
    · replace hT := sF hc hT
      refine zA hX ?_
      refine zCond rfl rfl (fun hc => ?_) (fun hc => ?_)
      · replace hT := sT hc hT
        refine zA hX ?_
        refine rRet (rInRet (rThenRet ?_))
        have hy := Option.some.inj hT; subst hy
        exact zEnd0 hX rfl
      · replace hT := sF hc hT
        refine zA hX ?_
        refine zCond rfl rfl (fun hc => ?_) (fun hc => ?_)
        · replace hT := sT hc hT
          refine zA hX ?_
          refine rRet (rInRet (rThenRet ?_))
          have hy := Option.some.inj hT; subst hy
          exact zEnd0 hX rfl
        · replace hT := sF hc hT
          refine zA hX ?_
          refine zCond rfl rfl (fun hc => ?_) (fun hc => ?_)
          · replace hT := sT hc hT
            refine zA hX ?_
            refine rRet (rInRet (rThenRet ?_))
            have hy := Option.some.inj hT; subst hy
            exact zEnd0 hX rfl
          · replace hT := sF hc hT
            refine zA hX ?_
            refine zCond rfl rfl (fun hc => ?_) (fun hc => ?_)
            · replace hT := sT hc hT
              refine zA hX ?_
              refine rRet (rInRet (rThenRet ?_))
              have hy := Option.some.inj hT; subst hy
              exact zEnd0 hX rfl
            · replace hT := sF hc hT
              refine zA hX ?_
              refine zCond rfl rfl (fun hc => ?_) (fun hc => ?_)
              · replace hT := sT hc hT
                refine zA hX ?_
                refine rRet (rInRet (rThenRet ?_))
                have hy := Option.some.inj hT; subst hy
                exact zEnd0 hX rfl
              · replace hT := sF hc hT
                refine rSkip (rInNormal (rThen (zA hX ?_)))
                refine rRet ?_
                have hy := Option.some.inj hT; subst hy
                exact zEnd0 hX rfl
  · cases h
def sheethead_may_b1 (N : Nat) (s1 : Unit) : Option (Unit ⊕ Unit) :=
  some (.inr ())
def sheethead_may (N : Nat) (a1 : Int) (a2 : Int) (a3 : Int) (a4 : Bool) (a5 : Int) (a6 : Int) : Option Bool :=
  let c1 := (formats_Size N a3)
  if c1.isSome = true then
    let x1 := (bif (bif (bif (bif (bif (bif (bif (c1.getD default).2.2 then (decide ((0 : Int) ≤ a1)) else false) then (decide (a1 ≤ 255)) else false) then (decide ((0 : Int) ≤ a2)) else false) then (decide (a2 ≤ 7)) else false) then (decide ((1 : Int) ≤ a5)) else false) then (decide (a5 ≤ 31)) else false) then true else false)
    (iter (sheethead_may_b1 N) N ()).bind fun v1 =>
      some x1
  else none
def sp_sheethead_may (N : Nat) : X.Spec := fun args lk => match args with
  | [.v (.agg [.cs [.int .i64 a1, .int .i64 a2, .int .i64 a3, .bool a4, .int .i64 a5, .val (.slice none 0 0), .val (.slice none 0 0), .int .i64 a6]])] => some ⟨(sheethead_may N a1 a2 a3 a4 a5 a6).isSome = true, .v (.c (.bool ((sheethead_may N a1 a2 a3 a4 a5 a6).getD default))), [], []⟩
  | _ => none
set_option maxRecDepth 100000 in
set_option maxHeartbeats 1000000 in
theorem ok_sheethead_may (N : Nat) : FnOK Try.prog gt0 29 (sp_sheethead_may N) := by
  refine fnOK_handed Try.func29 rfl (by kernel_rfl) tt_ok (ktCons (ok_formats_Size N) (ktNil)) ?_
  intro args lk r h hp
  unfold sp_sheethead_may at h
  split at h
  · rename_i a1 a2 a3 a4 a5 a6
    cases h
    obtain ⟨x, hx⟩ := Option.isSome_iff_exists.1 hp
    simp only [hx, Option.getD_some]
    refine hand0 rfl rfl (fun w0 M ε0 hX => ?_)
    refine rCount (fun hε => ?_)
    have hT : sheethead_may N a1 a2 a3 a4 a5 a6 = some x := hx; clear hx hp; unfold sheethead_may at hT
    refine zA hX ?_
    let c1 := (formats_Size N a3)
    replace hT := sIf hT; obtain ⟨o1, hT⟩ := hT
    refine zA hX ?_
    let x1 := (bif (bif (bif (bif (bif (bif (bif (c1.getD default).2.2 then (decide ((0 : Int) ≤ a1)) else false) then (decide (a1 ≤ 255)) else false) then (decide ((0 : Int) ≤ a2)) else false) then (decide (a2 ≤ 7)) else false) then (decide ((1 : Int) ≤ a5)) else false) then (decide (a5 ≤ 31)) else false) then true else false)
    refine zA hX ?_
    refine rSeq (zA hX ?_)
    refine rBlock ?_
    replace hT := sBind hT; obtain ⟨w1, hl, hT⟩ := hT
    refine rJoinA (fun v1 => v1 = w1) (fun v1 => ⟨[(2, .v (.c (.bool false))), (5, .v (.c (.bool x1)))], [], 1⟩) (.exit 0) (fun v1 hv => ?_) (fun hxs10 => ?_)
    · subst hv; clear hl
      refine rInHit (rThen (zA hX ?_))
      refine rRet ?_
      have hy := Option.some.inj hT; subst hy
      exact zEnd0 hX rfl
    refine rLoopM (sheethead_may_b1 N) (fun s1 => ⟨[(2, .v (.c (.bool false))), (5, .v (.c (.bool x1))), (53, .v (.c (.val (.slice none 0 0)))), (54, .v (.c (.int .i64 0))), (55, .v (.c (.int .i64 0)))], [], 1⟩) hl (To.mk' [] 0 hε rfl zL zL) (fun s1 zs1 NNs1 hz hnexts1 houts1 => ?_)
    clear hl hT
    have hT := hz; clear hz
    refine zA hX ?_
    refine rSeq (rCondF rfl rfl zP rfl ?_)
    refine rExit (rThenExit (rThenExit ?_))
    exact zTo [] 0 hε (hxs10 _ (houts1 _ (Option.some.inj hT).symm))
  · cases h
def overspill_outbits_Writer_Fill (N : Nat) (a1 : (List Bool)) : Option (Int × (List Bool)) :=
  if (a1.length : Int) ≤ 9223372036854775800 then
    if (0 : Int) ≤ (a1.length : Int) ∧ inK .i64 ((8 : Int) - ((a1.length : Int) % 8)) ∧ (0 : Int) ≤ ((8 : Int) - ((a1.length : Int) % 8)) then
      if inK .i64 ((a1.length : Int) + (((8 : Int) - ((a1.length : Int) % 8)) % 8)) then
        if packB (unpB (packB a1) ((a1.length : Int) + (((8 : Int) - ((a1.length : Int) % 8)) % 8))) = (packB a1) ∧ ((unpB (packB a1) ((a1.length : Int) + (((8 : Int) - ((a1.length : Int) % 8)) % 8))).length : Int) = ((a1.length : Int) + (((8 : Int) - ((a1.length : Int) % 8)) % 8)) then
          some ((((8 : Int) - ((a1.length : Int) % 8)) % 8), (unpB (packB a1) ((a1.length : Int) + (((8 : Int) - ((a1.length : Int) % 8)) % 8))))
        else none
      else none
    else none
  else none
def sp_overspill_outbits_Writer_Fill (N : Nat) : X.Spec := fun args lk => match args with
  | [.v (.c (.ptr i0 0 0 0 0 0))] => (match lk i0 with
    | some (.obj 5 a1) => some ⟨(overspill_outbits_Writer_Fill N a1).isSome = true, .v (.c (.int .i64 ((overspill_outbits_Writer_Fill N a1).getD default).1)), [], [(i0, .obj 5 ((overspill_outbits_Writer_Fill N a1).getD default).2)]⟩
    | _ => none)
  | _ => none
set_option maxRecDepth 100000 in
set_option maxHeartbeats 1000000 in
theorem ok_overspill_outbits_Writer_Fill (N : Nat) : FnOK Try.prog gt0 42 (sp_overspill_outbits_Writer_Fill N) := by
  refine fnOK_handed Try.func42 rfl (by kernel_rfl) tt_ok (ktNil) ?_
  intro args lk r h hp
  unfold sp_overspill_outbits_Writer_Fill at h
  split at h
  · rename_i i0
    split at h
    · rename_i a1 hl0
      cases h
      obtain ⟨x, hx⟩ := Option.isSome_iff_exists.1 hp
      simp only [hx, Option.getD_some]
      refine handL [i0] 1 [(0, .obj 5 a1)] [.v (.c (.ptr 0 0 0 0 0 0))] rfl rfl rfl ⟨isSome_of hl0, trivial⟩ ⟨⟨rfl, zT, _, hl0, .inl rfl⟩, trivial⟩ rfl (fun w0 M ε0 hX => ?_)
      refine rCount (fun hε => ?_)
      have hT : overspill_outbits_Writer_Fill N a1 = some x := hx; clear hx hp; unfold overspill_outbits_Writer_Fill at hT
      replace hT := sIf hT; obtain ⟨p0, hT⟩ := hT
      refine rOpen1 p0 zF (fun ty0 => ?_)
      refine zA hX ?_
      refine rSeq (zA hX ?_)
      refine rCondF rfl rfl zP rfl ?_
      refine rSkip (rThen ?_)
      replace hT := sIf hT; obtain ⟨⟨o1, o2, o3⟩, hT⟩ := hT
      refine zA hX ?_
      replace hT := sIf hT; obtain ⟨o1, hT⟩ := hT
      refine zA hX ?_
      refine zA hX ?_
      refine rRet ?_
      replace hT := sIf hT; obtain ⟨⟨p1, p2⟩, hT⟩ := hT
      have hy := Option.some.inj hT; subst hy
      exact rEndObj (unpB (packB a1) ((a1.length : Int) + (((8 : Int) - ((a1.length : Int) % 8)) % 8))) hX rfl zZ rfl rfl rfl rfl rfl rfl rfl (by first | rfl | assumption) (by first | rfl | assumption) rfl rfl
    · cases h
  · cases h
def outbits_fits (N : Nat) (a1 : Int) (a2 : Int) : Option Bool :=
  let x1 := (bif (bif (bif (decide ((0 : Int) ≤ a2)) then (decide (a2 ≤ 32)) else false) then (decide ((0 : Int) ≤ a1)) else false) then (decide (a1 < ((1 : Int) * 2 ^ (Int.toNat a2)))) else false)
  if ((bif (bif (decide ((0 : Int) ≤ a2)) then (decide (a2 ≤ 32)) else false) then (decide ((0 : Int) ≤ a1)) else false) = true → inK .u64 a2) ∧ ((bif (bif (decide ((0 : Int) ≤ a2)) then (decide (a2 ≤ 32)) else false) then (decide ((0 : Int) ≤ a1)) else false) = true → (0 : Int) ≤ a2) ∧ ((bif (bif (decide ((0 : Int) ≤ a2)) then (decide (a2 ≤ 32)) else false) then (decide ((0 : Int) ≤ a1)) else false) = true → (a2).toNat ≤ 64) ∧ ((bif (bif (decide ((0 : Int) ≤ a2)) then (decide (a2 ≤ 32)) else false) then (decide ((0 : Int) ≤ a1)) else false) = true → inK .i64 ((1 : Int) * 2 ^ (Int.toNat a2))) then
    some x1
  else none
def sp_outbits_fits (N : Nat) : X.Spec := fun args lk => match args with
  | [.v (.c (.int .i64 a1)), .v (.c (.int .i64 a2))] => some ⟨(outbits_fits N a1 a2).isSome = true, .v (.c (.bool ((outbits_fits N a1 a2).getD default))), [], []⟩
  | _ => none
set_option maxRecDepth 100000 in
set_option maxHeartbeats 1000000 in
theorem ok_outbits_fits (N : Nat) : FnOK Try.prog gt0 43 (sp_outbits_fits N) := by
  refine fnOK_handed Try.func43 rfl (by kernel_rfl) tt_ok (ktNil) ?_
  intro args lk r h hp
  unfold sp_outbits_fits at h
  split at h
  · rename_i a1 a2
    cases h
    obtain ⟨x, hx⟩ := Option.isSome_iff_exists.1 hp
    simp only [hx, Option.getD_some]
    refine hand0 rfl rfl (fun w0 M ε0 hX => ?_)
    refine rCount (fun hε => ?_)
    have hT : outbits_fits N a1 a2 = some x := hx; clear hx hp; unfold outbits_fits at hT
    refine zA hX ?_
    let x1 := (bif (bif (bif (decide ((0 : Int) ≤ a2)) then (decide (a2 ≤ 32)) else false) then (decide ((0 : Int) ≤ a1)) else false) then (decide (a1 < ((1 : Int) * 2 ^ (Int.toNat a2)))) else false)
    replace hT := sIf hT; obtain ⟨⟨o1, o2, o3, o4⟩, hT⟩ := hT
    refine rSeq (rRegC md0 hX rfl rfl rfl zO ?_)
    refine rThen (rRet ?_)
    have hy := Option.some.inj hT; subst hy
    exact zEnd0 hX rfl
  · cases h
def overspill_outbits_Writer_bit (N : Nat) (a1 : Bool) (a2 : (List Bool)) : Option (List Bool) :=
  if (a2.length : Int) ≤ 9223372036854775800 then
    if (0 : Int) ≤ (a2.length : Int) then
      joinK (fun (v1 : (Nat × Nat × (List Int))) =>
        if (a1 = true → (0 : Int) ≤ (a2.length : Int)) ∧ (a1 = true → (0 : Int) ≤ ((a2.length : Int) / 8)) ∧ (a1 = true → ((a2.length : Int) / 8) < (v1.1 : Int)) ∧ (a1 = true → ((a2.length : Int) / 8).toNat < v1.2.1) ∧ (a1 = true → inK .i64 ((7 : Int) - ((a2.length : Int) % 8))) ∧ (a1 = true → inK .u64 ((7 : Int) - ((a2.length : Int) % 8))) ∧ (a1 = true → (0 : Int) ≤ ((7 : Int) - ((a2.length : Int) % 8))) ∧ (a1 = true → (((7 : Int) - ((a2.length : Int) % 8))).toNat ≤ 8) ∧ (a1 = true → inK .u8 ((1 : Int) * 2 ^ (Int.toNat ((7 : Int) - ((a2.length : Int) % 8))))) ∧ (a1 = true → (0 : Int) ≤ (v1.2.2.getD ((a2.length : Int) / 8).toNat 0)) ∧ (a1 = true → (0 : Int) ≤ ((1 : Int) * 2 ^ (Int.toNat ((7 : Int) - ((a2.length : Int) % 8))))) then
          let x1 := (bif a1 then (v1.2.2.set ((a2.length : Int) / 8).toNat (orI (v1.2.2.getD ((a2.length : Int) / 8).toNat 0) ((1 : Int) * 2 ^ (Int.toNat ((7 : Int) - ((a2.length : Int) % 8)))))) else v1.2.2)
          if inK .i64 ((a2.length : Int) + 1) then
            if v1.2.1 = v1.1 ∧ packB (unpB x1 ((a2.length : Int) + 1)) = x1 ∧ ((unpB x1 ((a2.length : Int) + 1)).length : Int) = ((a2.length : Int) + 1) then
              some (unpB x1 ((a2.length : Int) + 1))
            else none
          else none
        else none
      ) fun k1 =>
        bif (decide (((a2.length : Int) % 8) = 0)) then
          if 1 ≤ 1 ∧ (((a2.length + 7) / 8) + 1) * 1 ≤ 140737488355328 ∧ ((a2.length + 7) / 8) + 1 ≤ 9223372036854775807 then
            k1 ((((a2.length + 7) / 8) + 1), (((a2.length + 7) / 8) + 1), ((packB a2) ++ (((List.replicate 1 0).set 0 0).take 1)))
          else none
        else
          k1 (((a2.length + 7) / 8), ((a2.length + 7) / 8), (packB a2))
    else none
  else none
def sp_overspill_outbits_Writer_bit (N : Nat) : X.Spec := fun args lk => match args with
  | [.v (.c (.ptr i0 0 0 0 0 0)), .v (.c (.bool a1))] => (match lk i0 with
    | some (.obj 5 a2) => some ⟨(overspill_outbits_Writer_bit N a1 a2).isSome = true, .tup [], [], [(i0, .obj 5 ((overspill_outbits_Writer_bit N a1 a2).getD default))]⟩
    | _ => none)
  | _ => none
set_option maxRecDepth 100000 in
set_option maxHeartbeats 1000000 in
theorem ok_overspill_outbits_Writer_bit (N : Nat) : FnOK Try.prog gt0 28 (sp_overspill_outbits_Writer_bit N) := by
  refine fnOK_handed Try.func28 rfl (by kernel_rfl) tt_ok (ktNil) ?_
  intro args lk r h hp
  unfold sp_overspill_outbits_Writer_bit at h
  split at h
  · rename_i i0 a1
    split at h
    · rename_i a2 hl0
      cases h
      obtain ⟨x, hx⟩ := Option.isSome_iff_exists.1 hp
      simp only [hx, Option.getD_some]
      refine handL [i0] 1 [(0, .obj 5 a2)] [.v (.c (.ptr 0 0 0 0 0 0)), .v (.c (.bool a1))] rfl rfl rfl ⟨isSome_of hl0, trivial⟩ ⟨⟨rfl, zT, _, hl0, .inl rfl⟩, trivial⟩ rfl (fun w0 M ε0 hX => ?_)
      refine rCount (fun hε => ?_)
      have hT : overspill_outbits_Writer_bit N a1 a2 = some x := hx; clear hx hp; unfold overspill_outbits_Writer_bit at hT
      replace hT := sIf hT; obtain ⟨p0, hT⟩ := hT
      refine rOpen1 p0 zF (fun ty0 => ?_)
      refine rSeq ?_
      replace hT := sIf hT; obtain ⟨o1, hT⟩ := hT
      refine zA hX ?_
      refine rJoinK hT (fun v1 => ⟨[(0, .v (.c (.ptr 0 0 0 0 0 0))), (1, .v (.c (.bool a1)))], [(0, .mem true ty0 none (.flat [.cs [.sl 3 0 v1.1 1, .int .i64 (a2.length : Int)]])), (3, .mem true 5 (some 1) (.flat [.ints v1.2.1 .u8 v1.2.2]))], 4⟩) (fun v1 hT => ?_) (fun k1 hjk1 hT => ?_)
      · skip
        refine rThen (rSeq (zA hX ?_))
        replace hT := sIf hT; obtain ⟨⟨q1, q2, q3, q4, q5, q6, q7, q8, q9, q10, q11⟩, hT⟩ := hT
        refine rJoin ⟨[(0, .v (.c (.ptr 0 0 0 0 0 0)))], [(0, .mem true ty0 none (.flat [.cs [.sl 3 0 v1.1 1, .int .i64 (a2.length : Int)]])), (3, .mem true 5 (some 1) (.flat [.ints v1.2.1 .u8 (bif a1 then (v1.2.2.set ((a2.length : Int) / 8).toNat (orI (v1.2.2.getD ((a2.length : Int) / 8).toNat 0) ((1 : Int) * 2 ^ (Int.toNat ((7 : Int) - ((a2.length : Int) % 8)))))) else v1.2.2)]))], 4⟩ ?_ (fun hj => ?_)
        · skip
          let x1 := (bif a1 then (v1.2.2.set ((a2.length : Int) / 8).toNat (orI (v1.2.2.getD ((a2.length : Int) / 8).toNat 0) ((1 : Int) * 2 ^ (Int.toNat ((7 : Int) - ((a2.length : Int) % 8)))))) else v1.2.2)
          refine rThen ?_
          replace hT := sIf hT; obtain ⟨o1, hT⟩ := hT
          refine zReg md0 hX rfl rfl rfl ?_
          refine rNormal ?_
          replace hT := sIf hT; obtain ⟨⟨p1, p2, p3⟩, hT⟩ := hT
          have hy := Option.some.inj hT; subst hy
          exact rEndObj (unpB x1 ((a2.length : Int) + 1)) hX rfl zZ rfl rfl rfl rfl rfl (by assumption) rfl (by first | rfl | assumption) (by first | rfl | assumption) rfl rfl
        · clear hT
          refine zCond rfl rfl (fun hc => ?_) (fun hc => ?_)
          · skip
            have q1 := q1 hc
            have q2 := q2 hc
            have q3 := q3 hc
            have q4 := q4 hc
            have q5 := q5 hc
            have q6 := q6 hc
            have q7 := q7 hc
            have q8 := q8 hc
            have q9 := q9 hc
            have q10 := q10 hc
            have q11 := q11 hc
            refine zDraw md0 1 [21] hX mixed rfl rfl rfl rfl rfl ?_
            exact rTo (To.mk' [] 1 hε rfl zJ zJ) hj
          · skip
            refine rSkip ?_
            exact rTo (To.mk' [] 1 hε rfl zJ zJ) hj
      · skip
        refine zCond rfl rfl (fun hc => ?_) (fun hc => ?_)
        · replace hT := sT hc hT
          replace hT := sIf hT; obtain ⟨⟨o1, o2, o3⟩, hT⟩ := hT
          refine zReg md0 hX rfl rfl rfl ?_
          exact zTo [] 1 hε (hjk1 _ hT)
        · replace hT := sF hc hT
          refine rSkip ?_
          exact zTo [0, 1, 0, 1] 1 hε (hjk1 _ hT)
    · cases h
  · cases h
def overspill_outbits_Writer_Put_b1 (N : Nat) (a1 : Int) (s1 : (Int × (List Bool))) : Option ((Int × (List Bool)) ⊕ (List Bool)) :=
  bif (decide ((0 : Int) ≤ s1.1)) then
    let c2 := (overspill_outbits_Writer_bit N (decide (((Int.toNat (a1 / 2 ^ (Int.toNat s1.1)) &&& Int.toNat 1 : Nat) : Int) = 1)) s1.2)
    if inK .u64 s1.1 ∧ (0 : Int) ≤ s1.1 ∧ (s1.1).toNat ≤ 64 ∧ (0 : Int) ≤ (a1 / 2 ^ (Int.toNat s1.1)) ∧ c2.isSome = true then
      if inK .i64 (s1.1 - 1) then
        some (.inl ((s1.1 - 1), (c2.getD default)))
      else none
    else none
  else
    some (.inr s1.2)
def overspill_outbits_Writer_Put (N : Nat) (a1 : Int) (a2 : Int) (a3 : (List Bool)) : Option (Int × (List Bool)) :=
  let c1 := (outbits_fits N a1 a2)
  if ((!false) = true → c1.isSome = true) then
    bif (!(c1.getD default)) then
      some (1, a3)
    else
      if inK .i64 (a2 - 1) then
        (iter (overspill_outbits_Writer_Put_b1 N a1) N ((a2 - 1), a3)).bind fun v1 =>
          some (0, v1)
      else none
  else none
def sp_overspill_outbits_Writer_Put (N : Nat) : X.Spec := fun args lk => match args with
  | [.v (.c (.ptr i0 0 0 0 0 0)), .v (.c (.int .i64 a1)), .v (.c (.int .i64 a2))] => (match lk i0 with
    | some (.obj 5 a3) => some ⟨(overspill_outbits_Writer_Put N a1 a2 a3).isSome = true, .v (.c (.int .i64 ((overspill_outbits_Writer_Put N a1 a2 a3).getD default).1)), [], [(i0, .obj 5 ((overspill_outbits_Writer_Put N a1 a2 a3).getD default).2)]⟩
    | _ => none)
  | _ => none
set_option maxRecDepth 100000 in
set_option maxHeartbeats 1000000 in
theorem ok_overspill_outbits_Writer_Put (N : Nat) : FnOK Try.prog gt0 31 (sp_overspill_outbits_Writer_Put N) := by
  refine fnOK_handed Try.func31 rfl (by kernel_rfl) tt_ok (ktCons (ok_overspill_outbits_Writer_bit N) (ktCons (ok_outbits_fits N) (ktNil))) ?_
  intro args lk r h hp
  unfold sp_overspill_outbits_Writer_Put at h
  split at h
  · rename_i i0 a1 a2
    split at h
    · rename_i a3 hl0
      cases h
      obtain ⟨x, hx⟩ := Option.isSome_iff_exists.1 hp
      simp only [hx, Option.getD_some]
      refine handL [i0] 1 [(0, .obj 5 a3)] [.v (.c (.ptr 0 0 0 0 0 0)), .v (.c (.int .i64 a1)), .v (.c (.int .i64 a2))] rfl rfl rfl ⟨isSome_of hl0, trivial⟩ ⟨⟨rfl, zT, _, hl0, .inl rfl⟩, trivial⟩ rfl (fun w0 M ε0 hX => ?_)
      refine rCount (fun hε => ?_)
      have hT : overspill_outbits_Writer_Put N a1 a2 a3 = some x := hx; clear hx hp; unfold overspill_outbits_Writer_Put at hT
      refine zA hX ?_
      refine rSeq ?_
      let c1 := (outbits_fits N a1 a2)
      replace hT := sIf hT; obtain ⟨o1, hT⟩ := hT
      refine rSeq (rRegC md0 hX rfl rfl rfl zO ?_)
      refine rThen ?_
      refine zCond rfl rfl (fun hc => ?_) (fun hc => ?_)
      · replace hT := sT hc hT
        refine zA hX ?_
        refine rRet (rThenRet ?_)
        have hy := Option.some.inj hT; subst hy
        exact rEndA [] [] [(0, .obj 5 a3)] (.v (.c (.int .i64 1))) hX rfl zZ zL rfl rfl rfl zT rfl rfl zT rfl rfl
      · replace hT := sF hc hT
        refine rSkip (rThen (rSeq ?_))
        replace hT := sIf hT; obtain ⟨o1, hT⟩ := hT
        refine zA hX ?_
        refine rBlock ?_
        replace hT := sBind hT; obtain ⟨w1, hl, hT⟩ := hT
        refine rJoinA (fun v1 => v1 = w1) (fun v1 => ⟨[(6, .v (.c (.int .i64 0)))], [(0, .obj 5 v1)], 1⟩) (.exit 0) (fun v1 hv => ?_) (fun hxs10 => ?_)
        · subst hv; clear hl
          refine rInHit (rThen (zA hX ?_))
          refine rRet ?_
          have hy := Option.some.inj hT; subst hy
          exact rEndA [] [] [(0, .obj 5 v1)] (.v (.c (.int .i64 0))) hX rfl zZ zL rfl rfl rfl zT rfl rfl zT rfl rfl
        refine rLoopM (overspill_outbits_Writer_Put_b1 N a1) (fun s1 => ⟨[(0, .v (.c (.ptr 0 0 0 0 0 0))), (1, .v (.c (.int .i64 a1))), (6, .v (.c (.int .i64 0))), (7, .v (.c (.int .i64 s1.1)))], [(0, .obj 5 s1.2)], 1⟩) hl (To.mk' [] 1 hε rfl zL zL) (fun s1 zs1 NNs1 hz hnexts1 houts1 => ?_)
        clear hl hT
        have hT := hz; clear hz
        refine rSeq (zA hX ?_)
        refine zCond rfl rfl (fun hc => ?_) (fun hc => ?_)
        · replace hT := sT hc hT
          refine rSkip (rThen (rSeq (rBlock ?_)))
          let c2 := (overspill_outbits_Writer_bit N (decide (((Int.toNat (a1 / 2 ^ (Int.toNat s1.1)) &&& Int.toNat 1 : Nat) : Int) = 1)) s1.2)
          replace hT := sIf hT; obtain ⟨⟨o1, o2, o3, o4, o5⟩, hT⟩ := hT
          refine zReg md0 hX rfl rfl rfl ?_
          refine rInNormal (rThen ?_)
          replace hT := sIf hT; obtain ⟨o1, hT⟩ := hT
          refine zReg md0 hX rfl rfl rfl ?_
          exact hnexts1 _ (Option.some.inj hT).symm _ (To.mk' [] 1 hε rfl zL zL)
        · replace hT := sF hc hT
          refine rExit (rThenExit (rThenExit ?_))
          exact zTo [] 1 hε (hxs10 _ (houts1 _ (Option.some.inj hT).symm))
    · cases h
  · cases h
def marks_Put (N : Nat) (a1 : Int) (a2 : (List Bool)) : Option (Int × (List Bool)) :=
  bif (bif (decide (a1 < 0)) then true else (decide ((31 : Int) < a1))) then
    some (1, a2)
  else
    let c1 := (overspill_outbits_Writer_Fill N a2)
    if c1.isSome = true then
      let c2 := (overspill_outbits_Writer_Put N (orI (32 : Int) a1) 22 (c1.getD default).2)
      if (0 : Int) ≤ a1 ∧ c2.isSome = true then
        some ((c2.getD default).1, (c2.getD default).2)
      else none
    else none
def sp_marks_Put (N : Nat) : X.Spec := fun args lk => match args with
  | [.v (.c (.ptr i0 0 0 0 0 0)), .v (.c (.int .i64 a1))] => (match lk i0 with
    | some (.obj 5 a2) => some ⟨(marks_Put N a1 a2).isSome = true, .v (.c (.int .i64 ((marks_Put N a1 a2).getD default).1)), [], [(i0, .obj 5 ((marks_Put N a1 a2).getD default).2)]⟩
    | _ => none)
  | _ => none
set_option maxRecDepth 100000 in
set_option maxHeartbeats 1000000 in
theorem ok_marks_Put (N : Nat) : FnOK Try.prog gt0 30 (sp_marks_Put N) := by
  refine fnOK_handed Try.func30 rfl (by kernel_rfl) tt_ok (ktCons (ok_overspill_outbits_Writer_Put N) (ktCons (ok_overspill_outbits_Writer_Fill N) (ktNil))) ?_
  intro args lk r h hp
  unfold sp_marks_Put at h
  split at h
  · rename_i i0 a1
    split at h
    · rename_i a2 hl0
      cases h
      obtain ⟨x, hx⟩ := Option.isSome_iff_exists.1 hp
      simp only [hx, Option.getD_some]
      refine handL [i0] 1 [(0, .obj 5 a2)] [.v (.c (.ptr 0 0 0 0 0 0)), .v (.c (.int .i64 a1))] rfl rfl rfl ⟨isSome_of hl0, trivial⟩ ⟨⟨rfl, zT, _, hl0, .inl rfl⟩, trivial⟩ rfl (fun w0 M ε0 hX => ?_)
      refine rCount (fun hε => ?_)
      have hT : marks_Put N a1 a2 = some x := hx; clear hx hp; unfold marks_Put at hT
      refine zA hX ?_
      refine rSeq (zA hX ?_)
      refine zCond rfl rfl (fun hc => ?_) (fun hc => ?_)
      · replace hT := sT hc hT
        refine zA hX ?_
        refine rRet (rThenRet ?_)
        have hy := Option.some.inj hT; subst hy
        exact rEndA [] [] [(0, .obj 5 a2)] (.v (.c (.int .i64 1))) hX rfl zZ zL rfl rfl rfl zT rfl rfl zT rfl rfl
      · replace hT := sF hc hT
        refine rSkip (rThen ?_)
        let c1 := (overspill_outbits_Writer_Fill N a2)
        replace hT := sIf hT; obtain ⟨o1, hT⟩ := hT
        refine zA hX ?_
        let c2 := (overspill_outbits_Writer_Put N (orI (32 : Int) a1) 22 (c1.getD default).2)
        replace hT := sIf hT; obtain ⟨⟨o1, o2⟩, hT⟩ := hT
        refine zA hX ?_
        refine rRet ?_
        have hy := Option.some.inj hT; subst hy
        exact rEndA [] [] [(0, .obj 5 (c2.getD default).2)] (.v (.c (.int .i64 (c2.getD default).1))) hX rfl zZ zL rfl rfl rfl zT rfl rfl zT rfl rfl
    · cases h
  · cases h
def sheethead_Put_b1 (N : Nat) (s1 : Unit) : Option (Unit ⊕ Unit) :=
  some (.inr ())
def sheethead_Put (N : Nat) (a1 : Int) (a2 : Int) (a3 : Int) (a4 : Bool) (a5 : Int) (a6 : Int) (a7 : (List Bool)) : Option (Int × (List Bool)) :=
  let c1 := (sheethead_may N a1 a2 a3 a4 a5 a6)
  if c1.isSome = true then
    bif (!(c1.getD default)) then
      some (12, a7)
    else
      let c2 := (marks_Put N 0 a7)
      if c2.isSome = true then
        let c3 := (overspill_outbits_Writer_Put N a1 8 (c2.getD default).2)
        if c3.isSome = true then
          let c4 := (overspill_outbits_Writer_Put N 2 2 (c3.getD default).2)
          if c4.isSome = true then
            let c5 := (overspill_outbits_Writer_Put N a2 3 (c4.getD default).2)
            if c5.isSome = true then
              let c6 := (overspill_outbits_Writer_Put N a3 3 (c5.getD default).2)
              if c6.isSome = true then
                let c7 := (overspill_outbits_Writer_Put N (bif a4 then (1 : Int) else 0) 1 (c6.getD default).2)
                if c7.isSome = true then
                  let c8 := (overspill_outbits_Writer_Put N 0 4 (c7.getD default).2)
                  if c8.isSome = true then
                    let c9 := (overspill_outbits_Writer_Put N a5 5 (c8.getD default).2)
                    if c9.isSome = true then
                      let c10 := (overspill_outbits_Writer_Put N 0 1 (c9.getD default).2)
                      if c10.isSome = true then
                        (iter (sheethead_Put_b1 N) N ()).bind fun v1 =>
                          let c11 := (overspill_outbits_Writer_Put N 0 1 (c10.getD default).2)
                          if c11.isSome = true then
                            some ((c11.getD default).1, (c11.getD default).2)
                          else none
                      else none
                    else none
                  else none
                else none
              else none
            else none
          else none
        else none
      else none
  else none
def sp_sheethead_Put (N : Nat) : X.Spec := fun args lk => match args with
  | [.v (.c (.ptr i0 0 0 0 0 0)), .v (.agg [.cs [.int .i64 a1, .int .i64 a2, .int .i64 a3, .bool a4, .int .i64 a5, .val (.slice none 0 0), .val (.slice none 0 0), .int .i64 a6]])] => (match lk i0 with
    | some (.obj 5 a7) => some ⟨(sheethead_Put N a1 a2 a3 a4 a5 a6 a7).isSome = true, .v (.c (.int .i64 ((sheethead_Put N a1 a2 a3 a4 a5 a6 a7).getD default).1)), [], [(i0, .obj 5 ((sheethead_Put N a1 a2 a3 a4 a5 a6 a7).getD default).2)]⟩
    | _ => none)
  | _ => none
set_option maxRecDepth 100000 in
set_option maxHeartbeats 1000000 in
theorem ok_sheethead_Put (N : Nat) : FnOK Try.prog gt0 16 (sp_sheethead_Put N) := by
  refine fnOK_handed Try.func16 rfl (by kernel_rfl) tt_ok (ktCons (ok_overspill_outbits_Writer_Put N) (ktCons (ok_marks_Put N) (ktCons (ok_sheethead_may N) (ktNil)))) ?_
  intro args lk r h hp
  unfold sp_sheethead_Put at h
  split at h
  · rename_i i0 a1 a2 a3 a4 a5 a6
    split at h
    · rename_i a7 hl0
      cases h
      obtain ⟨x, hx⟩ := Option.isSome_iff_exists.1 hp
      simp only [hx, Option.getD_some]
      refine handL [i0] 1 [(0, .obj 5 a7)] [.v (.c (.ptr 0 0 0 0 0 0)), .v (.agg [.cs [.int .i64 a1, .int .i64 a2, .int .i64 a3, .bool a4, .int .i64 a5, .val (.slice none 0 0), .val (.slice none 0 0), .int .i64 a6]])] rfl rfl rfl ⟨isSome_of hl0, trivial⟩ ⟨⟨rfl, zT, _, hl0, .inl rfl⟩, trivial⟩ rfl (fun w0 M ε0 hX => ?_)
      refine rCount (fun hε => ?_)
      have hT : sheethead_Put N a1 a2 a3 a4 a5 a6 a7 = some x := hx; clear hx hp; unfold sheethead_Put at hT
      refine zA hX ?_
      refine rSeq (rBlock (zA hX ?_))
      refine rCondF rfl rfl zP rfl ?_
      let c1 := (sheethead_may N a1 a2 a3 a4 a5 a6)
      replace hT := sIf hT; obtain ⟨o1, hT⟩ := hT
      refine zA hX ?_
      refine zCond rfl rfl (fun hc => ?_) (fun hc => ?_)
      · replace hT := sT hc hT
        refine zA hX ?_
        refine rRet (rInRet (rThenRet ?_))
        have hy := Option.some.inj hT; subst hy
        exact rEndA [] [] [(0, .obj 5 a7)] (.v (.c (.int .i64 12))) hX rfl zZ zL rfl rfl rfl zT rfl rfl zT rfl rfl
      · replace hT := sF hc hT
        refine rSkip (rInNormal (rThen (zA hX ?_)))
        refine rSeq (zA hX ?_)
        refine rJoin ⟨[(0, .v (.c (.ptr 0 0 0 0 0 0))), (3, .v (.c (.ptr 1 0 0 0 0 0))), (4, .v (.c (.int .i64 0))), (5, .v (.c (.int .i64 (bif a4 then (1 : Int) else 0))))], [(0, .obj 5 a7), (1, .mem true 30 none (.flat [.cs [.int .i64 a1, .int .i64 a2, .int .i64 a3, .bool a4, .int .i64 a5, .val (.slice none 0 0), .val (.slice none 0 0), .int .i64 a6]]))], 2⟩ ?_ (fun hj => ?_)
        · skip
          refine rThen ?_
          let c2 := (marks_Put N 0 a7)
          replace hT := sIf hT; obtain ⟨o1, hT⟩ := hT
          refine zA hX ?_
          let c3 := (overspill_outbits_Writer_Put N a1 8 (c2.getD default).2)
          replace hT := sIf hT; obtain ⟨o1, hT⟩ := hT
          refine zA hX ?_
          let c4 := (overspill_outbits_Writer_Put N 2 2 (c3.getD default).2)
          replace hT := sIf hT; obtain ⟨o1, hT⟩ := hT
          refine zA hX ?_
          let c5 := (overspill_outbits_Writer_Put N a2 3 (c4.getD default).2)
          replace hT := sIf hT; obtain ⟨o1, hT⟩ := hT
          refine zA hX ?_
          let c6 := (overspill_outbits_Writer_Put N a3 3 (c5.getD default).2)
          replace hT := sIf hT; obtain ⟨o1, hT⟩ := hT
          refine zA hX ?_
          let c7 := (overspill_outbits_Writer_Put N (bif a4 then (1 : Int) else 0) 1 (c6.getD default).2)
          replace hT := sIf hT; obtain ⟨o1, hT⟩ := hT
          refine zA hX ?_
          let c8 := (overspill_outbits_Writer_Put N 0 4 (c7.getD default).2)
          replace hT := sIf hT; obtain ⟨o1, hT⟩ := hT
          refine zA hX ?_
          let c9 := (overspill_outbits_Writer_Put N a5 5 (c8.getD default).2)
          replace hT := sIf hT; obtain ⟨o1, hT⟩ := hT
          refine zA hX ?_
          let c10 := (overspill_outbits_Writer_Put N 0 1 (c9.getD default).2)
          replace hT := sIf hT; obtain ⟨o1, hT⟩ := hT
          refine zA hX ?_
          refine rSeq (zA hX ?_)
          refine rBlock ?_
          replace hT := sBind hT; obtain ⟨w1, hl, hT⟩ := hT
          refine rJoinA (fun v1 => v1 = w1) (fun v1 => ⟨[(0, .v (.c (.ptr 0 0 0 0 0 0))), (4, .v (.c (.int .i64 0)))], [(0, .obj 5 (c10.getD default).2)], 2⟩) (.exit 1) (fun v1 hv => ?_) (fun hxs10 => ?_)
          · subst hv; clear hl
            refine rInHit (rThen ?_)
            let c11 := (overspill_outbits_Writer_Put N 0 1 (c10.getD default).2)
            replace hT := sIf hT; obtain ⟨o1, hT⟩ := hT
            refine zA hX ?_
            refine rRet ?_
            have hy := Option.some.inj hT; subst hy
            exact rEndA [] [] [(0, .obj 5 (c11.getD default).2)] (.v (.c (.int .i64 (c11.getD default).1))) hX rfl zZ zL rfl rfl rfl zT rfl rfl zT rfl rfl
          refine rLoopM (sheethead_Put_b1 N) (fun s1 => ⟨[(0, .v (.c (.ptr 0 0 0 0 0 0))), (4, .v (.c (.int .i64 0))), (45, .v (.c (.val (.slice none 0 0)))), (46, .v (.c (.int .i64 0))), (47, .v (.c (.int .i64 0)))], [(0, .obj 5 (c10.getD default).2)], 2⟩) hl (To.mk' [] 1 hε rfl zL zL) (fun s1 zs1 NNs1 hz hnexts1 houts1 => ?_)
          clear hl hT
          have hT := hz; clear hz
          refine zA hX ?_
          refine rSeq (rCondF rfl rfl zP rfl ?_)
          refine rExit (rThenExit (rThenExit ?_))
          exact zTo [] 1 hε (hxs10 _ (houts1 _ (Option.some.inj hT).symm))
        · clear hT
          refine zCond rfl rfl (fun hc => ?_) (fun hc => ?_)
          · skip
            refine zReg md0 hX rfl rfl rfl ?_
            exact rTo (To.mk' [] 1 hε rfl zJ zJ) hj
          · skip
            refine rSkip ?_
            exact rTo (To.mk' [] 1 hε rfl zJ zJ) hj
    · cases h
  · cases h
def overspill_outbits_Writer_Text (N : Nat) (a1 : (List Bool)) : Option (ByteArray × (List Bool)) :=
  if (a1.length : Int) ≤ 9223372036854775800 then
    if (((a1.length + 7) / 8) : Int) ≤ 9223372036854775807 then
      some ((bytesOf ((packB a1).take ((a1.length + 7) / 8))), a1)
    else none
  else none
def sp_overspill_outbits_Writer_Text (N : Nat) : X.Spec := fun args lk => match args with
  | [.v (.c (.ptr i0 0 0 0 0 0))] => (match lk i0 with
    | some (.obj 5 a1) => some ⟨(overspill_outbits_Writer_Text N a1).isSome = true, .v (.c (.str ((overspill_outbits_Writer_Text N a1).getD default).1)), [], [(i0, .obj 5 ((overspill_outbits_Writer_Text N a1).getD default).2)]⟩
    | _ => none)
  | _ => none
set_option maxRecDepth 100000 in
set_option maxHeartbeats 1000000 in
theorem ok_overspill_outbits_Writer_Text (N : Nat) : FnOK Try.prog gt0 20 (sp_overspill_outbits_Writer_Text N) := by
  refine fnOK_handed Try.func20 rfl (by kernel_rfl) tt_ok (ktNil) ?_
  intro args lk r h hp
  unfold sp_overspill_outbits_Writer_Text at h
  split at h
  · rename_i i0
    split at h
    · rename_i a1 hl0
      cases h
      obtain ⟨x, hx⟩ := Option.isSome_iff_exists.1 hp
      simp only [hx, Option.getD_some]
      refine handL [i0] 1 [(0, .obj 5 a1)] [.v (.c (.ptr 0 0 0 0 0 0))] rfl rfl rfl ⟨isSome_of hl0, trivial⟩ ⟨⟨rfl, zT, _, hl0, .inl rfl⟩, trivial⟩ rfl (fun w0 M ε0 hX => ?_)
      refine rCount (fun hε => ?_)
      have hT : overspill_outbits_Writer_Text N a1 = some x := hx; clear hx hp; unfold overspill_outbits_Writer_Text at hT
      replace hT := sIf hT; obtain ⟨p0, hT⟩ := hT
      refine rOpen1 p0 zF (fun ty0 => ?_)
      refine zA hX ?_
      refine rSeq (zA hX ?_)
      refine rCondF rfl rfl zP rfl ?_
      refine rSkip (rThen ?_)
      replace hT := sIf hT; obtain ⟨o1, hT⟩ := hT
      refine zA hX ?_
      refine rRet ?_
      have hy := Option.some.inj hT; subst hy
      exact rEndObj a1 hX rfl zZ rfl rfl rfl rfl rfl rfl rfl (by first | rfl | assumption) (by first | rfl | assumption) rfl rfl
    · cases h
  · cases h
def overspill_inbits_Reader_At (N : Nat) (a1 : ByteArray) (a2 : Int) : Option Int :=
  some a2
def sp_overspill_inbits_Reader_At (N : Nat) : X.Spec := fun args lk => match args with
  | [.v (.c (.ptr i0 0 0 0 0 0))] => (match lk i0 with
    | some (.mem _ _ _ (.flat [.cs [.str a1, .int .i64 a2]])) => some ⟨(overspill_inbits_Reader_At N a1 a2).isSome = true, .v (.c (.int .i64 ((overspill_inbits_Reader_At N a1 a2).getD default))), [], []⟩
    | _ => none)
  | _ => none
set_option maxRecDepth 100000 in
set_option maxHeartbeats 1000000 in
theorem ok_overspill_inbits_Reader_At (N : Nat) : FnOK Try.prog gt0 12 (sp_overspill_inbits_Reader_At N) := by
  refine fnOK_handed Try.func12 rfl (by kernel_rfl) tt_ok (ktNil) ?_
  intro args lk r h hp
  unfold sp_overspill_inbits_Reader_At at h
  split at h
  · rename_i i0
    split at h
    · rename_i _ _ _ a1 a2 hl0
      cases h
      obtain ⟨x, hx⟩ := Option.isSome_iff_exists.1 hp
      simp only [hx, Option.getD_some]
      refine handL [i0] 1 [(0, .mem false 49 none (.flat [.cs [.str a1, .int .i64 a2]]))] [.v (.c (.ptr 0 0 0 0 0 0))] rfl rfl rfl ⟨isSome_of hl0, trivial⟩ ⟨⟨rfl, zT, _, hl0, sub_ro⟩, trivial⟩ rfl (fun w0 M ε0 hX => ?_)
      refine rCount (fun hε => ?_)
      have hT : overspill_inbits_Reader_At N a1 a2 = some x := hx; clear hx hp; unfold overspill_inbits_Reader_At at hT
      refine zA hX ?_
      refine rSeq (zA hX ?_)
      refine rCondF rfl rfl zP rfl ?_
      refine rSkip (rThen (zA hX ?_))
      refine rRet ?_
      have hy := Option.some.inj hT; subst hy
      exact zEnd0 hX rfl
    · cases h
  · cases h
def overspill_inbits_Reader_Text (N : Nat) (a1 : ByteArray) (a2 : Int) : Option ByteArray :=
  some a1
def sp_overspill_inbits_Reader_Text (N : Nat) : X.Spec := fun args lk => match args with
  | [.v (.c (.ptr i0 0 0 0 0 0))] => (match lk i0 with
    | some (.mem _ _ _ (.flat [.cs [.str a1, .int .i64 a2]])) => some ⟨(overspill_inbits_Reader_Text N a1 a2).isSome = true, .v (.c (.str ((overspill_inbits_Reader_Text N a1 a2).getD default))), [], []⟩
    | _ => none)
  | _ => none
set_option maxRecDepth 100000 in
set_option maxHeartbeats 1000000 in
theorem ok_overspill_inbits_Reader_Text (N : Nat) : FnOK Try.prog gt0 45 (sp_overspill_inbits_Reader_Text N) := by
  refine fnOK_handed Try.func45 rfl (by kernel_rfl) tt_ok (ktNil) ?_
  intro args lk r h hp
  unfold sp_overspill_inbits_Reader_Text at h
  split at h
  · rename_i i0
    split at h
    · rename_i _ _ _ a1 a2 hl0
      cases h
      obtain ⟨x, hx⟩ := Option.isSome_iff_exists.1 hp
      simp only [hx, Option.getD_some]
      refine handL [i0] 1 [(0, .mem false 49 none (.flat [.cs [.str a1, .int .i64 a2]]))] [.v (.c (.ptr 0 0 0 0 0 0))] rfl rfl rfl ⟨isSome_of hl0, trivial⟩ ⟨⟨rfl, zT, _, hl0, sub_ro⟩, trivial⟩ rfl (fun w0 M ε0 hX => ?_)
      refine rCount (fun hε => ?_)
      have hT : overspill_inbits_Reader_Text N a1 a2 = some x := hx; clear hx hp; unfold overspill_inbits_Reader_Text at hT
      refine zA hX ?_
      refine rSeq (zA hX ?_)
      refine rCondF rfl rfl zP rfl ?_
      refine rSkip (rThen (zA hX ?_))
      refine rRet ?_
      have hy := Option.some.inj hT; subst hy
      exact zEnd0 hX rfl
    · cases h
  · cases h
def overspill_inbits_Reader_Peek_b1 (N : Nat) (a1 : Int) (a2 : ByteArray) (a3 : Int) (s1 : (Int × Int)) : Option ((Int × Int) ⊕ Int) :=
  bif (decide (s1.2 < a1)) then
    if inK .i64 (a3 + s1.2) then
      let x1 := (orI (s1.1 * 2 ^ (Int.toNat 1)) ((Int.toNat ((byteI a2 ((a3 + s1.2) / 8).toNat) / 2 ^ (Int.toNat ((7 : Int) - ((a3 + s1.2) % 8)))) &&& Int.toNat 1 : Nat) : Int))
      if inK .i64 (s1.1 * 2 ^ (Int.toNat 1)) ∧ (0 : Int) ≤ (a3 + s1.2) ∧ (0 : Int) ≤ ((a3 + s1.2) / 8) ∧ ((a3 + s1.2) / 8) < (ByteArray.size a2 : Int) ∧ inK .i64 ((7 : Int) - ((a3 + s1.2) % 8)) ∧ inK .u64 ((7 : Int) - ((a3 + s1.2) % 8)) ∧ (0 : Int) ≤ ((7 : Int) - ((a3 + s1.2) % 8)) ∧ (((7 : Int) - ((a3 + s1.2) % 8))).toNat ≤ 8 ∧ (0 : Int) ≤ ((byteI a2 ((a3 + s1.2) / 8).toNat) / 2 ^ (Int.toNat ((7 : Int) - ((a3 + s1.2) % 8)))) ∧ inK .i64 ((Int.toNat ((byteI a2 ((a3 + s1.2) / 8).toNat) / 2 ^ (Int.toNat ((7 : Int) - ((a3 + s1.2) % 8)))) &&& Int.toNat 1 : Nat) : Int) ∧ (0 : Int) ≤ (s1.1 * 2 ^ (Int.toNat 1)) ∧ (0 : Int) ≤ ((Int.toNat ((byteI a2 ((a3 + s1.2) / 8).toNat) / 2 ^ (Int.toNat ((7 : Int) - ((a3 + s1.2) % 8)))) &&& Int.toNat 1 : Nat) : Int) then
        if inK .i64 (s1.2 + 1) then
          some (.inl (x1, (s1.2 + 1)))
        else none
      else none
    else none
  else
    some (.inr s1.1)
def overspill_inbits_Reader_Peek (N : Nat) (a1 : Int) (a2 : ByteArray) (a3 : Int) : Option (Int × Int) :=
  bif (bif (decide (a1 < 0)) then (decide (a1 < 0)) else (decide ((32 : Int) < a1))) then
    some (0, 1)
  else
    if inK .i64 ((8 : Int) * (ByteArray.size a2 : Int)) ∧ inK .i64 (((8 : Int) * (ByteArray.size a2 : Int)) - a3) then
      bif (decide ((((8 : Int) * (ByteArray.size a2 : Int)) - a3) < a1)) then
        some (0, 2)
      else
        (iter (overspill_inbits_Reader_Peek_b1 N a1 a2 a3) N (0, 0)).bind fun v1 =>
          some (v1, 0)
    else none
def sp_overspill_inbits_Reader_Peek (N : Nat) : X.Spec := fun args lk => match args with
  | [.v (.c (.ptr i0 0 0 0 0 0)), .v (.c (.int .i64 a1))] => (match lk i0 with
    | some (.mem _ _ _ (.flat [.cs [.str a2, .int .i64 a3]])) => some ⟨(overspill_inbits_Reader_Peek N a1 a2 a3).isSome = true, .tup [.c (.int .i64 ((overspill_inbits_Reader_Peek N a1 a2 a3).getD default).1), .c (.int .i64 ((overspill_inbits_Reader_Peek N a1 a2 a3).getD default).2)], [], []⟩
    | _ => none)
  | _ => none
set_option maxRecDepth 100000 in
set_option maxHeartbeats 1000000 in
theorem ok_overspill_inbits_Reader_Peek (N : Nat) : FnOK Try.prog gt0 46 (sp_overspill_inbits_Reader_Peek N) := by
  refine fnOK_handed Try.func46 rfl (by kernel_rfl) tt_ok (ktNil) ?_
  intro args lk r h hp
  unfold sp_overspill_inbits_Reader_Peek at h
  split at h
  · rename_i i0 a1
    split at h
    · rename_i _ _ _ a2 a3 hl0
      cases h
      obtain ⟨x, hx⟩ := Option.isSome_iff_exists.1 hp
      simp only [hx, Option.getD_some]
      refine handL [i0] 1 [(0, .mem false 49 none (.flat [.cs [.str a2, .int .i64 a3]]))] [.v (.c (.ptr 0 0 0 0 0 0)), .v (.c (.int .i64 a1))] rfl rfl rfl ⟨isSome_of hl0, trivial⟩ ⟨⟨rfl, zT, _, hl0, sub_ro⟩, trivial⟩ rfl (fun w0 M ε0 hX => ?_)
      refine rCount (fun hε => ?_)
      have hT : overspill_inbits_Reader_Peek N a1 a2 a3 = some x := hx; clear hx hp; unfold overspill_inbits_Reader_Peek at hT
      refine zA hX ?_
      refine rSeq (rBlock (rSeq (zA hX ?_)))
      refine rCondF rfl rfl zP rfl ?_
      refine zA hX ?_
      refine rJoin ⟨[(0, .v (.c (.ptr 0 0 0 0 0 0))), (1, .v (.c (.int .i64 a1))), (4, .v (.c (.int .i64 0))), (5, .v (.c (.int .i64 0))), (9, .v (.c (.bool (bif (decide (a1 < 0)) then (decide (a1 < 0)) else (decide ((32 : Int) < a1))))))], [(0, .mem false 49 none (.flat [.cs [.str a2, .int .i64 a3]]))], 1⟩ ?_ (fun hj => ?_)
      · skip
        refine rThen ?_
        refine zCond rfl rfl (fun hc => ?_) (fun hc => ?_)
        · replace hT := sT hc hT
          refine zA hX ?_
          refine rRet (rInRet (rThenRet ?_))
          have hy := Option.some.inj hT; subst hy
          exact zEnd0 hX rfl
        · replace hT := sF hc hT
          replace hT := sIf hT; obtain ⟨⟨o1, o2⟩, hT⟩ := hT
          refine rSeq (zDraw md0 0 [] hX mixed rfl rfl rfl rfl rfl ?_)
          refine rThen ?_
          refine zCond rfl rfl (fun hc => ?_) (fun hc => ?_)
          · replace hT := sT hc hT
            refine zA hX ?_
            refine rRet (rInRet (rThenRet ?_))
            have hy := Option.some.inj hT; subst hy
            exact zEnd0 hX rfl
          · replace hT := sF hc hT
            refine rSkip (rInNormal (rThen (zA hX ?_)))
            refine rSeq (zA hX ?_)
            refine rBlock ?_
            replace hT := sBind hT; obtain ⟨w1, hl, hT⟩ := hT
            refine rJoinA (fun v1 => v1 = w1) (fun v1 => ⟨[(4, .v (.c (.int .i64 0))), (5, .v (.c (.int .i64 0))), (6, .v (.c (.int .i64 v1)))], [(0, .mem false 49 none (.flat [.cs [.str a2, .int .i64 a3]]))], 1⟩) (.exit 1) (fun v1 hv => ?_) (fun hxs10 => ?_)
            · subst hv; clear hl
              refine rInHit (rThen (zA hX ?_))
              refine rRet ?_
              have hy := Option.some.inj hT; subst hy
              exact zEnd0 hX rfl
            refine rLoopM (overspill_inbits_Reader_Peek_b1 N a1 a2 a3) (fun s1 => ⟨[(0, .v (.c (.ptr 0 0 0 0 0 0))), (4, .v (.c (.int .i64 0))), (5, .v (.c (.int .i64 0))), (6, .v (.c (.int .i64 s1.1))), (30, .v (.c (.int .i64 a1))), (31, .v (.c (.int .i64 s1.2)))], [(0, .mem false 49 none (.flat [.cs [.str a2, .int .i64 a3]]))], 1⟩) hl (To.mk' [] 1 hε rfl zL zL) (fun s1 zs1 NNs1 hz hnexts1 houts1 => ?_)
            clear hl hT
            have hT := hz; clear hz
            refine zA hX ?_
            refine rSeq ?_
            refine zCond rfl rfl (fun hc => ?_) (fun hc => ?_)
            · replace hT := sT hc hT
              refine rSkip (rThen (rSeq (rBlock (zA hX ?_))))
              replace hT := sIf hT; obtain ⟨o1, hT⟩ := hT
              refine zA hX ?_
              let x1 := (orI (s1.1 * 2 ^ (Int.toNat 1)) ((Int.toNat ((byteI a2 ((a3 + s1.2) / 8).toNat) / 2 ^ (Int.toNat ((7 : Int) - ((a3 + s1.2) % 8)))) &&& Int.toNat 1 : Nat) : Int))
              replace hT := sIf hT; obtain ⟨⟨o1, o2, o3, o4, o5, o6, o7, o8, o9, o10, o11, o12⟩, hT⟩ := hT
              refine zReg md0 hX rfl rfl rfl ?_
              refine rInNormal (rThen ?_)
              replace hT := sIf hT; obtain ⟨o1, hT⟩ := hT
              refine zReg md0 hX rfl rfl rfl ?_
              exact hnexts1 _ (Option.some.inj hT).symm _ (To.mk' [] 1 hε rfl zL zL)
            · replace hT := sF hc hT
              refine rExit (rThenExit (rThenExit ?_))
              exact zTo [] 1 hε (hxs10 _ (houts1 _ (Option.some.inj hT).symm))
      · clear hT
        refine zCond rfl rfl (fun hc => ?_) (fun hc => ?_)
        · skip
          refine rSkip ?_
          exact rTo (To.mk' [] 1 hε rfl zJ zJ) hj
        · skip
          refine zReg md0 hX rfl rfl rfl ?_
          exact rTo (To.mk' [] 1 hε rfl zJ zJ) hj
    · cases h
  · cases h
def overspill_inbits_Reader_Take (N : Nat) (a1 : Int) (a2 : ByteArray) (a3 : Int) : Option Zt3 :=
  let c1 := (overspill_inbits_Reader_Peek N a1 a2 a3)
  if c1.isSome = true then
    if ((decide ((c1.getD default).2 = 0)) = true → inK .i64 (a3 + a1)) then
      some ((c1.getD default).1, (c1.getD default).2, a2, (bif (decide ((c1.getD default).2 = 0)) then (a3 + a1) else a3))
    else none
  else none
def sp_overspill_inbits_Reader_Take (N : Nat) : X.Spec := fun args lk => match args with
  | [.v (.c (.ptr i0 0 0 0 0 0)), .v (.c (.int .i64 a1))] => (match lk i0 with
    | some (.mem true 49 none (.flat [.cs [.str a2, .int .i64 a3]])) => some ⟨(overspill_inbits_Reader_Take N a1 a2 a3).isSome = true, .tup [.c (.int .i64 ((overspill_inbits_Reader_Take N a1 a2 a3).getD default).1), .c (.int .i64 ((overspill_inbits_Reader_Take N a1 a2 a3).getD default).2.1)], [], [(i0, .mem true 49 none (.flat [.cs [.str ((overspill_inbits_Reader_Take N a1 a2 a3).getD default).2.2.1, .int .i64 ((overspill_inbits_Reader_Take N a1 a2 a3).getD default).2.2.2]]))]⟩
    | _ => none)
  | _ => none
set_option maxRecDepth 100000 in
set_option maxHeartbeats 1000000 in
theorem ok_overspill_inbits_Reader_Take (N : Nat) : FnOK Try.prog gt0 35 (sp_overspill_inbits_Reader_Take N) := by
  refine fnOK_handed Try.func35 rfl (by kernel_rfl) tt_ok (ktCons (ok_overspill_inbits_Reader_Peek N) (ktNil)) ?_
  intro args lk r h hp
  unfold sp_overspill_inbits_Reader_Take at h
  split at h
  · rename_i i0 a1
    split at h
    · rename_i a2 a3 hl0
      cases h
      obtain ⟨x, hx⟩ := Option.isSome_iff_exists.1 hp
      simp only [hx, Option.getD_some]
      refine handL [i0] 1 [(0, .mem true 49 none (.flat [.cs [.str a2, .int .i64 a3]]))] [.v (.c (.ptr 0 0 0 0 0 0)), .v (.c (.int .i64 a1))] rfl rfl rfl ⟨isSome_of hl0, trivial⟩ ⟨⟨rfl, zT, _, hl0, .inl rfl⟩, trivial⟩ rfl (fun w0 M ε0 hX => ?_)
      refine rCount (fun hε => ?_)
      have hT : overspill_inbits_Reader_Take N a1 a2 a3 = some x := hx; clear hx hp; unfold overspill_inbits_Reader_Take at hT
      refine zA hX ?_
      let c1 := (overspill_inbits_Reader_Peek N a1 a2 a3)
      replace hT := sIf hT; obtain ⟨o1, hT⟩ := hT
      refine zA hX ?_
      refine rSeq (zA hX ?_)
      replace hT := sIf hT; obtain ⟨q1, hT⟩ := hT
      refine rJoin ⟨[(4, .v (.c (.int .i64 0))), (5, .v (.c (.int .i64 0))), (6, .v (.c (.int .i64 (c1.getD default).1))), (7, .v (.c (.int .i64 (c1.getD default).2)))], [(0, .mem true 49 none (.flat [.cs [.str a2, .int .i64 (bif (decide ((c1.getD default).2 = 0)) then (a3 + a1) else a3)]]))], 1⟩ ?_ (fun hj => ?_)
      · skip
        refine rThen (zA hX ?_)
        refine rRet ?_
        have hy := Option.some.inj hT; subst hy
        exact rEndA [] [] [(0, .mem true 49 none (.flat [.cs [.str a2, .int .i64 (bif (decide ((c1.getD default).2 = 0)) then (a3 + a1) else a3)]]))] (.tup [.c (.int .i64 (c1.getD default).1), .c (.int .i64 (c1.getD default).2)]) hX rfl zZ zL rfl rfl rfl zT rfl rfl zT rfl rfl
      · clear hT
        refine zCond rfl rfl (fun hc => ?_) (fun hc => ?_)
        · skip
          have q1 := q1 hc
          refine zReg md0 hX rfl rfl rfl ?_
          exact rTo (To.mk' [] 1 hε rfl zJ zJ) hj
        · skip
          refine rSkip ?_
          exact rTo (To.mk' [] 1 hε rfl zJ zJ) hj
    · cases h
  · cases h
def marks_At (N : Nat) (a1 : ByteArray) (a2 : Int) : Option (Int × Int) :=
  let c1 := (inbits_New N a1)
  if c1.isSome = true then
    let c2 := (overspill_inbits_Reader_Seek N a2 (c1.getD default).1 (c1.getD default).2)
    if c2.isSome = true then
      bif (decide ((c2.getD default).1 ≠ 0)) then
        some (0, (c2.getD default).1)
      else
        let c3 := (overspill_inbits_Reader_Take N 22 (c2.getD default).2.1 (c2.getD default).2.2)
        if c3.isSome = true then
          bif (decide ((c3.getD default).2.1 ≠ 0)) then
            some (0, (c3.getD default).2.1)
          else
            bif (decide (((c3.getD default).1 / 2 ^ (Int.toNat 5)) ≠ 1)) then
              some (0, 4)
            else
              if (0 : Int) ≤ (c3.getD default).1 then
                some (((Int.toNat (c3.getD default).1 &&& Int.toNat 31 : Nat) : Int), 0)
              else none
        else none
    else none
  else none
def sp_marks_At (N : Nat) : X.Spec := fun args lk => match args with
  | [.v (.c (.str a1)), .v (.c (.int .i64 a2))] => some ⟨(marks_At N a1 a2).isSome = true, .tup [.c (.int .i64 ((marks_At N a1 a2).getD default).1), .c (.int .i64 ((marks_At N a1 a2).getD default).2)], [], []⟩
  | _ => none
set_option maxRecDepth 100000 in
set_option maxHeartbeats 1000000 in
theorem ok_marks_At (N : Nat) : FnOK Try.prog gt0 44 (sp_marks_At N) := by
  refine fnOK_handed Try.func44 rfl (by kernel_rfl) tt_ok (ktCons (ok_overspill_inbits_Reader_Take N) (ktCons (ok_overspill_inbits_Reader_Seek N) (ktCons (ok_inbits_New N) (ktNil)))) ?_
  intro args lk r h hp
  unfold sp_marks_At at h
  split at h
  · rename_i a1 a2
    cases h
    obtain ⟨x, hx⟩ := Option.isSome_iff_exists.1 hp
    simp only [hx, Option.getD_some]
    refine hand0 rfl rfl (fun w0 M ε0 hX => ?_)
    refine rCount (fun hε => ?_)
    have hT : marks_At N a1 a2 = some x := hx; clear hx hp; unfold marks_At at hT
    refine zA hX ?_
    let c1 := (inbits_New N a1)
    replace hT := sIf hT; obtain ⟨o1, hT⟩ := hT
    refine zA hX ?_
    refine rSeq ?_
    let c2 := (overspill_inbits_Reader_Seek N a2 (c1.getD default).1 (c1.getD default).2)
    replace hT := sIf hT; obtain ⟨o1, hT⟩ := hT
    refine zA hX ?_
    refine zA hX ?_
    refine zCond rfl rfl (fun hc => ?_) (fun hc => ?_)
    · replace hT := sT hc hT
      refine zA hX ?_
      refine rRet (rThenRet ?_)
      have hy := Option.some.inj hT; subst hy
      exact zEnd0 hX rfl
    · replace hT := sF hc hT
      refine rSkip (rThen ?_)
      let c3 := (overspill_inbits_Reader_Take N 22 (c2.getD default).2.1 (c2.getD default).2.2)
      replace hT := sIf hT; obtain ⟨o1, hT⟩ := hT
      refine zA hX ?_
      refine rSeq (rBlock (zA hX ?_))
      refine zCond rfl rfl (fun hc => ?_) (fun hc => ?_)
      · replace hT := sT hc hT
        refine zA hX ?_
        refine rRet (rInRet (rThenRet ?_))
        have hy := Option.some.inj hT; subst hy
        exact zEnd0 hX rfl
      · replace hT := sF hc hT
        refine zA hX ?_
        refine zCond rfl rfl (fun hc => ?_) (fun hc => ?_)
        · replace hT := sT hc hT
          refine zA hX ?_
          refine rRet (rInRet (rThenRet ?_))
          have hy := Option.some.inj hT; subst hy
          exact zEnd0 hX rfl
        · replace hT := sF hc hT
          refine rSkip (rInNormal (rThen ?_))
          replace hT := sIf hT; obtain ⟨o1, hT⟩ := hT
          refine zA hX ?_
          refine rRet ?_
          have hy := Option.some.inj hT; subst hy
          exact zEnd0 hX rfl
  · cases h
def sheethead_mark (N : Nat) (a1 : ByteArray) (a2 : Int) : Option Zt7 :=
  let c1 := (overspill_inbits_Reader_At N a1 a2)
  if c1.isSome = true ∧ (0 : Int) ≤ (c1.getD default) then
    bif (decide (((c1.getD default) % 8) ≠ 0)) then
      some (4, a1, a2)
    else
      let c2 := (overspill_inbits_Reader_Text N a1 a2)
      let c3 := (overspill_inbits_Reader_At N a1 a2)
      let c4 := (marks_At N (c2.getD default) (c3.getD default))
      if c2.isSome = true ∧ c3.isSome = true ∧ c4.isSome = true then
        let x1 := (bif (decide ((c4.getD default).2 = 0)) then (decide ((c4.getD default).1 ≠ 0)) else false)
        bif x1 then
          some (4, a1, a2)
        else
          let c5 := (overspill_inbits_Reader_Take N 22 a1 a2)
          if ((decide ((c4.getD default).2 = 0)) = true → c5.isSome = true) then
            some ((c4.getD default).2, (bif (decide ((c4.getD default).2 = 0)) then (c5.getD default).2.2.1 else a1), (bif (decide ((c4.getD default).2 = 0)) then (c5.getD default).2.2.2 else a2))
          else none
      else none
  else none
def sp_sheethead_mark (N : Nat) : X.Spec := fun args lk => match args with
  | [.v (.c (.ptr i0 0 0 0 0 0))] => (match lk i0 with
    | some (.mem true 49 none (.flat [.cs [.str a1, .int .i64 a2]])) => some ⟨(sheethead_mark N a1 a2).isSome = true, .v (.c (.int .i64 ((sheethead_mark N a1 a2).getD default).1)), [], [(i0, .mem true 49 none (.flat [.cs [.str ((sheethead_mark N a1 a2).getD default).2.1, .int .i64 ((sheethead_mark N a1 a2).getD default).2.2]]))]⟩
    | _ => none)
  | _ => none
set_option maxRecDepth 100000 in
set_option maxHeartbeats 1000000 in
theorem ok_sheethead_mark (N : Nat) : FnOK Try.prog gt0 33 (sp_sheethead_mark N) := by
  refine fnOK_handed Try.func33 rfl (by kernel_rfl) tt_ok (ktCons (ok_overspill_inbits_Reader_Take N) (ktCons (ok_marks_At N) (ktCons (ok_overspill_inbits_Reader_Text N) (ktCons (ok_overspill_inbits_Reader_At N) (ktNil))))) ?_
  intro args lk r h hp
  unfold sp_sheethead_mark at h
  split at h
  · rename_i i0
    split at h
    · rename_i a1 a2 hl0
      cases h
      obtain ⟨x, hx⟩ := Option.isSome_iff_exists.1 hp
      simp only [hx, Option.getD_some]
      refine handL [i0] 1 [(0, .mem true 49 none (.flat [.cs [.str a1, .int .i64 a2]]))] [.v (.c (.ptr 0 0 0 0 0 0))] rfl rfl rfl ⟨isSome_of hl0, trivial⟩ ⟨⟨rfl, zT, _, hl0, .inl rfl⟩, trivial⟩ rfl (fun w0 M ε0 hX => ?_)
      refine rCount (fun hε => ?_)
      have hT : sheethead_mark N a1 a2 = some x := hx; clear hx hp; unfold sheethead_mark at hT
      refine zA hX ?_
      refine rSeq ?_
      let c1 := (overspill_inbits_Reader_At N a1 a2)
      replace hT := sIf hT; obtain ⟨⟨o1, o2⟩, hT⟩ := hT
      refine zA hX ?_
      refine zCond rfl rfl (fun hc => ?_) (fun hc => ?_)
      · replace hT := sT hc hT
        refine zA hX ?_
        refine rRet (rThenRet ?_)
        have hy := Option.some.inj hT; subst hy
        exact rEndA [] [] [(0, .mem true 49 none (.flat [.cs [.str a1, .int .i64 a2]]))] (.v (.c (.int .i64 4))) hX rfl zZ zL rfl rfl rfl zT rfl rfl zT rfl rfl
      · replace hT := sF hc hT
        refine rSkip (rThen ?_)
        let c2 := (overspill_inbits_Reader_Text N a1 a2)
        let c3 := (overspill_inbits_Reader_At N a1 a2)
        let c4 := (marks_At N (c2.getD default) (c3.getD default))
        replace hT := sIf hT; obtain ⟨⟨o1, o2, o3⟩, hT⟩ := hT
        refine zA hX ?_
        refine rSeq ?_
        let x1 := (bif (decide ((c4.getD default).2 = 0)) then (decide ((c4.getD default).1 ≠ 0)) else false)
        refine zA hX ?_
        refine zCond rfl rfl (fun hc => ?_) (fun hc => ?_)
        · replace hT := sT hc hT
          refine zA hX ?_
          refine rRet (rThenRet ?_)
          have hy := Option.some.inj hT; subst hy
          exact rEndA [] [] [(0, .mem true 49 none (.flat [.cs [.str a1, .int .i64 a2]]))] (.v (.c (.int .i64 4))) hX rfl zZ zL rfl rfl rfl zT rfl rfl zT rfl rfl
        · replace hT := sF hc hT
          refine rSkip (rThen (rSeq (zA hX ?_)))
          let c5 := (overspill_inbits_Reader_Take N 22 a1 a2)
          replace hT := sIf hT; obtain ⟨q1, hT⟩ := hT
          refine rJoin ⟨[(2, .v (.c (.int .i64 0))), (4, .v (.c (.int .i64 (c4.getD default).2)))], [(0, .mem true 49 none (.flat [.cs [.str (bif (decide ((c4.getD default).2 = 0)) then (c5.getD default).2.2.1 else a1), .int .i64 (bif (decide ((c4.getD default).2 = 0)) then (c5.getD default).2.2.2 else a2)]]))], 1⟩ ?_ (fun hj => ?_)
          · skip
            refine rThen (zA hX ?_)
            refine rRet ?_
            have hy := Option.some.inj hT; subst hy
            exact rEndA [] [] [(0, .mem true 49 none (.flat [.cs [.str (bif (decide ((c4.getD default).2 = 0)) then (c5.getD default).2.2.1 else a1), .int .i64 (bif (decide ((c4.getD default).2 = 0)) then (c5.getD default).2.2.2 else a2)]]))] (.v (.c (.int .i64 (c4.getD default).2))) hX rfl zZ zL rfl rfl rfl zT rfl rfl zT rfl rfl
          · clear hT
            refine zCond rfl rfl (fun hc => ?_) (fun hc => ?_)
            · skip
              have q1 := q1 hc
              refine zReg md0 hX rfl rfl rfl ?_
              exact rTo (To.mk' [] 1 hε rfl zJ zJ) hj
            · skip
              refine rSkip ?_
              exact rTo (To.mk' [] 1 hε rfl zJ zJ) hj
    · cases h
  · cases h
def sheethead_read_1 (N : Nat) (a1 : Int) (a2 : Int) (a3 : ByteArray) (a4 : Int) : Option Zt3 :=
  bif (decide (a2 ≠ 0)) then
    some (0, a2, a3, a4)
  else
    let c1 := (overspill_inbits_Reader_Take N a1 a3 a4)
    if c1.isSome = true then
      bif (bif (decide ((c1.getD default).2.1 = 0)) then (!true) else false) then
        none
      else
        some ((c1.getD default).1, (c1.getD default).2.1, (c1.getD default).2.2.1, (c1.getD default).2.2.2)
    else none
def sp_sheethead_read_1 (N : Nat) : X.Spec := fun args lk => match args with
  | [.v (.c (.int .i64 a1)), .v (.c (.val .nilFunc)), .v (.c (.ptr i0 0 0 0 0 0)), .v (.c (.ptr i1 0 0 0 0 0))] => (match lk i0 with
    | some (.mem true 24 none (.flat [.cs [.int .i64 a2]])) => (match lk i1 with
    | some (.mem _ _ _ (.flat [.cs [.ptr i2 0 0 0 0 0]])) => (match lk i2 with
    | some (.mem true 49 none (.flat [.cs [.str a3, .int .i64 a4]])) => (match Nat.beq i0 i1 with
    | false => (match Nat.beq i0 i2 with
    | false => (match Nat.beq i1 i2 with
    | false => some ⟨(sheethead_read_1 N a1 a2 a3 a4).isSome = true, .v (.c (.int .i64 ((sheethead_read_1 N a1 a2 a3 a4).getD default).1)), [], [(i0, .mem true 24 none (.flat [.cs [.int .i64 ((sheethead_read_1 N a1 a2 a3 a4).getD default).2.1]])), (i2, .mem true 49 none (.flat [.cs [.str ((sheethead_read_1 N a1 a2 a3 a4).getD default).2.2.1, .int .i64 ((sheethead_read_1 N a1 a2 a3 a4).getD default).2.2.2]]))]⟩
    | true => none)
    | true => none)
    | true => none)
    | _ => none)
    | _ => none)
    | _ => none)
  | _ => none
set_option maxRecDepth 100000 in
set_option maxHeartbeats 1000000 in
theorem ok_sheethead_read_1 (N : Nat) : FnOK Try.prog gt0 34 (sp_sheethead_read_1 N) := by
  refine fnOK_handed Try.func34 rfl (by kernel_rfl) tt_ok (ktCons (ok_overspill_inbits_Reader_Take N) (ktNil)) ?_
  intro args lk r h hp
  unfold sp_sheethead_read_1 at h
  split at h
  · rename_i a1 i0 i1
    split at h
    · rename_i a2 hl0
      split at h
      · rename_i _ _ _ i2 hl1
        split at h
        · rename_i a3 a4 hl2
          split at h
          · rename_i hb0_1
            split at h
            · rename_i hb0_2
              split at h
              · rename_i hb1_2
                cases h
                obtain ⟨x, hx⟩ := Option.isSome_iff_exists.1 hp
                simp only [hx, Option.getD_some]
                refine handL [i0, i1, i2] 3 [(0, .mem true 24 none (.flat [.cs [.int .i64 a2]])), (1, .mem false 22 none (.flat [.cs [.ptr 2 0 0 0 0 0]])), (2, .mem true 49 none (.flat [.cs [.str a3, .int .i64 a4]]))] [.v (.c (.int .i64 a1)), .v (.c (.val .nilFunc)), .v (.c (.ptr 0 0 0 0 0 0)), .v (.c (.ptr 1 0 0 0 0 0))] rfl rfl rfl ⟨isSome_of hl2, isSome_of hl1, isSome_of hl0, trivial⟩ ⟨⟨rfl, zT, _, hl0, .inl rfl⟩, ⟨rfl, zT, _, hl1, sub_ro⟩, ⟨rfl, zT, _, hl2, .inl rfl⟩, trivial⟩ (by simp [apartB, allB, rn, nth, E.own, hb0_1, beq_ff hb0_1, hb0_2, beq_ff hb0_2, hb1_2, beq_ff hb1_2]) (fun w0 M ε0 hX => ?_)
                refine rCount (fun hε => ?_)
                have hT : sheethead_read_1 N a1 a2 a3 a4 = some x := hx; clear hx hp; unfold sheethead_read_1 at hT
                refine zA hX ?_
                refine rSeq (zA hX ?_)
                refine zCond rfl rfl (fun hc => ?_) (fun hc => ?_)
                · replace hT := sT hc hT
                  refine zA hX ?_
                  refine rRet (rThenRet ?_)
                  have hy := Option.some.inj hT; subst hy
                  exact rEndA [] [] [(0, .mem true 24 none (.flat [.cs [.int .i64 a2]])), (2, .mem true 49 none (.flat [.cs [.str a3, .int .i64 a4]]))] (.v (.c (.int .i64 0))) hX rfl zZ zL rfl rfl rfl zT rfl rfl zT rfl rfl
                · replace hT := sF hc hT
                  refine rSkip (rThen (zA hX ?_))
                  refine rSeq ?_
                  let c1 := (overspill_inbits_Reader_Take N a1 a3 a4)
                  replace hT := sIf hT; obtain ⟨o1, hT⟩ := hT
                  refine zA hX ?_
                  refine zA hX ?_
                  refine zCond rfl rfl (fun hc => ?_) (fun hc => ?_)
                  · replace hT := sT hc hT
                    cases hT
                  · replace hT := sF hc hT
                    refine rSkip (rThen (zA hX ?_))
                    refine rRet ?_
                    have hy := Option.some.inj hT; subst hy
                    exact rEndA [] [] [(0, .mem true 24 none (.flat [.cs [.int .i64 (c1.getD default).2.1]])), (2, .mem true 49 none (.flat [.cs [.str (c1.getD default).2.2.1, .int .i64 (c1.getD default).2.2.2]]))] (.v (.c (.int .i64 (c1.getD default).1))) hX rfl zZ zL rfl rfl rfl zT rfl rfl zT rfl rfl
              · cases h
            · cases h
          · cases h
        · cases h
      · cases h
    · cases h
  · cases h
def sheethead_read_2 (N : Nat) (a1 : Int) (a2 : Int) : Option (Int × Int) :=
  some (a1, a2)
def sp_sheethead_read_2 (N : Nat) : X.Spec := fun args lk => match args with
  | [.v (.c (.int .i64 a1)), .v (.c (.int .i64 a2))] => some ⟨(sheethead_read_2 N a1 a2).isSome = true, .v (.c (.clo 37 [0, 1])), [.mem true 3 none (.flat [.cs [.int .i64 ((sheethead_read_2 N a1 a2).getD default).1]]), .mem true 24 none (.flat [.cs [.int .i64 ((sheethead_read_2 N a1 a2).getD default).2]])], []⟩
  | _ => none
set_option maxRecDepth 100000 in
set_option maxHeartbeats 1000000 in
theorem ok_sheethead_read_2 (N : Nat) : FnOK Try.prog gt0 36 (sp_sheethead_read_2 N) := by
  refine fnOK_handed Try.func36 rfl (by kernel_rfl) tt_ok (ktNil) ?_
  intro args lk r h hp
  unfold sp_sheethead_read_2 at h
  split at h
  · rename_i a1 a2
    cases h
    obtain ⟨x, hx⟩ := Option.isSome_iff_exists.1 hp
    simp only [hx, Option.getD_some]
    refine hand0 rfl rfl (fun w0 M ε0 hX => ?_)
    refine rCount (fun hε => ?_)
    have hT : sheethead_read_2 N a1 a2 = some x := hx; clear hx hp; unfold sheethead_read_2 at hT
    refine zA hX ?_
    refine zA hX ?_
    refine rRet ?_
    have hy := Option.some.inj hT; subst hy
    exact rEndA [0, 1] [.mem true 3 none (.flat [.cs [.int .i64 a1]]), .mem true 24 none (.flat [.cs [.int .i64 a2]])] [] (.v (.c (.clo 37 [0, 1]))) hX rfl zZ zL rfl rfl rfl zT rfl rfl zT rfl rfl
  · cases h
def sheethead_read_2_1 (N : Nat) (a1 : Int) (a2 : Int) (a3 : Int) : Option Int :=
  bif (decide (a1 = a2)) then
    some 0
  else
    some a3
def sp_sheethead_read_2_1 (N : Nat) : X.Spec := fun args lk => match args with
  | [.v (.c (.int .i64 a1)), .v (.c (.ptr i0 0 0 0 0 0)), .v (.c (.ptr i1 0 0 0 0 0))] => (match lk i0 with
    | some (.mem _ _ _ (.flat [.cs [.int .i64 a2]])) => (match lk i1 with
    | some (.mem _ _ _ (.flat [.cs [.int .i64 a3]])) => some ⟨(sheethead_read_2_1 N a1 a2 a3).isSome = true, .v (.c (.int .i64 ((sheethead_read_2_1 N a1 a2 a3).getD default))), [], []⟩
    | _ => none)
    | _ => none)
  | _ => none
set_option maxRecDepth 100000 in
set_option maxHeartbeats 1000000 in
theorem ok_sheethead_read_2_1 (N : Nat) : FnOK Try.prog gt0 37 (sp_sheethead_read_2_1 N) := by
  refine fnOK_handed Try.func37 rfl (by kernel_rfl) tt_ok (ktNil) ?_
  intro args lk r h hp
  unfold sp_sheethead_read_2_1 at h
  split at h
  · rename_i a1 i0 i1
    split at h
    · rename_i _ _ _ a2 hl0
      split at h
      · rename_i _ _ _ a3 hl1
        cases h
        obtain ⟨x, hx⟩ := Option.isSome_iff_exists.1 hp
        simp only [hx, Option.getD_some]
        refine handL [i0, i1] 2 [(0, .mem false 3 none (.flat [.cs [.int .i64 a2]])), (1, .mem false 24 none (.flat [.cs [.int .i64 a3]]))] [.v (.c (.int .i64 a1)), .v (.c (.ptr 0 0 0 0 0 0)), .v (.c (.ptr 1 0 0 0 0 0))] rfl rfl rfl ⟨isSome_of hl1, isSome_of hl0, trivial⟩ ⟨⟨rfl, zT, _, hl0, sub_ro⟩, ⟨rfl, zT, _, hl1, sub_ro⟩, trivial⟩ rfl (fun w0 M ε0 hX => ?_)
        refine rCount (fun hε => ?_)
        have hT : sheethead_read_2_1 N a1 a2 a3 = some x := hx; clear hx hp; unfold sheethead_read_2_1 at hT
        refine zA hX ?_
        refine rSeq (zA hX ?_)
        refine zCond rfl rfl (fun hc => ?_) (fun hc => ?_)
        · replace hT := sT hc hT
          refine zA hX ?_
          refine rRet (rThenRet ?_)
          have hy := Option.some.inj hT; subst hy
          exact zEnd0 hX rfl
        · replace hT := sF hc hT
          refine rSkip (rThen (zA hX ?_))
          refine rRet ?_
          have hy := Option.some.inj hT; subst hy
          exact zEnd0 hX rfl
      · cases h
    · cases h
  · cases h
def sheethead_read_1_read_2_1 (N : Nat) (a1 : Int) (a2 : Int) (a3 : Int) (a4 : Int) (a5 : ByteArray) (a6 : Int) : Option Zt3 :=
  bif (decide (a4 ≠ 0)) then
    some (0, a4, a5, a6)
  else
    let c1 := (overspill_inbits_Reader_Take N a1 a5 a6)
    if c1.isSome = true then
      let c2 := (sheethead_read_2_1 N (c1.getD default).1 a2 a3)
      if ((bif (decide ((c1.getD default).2.1 = 0)) then (!false) else false) = true → c2.isSome = true) then
        let x1 := (bif (bif (decide ((c1.getD default).2.1 = 0)) then (!false) else false) then (c2.getD default) else (c1.getD default).2.1)
        some ((c1.getD default).1, x1, (c1.getD default).2.2.1, (c1.getD default).2.2.2)
      else none
    else none
def sp_sheethead_read_1_read_2_1 (N : Nat) : X.Spec := fun args lk => match args with
  | [.v (.c (.int .i64 a1)), .v (.c (.clo 37 [i0, i1])), .v (.c (.ptr i2 0 0 0 0 0)), .v (.c (.ptr i3 0 0 0 0 0))] => (match lk i0 with
    | some (.mem _ _ _ (.flat [.cs [.int .i64 a2]])) => (match lk i1 with
    | some (.mem _ _ _ (.flat [.cs [.int .i64 a3]])) => (match lk i2 with
    | some (.mem true 24 none (.flat [.cs [.int .i64 a4]])) => (match lk i3 with
    | some (.mem _ _ _ (.flat [.cs [.ptr i4 0 0 0 0 0]])) => (match lk i4 with
    | some (.mem true 49 none (.flat [.cs [.str a5, .int .i64 a6]])) => (match Nat.beq i0 i2 with
    | false => (match Nat.beq i0 i4 with
    | false => (match Nat.beq i1 i2 with
    | false => (match Nat.beq i1 i4 with
    | false => (match Nat.beq i2 i3 with
    | false => (match Nat.beq i2 i4 with
    | false => (match Nat.beq i3 i4 with
    | false => some ⟨(sheethead_read_1_read_2_1 N a1 a2 a3 a4 a5 a6).isSome = true, .v (.c (.int .i64 ((sheethead_read_1_read_2_1 N a1 a2 a3 a4 a5 a6).getD default).1)), [], [(i2, .mem true 24 none (.flat [.cs [.int .i64 ((sheethead_read_1_read_2_1 N a1 a2 a3 a4 a5 a6).getD default).2.1]])), (i4, .mem true 49 none (.flat [.cs [.str ((sheethead_read_1_read_2_1 N a1 a2 a3 a4 a5 a6).getD default).2.2.1, .int .i64 ((sheethead_read_1_read_2_1 N a1 a2 a3 a4 a5 a6).getD default).2.2.2]]))]⟩
    | true => none)
    | true => none)
    | true => none)
    | true => none)
    | true => none)
    | true => none)
    | true => none)
    | _ => none)
    | _ => none)
    | _ => none)
    | _ => none)
    | _ => none)
  | _ => none
set_option maxRecDepth 100000 in
set_option maxHeartbeats 1000000 in
theorem ok_sheethead_read_1_read_2_1 (N : Nat) : FnOK Try.prog gt0 34 (sp_sheethead_read_1_read_2_1 N) := by
  refine fnOK_handed Try.func34 rfl (by kernel_rfl) tt_ok (ktCons (ok_sheethead_read_2_1 N) (ktCons (ok_overspill_inbits_Reader_Take N) (ktNil))) ?_
  intro args lk r h hp
  unfold sp_sheethead_read_1_read_2_1 at h
  split at h
  · rename_i a1 i0 i1 i2 i3
    split at h
    · rename_i _ _ _ a2 hl0
      split at h
      · rename_i _ _ _ a3 hl1
        split at h
        · rename_i a4 hl2
          split at h
          · rename_i _ _ _ i4 hl3
            split at h
            · rename_i a5 a6 hl4
              split at h
              · rename_i hb0_2
                split at h
                · rename_i hb0_4
                  split at h
                  · rename_i hb1_2
                    split at h
                    · rename_i hb1_4
                      split at h
                      · rename_i hb2_3
                        split at h
                        · rename_i hb2_4
                          split at h
                          · rename_i hb3_4
                            cases h
                            obtain ⟨x, hx⟩ := Option.isSome_iff_exists.1 hp
                            simp only [hx, Option.getD_some]
                            refine handL [i0, i1, i2, i3, i4] 5 [(0, .mem false 3 none (.flat [.cs [.int .i64 a2]])), (1, .mem false 24 none (.flat [.cs [.int .i64 a3]])), (2, .mem true 24 none (.flat [.cs [.int .i64 a4]])), (3, .mem false 22 none (.flat [.cs [.ptr 4 0 0 0 0 0]])), (4, .mem true 49 none (.flat [.cs [.str a5, .int .i64 a6]]))] [.v (.c (.int .i64 a1)), .v (.c (.clo 37 [0, 1])), .v (.c (.ptr 2 0 0 0 0 0)), .v (.c (.ptr 3 0 0 0 0 0))] rfl rfl rfl ⟨isSome_of hl4, isSome_of hl3, isSome_of hl2, isSome_of hl1, isSome_of hl0, trivial⟩ ⟨⟨rfl, zT, _, hl0, sub_ro⟩, ⟨rfl, zT, _, hl1, sub_ro⟩, ⟨rfl, zT, _, hl2, .inl rfl⟩, ⟨rfl, zT, _, hl3, sub_ro⟩, ⟨rfl, zT, _, hl4, .inl rfl⟩, trivial⟩ (by simp [apartB, allB, rn, nth, E.own, hb0_2, beq_ff hb0_2, hb0_4, beq_ff hb0_4, hb1_2, beq_ff hb1_2, hb1_4, beq_ff hb1_4, hb2_3, beq_ff hb2_3, hb2_4, beq_ff hb2_4, hb3_4, beq_ff hb3_4]) (fun w0 M ε0 hX => ?_)
                            refine rCount (fun hε => ?_)
                            have hT : sheethead_read_1_read_2_1 N a1 a2 a3 a4 a5 a6 = some x := hx; clear hx hp; unfold sheethead_read_1_read_2_1 at hT
                            refine zA hX ?_
                            refine rSeq (zA hX ?_)
                            refine zCond rfl rfl (fun hc => ?_) (fun hc => ?_)
                            · replace hT := sT hc hT
                              refine zA hX ?_
                              refine rRet (rThenRet ?_)
                              have hy := Option.some.inj hT; subst hy
                              exact rEndA [] [] [(2, .mem true 24 none (.flat [.cs [.int .i64 a4]])), (4, .mem true 49 none (.flat [.cs [.str a5, .int .i64 a6]]))] (.v (.c (.int .i64 0))) hX rfl zZ zL rfl rfl rfl zT rfl rfl zT rfl rfl
                            · replace hT := sF hc hT
                              refine rSkip (rThen (zA hX ?_))
                              refine rSeq ?_
                              let c1 := (overspill_inbits_Reader_Take N a1 a5 a6)
                              replace hT := sIf hT; obtain ⟨o1, hT⟩ := hT
                              refine zA hX ?_
                              refine zA hX ?_
                              let c2 := (sheethead_read_2_1 N (c1.getD default).1 a2 a3)
                              replace hT := sIf hT; obtain ⟨q1, hT⟩ := hT
                              refine rJoin ⟨[(6, .v (.c (.int .i64 0))), (7, .v (.c (.int .i64 (c1.getD default).1)))], [(0, .mem false 3 none (.flat [.cs [.int .i64 a2]])), (1, .mem false 24 none (.flat [.cs [.int .i64 a3]])), (2, .mem true 24 none (.flat [.cs [.int .i64 (bif (bif (decide ((c1.getD default).2.1 = 0)) then (!false) else false) then (c2.getD default) else (c1.getD default).2.1)]])), (3, .mem false 22 none (.flat [.cs [.ptr 4 0 0 0 0 0]])), (4, .mem true 49 none (.flat [.cs [.str (c1.getD default).2.2.1, .int .i64 (c1.getD default).2.2.2]]))], 5⟩ ?_ (fun hj => ?_)
                              · skip
                                let x1 := (bif (bif (decide ((c1.getD default).2.1 = 0)) then (!false) else false) then (c2.getD default) else (c1.getD default).2.1)
                                refine rThen (zA hX ?_)
                                refine rRet ?_
                                have hy := Option.some.inj hT; subst hy
                                exact rEndA [] [] [(2, .mem true 24 none (.flat [.cs [.int .i64 x1]])), (4, .mem true 49 none (.flat [.cs [.str (c1.getD default).2.2.1, .int .i64 (c1.getD default).2.2.2]]))] (.v (.c (.int .i64 (c1.getD default).1))) hX rfl zZ zL rfl rfl rfl zT rfl rfl zT rfl rfl
                              · clear hT
                                refine zCond rfl rfl (fun hc => ?_) (fun hc => ?_)
                                · skip
                                  have q1 := q1 hc
                                  refine zReg md0 hX rfl rfl rfl ?_
                                  exact rTo (To.mk' [] 5 hε rfl zJ zJ) hj
                                · skip
                                  refine rSkip ?_
                                  exact rTo (To.mk' [] 5 hε rfl zJ zJ) hj
                          · cases h
                        · cases h
                      · cases h
                    · cases h
                  · cases h
                · cases h
              · cases h
            · cases h
          · cases h
        · cases h
      · cases h
    · cases h
  · cases h
def sheethead_read_3 (N : Nat) (a1 : Int) : Option Int :=
  let c1 := (formats_Size N a1)
  if c1.isSome = true then
    bif (!(c1.getD default).2.2) then
      some 5
    else
      some 0
  else none
def sp_sheethead_read_3 (N : Nat) : X.Spec := fun args lk => match args with
  | [.v (.c (.int .i64 a1))] => some ⟨(sheethead_read_3 N a1).isSome = true, .v (.c (.int .i64 ((sheethead_read_3 N a1).getD default))), [], []⟩
  | _ => none
set_option maxRecDepth 100000 in
set_option maxHeartbeats 1000000 in
theorem ok_sheethead_read_3 (N : Nat) : FnOK Try.prog gt0 38 (sp_sheethead_read_3 N) := by
  refine fnOK_handed Try.func38 rfl (by kernel_rfl) tt_ok (ktCons (ok_formats_Size N) (ktNil)) ?_
  intro args lk r h hp
  unfold sp_sheethead_read_3 at h
  split at h
  · rename_i a1
    cases h
    obtain ⟨x, hx⟩ := Option.isSome_iff_exists.1 hp
    simp only [hx, Option.getD_some]
    refine hand0 rfl rfl (fun w0 M ε0 hX => ?_)
    refine rCount (fun hε => ?_)
    have hT : sheethead_read_3 N a1 = some x := hx; clear hx hp; unfold sheethead_read_3 at hT
    refine zA hX ?_
    refine rSeq ?_
    let c1 := (formats_Size N a1)
    replace hT := sIf hT; obtain ⟨o1, hT⟩ := hT
    refine zA hX ?_
    refine zA hX ?_
    refine zCond rfl rfl (fun hc => ?_) (fun hc => ?_)
    · replace hT := sT hc hT
      refine zA hX ?_
      refine rRet (rThenRet ?_)
      have hy := Option.some.inj hT; subst hy
      exact zEnd0 hX rfl
    · replace hT := sF hc hT
      refine rSkip (rThen (zA hX ?_))
      refine rRet ?_
      have hy := Option.some.inj hT; subst hy
      exact zEnd0 hX rfl
  · cases h
def sheethead_read_1_read_3 (N : Nat) (a1 : Int) (a2 : Int) (a3 : ByteArray) (a4 : Int) : Option Zt3 :=
  bif (decide (a2 ≠ 0)) then
    some (0, a2, a3, a4)
  else
    let c1 := (overspill_inbits_Reader_Take N a1 a3 a4)
    if c1.isSome = true then
      let c2 := (sheethead_read_3 N (c1.getD default).1)
      if ((bif (decide ((c1.getD default).2.1 = 0)) then (!false) else false) = true → c2.isSome = true) then
        let x1 := (bif (bif (decide ((c1.getD default).2.1 = 0)) then (!false) else false) then (c2.getD default) else (c1.getD default).2.1)
        some ((c1.getD default).1, x1, (c1.getD default).2.2.1, (c1.getD default).2.2.2)
      else none
    else none
def sp_sheethead_read_1_read_3 (N : Nat) : X.Spec := fun args lk => match args with
  | [.v (.c (.int .i64 a1)), .v (.c (.clo 38 [])), .v (.c (.ptr i0 0 0 0 0 0)), .v (.c (.ptr i1 0 0 0 0 0))] => (match lk i0 with
    | some (.mem true 24 none (.flat [.cs [.int .i64 a2]])) => (match lk i1 with
    | some (.mem _ _ _ (.flat [.cs [.ptr i2 0 0 0 0 0]])) => (match lk i2 with
    | some (.mem true 49 none (.flat [.cs [.str a3, .int .i64 a4]])) => (match Nat.beq i0 i1 with
    | false => (match Nat.beq i0 i2 with
    | false => (match Nat.beq i1 i2 with
    | false => some ⟨(sheethead_read_1_read_3 N a1 a2 a3 a4).isSome = true, .v (.c (.int .i64 ((sheethead_read_1_read_3 N a1 a2 a3 a4).getD default).1)), [], [(i0, .mem true 24 none (.flat [.cs [.int .i64 ((sheethead_read_1_read_3 N a1 a2 a3 a4).getD default).2.1]])), (i2, .mem true 49 none (.flat [.cs [.str ((sheethead_read_1_read_3 N a1 a2 a3 a4).getD default).2.2.1, .int .i64 ((sheethead_read_1_read_3 N a1 a2 a3 a4).getD default).2.2.2]]))]⟩
    | true => none)
    | true => none)
    | true => none)
    | _ => none)
    | _ => none)
    | _ => none)
  | _ => none
set_option maxRecDepth 100000 in
set_option maxHeartbeats 1000000 in
theorem ok_sheethead_read_1_read_3 (N : Nat) : FnOK Try.prog gt0 34 (sp_sheethead_read_1_read_3 N) := by
  refine fnOK_handed Try.func34 rfl (by kernel_rfl) tt_ok (ktCons (ok_sheethead_read_3 N) (ktCons (ok_overspill_inbits_Reader_Take N) (ktNil))) ?_
  intro args lk r h hp
  unfold sp_sheethead_read_1_read_3 at h
  split at h
  · rename_i a1 i0 i1
    split at h
    · rename_i a2 hl0
      split at h
      · rename_i _ _ _ i2 hl1
        split at h
        · rename_i a3 a4 hl2
          split at h
          · rename_i hb0_1
            split at h
            · rename_i hb0_2
              split at h
              · rename_i hb1_2
                cases h
                obtain ⟨x, hx⟩ := Option.isSome_iff_exists.1 hp
                simp only [hx, Option.getD_some]
                refine handL [i0, i1, i2] 3 [(0, .mem true 24 none (.flat [.cs [.int .i64 a2]])), (1, .mem false 22 none (.flat [.cs [.ptr 2 0 0 0 0 0]])), (2, .mem true 49 none (.flat [.cs [.str a3, .int .i64 a4]]))] [.v (.c (.int .i64 a1)), .v (.c (.clo 38 [])), .v (.c (.ptr 0 0 0 0 0 0)), .v (.c (.ptr 1 0 0 0 0 0))] rfl rfl rfl ⟨isSome_of hl2, isSome_of hl1, isSome_of hl0, trivial⟩ ⟨⟨rfl, zT, _, hl0, .inl rfl⟩, ⟨rfl, zT, _, hl1, sub_ro⟩, ⟨rfl, zT, _, hl2, .inl rfl⟩, trivial⟩ (by simp [apartB, allB, rn, nth, E.own, hb0_1, beq_ff hb0_1, hb0_2, beq_ff hb0_2, hb1_2, beq_ff hb1_2]) (fun w0 M ε0 hX => ?_)
                refine rCount (fun hε => ?_)
                have hT : sheethead_read_1_read_3 N a1 a2 a3 a4 = some x := hx; clear hx hp; unfold sheethead_read_1_read_3 at hT
                refine zA hX ?_
                refine rSeq (zA hX ?_)
                refine zCond rfl rfl (fun hc => ?_) (fun hc => ?_)
                · replace hT := sT hc hT
                  refine zA hX ?_
                  refine rRet (rThenRet ?_)
                  have hy := Option.some.inj hT; subst hy
                  exact rEndA [] [] [(0, .mem true 24 none (.flat [.cs [.int .i64 a2]])), (2, .mem true 49 none (.flat [.cs [.str a3, .int .i64 a4]]))] (.v (.c (.int .i64 0))) hX rfl zZ zL rfl rfl rfl zT rfl rfl zT rfl rfl
                · replace hT := sF hc hT
                  refine rSkip (rThen (zA hX ?_))
                  refine rSeq ?_
                  let c1 := (overspill_inbits_Reader_Take N a1 a3 a4)
                  replace hT := sIf hT; obtain ⟨o1, hT⟩ := hT
                  refine zA hX ?_
                  refine zA hX ?_
                  let c2 := (sheethead_read_3 N (c1.getD default).1)
                  replace hT := sIf hT; obtain ⟨q1, hT⟩ := hT
                  refine rJoin ⟨[(6, .v (.c (.int .i64 0))), (7, .v (.c (.int .i64 (c1.getD default).1)))], [(0, .mem true 24 none (.flat [.cs [.int .i64 (bif (bif (decide ((c1.getD default).2.1 = 0)) then (!false) else false) then (c2.getD default) else (c1.getD default).2.1)]])), (1, .mem false 22 none (.flat [.cs [.ptr 2 0 0 0 0 0]])), (2, .mem true 49 none (.flat [.cs [.str (c1.getD default).2.2.1, .int .i64 (c1.getD default).2.2.2]]))], 3⟩ ?_ (fun hj => ?_)
                  · skip
                    let x1 := (bif (bif (decide ((c1.getD default).2.1 = 0)) then (!false) else false) then (c2.getD default) else (c1.getD default).2.1)
                    refine rThen (zA hX ?_)
                    refine rRet ?_
                    have hy := Option.some.inj hT; subst hy
                    exact rEndA [] [] [(0, .mem true 24 none (.flat [.cs [.int .i64 x1]])), (2, .mem true 49 none (.flat [.cs [.str (c1.getD default).2.2.1, .int .i64 (c1.getD default).2.2.2]]))] (.v (.c (.int .i64 (c1.getD default).1))) hX rfl zZ zL rfl rfl rfl zT rfl rfl zT rfl rfl
                  · clear hT
                    refine zCond rfl rfl (fun hc => ?_) (fun hc => ?_)
                    · skip
                      have q1 := q1 hc
                      refine zReg md0 hX rfl rfl rfl ?_
                      exact rTo (To.mk' [] 3 hε rfl zJ zJ) hj
                    · skip
                      refine rSkip ?_
                      exact rTo (To.mk' [] 3 hε rfl zJ zJ) hj
              · cases h
            · cases h
          · cases h
        · cases h
      · cases h
    · cases h
  · cases h
def sheethead_read_4 (N : Nat) (a1 : Int) : Option Int :=
  bif (decide (a1 = 0)) then
    some 9
  else
    some 0
def sp_sheethead_read_4 (N : Nat) : X.Spec := fun args lk => match args with
  | [.v (.c (.int .i64 a1))] => some ⟨(sheethead_read_4 N a1).isSome = true, .v (.c (.int .i64 ((sheethead_read_4 N a1).getD default))), [], []⟩
  | _ => none
set_option maxRecDepth 100000 in
set_option maxHeartbeats 1000000 in
theorem ok_sheethead_read_4 (N : Nat) : FnOK Try.prog gt0 40 (sp_sheethead_read_4 N) := by
  refine fnOK_handed Try.func40 rfl (by kernel_rfl) tt_ok (ktNil) ?_
  intro args lk r h hp
  unfold sp_sheethead_read_4 at h
  split at h
  · rename_i a1
    cases h
    obtain ⟨x, hx⟩ := Option.isSome_iff_exists.1 hp
    simp only [hx, Option.getD_some]
    refine hand0 rfl rfl (fun w0 M ε0 hX => ?_)
    refine rCount (fun hε => ?_)
    have hT : sheethead_read_4 N a1 = some x := hx; clear hx hp; unfold sheethead_read_4 at hT
    refine zA hX ?_
    refine rSeq (zA hX ?_)
    refine zCond rfl rfl (fun hc => ?_) (fun hc => ?_)
    · replace hT := sT hc hT
      refine zA hX ?_
      refine rRet (rThenRet ?_)
      have hy := Option.some.inj hT; subst hy
      exact zEnd0 hX rfl
    · replace hT := sF hc hT
      refine rSkip (rThen (zA hX ?_))
      refine rRet ?_
      have hy := Option.some.inj hT; subst hy
      exact zEnd0 hX rfl
  · cases h
def sheethead_read_1_read_4 (N : Nat) (a1 : Int) (a2 : Int) (a3 : ByteArray) (a4 : Int) : Option Zt3 :=
  bif (decide (a2 ≠ 0)) then
    some (0, a2, a3, a4)
  else
    let c1 := (overspill_inbits_Reader_Take N a1 a3 a4)
    if c1.isSome = true then
      let c2 := (sheethead_read_4 N (c1.getD default).1)
      if ((bif (decide ((c1.getD default).2.1 = 0)) then (!false) else false) = true → c2.isSome = true) then
        let x1 := (bif (bif (decide ((c1.getD default).2.1 = 0)) then (!false) else false) then (c2.getD default) else (c1.getD default).2.1)
        some ((c1.getD default).1, x1, (c1.getD default).2.2.1, (c1.getD default).2.2.2)
      else none
    else none
def sp_sheethead_read_1_read_4 (N : Nat) : X.Spec := fun args lk => match args with
  | [.v (.c (.int .i64 a1)), .v (.c (.clo 40 [])), .v (.c (.ptr i0 0 0 0 0 0)), .v (.c (.ptr i1 0 0 0 0 0))] => (match lk i0 with
    | some (.mem true 24 none (.flat [.cs [.int .i64 a2]])) => (match lk i1 with
    | some (.mem _ _ _ (.flat [.cs [.ptr i2 0 0 0 0 0]])) => (match lk i2 with
    | some (.mem true 49 none (.flat [.cs [.str a3, .int .i64 a4]])) => (match Nat.beq i0 i1 with
    | false => (match Nat.beq i0 i2 with
    | false => (match Nat.beq i1 i2 with
    | false => some ⟨(sheethead_read_1_read_4 N a1 a2 a3 a4).isSome = true, .v (.c (.int .i64 ((sheethead_read_1_read_4 N a1 a2 a3 a4).getD default).1)), [], [(i0, .mem true 24 none (.flat [.cs [.int .i64 ((sheethead_read_1_read_4 N a1 a2 a3 a4).getD default).2.1]])), (i2, .mem true 49 none (.flat [.cs [.str ((sheethead_read_1_read_4 N a1 a2 a3 a4).getD default).2.2.1, .int .i64 ((sheethead_read_1_read_4 N a1 a2 a3 a4).getD default).2.2.2]]))]⟩
    | true => none)
    | true => none)
    | true => none)
    | _ => none)
    | _ => none)
    | _ => none)
  | _ => none
set_option maxRecDepth 100000 in
set_option maxHeartbeats 1000000 in
theorem ok_sheethead_read_1_read_4 (N : Nat) : FnOK Try.prog gt0 34 (sp_sheethead_read_1_read_4 N) := by
  refine fnOK_handed Try.func34 rfl (by kernel_rfl) tt_ok (ktCons (ok_sheethead_read_4 N) (ktCons (ok_overspill_inbits_Reader_Take N) (ktNil))) ?_
  intro args lk r h hp
  unfold sp_sheethead_read_1_read_4 at h
  split at h
  · rename_i a1 i0 i1
    split at h
    · rename_i a2 hl0
      split at h
      · rename_i _ _ _ i2 hl1
        split at h
        · rename_i a3 a4 hl2
          split at h
          · rename_i hb0_1
            split at h
            · rename_i hb0_2
              split at h
              · rename_i hb1_2
                cases h
                obtain ⟨x, hx⟩ := Option.isSome_iff_exists.1 hp
                simp only [hx, Option.getD_some]
                refine handL [i0, i1, i2] 3 [(0, .mem true 24 none (.flat [.cs [.int .i64 a2]])), (1, .mem false 22 none (.flat [.cs [.ptr 2 0 0 0 0 0]])), (2, .mem true 49 none (.flat [.cs [.str a3, .int .i64 a4]]))] [.v (.c (.int .i64 a1)), .v (.c (.clo 40 [])), .v (.c (.ptr 0 0 0 0 0 0)), .v (.c (.ptr 1 0 0 0 0 0))] rfl rfl rfl ⟨isSome_of hl2, isSome_of hl1, isSome_of hl0, trivial⟩ ⟨⟨rfl, zT, _, hl0, .inl rfl⟩, ⟨rfl, zT, _, hl1, sub_ro⟩, ⟨rfl, zT, _, hl2, .inl rfl⟩, trivial⟩ (by simp [apartB, allB, rn, nth, E.own, hb0_1, beq_ff hb0_1, hb0_2, beq_ff hb0_2, hb1_2, beq_ff hb1_2]) (fun w0 M ε0 hX => ?_)
                refine rCount (fun hε => ?_)
                have hT : sheethead_read_1_read_4 N a1 a2 a3 a4 = some x := hx; clear hx hp; unfold sheethead_read_1_read_4 at hT
                refine zA hX ?_
                refine rSeq (zA hX ?_)
                refine zCond rfl rfl (fun hc => ?_) (fun hc => ?_)
                · replace hT := sT hc hT
                  refine zA hX ?_
                  refine rRet (rThenRet ?_)
                  have hy := Option.some.inj hT; subst hy
                  exact rEndA [] [] [(0, .mem true 24 none (.flat [.cs [.int .i64 a2]])), (2, .mem true 49 none (.flat [.cs [.str a3, .int .i64 a4]]))] (.v (.c (.int .i64 0))) hX rfl zZ zL rfl rfl rfl zT rfl rfl zT rfl rfl
                · replace hT := sF hc hT
                  refine rSkip (rThen (zA hX ?_))
                  refine rSeq ?_
                  let c1 := (overspill_inbits_Reader_Take N a1 a3 a4)
                  replace hT := sIf hT; obtain ⟨o1, hT⟩ := hT
                  refine zA hX ?_
                  refine zA hX ?_
                  let c2 := (sheethead_read_4 N (c1.getD default).1)
                  replace hT := sIf hT; obtain ⟨q1, hT⟩ := hT
                  refine rJoin ⟨[(6, .v (.c (.int .i64 0))), (7, .v (.c (.int .i64 (c1.getD default).1)))], [(0, .mem true 24 none (.flat [.cs [.int .i64 (bif (bif (decide ((c1.getD default).2.1 = 0)) then (!false) else false) then (c2.getD default) else (c1.getD default).2.1)]])), (1, .mem false 22 none (.flat [.cs [.ptr 2 0 0 0 0 0]])), (2, .mem true 49 none (.flat [.cs [.str (c1.getD default).2.2.1, .int .i64 (c1.getD default).2.2.2]]))], 3⟩ ?_ (fun hj => ?_)
                  · skip
                    let x1 := (bif (bif (decide ((c1.getD default).2.1 = 0)) then (!false) else false) then (c2.getD default) else (c1.getD default).2.1)
                    refine rThen (zA hX ?_)
                    refine rRet ?_
                    have hy := Option.some.inj hT; subst hy
                    exact rEndA [] [] [(0, .mem true 24 none (.flat [.cs [.int .i64 x1]])), (2, .mem true 49 none (.flat [.cs [.str (c1.getD default).2.2.1, .int .i64 (c1.getD default).2.2.2]]))] (.v (.c (.int .i64 (c1.getD default).1))) hX rfl zZ zL rfl rfl rfl zT rfl rfl zT rfl rfl
                  · clear hT
                    refine zCond rfl rfl (fun hc => ?_) (fun hc => ?_)
                    · skip
                      have q1 := q1 hc
                      refine zReg md0 hX rfl rfl rfl ?_
                      exact rTo (To.mk' [] 3 hε rfl zJ zJ) hj
                    · skip
                      refine rSkip ?_
                      exact rTo (To.mk' [] 3 hε rfl zJ zJ) hj
              · cases h
            · cases h
          · cases h
        · cases h
      · cases h
    · cases h
  · cases h
def sheethead_read_b1 (N : Nat) (s2 : Zt4) : Option (Zt4 ⊕ ((Nat × ByteArray × Int × Nat × (List Int)) ⊕ Zt4)) :=
  let c13 := (sheethead_read_1 N 1 s2.2.1 s2.2.2.1 s2.2.2.2.1)
  let x1 := (bif (decide ((c13.getD default).1 = 1)) then (decide ((c13.getD default).2.1 = 0)) else false)
  if c13.isSome = true then
    bif x1 then
      bif (decide ((s2.1 : Int) = 8)) then
        some (.inr (Sum.inl (s2.1, (c13.getD default).2.2.1, (c13.getD default).2.2.2, s2.2.2.2.2.1, s2.2.2.2.2.2)))
      else
        let c14 := (sheethead_read_1 N 8 (c13.getD default).2.1 (c13.getD default).2.2.1 (c13.getD default).2.2.2)
        if c14.isSome = true ∧ 1 ≤ 1 ∧ s2.2.2.2.2.1 = s2.1 ∧ (s2.1 + 1) * 8 ≤ 140737488355328 ∧ s2.1 + 1 ≤ 9223372036854775807 then
          some (.inl ((s2.1 + 1), (c14.getD default).2.1, (c14.getD default).2.2.1, (c14.getD default).2.2.2, (s2.2.2.2.2.1 + 1), (s2.2.2.2.2.2 ++ (((List.replicate 1 0).set 0 (c14.getD default).1).take 1))))
        else none
    else
      some (.inr (Sum.inr (s2.1, (c13.getD default).2.1, (c13.getD default).2.2.1, (c13.getD default).2.2.2, s2.2.2.2.2.1, s2.2.2.2.2.2)))
  else none
def sheethead_read (N : Nat) (a1 : ByteArray) (a2 : Int) : Option Zt2 :=
  let c1 := (sheethead_mark N a1 a2)
  if c1.isSome = true then
    let c2 := (sheethead_read_1 N 8 (c1.getD default).1 (c1.getD default).2.1 (c1.getD default).2.2)
    if c2.isSome = true then
      let c3 := (sheethead_read_2 N 2 5)
      let c4 := (sheethead_read_1_read_2_1 N 2 (c3.getD default).1 (c3.getD default).2 (c2.getD default).2.1 (c2.getD default).2.2.1 (c2.getD default).2.2.2)
      if c3.isSome = true ∧ c4.isSome = true then
        let c5 := (sheethead_read_1 N 3 (c4.getD default).2.1 (c4.getD default).2.2.1 (c4.getD default).2.2.2)
        if c5.isSome = true then
          let c6 := (sheethead_read_1_read_3 N 3 (c5.getD default).2.1 (c5.getD default).2.2.1 (c5.getD default).2.2.2)
          if c6.isSome = true then
            let c7 := (sheethead_read_1 N 1 (c6.getD default).2.1 (c6.getD default).2.2.1 (c6.getD default).2.2.2)
            if c7.isSome = true then
              let c8 := (sheethead_read_2 N 0 6)
              let c9 := (sheethead_read_1_read_2_1 N 4 (c8.getD default).1 (c8.getD default).2 (c7.getD default).2.1 (c7.getD default).2.2.1 (c7.getD default).2.2.2)
              if c8.isSome = true ∧ c9.isSome = true then
                let c10 := (sheethead_read_1_read_4 N 5 (c9.getD default).2.1 (c9.getD default).2.2.1 (c9.getD default).2.2.2)
                if c10.isSome = true then
                  let c11 := (sheethead_read_2 N 0 6)
                  let c12 := (sheethead_read_1_read_2_1 N 1 (c11.getD default).1 (c11.getD default).2 (c10.getD default).2.1 (c10.getD default).2.2.1 (c10.getD default).2.2.2)
                  if c11.isSome = true ∧ c12.isSome = true then
                    (iter (sheethead_read_b1 N) N (0, (c12.getD default).2.1, (c12.getD default).2.2.1, (c12.getD default).2.2.2, 0, [])).bind fun w1 =>
                      (Sum.elim (fun v1 =>
                        if v1.1 = v1.2.2.2.2.length then
                          some ((c2.getD default).1, (c5.getD default).1, (c6.getD default).1, (decide ((c7.getD default).1 = 1)), (c10.getD default).1, v1.2.2.2.2, 0, 13, v1.2.1, v1.2.2.1)
                        else none
                      )
                        (fun v2 =>
                          if v2.1 = v2.2.2.2.2.2.length then
                            some ((c2.getD default).1, (c5.getD default).1, (c6.getD default).1, (decide ((c7.getD default).1 = 1)), (c10.getD default).1, v2.2.2.2.2.2, 0, v2.2.1, v2.2.2.1, v2.2.2.2.1)
                          else none
                        )
                      ) w1
                  else none
                else none
              else none
            else none
          else none
        else none
      else none
    else none
  else none
def sp_sheethead_read (N : Nat) : X.Spec := fun args lk => match args with
  | [.v (.c (.ptr i0 0 0 0 0 0))] => (match lk i0 with
    | some (.mem true 49 none (.flat [.cs [.str a1, .int .i64 a2]])) => some ⟨(sheethead_read N a1 a2).isSome = true, .tup [.agg [.cs [.int .i64 ((sheethead_read N a1 a2).getD default).1, .int .i64 ((sheethead_read N a1 a2).getD default).2.1, .int .i64 ((sheethead_read N a1 a2).getD default).2.2.1, .bool ((sheethead_read N a1 a2).getD default).2.2.2.1, .int .i64 ((sheethead_read N a1 a2).getD default).2.2.2.2.1, .fz (.int .i64) ((sheethead_read N a1 a2).getD default).2.2.2.2.2.1, .val (.slice none 0 0), .int .i64 ((sheethead_read N a1 a2).getD default).2.2.2.2.2.2.1]], .c (.int .i64 ((sheethead_read N a1 a2).getD default).2.2.2.2.2.2.2.1)], [], [(i0, .mem true 49 none (.flat [.cs [.str ((sheethead_read N a1 a2).getD default).2.2.2.2.2.2.2.2.1, .int .i64 ((sheethead_read N a1 a2).getD default).2.2.2.2.2.2.2.2.2]]))]⟩
    | _ => none)
  | _ => none
set_option maxRecDepth 100000 in
set_option maxHeartbeats 1000000 in
theorem ok_sheethead_read (N : Nat) : FnOK Try.prog gt0 22 (sp_sheethead_read N) := by
  refine fnOK_handed Try.func22 rfl (by kernel_rfl) tt_ok (ktCons (ok_sheethead_read_2 N) (ktCons (FnOK.or (FnOK.or (FnOK.or (ok_sheethead_read_1 N) (ok_sheethead_read_1_read_2_1 N)) (ok_sheethead_read_1_read_3 N)) (ok_sheethead_read_1_read_4 N)) (ktCons (ok_sheethead_mark N) (ktNil)))) ?_
  intro args lk r h hp
  unfold sp_sheethead_read at h
  split at h
  · rename_i i0
    split at h
    · rename_i a1 a2 hl0
      cases h
      obtain ⟨x, hx⟩ := Option.isSome_iff_exists.1 hp
      simp only [hx, Option.getD_some]
      refine handL [i0] 1 [(0, .mem true 49 none (.flat [.cs [.str a1, .int .i64 a2]]))] [.v (.c (.ptr 0 0 0 0 0 0))] rfl rfl rfl ⟨isSome_of hl0, trivial⟩ ⟨⟨rfl, zT, _, hl0, .inl rfl⟩, trivial⟩ rfl (fun w0 M ε0 hX => ?_)
      refine rCount (fun hε => ?_)
      have hT : sheethead_read N a1 a2 = some x := hx; clear hx hp; unfold sheethead_read at hT
      refine zA hX ?_
      refine zA hX ?_
      let c1 := (sheethead_mark N a1 a2)
      replace hT := sIf hT; obtain ⟨o1, hT⟩ := hT
      refine zA hX ?_
      refine zA hX ?_
      refine zA hX ?_
      let c2 := (sheethead_read_1 N 8 (c1.getD default).1 (c1.getD default).2.1 (c1.getD default).2.2)
      replace hT := sIf hT; obtain ⟨o1, hT⟩ := hT
      refine zA hX ?_
      let c3 := (sheethead_read_2 N 2 5)
      let c4 := (sheethead_read_1_read_2_1 N 2 (c3.getD default).1 (c3.getD default).2 (c2.getD default).2.1 (c2.getD default).2.2.1 (c2.getD default).2.2.2)
      replace hT := sIf hT; obtain ⟨⟨o1, o2⟩, hT⟩ := hT
      refine zA hX ?_
      let c5 := (sheethead_read_1 N 3 (c4.getD default).2.1 (c4.getD default).2.2.1 (c4.getD default).2.2.2)
      replace hT := sIf hT; obtain ⟨o1, hT⟩ := hT
      refine zA hX ?_
      let c6 := (sheethead_read_1_read_3 N 3 (c5.getD default).2.1 (c5.getD default).2.2.1 (c5.getD default).2.2.2)
      replace hT := sIf hT; obtain ⟨o1, hT⟩ := hT
      refine zA hX ?_
      let c7 := (sheethead_read_1 N 1 (c6.getD default).2.1 (c6.getD default).2.2.1 (c6.getD default).2.2.2)
      replace hT := sIf hT; obtain ⟨o1, hT⟩ := hT
      refine zA hX ?_
      let c8 := (sheethead_read_2 N 0 6)
      let c9 := (sheethead_read_1_read_2_1 N 4 (c8.getD default).1 (c8.getD default).2 (c7.getD default).2.1 (c7.getD default).2.2.1 (c7.getD default).2.2.2)
      replace hT := sIf hT; obtain ⟨⟨o1, o2⟩, hT⟩ := hT
      refine zA hX ?_
      let c10 := (sheethead_read_1_read_4 N 5 (c9.getD default).2.1 (c9.getD default).2.2.1 (c9.getD default).2.2.2)
      replace hT := sIf hT; obtain ⟨o1, hT⟩ := hT
      refine zA hX ?_
      let c11 := (sheethead_read_2 N 0 6)
      let c12 := (sheethead_read_1_read_2_1 N 1 (c11.getD default).1 (c11.getD default).2 (c10.getD default).2.1 (c10.getD default).2.2.1 (c10.getD default).2.2.2)
      replace hT := sIf hT; obtain ⟨⟨o1, o2⟩, hT⟩ := hT
      refine zA hX ?_
      refine rSeq (rBlock (rNil 3 1 (.flat [.ints 0 .i64 []]) [(2, .v (.c (.ptr 2 0 0 0 0 0))), (3, .v (.c (.int .i64 0))), (4, .v (.c (.ptr 3 0 0 0 0 0))), (5, .v (.c (.ptr 4 0 0 0 0 0))), (6, .v (.c (.clo 34 [4, 1])))] [(0, .mem true 49 none (.flat [.cs [.str (c12.getD default).2.2.1, .int .i64 (c12.getD default).2.2.2]])), (1, .mem true 22 none (.flat [.cs [.ptr 0 0 0 0 0 0]])), (2, .mem true 30 none (.flat [.cs [.int .i64 0, .int .i64 0, .int .i64 0, .bool false, .int .i64 0, .val (.slice none 0 0), .val (.slice none 0 0), .int .i64 0]])), (3, .mem true 30 none (.flat [.cs [.int .i64 (c2.getD default).1, .int .i64 (c5.getD default).1, .int .i64 (c6.getD default).1, .bool (decide ((c7.getD default).1 = 1)), .int .i64 (c10.getD default).1, .sl 11 0 0 1, .val (.slice none 0 0), .int .i64 0]])), (4, .mem true 24 none (.flat [.cs [.int .i64 (c12.getD default).2.1]]))] (nil_ints _) zF zF ?_))
      replace hT := sBind hT; obtain ⟨w1, hl, hT⟩ := hT
      refine rJoinA (fun v1 => (Sum.inl v1) = w1) (fun v1 => ⟨[(2, .v (.c (.ptr 2 0 0 0 0 0))), (3, .v (.c (.int .i64 13)))], [(0, .mem true 49 none (.flat [.cs [.str v1.2.1, .int .i64 v1.2.2.1]])), (2, .mem true 30 none (.flat [.cs [.int .i64 (c2.getD default).1, .int .i64 (c5.getD default).1, .int .i64 (c6.getD default).1, .bool (decide ((c7.getD default).1 = 1)), .int .i64 (c10.getD default).1, .sl 11 0 v1.1 1, .val (.slice none 0 0), .int .i64 0]])), (11, .mem true 3 (some 1) (.flat [.ints v1.2.2.2.1 .i64 v1.2.2.2.2]))], 12⟩) .ret (fun v1 hv => ?_) (fun hxs20 => ?_)
      · subst hv; clear hl; replace hT := (sElimL hT)
        refine rInRet (rThenRet ?_)
        replace hT := sIf hT; obtain ⟨p1, hT⟩ := hT
        refine rFreezeQ 11 (.int .i64) v1.2.2.2.2 [(2, .v (.c (.ptr 2 0 0 0 0 0))), (3, .v (.c (.int .i64 13)))] [(0, .mem true 49 none (.flat [.cs [.str v1.2.1, .int .i64 v1.2.2.1]])), (2, .mem true 30 none (.flat [.cs [.int .i64 (c2.getD default).1, .int .i64 (c5.getD default).1, .int .i64 (c6.getD default).1, .bool (decide ((c7.getD default).1 = 1)), .int .i64 (c10.getD default).1, .fz (.int .i64) v1.2.2.2.2, .val (.slice none 0 0), .int .i64 0]]))] rfl rfl zF zF ?_
        have hy := Option.some.inj hT; subst hy
        exact rEndA [] [] [(0, .mem true 49 none (.flat [.cs [.str v1.2.1, .int .i64 v1.2.2.1]]))] (.tup [.agg [.cs [.int .i64 (c2.getD default).1, .int .i64 (c5.getD default).1, .int .i64 (c6.getD default).1, .bool (decide ((c7.getD default).1 = 1)), .int .i64 (c10.getD default).1, .fz (.int .i64) v1.2.2.2.2, .val (.slice none 0 0), .int .i64 0]], .c (.int .i64 13)]) hX rfl zZ zL rfl rfl rfl zT rfl rfl zT rfl rfl
      refine rJoinA (fun v2 => (Sum.inr v2) = w1) (fun v2 => ⟨[(2, .v (.c (.ptr 2 0 0 0 0 0))), (3, .v (.c (.int .i64 0))), (4, .v (.c (.ptr 3 0 0 0 0 0))), (5, .v (.c (.ptr 4 0 0 0 0 0)))], [(0, .mem true 49 none (.flat [.cs [.str v2.2.2.1, .int .i64 v2.2.2.2.1]])), (2, .mem true 30 none (.flat [.cs [.int .i64 0, .int .i64 0, .int .i64 0, .bool false, .int .i64 0, .val (.slice none 0 0), .val (.slice none 0 0), .int .i64 0]])), (3, .mem true 30 none (.flat [.cs [.int .i64 (c2.getD default).1, .int .i64 (c5.getD default).1, .int .i64 (c6.getD default).1, .bool (decide ((c7.getD default).1 = 1)), .int .i64 (c10.getD default).1, .sl 11 0 v2.1 1, .val (.slice none 0 0), .int .i64 0]])), (4, .mem true 24 none (.flat [.cs [.int .i64 v2.2.1]])), (11, .mem true 3 (some 1) (.flat [.ints v2.2.2.2.2.1 .i64 v2.2.2.2.2.2]))], 12⟩) (.exit 0) (fun v2 hv => ?_) (fun hxs21 => ?_)
      · subst hv; clear hl; replace hT := (sElimR hT)
        refine rInHit (rThen (rSeq ?_))
        refine rDrawG md0 [2] 2 hX mixed rfl rfl rfl rfl rfl rfl zZ zL ?_ (fun k => trivial)
        refine rThen (rRet ?_)
        replace hT := sIf hT; obtain ⟨p1, hT⟩ := hT
        refine rFreezeQ 11 (.int .i64) v2.2.2.2.2.2 [(2, .v (.c (.ptr 2 0 0 0 0 0))), (3, .v (.c (.int .i64 v2.2.1)))] [(0, .mem true 49 none (.flat [.cs [.str v2.2.2.1, .int .i64 v2.2.2.2.1]])), (2, .mem true 30 none (.flat [.cs [.int .i64 (c2.getD default).1, .int .i64 (c5.getD default).1, .int .i64 (c6.getD default).1, .bool (decide ((c7.getD default).1 = 1)), .int .i64 (c10.getD default).1, .fz (.int .i64) v2.2.2.2.2.2, .val (.slice none 0 0), .int .i64 0]]))] rfl rfl zF zF ?_
        have hy := Option.some.inj hT; subst hy
        exact rEndA [] [] [(0, .mem true 49 none (.flat [.cs [.str v2.2.2.1, .int .i64 v2.2.2.2.1]]))] (.tup [.agg [.cs [.int .i64 (c2.getD default).1, .int .i64 (c5.getD default).1, .int .i64 (c6.getD default).1, .bool (decide ((c7.getD default).1 = 1)), .int .i64 (c10.getD default).1, .fz (.int .i64) v2.2.2.2.2.2, .val (.slice none 0 0), .int .i64 0]], .c (.int .i64 v2.2.1)]) hX rfl zZ zL rfl rfl rfl zT rfl rfl zT rfl rfl
      refine rLoopM (sheethead_read_b1 N) (fun s2 => ⟨[(2, .v (.c (.ptr 2 0 0 0 0 0))), (3, .v (.c (.int .i64 0))), (4, .v (.c (.ptr 3 0 0 0 0 0))), (5, .v (.c (.ptr 4 0 0 0 0 0))), (6, .v (.c (.clo 34 [4, 1])))], [(0, .mem true 49 none (.flat [.cs [.str s2.2.2.1, .int .i64 s2.2.2.2.1]])), (1, .mem true 22 none (.flat [.cs [.ptr 0 0 0 0 0 0]])), (2, .mem true 30 none (.flat [.cs [.int .i64 0, .int .i64 0, .int .i64 0, .bool false, .int .i64 0, .val (.slice none 0 0), .val (.slice none 0 0), .int .i64 0]])), (3, .mem true 30 none (.flat [.cs [.int .i64 (c2.getD default).1, .int .i64 (c5.getD default).1, .int .i64 (c6.getD default).1, .bool (decide ((c7.getD default).1 = 1)), .int .i64 (c10.getD default).1, .sl 11 0 s2.1 1, .val (.slice none 0 0), .int .i64 0]])), (4, .mem true 24 none (.flat [.cs [.int .i64 s2.2.1]])), (11, .mem true 3 (some 1) (.flat [.ints s2.2.2.2.2.1 .i64 s2.2.2.2.2.2]))], 12⟩) hl (To.mk' [] 1 hε rfl zL zL) (fun s2 zs2 NNs2 hz hnexts2 houts2 => ?_)
      clear hl hT
      have hT := hz; clear hz
      refine rSeq ?_
      let c13 := (sheethead_read_1 N 1 s2.2.1 s2.2.2.1 s2.2.2.2.1)
      let x1 := (bif (decide ((c13.getD default).1 = 1)) then (decide ((c13.getD default).2.1 = 0)) else false)
      replace hT := sIf hT; obtain ⟨o1, hT⟩ := hT
      refine zA hX ?_
      refine zCond rfl rfl (fun hc => ?_) (fun hc => ?_)
      · replace hT := sT hc hT
        refine rSkip (rThen (rBlock (rSeq (zA hX ?_))))
        refine zCond rfl rfl (fun hc => ?_) (fun hc => ?_)
        · replace hT := sT hc hT
          refine zA hX ?_
          refine rRet (rThenRet (rInRet (rThenRet ?_)))
          exact zTo [] 1 hε (hxs20 _ (houts2 _ (Option.some.inj hT).symm))
        · replace hT := sF hc hT
          refine rSkip (rThen ?_)
          let c14 := (sheethead_read_1 N 8 (c13.getD default).2.1 (c13.getD default).2.2.1 (c13.getD default).2.2.2)
          replace hT := sIf hT; obtain ⟨⟨o1, o2, o3, o4, o5⟩, hT⟩ := hT
          refine rDrawG md0 [3, 4, 5, 7] 5 hX mixed rfl rfl rfl rfl rfl rfl zP zL ?_ (fun k => trivial)
          refine rInNormal ?_
          exact hnexts2 _ (Option.some.inj hT).symm _ (To.mk' [0, 1, 2, 3, 4, 5, 6, 7, 8, 9, 10, 13] 1 hε rfl zL zL)
      · replace hT := sF hc hT
        refine rExit (rThenExit (rThenExit ?_))
        exact zTo [] 1 hε (hxs21 _ (houts2 _ (Option.some.inj hT).symm))
    · cases h
  · cases h
def sheethead_Take (N : Nat) (a1 : ByteArray) (a2 : Int) : Option Zt2 :=
  let c1 := (overspill_inbits_Reader_At N a1 a2)
  if c1.isSome = true then
    let c2 := (sheethead_read N a1 a2)
    if c2.isSome = true then
      bif (decide ((c2.getD default).2.2.2.2.2.2.2.1 ≠ 0)) then
        let c3 := (overspill_inbits_Reader_Seek N (c1.getD default) (c2.getD default).2.2.2.2.2.2.2.2.1 (c2.getD default).2.2.2.2.2.2.2.2.2)
        if c3.isSome = true then
          some (0, 0, 0, false, 0, [], 0, (c2.getD default).2.2.2.2.2.2.2.1, (c3.getD default).2.1, (c3.getD default).2.2)
        else none
      else
        some ((c2.getD default).1, (c2.getD default).2.1, (c2.getD default).2.2.1, (c2.getD default).2.2.2.1, (c2.getD default).2.2.2.2.1, (c2.getD default).2.2.2.2.2.1, (c2.getD default).2.2.2.2.2.2.1, 0, (c2.getD default).2.2.2.2.2.2.2.2.1, (c2.getD default).2.2.2.2.2.2.2.2.2)
    else none
  else none
def sp_sheethead_Take (N : Nat) : X.Spec := fun args lk => match args with
  | [.v (.c (.ptr i0 0 0 0 0 0))] => (match lk i0 with
    | some (.mem true 49 none (.flat [.cs [.str a1, .int .i64 a2]])) => some ⟨(sheethead_Take N a1 a2).isSome = true, .tup [.agg [.cs [.int .i64 ((sheethead_Take N a1 a2).getD default).1, .int .i64 ((sheethead_Take N a1 a2).getD default).2.1, .int .i64 ((sheethead_Take N a1 a2).getD default).2.2.1, .bool ((sheethead_Take N a1 a2).getD default).2.2.2.1, .int .i64 ((sheethead_Take N a1 a2).getD default).2.2.2.2.1, .fz (.int .i64) ((sheethead_Take N a1 a2).getD default).2.2.2.2.2.1, .val (.slice none 0 0), .int .i64 ((sheethead_Take N a1 a2).getD default).2.2.2.2.2.2.1]], .c (.int .i64 ((sheethead_Take N a1 a2).getD default).2.2.2.2.2.2.2.1)], [], [(i0, .mem true 49 none (.flat [.cs [.str ((sheethead_Take N a1 a2).getD default).2.2.2.2.2.2.2.2.1, .int .i64 ((sheethead_Take N a1 a2).getD default).2.2.2.2.2.2.2.2.2]]))]⟩
    | _ => none)
  | _ => none
set_option maxRecDepth 100000 in
set_option maxHeartbeats 1000000 in
theorem ok_sheethead_Take (N : Nat) : FnOK Try.prog gt0 8 (sp_sheethead_Take N) := by
  refine fnOK_handed Try.func8 rfl (by kernel_rfl) tt_ok (ktCons (ok_overspill_inbits_Reader_Seek N) (ktCons (ok_sheethead_read N) (ktCons (ok_overspill_inbits_Reader_At N) (ktNil)))) ?_
  intro args lk r h hp
  unfold sp_sheethead_Take at h
  split at h
  · rename_i i0
    split at h
    · rename_i a1 a2 hl0
      cases h
      obtain ⟨x, hx⟩ := Option.isSome_iff_exists.1 hp
      simp only [hx, Option.getD_some]
      refine handL [i0] 1 [(0, .mem true 49 none (.flat [.cs [.str a1, .int .i64 a2]]))] [.v (.c (.ptr 0 0 0 0 0 0))] rfl rfl rfl ⟨isSome_of hl0, trivial⟩ ⟨⟨rfl, zT, _, hl0, .inl rfl⟩, trivial⟩ rfl (fun w0 M ε0 hX => ?_)
      refine rCount (fun hε => ?_)
      have hT : sheethead_Take N a1 a2 = some x := hx; clear hx hp; unfold sheethead_Take at hT
      refine zA hX ?_
      refine rSeq (zA hX ?_)
      refine rCondF rfl rfl zP rfl ?_
      refine rSkip (rThen ?_)
      let c1 := (overspill_inbits_Reader_At N a1 a2)
      replace hT := sIf hT; obtain ⟨o1, hT⟩ := hT
      refine zA hX ?_
      let c2 := (sheethead_read N a1 a2)
      replace hT := sIf hT; obtain ⟨o1, hT⟩ := hT
      refine zA hX ?_
      refine rSeq (zA hX ?_)
      refine zCond rfl rfl (fun hc => ?_) (fun hc => ?_)
      · replace hT := sT hc hT
        let c3 := (overspill_inbits_Reader_Seek N (c1.getD default) (c2.getD default).2.2.2.2.2.2.2.2.1 (c2.getD default).2.2.2.2.2.2.2.2.2)
        replace hT := sIf hT; obtain ⟨o1, hT⟩ := hT
        refine zA hX ?_
        refine zA hX ?_
        refine rRet (rThenRet ?_)
        have hy := Option.some.inj hT; subst hy
        exact rEndA [] [] [(0, .mem true 49 none (.flat [.cs [.str (c3.getD default).2.1, .int .i64 (c3.getD default).2.2]]))] (.tup [.agg [.cs [.int .i64 0, .int .i64 0, .int .i64 0, .bool false, .int .i64 0, .fz (.int .i64) [], .val (.slice none 0 0), .int .i64 0]], .c (.int .i64 (c2.getD default).2.2.2.2.2.2.2.1)]) hX rfl zZ zL rfl rfl rfl zT rfl rfl zT rfl rfl
      · replace hT := sF hc hT
        refine rSkip (rThen (zA hX ?_))
        refine rRet ?_
        have hy := Option.some.inj hT; subst hy
        exact rEndA [] [] [(0, .mem true 49 none (.flat [.cs [.str (c2.getD default).2.2.2.2.2.2.2.2.1, .int .i64 (c2.getD default).2.2.2.2.2.2.2.2.2]]))] (.tup [.agg [.cs [.int .i64 (c2.getD default).1, .int .i64 (c2.getD default).2.1, .int .i64 (c2.getD default).2.2.1, .bool (c2.getD default).2.2.2.1, .int .i64 (c2.getD default).2.2.2.2.1, .fz (.int .i64) (c2.getD default).2.2.2.2.2.1, .val (.slice none 0 0), .int .i64 (c2.getD default).2.2.2.2.2.2.1]], .c (.int .i64 0)]) hX rfl zZ zL rfl rfl rfl zT rfl rfl zT rfl rfl
    · cases h
  · cases h
def overspill_outbits_Writer_Len (N : Nat) (a1 : (List Bool)) : Option (Int × (List Bool)) :=
  if (a1.length : Int) ≤ 9223372036854775800 then
    some ((a1.length : Int), a1)
  else none
def sp_overspill_outbits_Writer_Len (N : Nat) : X.Spec := fun args lk => match args with
  | [.v (.c (.ptr i0 0 0 0 0 0))] => (match lk i0 with
    | some (.obj 5 a1) => some ⟨(overspill_outbits_Writer_Len N a1).isSome = true, .v (.c (.int .i64 ((overspill_outbits_Writer_Len N a1).getD default).1)), [], [(i0, .obj 5 ((overspill_outbits_Writer_Len N a1).getD default).2)]⟩
    | _ => none)
  | _ => none
set_option maxRecDepth 100000 in
set_option maxHeartbeats 1000000 in
theorem ok_overspill_outbits_Writer_Len (N : Nat) : FnOK Try.prog gt0 18 (sp_overspill_outbits_Writer_Len N) := by
  refine fnOK_handed Try.func18 rfl (by kernel_rfl) tt_ok (ktNil) ?_
  intro args lk r h hp
  unfold sp_overspill_outbits_Writer_Len at h
  split at h
  · rename_i i0
    split at h
    · rename_i a1 hl0
      cases h
      obtain ⟨x, hx⟩ := Option.isSome_iff_exists.1 hp
      simp only [hx, Option.getD_some]
      refine handL [i0] 1 [(0, .obj 5 a1)] [.v (.c (.ptr 0 0 0 0 0 0))] rfl rfl rfl ⟨isSome_of hl0, trivial⟩ ⟨⟨rfl, zT, _, hl0, .inl rfl⟩, trivial⟩ rfl (fun w0 M ε0 hX => ?_)
      refine rCount (fun hε => ?_)
      have hT : overspill_outbits_Writer_Len N a1 = some x := hx; clear hx hp; unfold overspill_outbits_Writer_Len at hT
      replace hT := sIf hT; obtain ⟨p0, hT⟩ := hT
      refine rOpen1 p0 zF (fun ty0 => ?_)
      refine zA hX ?_
      refine rSeq (zA hX ?_)
      refine rCondF rfl rfl zP rfl ?_
      refine rSkip (rThen (zA hX ?_))
      refine rRet ?_
      have hy := Option.some.inj hT; subst hy
      exact rEndObj a1 hX rfl zZ rfl rfl rfl rfl rfl rfl rfl (by first | rfl | assumption) (by first | rfl | assumption) rfl rfl
    · cases h
  · cases h
def law24_lives (N : Nat) : Option Bool :=
  let c1 := (outbits_New N)
  if c1.isSome = true then
    let c2 := (sheethead_Put N 5 0 6 false 9 0 (c1.getD default))
    if c2.isSome = true then
      let c3 := (overspill_outbits_Writer_Text N (c2.getD default).2)
      let c4 := (inbits_New N (c3.getD default).1)
      let c5 := (sheethead_Take N (c4.getD default).1 (c4.getD default).2)
      if c3.isSome = true ∧ c4.isSome = true ∧ c5.isSome = true then
        joinK (fun (v1 : Bool) =>
          some v1
        ) fun k1 =>
          let c7 := (overspill_outbits_Writer_Len N (c3.getD default).2)
          if ((decide ((c2.getD default).1 = 0)) = true → c7.isSome = true) then
            bif (decide ((c2.getD default).1 = 0)) then
              let x1 := (bif (bif (bif (bif (bif (decide ((c2.getD default).1 = 0)) then (decide ((c7.getD default).1 = 50)) else false) then (decide ((c5.getD default).1 = 5)) else false) then (decide ((c5.getD default).2.2.1 = 6)) else false) then (decide ((c5.getD default).2.2.2.2.1 = 9)) else false) then (decide ((c5.getD default).2.2.2.2.2.2.2.1 = 0)) else false)
              k1 x1
            else
              let x6 := (bif (bif (bif (bif (bif (decide ((c2.getD default).1 = 0)) then false else false) then (decide ((c5.getD default).1 = 5)) else false) then (decide ((c5.getD default).2.2.1 = 6)) else false) then (decide ((c5.getD default).2.2.2.2.1 = 9)) else false) then (decide ((c5.getD default).2.2.2.2.2.2.2.1 = 0)) else false)
              k1 x6
          else none
      else none
    else none
  else none
def sp_law24_lives (N : Nat) : X.Spec := fun args lk => match args with
  | [] => some ⟨(law24_lives N).isSome = true, .v (.c (.bool ((law24_lives N).getD default))), [], []⟩
  | _ => none
set_option maxRecDepth 100000 in
set_option maxHeartbeats 1000000 in
theorem ok_law24_lives (N : Nat) : FnOK Try.prog gt0 7 (sp_law24_lives N) := by
  refine fnOK_handed Try.func7 rfl (by kernel_rfl) tt_ok (ktCons (ok_overspill_outbits_Writer_Len N) (ktCons (ok_sheethead_Take N) (ktCons (ok_inbits_New N) (ktCons (ok_overspill_outbits_Writer_Text N) (ktCons (ok_sheethead_Put N) (ktCons (ok_outbits_New N) (ktNil))))))) ?_
  intro args lk r h hp
  unfold sp_law24_lives at h
  split at h
  · skip
    cases h
    obtain ⟨x, hx⟩ := Option.isSome_iff_exists.1 hp
    simp only [hx, Option.getD_some]
    refine hand0 rfl rfl (fun w0 M ε0 hX => ?_)
    refine rCount (fun hε => ?_)
    have hT : law24_lives N = some x := hx; clear hx hp; unfold law24_lives at hT
    refine zA hX ?_
    let c1 := (outbits_New N)
    replace hT := sIf hT; obtain ⟨o1, hT⟩ := hT
    refine zA hX ?_
    let c2 := (sheethead_Put N 5 0 6 false 9 0 (c1.getD default))
    replace hT := sIf hT; obtain ⟨o1, hT⟩ := hT
    refine zA hX ?_
    let c3 := (overspill_outbits_Writer_Text N (c2.getD default).2)
    let c4 := (inbits_New N (c3.getD default).1)
    let c5 := (sheethead_Take N (c4.getD default).1 (c4.getD default).2)
    replace hT := sIf hT; obtain ⟨⟨o1, o2, o3⟩, hT⟩ := hT
    refine zA hX ?_
    refine rSeq (rRegSL ?_)
    refine rJoinKL hT (fun v1 => ⟨[(0, .v (.c (.bool v1)))], [], 3⟩) (fun v1 hT => ?_) (fun k1 hjk1 hT => ?_)
    · skip
      refine rThen (rRet ?_)
      have hy := Option.some.inj hT; subst hy
      exact zEnd0 hX rfl
    · skip
      let c7 := (overspill_outbits_Writer_Len N (c3.getD default).2)
      replace hT := sIf hT; obtain ⟨r1, hT⟩ := hT
      refine rSLG md0 hX rfl rfl rfl zP rfl rfl rfl rfl (fun hg => (by (repeat' first | exact True.intro | with_reducible assumption | (with_reducible apply And.intro)) <;> first | exact rfl | assumption | exact r1 hg | omega | exact Nat.le_of_ble_eq_true rfl)) (fun hg => ?_) (fun hg => ?_)
      · replace hT := sT hg hT
        let x1 := (bif (bif (bif (bif (bif (decide ((c2.getD default).1 = 0)) then (decide ((c7.getD default).1 = 50)) else false) then (decide ((c5.getD default).1 = 5)) else false) then (decide ((c5.getD default).2.2.1 = 6)) else false) then (decide ((c5.getD default).2.2.2.2.1 = 9)) else false) then (decide ((c5.getD default).2.2.2.2.2.2.2.1 = 0)) else false)
        refine rSLDone md0 hX rfl rfl rfl zP ?_
        exact zTo [] 0 hε (hjk1 _ hT)
      · replace hT := sF hg hT
        refine rSLSkip md0 hX rfl rfl rfl zP rfl rfl rfl (by assumption) ?_
        let x6 := (bif (bif (bif (bif (bif (decide ((c2.getD default).1 = 0)) then false else false) then (decide ((c5.getD default).1 = 5)) else false) then (decide ((c5.getD default).2.2.1 = 6)) else false) then (decide ((c5.getD default).2.2.2.2.1 = 9)) else false) then (decide ((c5.getD default).2.2.2.2.2.2.2.1 = 0)) else false)
        refine rSLDone md0 hX rfl rfl rfl zP ?_
        exact zTo [] 0 hε (hjk1 _ hT)
  · cases h
def ref02_Row_b1 (N : Nat) (a2 : Int) (s1 : Zt7) : Option (Zt7 ⊕ ByteArray) :=
  bif (decide (s1.2.2 < a2)) then
    if (0 : Int) ≤ s1.1 ∧ inK .i64 ((s1.1 % 2) + 1) ∧ (0 : Int) ≤ (s1.1 % 2) ∧ (s1.1 % 2) ≤ ((s1.1 % 2) + 1) ∧ ((s1.1 % 2) + 1) ≤ (ByteArray.size ⟨#[48, 49]⟩ : Int) ∧ (ByteArray.size (ByteArray.extract ⟨#[48, 49]⟩ (s1.1 % 2).toNat ((s1.1 % 2) + 1).toNat) : Int) + ByteArray.size s1.2.1 ≤ 9223372036854775807 then
      if (0 : Int) ≤ s1.1 then
        if inK .i64 (s1.2.2 + 1) then
          some (.inl ((s1.1 / 2), ((ByteArray.extract ⟨#[48, 49]⟩ (s1.1 % 2).toNat ((s1.1 % 2) + 1).toNat) ++ s1.2.1), (s1.2.2 + 1)))
        else none
      else none
    else none
  else
    some (.inr s1.2.1)
def ref02_Row (N : Nat) (a1 : Int) (a2 : Int) : Option ByteArray :=
  (iter (ref02_Row_b1 N a2) N (a1, ⟨#[]⟩, 0)).bind fun v1 =>
    some v1
def sp_ref02_Row (N : Nat) : X.Spec := fun args lk => match args with
  | [.v (.c (.int .i64 a1)), .v (.c (.int .i64 a2))] => some ⟨(ref02_Row N a1 a2).isSome = true, .v (.c (.str ((ref02_Row N a1 a2).getD default))), [], []⟩
  | _ => none
set_option maxRecDepth 100000 in
set_option maxHeartbeats 1000000 in
theorem ok_ref02_Row (N : Nat) : FnOK Try.prog gt0 26 (sp_ref02_Row N) := by
  refine fnOK_handed Try.func26 rfl (by kernel_rfl) tt_ok (ktNil) ?_
  intro args lk r h hp
  unfold sp_ref02_Row at h
  split at h
  · rename_i a1 a2
    cases h
    obtain ⟨x, hx⟩ := Option.isSome_iff_exists.1 hp
    simp only [hx, Option.getD_some]
    refine hand0 rfl rfl (fun w0 M ε0 hX => ?_)
    refine rCount (fun hε => ?_)
    have hT : ref02_Row N a1 a2 = some x := hx; clear hx hp; unfold ref02_Row at hT
    refine zA hX ?_
    refine zA hX ?_
    refine rSeq (zA hX ?_)
    refine rBlock ?_
    replace hT := sBind hT; obtain ⟨w1, hl, hT⟩ := hT
    refine rJoinA (fun v1 => v1 = w1) (fun v1 => ⟨[(4, .v (.c (.str ⟨#[]⟩))), (5, .v (.c (.str v1)))], [], 0⟩) (.exit 0) (fun v1 hv => ?_) (fun hxs10 => ?_)
    · subst hv; clear hl
      refine rInHit (rThen (zA hX ?_))
      refine rRet ?_
      have hy := Option.some.inj hT; subst hy
      exact zEnd0 hX rfl
    refine rLoopM (ref02_Row_b1 N a2) (fun s1 => ⟨[(0, .v (.c (.int .i64 s1.1))), (1, .v (.c (.int .i64 a2))), (4, .v (.c (.str ⟨#[]⟩))), (5, .v (.c (.str s1.2.1))), (6, .v (.c (.int .i64 s1.2.2)))], [], 0⟩) hl (To.mk' [] 0 hε rfl zL zL) (fun s1 zs1 NNs1 hz hnexts1 houts1 => ?_)
    clear hl hT
    have hT := hz; clear hz
    refine rSeq (zA hX ?_)
    refine zCond rfl rfl (fun hc => ?_) (fun hc => ?_)
    · replace hT := sT hc hT
      refine rSkip (rThen (rSeq (rBlock ?_)))
      replace hT := sIf hT; obtain ⟨⟨o1, o2, o3, o4, o5, o6⟩, hT⟩ := hT
      refine zA hX ?_
      replace hT := sIf hT; obtain ⟨o1, hT⟩ := hT
      refine zReg md0 hX rfl rfl rfl ?_
      refine rInNormal (rThen ?_)
      replace hT := sIf hT; obtain ⟨o1, hT⟩ := hT
      refine zReg md0 hX rfl rfl rfl ?_
      exact hnexts1 _ (Option.some.inj hT).symm _ (To.mk' [] 0 hε rfl zL zL)
    · replace hT := sF hc hT
      refine rExit (rThenExit (rThenExit ?_))
      exact zTo [] 0 hε (hxs10 _ (houts1 _ (Option.some.inj hT).symm))
  · cases h
def ref02_Show_b1 (N : Nat) (a1 : ByteArray) (s2 : Zt5) : Option (Zt5 ⊕ (Nat × Nat × (List Int))) :=
  bif (decide (s2.2.1 < (ByteArray.size a1 : Int))) then
    let c1 := (ref02_Row N (byteI a1 (s2.2.1).toNat) 8)
    if (0 : Int) ≤ s2.2.1 ∧ s2.2.1 < (ByteArray.size a1 : Int) ∧ inK .i64 (byteI a1 (s2.2.1).toNat) ∧ c1.isSome = true ∧ s2.2.2.1 = s2.1 ∧ (s2.1 + ByteArray.size (c1.getD default)) * 1 ≤ 140737488355328 ∧ s2.1 + ByteArray.size (c1.getD default) ≤ 9223372036854775807 then
      if inK .i64 (s2.2.1 + 1) then
        some (.inl ((s2.1 + ByteArray.size (c1.getD default)), (s2.2.1 + 1), (s2.2.2.1 + ByteArray.size (c1.getD default)), (s2.2.2.2 ++ (bl (c1.getD default)))))
      else none
    else none
  else
    some (.inr (s2.1, s2.2.2.1, s2.2.2.2))
def ref02_Show (N : Nat) (a1 : ByteArray) : Option ByteArray :=
  (iter (ref02_Show_b1 N a1) N (0, 0, 0, [])).bind fun v1 =>
    if v1.1 ≤ v1.2.1 ∧ (v1.1 : Int) ≤ 9223372036854775807 then
      some (bytesOf (v1.2.2.take v1.1))
    else none
def sp_ref02_Show (N : Nat) : X.Spec := fun args lk => match args with
  | [.v (.c (.str a1))] => some ⟨(ref02_Show N a1).isSome = true, .v (.c (.str ((ref02_Show N a1).getD default))), [], []⟩
  | _ => none
set_option maxRecDepth 100000 in
set_option maxHeartbeats 1000000 in
theorem ok_ref02_Show (N : Nat) : FnOK Try.prog gt0 10 (sp_ref02_Show N) := by
  refine fnOK_handed Try.func10 rfl (by kernel_rfl) tt_ok (ktCons (ok_ref02_Row N) (ktNil)) ?_
  intro args lk r h hp
  unfold sp_ref02_Show at h
  split at h
  · rename_i a1
    cases h
    obtain ⟨x, hx⟩ := Option.isSome_iff_exists.1 hp
    simp only [hx, Option.getD_some]
    refine hand0 rfl rfl (fun w0 M ε0 hX => ?_)
    refine rCount (fun hε => ?_)
    have hT : ref02_Show N a1 = some x := hx; clear hx hp; unfold ref02_Show at hT
    refine zA hX ?_
    refine zA hX ?_
    refine rSeq (zA hX ?_)
    refine rBlock (rNil 5 1 (.flat [.ints 0 .u8 []]) [(0, .v (.c (.str a1))), (2, .v (.c (.str ⟨#[]⟩))), (3, .v (.c (.sl 0 0 0 1))), (4, .v (.c (.int .i64 0)))] [] (nil_ints _) zF zF ?_)
    replace hT := sBind hT; obtain ⟨w1, hl, hT⟩ := hT
    refine rJoinA (fun v1 => v1 = w1) (fun v1 => ⟨[(2, .v (.c (.str ⟨#[]⟩))), (3, .v (.c (.sl 0 0 v1.1 1)))], [(0, .mem true 5 (some 1) (.flat [.ints v1.2.1 .u8 v1.2.2]))], 1⟩) (.exit 0) (fun v1 hv => ?_) (fun hxs20 => ?_)
    · subst hv; clear hl
      refine rInHit (rThen ?_)
      replace hT := sIf hT; obtain ⟨⟨o1, o2⟩, hT⟩ := hT
      refine zA hX ?_
      refine rRet ?_
      have hy := Option.some.inj hT; subst hy
      exact zEnd0 hX rfl
    refine rLoopM (ref02_Show_b1 N a1) (fun s2 => ⟨[(0, .v (.c (.str a1))), (2, .v (.c (.str ⟨#[]⟩))), (3, .v (.c (.sl 0 0 s2.1 1))), (4, .v (.c (.int .i64 s2.2.1)))], [(0, .mem true 5 (some 1) (.flat [.ints s2.2.2.1 .u8 s2.2.2.2]))], 1⟩) hl (To.mk' [] 0 hε rfl zL zL) (fun s2 zs2 NNs2 hz hnexts2 houts2 => ?_)
    clear hl hT
    have hT := hz; clear hz
    refine rSeq (zA hX ?_)
    refine zCond rfl rfl (fun hc => ?_) (fun hc => ?_)
    · replace hT := sT hc hT
      refine rSkip (rThen (rSeq (rBlock ?_)))
      let c1 := (ref02_Row N (byteI a1 (s2.2.1).toNat) 8)
      replace hT := sIf hT; obtain ⟨⟨o1, o2, o3, o4, o5, o6, o7⟩, hT⟩ := hT
      refine zReg md0 hX rfl rfl rfl ?_
      refine rInNormal (rThen ?_)
      replace hT := sIf hT; obtain ⟨o1, hT⟩ := hT
      refine zReg md0 hX rfl rfl rfl ?_
      exact hnexts2 _ (Option.some.inj hT).symm _ (To.mk' [1] 0 hε rfl zL zL)
    · replace hT := sF hc hT
      refine rExit (rThenExit (rThenExit ?_))
      exact zTo [] 0 hε (hxs20 _ (houts2 _ (Option.some.inj hT).symm))
  · cases h
def ref02_Number_b1 (N : Nat) (a1 : ByteArray) (s1 : (Int × Int)) : Option ((Int × Int) ⊕ Int) :=
  bif (decide (s1.2 < (ByteArray.size a1 : Int))) then
    if inK .i64 ((2 : Int) * s1.1) ∧ (0 : Int) ≤ s1.2 ∧ s1.2 < (ByteArray.size a1 : Int) ∧ inK .u8 ((byteI a1 (s1.2).toNat) - 48) ∧ inK .i64 ((byteI a1 (s1.2).toNat) - 48) ∧ inK .i64 (((2 : Int) * s1.1) + ((byteI a1 (s1.2).toNat) - 48)) then
      if inK .i64 (s1.2 + 1) then
        some (.inl ((((2 : Int) * s1.1) + ((byteI a1 (s1.2).toNat) - 48)), (s1.2 + 1)))
      else none
    else none
  else
    some (.inr s1.1)
def ref02_Number (N : Nat) (a1 : ByteArray) : Option Int :=
  (iter (ref02_Number_b1 N a1) N (0, 0)).bind fun v1 =>
    some v1
def sp_ref02_Number (N : Nat) : X.Spec := fun args lk => match args with
  | [.v (.c (.str a1))] => some ⟨(ref02_Number N a1).isSome = true, .v (.c (.int .i64 ((ref02_Number N a1).getD default))), [], []⟩
  | _ => none
set_option maxRecDepth 100000 in
set_option maxHeartbeats 1000000 in
theorem ok_ref02_Number (N : Nat) : FnOK Try.prog gt0 24 (sp_ref02_Number N) := by
  refine fnOK_handed Try.func24 rfl (by kernel_rfl) tt_ok (ktNil) ?_
  intro args lk r h hp
  unfold sp_ref02_Number at h
  split at h
  · rename_i a1
    cases h
    obtain ⟨x, hx⟩ := Option.isSome_iff_exists.1 hp
    simp only [hx, Option.getD_some]
    refine hand0 rfl rfl (fun w0 M ε0 hX => ?_)
    refine rCount (fun hε => ?_)
    have hT : ref02_Number N a1 = some x := hx; clear hx hp; unfold ref02_Number at hT
    refine zA hX ?_
    refine zA hX ?_
    refine rSeq (zA hX ?_)
    refine rBlock ?_
    replace hT := sBind hT; obtain ⟨w1, hl, hT⟩ := hT
    refine rJoinA (fun v1 => v1 = w1) (fun v1 => ⟨[(2, .v (.c (.int .i64 0))), (3, .v (.c (.int .i64 v1)))], [], 0⟩) (.exit 0) (fun v1 hv => ?_) (fun hxs10 => ?_)
    · subst hv; clear hl
      refine rInHit (rThen (zA hX ?_))
      refine rRet ?_
      have hy := Option.some.inj hT; subst hy
      exact zEnd0 hX rfl
    refine rLoopM (ref02_Number_b1 N a1) (fun s1 => ⟨[(0, .v (.c (.str a1))), (2, .v (.c (.int .i64 0))), (3, .v (.c (.int .i64 s1.1))), (4, .v (.c (.int .i64 s1.2)))], [], 0⟩) hl (To.mk' [] 0 hε rfl zL zL) (fun s1 zs1 NNs1 hz hnexts1 houts1 => ?_)
    clear hl hT
    have hT := hz; clear hz
    refine rSeq (zA hX ?_)
    refine zCond rfl rfl (fun hc => ?_) (fun hc => ?_)
    · replace hT := sT hc hT
      refine rSkip (rThen (rSeq (rBlock ?_)))
      replace hT := sIf hT; obtain ⟨⟨o1, o2, o3, o4, o5, o6⟩, hT⟩ := hT
      refine zReg md0 hX rfl rfl rfl ?_
      refine rInNormal (rThen ?_)
      replace hT := sIf hT; obtain ⟨o1, hT⟩ := hT
      refine zReg md0 hX rfl rfl rfl ?_
      exact hnexts1 _ (Option.some.inj hT).symm _ (To.mk' [] 0 hε rfl zL zL)
    · replace hT := sF hc hT
      refine rExit (rThenExit (rThenExit ?_))
      exact zTo [] 0 hε (hxs10 _ (houts1 _ (Option.some.inj hT).symm))
  · cases h
def ref04_At (N : Nat) (a1 : ByteArray) (a2 : Int) : Option (Int × Int) :=
  bif (bif (decide (a2 < 0)) then true else (decide ((ByteArray.size a1 : Int) < a2))) then
    some (0, 1)
  else
    if inK .i64 ((ByteArray.size a1 : Int) - a2) then
      bif (decide (((ByteArray.size a1 : Int) - a2) < 22)) then
        some (0, 2)
      else
        let x1 := (decide (ByteArray.toList (ByteArray.extract a1 (a2).toNat (a2 + 17).toNat) ≠ ByteArray.toList ⟨#[48, 48, 48, 48, 48, 48, 48, 48, 48, 48, 48, 48, 48, 48, 48, 48, 49]⟩))
        if inK .i64 (a2 + 17) ∧ (0 : Int) ≤ a2 ∧ a2 ≤ (a2 + 17) ∧ (a2 + 17) ≤ (ByteArray.size a1 : Int) then
          bif x1 then
            some (0, 4)
          else
            let c1 := (ref02_Number N (ByteArray.extract a1 (a2 + 17).toNat (a2 + 22).toNat))
            if inK .i64 (a2 + 17) ∧ inK .i64 (a2 + 22) ∧ (0 : Int) ≤ (a2 + 17) ∧ (a2 + 17) ≤ (a2 + 22) ∧ (a2 + 22) ≤ (ByteArray.size a1 : Int) ∧ c1.isSome = true then
              some ((c1.getD default), 0)
            else none
        else none
    else none
def sp_ref04_At (N : Nat) : X.Spec := fun args lk => match args with
  | [.v (.c (.str a1)), .v (.c (.int .i64 a2))] => some ⟨(ref04_At N a1 a2).isSome = true, .tup [.c (.int .i64 ((ref04_At N a1 a2).getD default).1), .c (.int .i64 ((ref04_At N a1 a2).getD default).2)], [], []⟩
  | _ => none
set_option maxRecDepth 100000 in
set_option maxHeartbeats 1000000 in
theorem ok_ref04_At (N : Nat) : FnOK Try.prog gt0 23 (sp_ref04_At N) := by
  refine fnOK_handed Try.func23 rfl (by kernel_rfl) tt_ok (ktCons (ok_ref02_Number N) (ktNil)) ?_
  intro args lk r h hp
  unfold sp_ref04_At at h
  split at h
  · rename_i a1 a2
    cases h
    obtain ⟨x, hx⟩ := Option.isSome_iff_exists.1 hp
    simp only [hx, Option.getD_some]
    refine hand0 rfl rfl (fun w0 M ε0 hX => ?_)
    refine rCount (fun hε => ?_)
    have hT : ref04_At N a1 a2 = some x := hx; clear hx hp; unfold ref04_At at hT
    refine zA hX ?_
    refine rSeq (zA hX ?_)
    refine zCond rfl rfl (fun hc => ?_) (fun hc => ?_)
    · replace hT := sT hc hT
      refine zA hX ?_
      refine rRet (rThenRet ?_)
      have hy := Option.some.inj hT; subst hy
      exact zEnd0 hX rfl
    · replace hT := sF hc hT
      refine rSkip (rThen (rSeq ?_))
      replace hT := sIf hT; obtain ⟨o1, hT⟩ := hT
      refine zA hX ?_
      refine zCond rfl rfl (fun hc => ?_) (fun hc => ?_)
      · replace hT := sT hc hT
        refine zA hX ?_
        refine rRet (rThenRet ?_)
        have hy := Option.some.inj hT; subst hy
        exact zEnd0 hX rfl
      · replace hT := sF hc hT
        refine rSkip (rThen (rSeq ?_))
        let x1 := (decide (ByteArray.toList (ByteArray.extract a1 (a2).toNat (a2 + 17).toNat) ≠ ByteArray.toList ⟨#[48, 48, 48, 48, 48, 48, 48, 48, 48, 48, 48, 48, 48, 48, 48, 48, 49]⟩))
        replace hT := sIf hT; obtain ⟨⟨o1, o2, o3, o4⟩, hT⟩ := hT
        refine zA hX ?_
        refine zCond rfl rfl (fun hc => ?_) (fun hc => ?_)
        · replace hT := sT hc hT
          refine zA hX ?_
          refine rRet (rThenRet ?_)
          have hy := Option.some.inj hT; subst hy
          exact zEnd0 hX rfl
        · replace hT := sF hc hT
          refine rSkip (rThen ?_)
          let c1 := (ref02_Number N (ByteArray.extract a1 (a2 + 17).toNat (a2 + 22).toNat))
          replace hT := sIf hT; obtain ⟨⟨o1, o2, o3, o4, o5, o6⟩, hT⟩ := hT
          refine zA hX ?_
          refine rRet ?_
          have hy := Option.some.inj hT; subst hy
          exact zEnd0 hX rfl
  · cases h
def ref16_Size (N : Nat) (a1 : Int) : Option (List Int) :=
  let x1 := [(List.replicate 4 0), (((((List.replicate 4 0).set 0 128).set 1 96).set 2 6).set 3 1), (((((List.replicate 4 0).set 0 176).set 1 144).set 2 9).set 3 1), (((((List.replicate 4 0).set 0 352).set 1 288).set 2 18).set 3 1), (((((List.replicate 4 0).set 0 704).set 1 576).set 2 18).set 3 2), (((((List.replicate 4 0).set 0 1408).set 1 1152).set 2 18).set 3 4), (((((List.replicate 4 0).set 0 32).set 1 32).set 2 2).set 3 1)]
  bif (bif (decide (a1 < 0)) then true else (decide ((7 : Int) ≤ a1))) then
    some (List.replicate 4 0)
  else
    if (0 : Int) ≤ a1 ∧ a1 < 7 ∧ (a1).toNat < x1.length then
      some (x1.getD (a1).toNat (List.replicate 4 (0 : Int)))
    else none
def sp_ref16_Size (N : Nat) : X.Spec := fun args lk => match args with
  | [.v (.c (.int .i64 a1))] => some ⟨(ref16_Size N a1).isSome = true, .v (.agg [.ints 4 .i64 ((ref16_Size N a1).getD default)]), [], []⟩
  | _ => none
set_option maxRecDepth 100000 in
set_option maxHeartbeats 1000000 in
theorem ok_ref16_Size (N : Nat) : FnOK Try.prog gt0 41 (sp_ref16_Size N) := by
  refine fnOK_handed Try.func41 rfl (by kernel_rfl) tt_ok (ktNil) ?_
  intro args lk r h hp
  unfold sp_ref16_Size at h
  split at h
  · rename_i a1
    cases h
    obtain ⟨x, hx⟩ := Option.isSome_iff_exists.1 hp
    simp only [hx, Option.getD_some]
    refine hand0 rfl rfl (fun w0 M ε0 hX => ?_)
    refine rCount (fun hε => ?_)
    have hT : ref16_Size N a1 = some x := hx; clear hx hp; unfold ref16_Size at hT
    refine zA hX ?_
    refine rSeq (zReg md0 hX rfl rfl rfl ?_)
    refine rLstQ 1 (.arr 4 .i64) [(List.replicate 4 0), (((((List.replicate 4 0).set 0 128).set 1 96).set 2 6).set 3 1), (((((List.replicate 4 0).set 0 176).set 1 144).set 2 9).set 3 1), (((((List.replicate 4 0).set 0 352).set 1 288).set 2 18).set 3 1), (((((List.replicate 4 0).set 0 704).set 1 576).set 2 18).set 3 2), (((((List.replicate 4 0).set 0 1408).set 1 1152).set 2 18).set 3 4), (((((List.replicate 4 0).set 0 32).set 1 32).set 2 2).set 3 1)] rfl rfl rfl ?_
    refine rThen (rSeq ?_)
    let x1 := [(List.replicate 4 0), (((((List.replicate 4 0).set 0 128).set 1 96).set 2 6).set 3 1), (((((List.replicate 4 0).set 0 176).set 1 144).set 2 9).set 3 1), (((((List.replicate 4 0).set 0 352).set 1 288).set 2 18).set 3 1), (((((List.replicate 4 0).set 0 704).set 1 576).set 2 18).set 3 2), (((((List.replicate 4 0).set 0 1408).set 1 1152).set 2 18).set 3 4), (((((List.replicate 4 0).set 0 32).set 1 32).set 2 2).set 3 1)]
    refine zA hX ?_
    refine zCond rfl rfl (fun hc => ?_) (fun hc => ?_)
    · replace hT := sT hc hT
      refine zA hX ?_
      refine rRet (rThenRet ?_)
      have hy := Option.some.inj hT; subst hy
      exact zEnd0 hX rfl
    · replace hT := sF hc hT
      refine rSkip (rThen ?_)
      replace hT := sIf hT; obtain ⟨⟨o1, o2, o3⟩, hT⟩ := hT
      refine zA hX ?_
      refine rRet ?_
      have hy := Option.some.inj hT; subst hy
      exact zEnd0 hX rfl
  · cases h
def ref16_Many (N : Nat) (a1 : Int) : Option Int :=
  let c1 := (ref16_Size N a1)
  let c2 := (ref16_Size N a1)
  if c1.isSome = true ∧ (0 : Int) ≤ ((c1.getD default).getD 0 0) ∧ c2.isSome = true ∧ (0 : Int) ≤ ((c2.getD default).getD 1 0) ∧ inK .i64 ((((c1.getD default).getD 0 0) / 16) * (((c2.getD default).getD 1 0) / 16)) then
    some ((((c1.getD default).getD 0 0) / 16) * (((c2.getD default).getD 1 0) / 16))
  else none
def sp_ref16_Many (N : Nat) : X.Spec := fun args lk => match args with
  | [.v (.c (.int .i64 a1))] => some ⟨(ref16_Many N a1).isSome = true, .v (.c (.int .i64 ((ref16_Many N a1).getD default))), [], []⟩
  | _ => none
set_option maxRecDepth 100000 in
set_option maxHeartbeats 1000000 in
theorem ok_ref16_Many (N : Nat) : FnOK Try.prog gt0 25 (sp_ref16_Many N) := by
  refine fnOK_handed Try.func25 rfl (by kernel_rfl) tt_ok (ktCons (ok_ref16_Size N) (ktNil)) ?_
  intro args lk r h hp
  unfold sp_ref16_Many at h
  split at h
  · rename_i a1
    cases h
    obtain ⟨x, hx⟩ := Option.isSome_iff_exists.1 hp
    simp only [hx, Option.getD_some]
    refine hand0 rfl rfl (fun w0 M ε0 hX => ?_)
    refine rCount (fun hε => ?_)
    have hT : ref16_Many N a1 = some x := hx; clear hx hp; unfold ref16_Many at hT
    refine zA hX ?_
    let c1 := (ref16_Size N a1)
    let c2 := (ref16_Size N a1)
    replace hT := sIf hT; obtain ⟨⟨o1, o2, o3, o4, o5⟩, hT⟩ := hT
    refine zA hX ?_
    refine rRet ?_
    have hy := Option.some.inj hT; subst hy
    exact zEnd0 hX rfl
  · cases h
def ref24_Take_b1 (N : Nat) (a1 : ByteArray) (a2 : Int) (v2 : Zt6) (s4 : Zt6) : Option (Zt6 ⊕ (Int × Int × Int × Int × Int × Bool × Int × (List Int))) :=
  if inK .i64 ((ByteArray.size a1 : Int) - s4.1) then
    bif (decide (((ByteArray.size a1 : Int) - s4.1) < 1)) then
      some (.inr (a2, 2, 0, 0, 0, false, 0, []))
    else
      if inK .i64 (s4.1 + 1) then
        if inK .i64 ((s4.1 + 1) - 1) ∧ (0 : Int) ≤ ((s4.1 + 1) - 1) ∧ ((s4.1 + 1) - 1) < (ByteArray.size a1 : Int) then
          bif (decide ((byteI a1 ((s4.1 + 1) - 1).toNat) = 48)) then
            if (0 : Int) < (v2.2.1 : Int) ∧ 0 < v2.2.2.1 ∧ (2 : Int) < (v2.2.1 : Int) ∧ 2 < v2.2.2.1 ∧ (3 : Int) < (v2.2.1 : Int) ∧ 3 < v2.2.2.1 ∧ (4 : Int) < (v2.2.1 : Int) ∧ 4 < v2.2.2.1 ∧ (6 : Int) < (v2.2.1 : Int) ∧ 6 < v2.2.2.1 then
              if s4.2.1 = s4.2.2.2.length then
                some (.inr ((s4.1 + 1), 0, (v2.2.2.2.getD 0 0), (v2.2.2.2.getD 2 0), (v2.2.2.2.getD 3 0), (decide ((v2.2.2.2.getD 4 0) = 1)), (v2.2.2.2.getD 6 0), s4.2.2.2))
              else none
            else none
          else
            bif (decide ((s4.2.1 : Int) = 8)) then
              some (.inr (a2, 13, 0, 0, 0, false, 0, []))
            else
              if inK .i64 ((ByteArray.size a1 : Int) - (s4.1 + 1)) then
                bif (decide (((ByteArray.size a1 : Int) - (s4.1 + 1)) < 8)) then
                  some (.inr (a2, 2, 0, 0, 0, false, 0, []))
                else
                  let c2 := (ref02_Number N (ByteArray.extract a1 (s4.1 + 1).toNat ((s4.1 + 1) + 8).toNat))
                  if inK .i64 ((s4.1 + 1) + 8) ∧ (0 : Int) ≤ (s4.1 + 1) ∧ (s4.1 + 1) ≤ ((s4.1 + 1) + 8) ∧ ((s4.1 + 1) + 8) ≤ (ByteArray.size a1 : Int) ∧ c2.isSome = true ∧ 1 ≤ 1 ∧ s4.2.2.1 = s4.2.1 ∧ (s4.2.1 + 1) * 8 ≤ 140737488355328 ∧ s4.2.1 + 1 ≤ 9223372036854775807 then
                    if inK .i64 ((s4.1 + 1) + 8) then
                      some (.inl (((s4.1 + 1) + 8), (s4.2.1 + 1), (s4.2.2.1 + 1), (s4.2.2.2 ++ (((List.replicate 1 0).set 0 (c2.getD default)).take 1))))
                    else none
                  else none
              else none
        else none
      else none
  else none
def ref24_Take_b2 (N : Nat) (a1 : ByteArray) (x1 : (List Int)) (s2 : (Int × Nat × Int × Nat × (List Int))) : Option ((Int × Nat × Int × Nat × (List Int)) ⊕ (Int ⊕ Zt6)) :=
  bif (decide (s2.2.2.1 < 8)) then
    if inK .i64 ((ByteArray.size a1 : Int) - s2.1) ∧ (0 : Int) ≤ s2.2.2.1 ∧ s2.2.2.1 < 8 ∧ (s2.2.2.1).toNat < 8 then
      bif (decide (((ByteArray.size a1 : Int) - s2.1) < (x1.getD (s2.2.2.1).toNat 0))) then
        some (.inr (Sum.inl 2))
      else
        let c3 := (ref02_Number N (ByteArray.extract a1 (s2.1).toNat (s2.1 + (x1.getD (s2.2.2.1).toNat 0)).toNat))
        if (0 : Int) ≤ s2.2.2.1 ∧ s2.2.2.1 < 8 ∧ (s2.2.2.1).toNat < 8 ∧ inK .i64 (s2.1 + (x1.getD (s2.2.2.1).toNat 0)) ∧ (0 : Int) ≤ s2.1 ∧ s2.1 ≤ (s2.1 + (x1.getD (s2.2.2.1).toNat 0)) ∧ (s2.1 + (x1.getD (s2.2.2.1).toNat 0)) ≤ (ByteArray.size a1 : Int) ∧ c3.isSome = true then
          let c4 := (ref16_Many N (c3.getD default))
          let x3 := (bif (bif (decide (s2.2.2.1 = 1)) then (decide ((c3.getD default) ≠ 2)) else false) then true else (bif (decide (s2.2.2.1 = 3)) then (decide ((c4.getD default) = 0)) else false))
          if (((!(bif (decide (s2.2.2.1 = 1)) then (decide ((c3.getD default) ≠ 2)) else false)) && (decide (s2.2.2.1 = 3))) = true → c4.isSome = true) ∧ ((!(bif (decide (s2.2.2.1 = 1)) then (decide ((c3.getD default) ≠ 2)) else false)) = true → ((decide (s2.2.2.1 = 3)) = true → ((!(bif (decide (s2.2.2.1 = 1)) then (decide ((c3.getD default) ≠ 2)) else false)) && (decide (s2.2.2.1 = 3))) = true)) then
            bif x3 then
              some (.inr (Sum.inl 5))
            else
              let x4 := (bif (bif (decide (s2.2.2.1 = 5)) then true else (decide (s2.2.2.1 = 7))) then (decide ((c3.getD default) ≠ 0)) else false)
              bif x4 then
                some (.inr (Sum.inl 6))
              else
                bif (bif (decide (s2.2.2.1 = 6)) then (decide ((c3.getD default) = 0)) else false) then
                  some (.inr (Sum.inl 9))
                else
                  if 1 ≤ 1 ∧ s2.2.2.2.1 = s2.2.1 ∧ (s2.2.1 + 1) * 8 ≤ 140737488355328 ∧ s2.2.1 + 1 ≤ 9223372036854775807 then
                    if (0 : Int) ≤ s2.2.2.1 ∧ s2.2.2.1 < 8 ∧ (s2.2.2.1).toNat < 8 ∧ inK .i64 (s2.1 + (x1.getD (s2.2.2.1).toNat 0)) then
                      if inK .i64 (s2.2.2.1 + 1) then
                        some (.inl ((s2.1 + (x1.getD (s2.2.2.1).toNat 0)), (s2.2.1 + 1), (s2.2.2.1 + 1), (s2.2.2.2.1 + 1), (s2.2.2.2.2 ++ (((List.replicate 1 0).set 0 (c3.getD default)).take 1))))
                      else none
                    else none
                  else none
          else none
        else none
    else none
  else
    some (.inr (Sum.inr (s2.1, s2.2.1, s2.2.2.2.1, s2.2.2.2.2)))
def ref24_Take (N : Nat) (a1 : ByteArray) (a2 : Int) : Option (Int × Int × Int × Bool × Int × (List Int) × Int × Int × Int) :=
  if (0 : Int) ≤ a2 then
    bif (decide ((a2 % 8) ≠ 0)) then
      some (0, 0, 0, false, 0, [], 0, a2, 4)
    else
      let c1 := (ref04_At N a1 a2)
      if c1.isSome = true then
        bif (decide ((c1.getD default).2 ≠ 0)) then
          some (0, 0, 0, false, 0, [], 0, a2, (c1.getD default).2)
        else
          bif (decide ((c1.getD default).1 ≠ 0)) then
            some (0, 0, 0, false, 0, [], 0, a2, 4)
          else
            if inK .i64 (a2 + 22) then
              let x1 : (List Int) := (((((((((List.replicate 8 0).set 0 8).set 1 2).set 2 3).set 3 3).set 4 1).set 5 4).set 6 5).set 7 1)
              (iter (ref24_Take_b2 N a1 x1) N ((a2 + 22), 0, 0, 0, [])).bind fun w1 =>
                (Sum.elim (fun v1 =>
                  some (0, 0, 0, false, 0, [], 0, a2, v1)
                )
                  (fun v2 =>
                    (iter (ref24_Take_b1 N a1 a2 v2) N (v2.1, 0, 0, [])).bind fun v3 =>
                      some (v3.2.2.1, v3.2.2.2.1, v3.2.2.2.2.1, v3.2.2.2.2.2.1, v3.2.2.2.2.2.2.1, v3.2.2.2.2.2.2.2, 0, v3.1, v3.2.1)
                  )
                ) w1
            else none
      else none
  else none
def sp_ref24_Take (N : Nat) : X.Spec := fun args lk => match args with
  | [.v (.c (.str a1)), .v (.c (.int .i64 a2))] => some ⟨(ref24_Take N a1 a2).isSome = true, .tup [.agg [.cs [.int .i64 ((ref24_Take N a1 a2).getD default).1, .int .i64 ((ref24_Take N a1 a2).getD default).2.1, .int .i64 ((ref24_Take N a1 a2).getD default).2.2.1, .bool ((ref24_Take N a1 a2).getD default).2.2.2.1, .int .i64 ((ref24_Take N a1 a2).getD default).2.2.2.2.1, .fz (.int .i64) ((ref24_Take N a1 a2).getD default).2.2.2.2.2.1, .val (.slice none 0 0), .int .i64 ((ref24_Take N a1 a2).getD default).2.2.2.2.2.2.1]], .c (.int .i64 ((ref24_Take N a1 a2).getD default).2.2.2.2.2.2.2.1), .c (.int .i64 ((ref24_Take N a1 a2).getD default).2.2.2.2.2.2.2.2)], [], []⟩
  | _ => none
set_option maxRecDepth 100000 in
set_option maxHeartbeats 1000000 in
theorem ok_ref24_Take (N : Nat) : FnOK Try.prog gt0 9 (sp_ref24_Take N) := by
  refine fnOK_handed Try.func9 rfl (by kernel_rfl) tt_ok (ktCons (ok_ref16_Many N) (ktCons (ok_ref02_Number N) (ktCons (ok_ref04_At N) (ktNil)))) ?_
  intro args lk r h hp
  unfold sp_ref24_Take at h
  split at h
  · rename_i a1 a2
    cases h
    obtain ⟨x, hx⟩ := Option.isSome_iff_exists.1 hp
    simp only [hx, Option.getD_some]
    refine hand0 rfl rfl (fun w0 M ε0 hX => ?_)
    refine rCount (fun hε => ?_)
    have hT : ref24_Take N a1 a2 = some x := hx; clear hx hp; unfold ref24_Take at hT
    refine zA hX ?_
    refine zA hX ?_
    refine rSeq ?_
    replace hT := sIf hT; obtain ⟨o1, hT⟩ := hT
    refine zA hX ?_
    refine zCond rfl rfl (fun hc => ?_) (fun hc => ?_)
    · replace hT := sT hc hT
      refine zA hX ?_
      refine rRet (rThenRet ?_)
      have hy := Option.some.inj hT; subst hy
      exact zEnd0 hX rfl
    · replace hT := sF hc hT
      refine rSkip (rThen ?_)
      let c1 := (ref04_At N a1 a2)
      replace hT := sIf hT; obtain ⟨o1, hT⟩ := hT
      refine zA hX ?_
      refine rSeq (zA hX ?_)
      refine zCond rfl rfl (fun hc => ?_) (fun hc => ?_)
      · replace hT := sT hc hT
        refine zA hX ?_
        refine rRet (rThenRet ?_)
        have hy := Option.some.inj hT; subst hy
        exact zEnd0 hX rfl
      · replace hT := sF hc hT
        refine rSkip (rThen (rSeq (zA hX ?_)))
        refine zCond rfl rfl (fun hc => ?_) (fun hc => ?_)
        · replace hT := sT hc hT
          refine zA hX ?_
          refine rRet (rThenRet ?_)
          have hy := Option.some.inj hT; subst hy
          exact zEnd0 hX rfl
        · replace hT := sF hc hT
          refine rSkip (rThen ?_)
          replace hT := sIf hT; obtain ⟨o1, hT⟩ := hT
          refine zA hX ?_
          let x1 : (List Int) := (((((((((List.replicate 8 0).set 0 8).set 1 2).set 2 3).set 3 3).set 4 1).set 5 4).set 6 5).set 7 1)
          refine zA hX ?_
          refine zA hX ?_
          refine rSeq (zA hX ?_)
          refine rBlock (rNil 3 1 (.flat [.ints 0 .i64 []]) [(0, .v (.c (.str a1))), (1, .v (.c (.int .i64 a2))), (4, .v (.c (.ptr 0 0 0 0 0 0))), (5, .v (.c (.int .i64 0))), (6, .v (.c (.int .i64 0))), (7, .v (.c (.ptr 1 0 0 0 0 0))), (10, .v (.c (.int .i64 (a2 + 22)))), (11, .v (.c (.sl 2 0 8 1))), (12, .v (.c (.sl 3 0 0 1))), (13, .v (.c (.int .i64 0)))] [(0, .mem true 30 none (.flat [.cs [.int .i64 0, .int .i64 0, .int .i64 0, .bool false, .int .i64 0, .val (.slice none 0 0), .val (.slice none 0 0), .int .i64 0]])), (1, .mem true 30 none (.flat [.cs [.int .i64 0, .int .i64 0, .int .i64 0, .bool false, .int .i64 0, .val (.slice none 0 0), .val (.slice none 0 0), .int .i64 0]])), (2, .mem true 3 (some 1) (.flat [.ints 8 .i64 x1]))] (nil_ints _) zF zF ?_)
          replace hT := sBind hT; obtain ⟨w1, hl, hT⟩ := hT
          refine rJoinA (fun v1 => (Sum.inl v1) = w1) (fun v1 => ⟨[(4, .v (.c (.ptr 0 0 0 0 0 0))), (5, .v (.c (.int .i64 a2))), (6, .v (.c (.int .i64 v1)))], [(0, .mem true 30 none (.flat [.cs [.int .i64 0, .int .i64 0, .int .i64 0, .bool false, .int .i64 0, .val (.slice none 0 0), .val (.slice none 0 0), .int .i64 0]]))], 4⟩) .ret (fun v1 hv => ?_) (fun hxs20 => ?_)
          · subst hv; clear hl; replace hT := (sElimL hT)
            refine rInRet (rThenRet ?_)
            have hy := Option.some.inj hT; subst hy
            exact zEnd0 hX rfl
          refine rJoinA (fun v2 => (Sum.inr v2) = w1) (fun v2 => ⟨[(0, .v (.c (.str a1))), (1, .v (.c (.int .i64 a2))), (4, .v (.c (.ptr 0 0 0 0 0 0))), (5, .v (.c (.int .i64 0))), (6, .v (.c (.int .i64 0))), (7, .v (.c (.ptr 1 0 0 0 0 0))), (10, .v (.c (.int .i64 v2.1))), (12, .v (.c (.sl 3 0 v2.2.1 1)))], [(0, .mem true 30 none (.flat [.cs [.int .i64 0, .int .i64 0, .int .i64 0, .bool false, .int .i64 0, .val (.slice none 0 0), .val (.slice none 0 0), .int .i64 0]])), (1, .mem true 30 none (.flat [.cs [.int .i64 0, .int .i64 0, .int .i64 0, .bool false, .int .i64 0, .val (.slice none 0 0), .val (.slice none 0 0), .int .i64 0]])), (3, .mem true 3 (some 1) (.flat [.ints v2.2.2.1 .i64 v2.2.2.2]))], 4⟩) (.exit 0) (fun v2 hv => ?_) (fun hxs21 => ?_)
          · subst hv; clear hl; replace hT := (sElimR hT)
            refine rInHit (rThen (zA hX ?_))
            refine rBlock (rNil 3 1 (.flat [.ints 0 .i64 []]) [(0, .v (.c (.str a1))), (1, .v (.c (.int .i64 a2))), (4, .v (.c (.ptr 0 0 0 0 0 0))), (5, .v (.c (.int .i64 0))), (6, .v (.c (.int .i64 0))), (7, .v (.c (.ptr 1 0 0 0 0 0))), (10, .v (.c (.int .i64 v2.1))), (12, .v (.c (.sl 3 0 v2.2.1 1))), (15, .v (.c (.sl 4 0 0 1)))] [(0, .mem true 30 none (.flat [.cs [.int .i64 0, .int .i64 0, .int .i64 0, .bool false, .int .i64 0, .val (.slice none 0 0), .val (.slice none 0 0), .int .i64 0]])), (1, .mem true 30 none (.flat [.cs [.int .i64 0, .int .i64 0, .int .i64 0, .bool false, .int .i64 0, .val (.slice none 0 0), .val (.slice none 0 0), .int .i64 0]])), (3, .mem true 3 (some 1) (.flat [.ints v2.2.2.1 .i64 v2.2.2.2]))] (nil_ints _) zF zF ?_)
            replace hT := sBind hT; obtain ⟨w2, hl, hT⟩ := hT
            refine rJoinA (fun v3 => v3 = w2) (fun v3 => ⟨[(4, .v (.c (.ptr 0 0 0 0 0 0))), (5, .v (.c (.int .i64 v3.1))), (6, .v (.c (.int .i64 v3.2.1)))], [(0, .mem true 30 none (.flat [.cs [.int .i64 v3.2.2.1, .int .i64 v3.2.2.2.1, .int .i64 v3.2.2.2.2.1, .bool v3.2.2.2.2.2.1, .int .i64 v3.2.2.2.2.2.2.1, .fz (.int .i64) v3.2.2.2.2.2.2.2, .val (.slice none 0 0), .int .i64 0]]))], 5⟩) .ret (fun v3 hv => ?_) (fun hxs40 => ?_)
            · subst hv; clear hl
              refine rInRet ?_
              have hy := Option.some.inj hT; subst hy
              exact zEnd0 hX rfl
            refine rLoopM (ref24_Take_b1 N a1 a2 v2) (fun s4 => ⟨[(0, .v (.c (.str a1))), (1, .v (.c (.int .i64 a2))), (4, .v (.c (.ptr 0 0 0 0 0 0))), (5, .v (.c (.int .i64 0))), (6, .v (.c (.int .i64 0))), (7, .v (.c (.ptr 1 0 0 0 0 0))), (10, .v (.c (.int .i64 s4.1))), (12, .v (.c (.sl 3 0 v2.2.1 1))), (15, .v (.c (.sl 4 0 s4.2.1 1)))], [(0, .mem true 30 none (.flat [.cs [.int .i64 0, .int .i64 0, .int .i64 0, .bool false, .int .i64 0, .val (.slice none 0 0), .val (.slice none 0 0), .int .i64 0]])), (1, .mem true 30 none (.flat [.cs [.int .i64 0, .int .i64 0, .int .i64 0, .bool false, .int .i64 0, .val (.slice none 0 0), .val (.slice none 0 0), .int .i64 0]])), (3, .mem true 3 (some 1) (.flat [.ints v2.2.2.1 .i64 v2.2.2.2])), (4, .mem true 3 (some 1) (.flat [.ints s4.2.2.1 .i64 s4.2.2.2]))], 5⟩) hl (To.mk' [] 0 hε rfl zL zL) (fun s4 zs4 NNs4 hz hnexts4 houts4 => ?_)
            clear hl hT
            have hT := hz; clear hz
            refine rBlock (rSeq ?_)
            replace hT := sIf hT; obtain ⟨o1, hT⟩ := hT
            refine zA hX ?_
            refine zCond rfl rfl (fun hc => ?_) (fun hc => ?_)
            · replace hT := sT hc hT
              refine zA hX ?_
              refine rRet (rThenRet (rInRet (rThenRet ?_)))
              exact zTo [] 0 hε (hxs40 _ (houts4 _ (Option.some.inj hT).symm))
            · replace hT := sF hc hT
              refine rSkip (rThen ?_)
              replace hT := sIf hT; obtain ⟨o1, hT⟩ := hT
              refine zA hX ?_
              refine rSeq ?_
              replace hT := sIf hT; obtain ⟨⟨o1, o2, o3⟩, hT⟩ := hT
              refine zA hX ?_
              refine zCond rfl rfl (fun hc => ?_) (fun hc => ?_)
              · replace hT := sT hc hT
                refine rSeq ?_
                replace hT := sIf hT; obtain ⟨⟨o1, o2, o3, o4, o5, o6, o7, o8, o9, o10⟩, hT⟩ := hT
                refine rDrawG md0 [19] 2 hX mixed rfl rfl rfl rfl rfl rfl zP zL ?_ (fun k => trivial)
                refine rThen (rRet (rThenRet (rInRet (rThenRet ?_))))
                replace hT := sIf hT; obtain ⟨p1, hT⟩ := hT
                refine rFreezeQ 4 (.int .i64) s4.2.2.2 [(4, .v (.c (.ptr 0 0 0 0 0 0))), (5, .v (.c (.int .i64 (s4.1 + 1)))), (6, .v (.c (.int .i64 0)))] [(0, .mem true 30 none (.flat [.cs [.int .i64 (v2.2.2.2.getD 0 0), .int .i64 (v2.2.2.2.getD 2 0), .int .i64 (v2.2.2.2.getD 3 0), .bool (decide ((v2.2.2.2.getD 4 0) = 1)), .int .i64 (v2.2.2.2.getD 6 0), .fz (.int .i64) s4.2.2.2, .val (.slice none 0 0), .int .i64 0]]))] rfl rfl zF zF ?_
                exact zTo [] 0 hε (hxs40 _ (houts4 _ (Option.some.inj hT).symm))
              · replace hT := sF hc hT
                refine rSkip (rThen (rSeq (zA hX ?_)))
                refine zCond rfl rfl (fun hc => ?_) (fun hc => ?_)
                · replace hT := sT hc hT
                  refine zA hX ?_
                  refine rRet (rThenRet (rInRet (rThenRet ?_)))
                  exact zTo [] 0 hε (hxs40 _ (houts4 _ (Option.some.inj hT).symm))
                · replace hT := sF hc hT
                  refine rSkip (rThen (rSeq ?_))
                  replace hT := sIf hT; obtain ⟨o1, hT⟩ := hT
                  refine zA hX ?_
                  refine zCond rfl rfl (fun hc => ?_) (fun hc => ?_)
                  · replace hT := sT hc hT
                    refine zA hX ?_
                    refine rRet (rThenRet (rInRet (rThenRet ?_)))
                    exact zTo [] 0 hε (hxs40 _ (houts4 _ (Option.some.inj hT).symm))
                  · replace hT := sF hc hT
                    refine rSkip (rThen ?_)
                    let c2 := (ref02_Number N (ByteArray.extract a1 (s4.1 + 1).toNat ((s4.1 + 1) + 8).toNat))
                    replace hT := sIf hT; obtain ⟨⟨o1, o2, o3, o4, o5, o6, o7, o8, o9⟩, hT⟩ := hT
                    refine zA hX ?_
                    replace hT := sIf hT; obtain ⟨o1, hT⟩ := hT
                    refine zReg md0 hX rfl rfl rfl ?_
                    refine rInNormal ?_
                    exact hnexts4 _ (Option.some.inj hT).symm _ (To.mk' [0, 1, 2, 3, 6] 0 hε rfl zL zL)
          refine rLoopM (ref24_Take_b2 N a1 x1) (fun s2 => ⟨[(0, .v (.c (.str a1))), (1, .v (.c (.int .i64 a2))), (4, .v (.c (.ptr 0 0 0 0 0 0))), (5, .v (.c (.int .i64 0))), (6, .v (.c (.int .i64 0))), (7, .v (.c (.ptr 1 0 0 0 0 0))), (10, .v (.c (.int .i64 s2.1))), (11, .v (.c (.sl 2 0 8 1))), (12, .v (.c (.sl 3 0 s2.2.1 1))), (13, .v (.c (.int .i64 s2.2.2.1)))], [(0, .mem true 30 none (.flat [.cs [.int .i64 0, .int .i64 0, .int .i64 0, .bool false, .int .i64 0, .val (.slice none 0 0), .val (.slice none 0 0), .int .i64 0]])), (1, .mem true 30 none (.flat [.cs [.int .i64 0, .int .i64 0, .int .i64 0, .bool false, .int .i64 0, .val (.slice none 0 0), .val (.slice none 0 0), .int .i64 0]])), (2, .mem true 3 (some 1) (.flat [.ints 8 .i64 x1])), (3, .mem true 3 (some 1) (.flat [.ints s2.2.2.2.1 .i64 s2.2.2.2.2]))], 4⟩) hl (To.mk' [] 0 hε rfl zL zL) (fun s2 zs2 NNs2 hz hnexts2 houts2 => ?_)
          clear hl hT
          have hT := hz; clear hz
          refine rSeq (zA hX ?_)
          refine zCond rfl rfl (fun hc => ?_) (fun hc => ?_)
          · replace hT := sT hc hT
            refine rSkip (rThen (rSeq (rBlock (rSeq ?_))))
            replace hT := sIf hT; obtain ⟨⟨o1, o2, o3, o4⟩, hT⟩ := hT
            refine zA hX ?_
            refine zCond rfl rfl (fun hc => ?_) (fun hc => ?_)
            · replace hT := sT hc hT
              refine zA hX ?_
              refine rRet (rThenRet (rInRet (rThenRet (rThenRet ?_))))
              exact zTo [] 0 hε (hxs20 _ (houts2 _ (Option.some.inj hT).symm))
            · replace hT := sF hc hT
              refine rSkip (rThen ?_)
              let c3 := (ref02_Number N (ByteArray.extract a1 (s2.1).toNat (s2.1 + (x1.getD (s2.2.2.1).toNat 0)).toNat))
              replace hT := sIf hT; obtain ⟨⟨o1, o2, o3, o4, o5, o6, o7, o8⟩, hT⟩ := hT
              refine zA hX ?_
              refine rSeq ?_
              let c4 := (ref16_Many N (c3.getD default))
              let x3 := (bif (bif (decide (s2.2.2.1 = 1)) then (decide ((c3.getD default) ≠ 2)) else false) then true else (bif (decide (s2.2.2.1 = 3)) then (decide ((c4.getD default) = 0)) else false))
              replace hT := sIf hT; obtain ⟨⟨o1, o2⟩, hT⟩ := hT
              refine rSeq (rRegC md0 hX rfl rfl rfl zO ?_)
              refine rThen ?_
              refine zCond rfl rfl (fun hc => ?_) (fun hc => ?_)
              · replace hT := sT hc hT
                refine zA hX ?_
                refine rRet (rThenRet (rInRet (rThenRet (rThenRet ?_))))
                exact zTo [] 0 hε (hxs20 _ (houts2 _ (Option.some.inj hT).symm))
              · replace hT := sF hc hT
                refine rSkip (rThen (rSeq ?_))
                let x4 := (bif (bif (decide (s2.2.2.1 = 5)) then true else (decide (s2.2.2.1 = 7))) then (decide ((c3.getD default) ≠ 0)) else false)
                refine zA hX ?_
                refine zCond rfl rfl (fun hc => ?_) (fun hc => ?_)
                · replace hT := sT hc hT
                  refine zA hX ?_
                  refine rRet (rThenRet (rInRet (rThenRet (rThenRet ?_))))
                  exact zTo [] 0 hε (hxs20 _ (houts2 _ (Option.some.inj hT).symm))
                · replace hT := sF hc hT
                  refine rSkip (rThen (rSeq (zA hX ?_)))
                  refine zCond rfl rfl (fun hc => ?_) (fun hc => ?_)
                  · replace hT := sT hc hT
                    refine zA hX ?_
                    refine rRet (rThenRet (rInRet (rThenRet (rThenRet ?_))))
                    exact zTo [] 0 hε (hxs20 _ (houts2 _ (Option.some.inj hT).symm))
                  · replace hT := sF hc hT
                    refine rSkip (rThen ?_)
                    replace hT := sIf hT; obtain ⟨⟨o1, o2, o3, o4⟩, hT⟩ := hT
                    refine zA hX ?_
                    replace hT := sIf hT; obtain ⟨⟨o1, o2, o3, o4⟩, hT⟩ := hT
                    refine zReg md0 hX rfl rfl rfl ?_
                    refine rInNormal (rThen ?_)
                    replace hT := sIf hT; obtain ⟨o1, hT⟩ := hT
                    refine zReg md0 hX rfl rfl rfl ?_
                    exact hnexts2 _ (Option.some.inj hT).symm _ (To.mk' [0, 1, 2, 5] 0 hε rfl zL zL)
          · replace hT := sF hc hT
            refine rExit (rThenExit (rThenExit ?_))
            exact zTo [] 0 hε (hxs21 _ (houts2 _ (Option.some.inj hT).symm))
  · cases h
def sheethead_Take_v1 (N : Nat) : Option (Int × Int × Int × Bool × Int × Int × Int) :=
  some (0, 0, 0, false, 0, 0, 1)
def sp_sheethead_Take_v1 (N : Nat) : X.Spec := fun args lk => match args with
  | [.v (.c (.val (.pointer none)))] => some ⟨(sheethead_Take_v1 N).isSome = true, .tup [.agg [.cs [.int .i64 ((sheethead_Take_v1 N).getD default).1, .int .i64 ((sheethead_Take_v1 N).getD default).2.1, .int .i64 ((sheethead_Take_v1 N).getD default).2.2.1, .bool ((sheethead_Take_v1 N).getD default).2.2.2.1, .int .i64 ((sheethead_Take_v1 N).getD default).2.2.2.2.1, .val (.slice none 0 0), .val (.slice none 0 0), .int .i64 ((sheethead_Take_v1 N).getD default).2.2.2.2.2.1]], .c (.int .i64 ((sheethead_Take_v1 N).getD default).2.2.2.2.2.2)], [], []⟩
  | _ => none
set_option maxRecDepth 100000 in
set_option maxHeartbeats 1000000 in
theorem ok_sheethead_Take_v1 (N : Nat) : FnOK Try.prog gt0 8 (sp_sheethead_Take_v1 N) := by
  refine fnOK_handed Try.func8 rfl (by kernel_rfl) tt_ok (ktNil) ?_
  intro args lk r h hp
  unfold sp_sheethead_Take_v1 at h
  split at h
  · skip
    cases h
    obtain ⟨x, hx⟩ := Option.isSome_iff_exists.1 hp
    simp only [hx, Option.getD_some]
    refine hand0 rfl rfl (fun w0 M ε0 hX => ?_)
    refine rCount (fun hε => ?_)
    have hT : sheethead_Take_v1 N = some x := hx; clear hx hp; unfold sheethead_Take_v1 at hT
    refine zA hX ?_
    refine rSeq (zA hX ?_)
    refine rCondT rfl rfl zP rfl ?_
    refine zA hX ?_
    refine rRet (rThenRet ?_)
    have hy := Option.some.inj hT; subst hy
    exact zEnd0 hX rfl
  · cases h
def ref24_Same_b1 (N : Nat) (a6 : (List Int)) (a13 : (List Int)) (s1 : Int) : Option (Int ⊕ (Unit ⊕ Unit)) :=
  bif (decide (s1 < (a6.length : Int))) then
    if (0 : Int) ≤ s1 ∧ s1 < (a6.length : Int) ∧ s1 < (a13.length : Int) then
      bif (decide ((a6.getD (s1).toNat 0) ≠ (a13.getD (s1).toNat 0))) then
        some (.inr (Sum.inl ()))
      else
        if inK .i64 (s1 + 1) then
          some (.inl (s1 + 1))
        else none
    else none
  else
    some (.inr (Sum.inr ()))
def ref24_Same (N : Nat) (a1 : Int) (a2 : Int) (a3 : Int) (a4 : Bool) (a5 : Int) (a6 : (List Int)) (a7 : Int) (a8 : Int) (a9 : Int) (a10 : Int) (a11 : Bool) (a12 : Int) (a13 : (List Int)) (a14 : Int) : Option Bool :=
  let x7 := (bif (bif (bif (bif (bif (decide (a1 ≠ a8)) then true else (decide (a2 ≠ a9))) then true else (decide (a3 ≠ a10))) then true else (!(a4 == a11))) then true else (decide (a5 ≠ a12))) then true else (decide ((a6.length : Int) ≠ (a13.length : Int))))
  bif x7 then
    some false
  else
    (iter (ref24_Same_b1 N a6 a13) N 0).bind fun w1 =>
      (Sum.elim (fun v1 =>
        some false
      )
        (fun v2 =>
          some true
        )
      ) w1
def sp_ref24_Same (N : Nat) : X.Spec := fun args lk => match args with
  | [.v (.agg [.cs [.int .i64 a1, .int .i64 a2, .int .i64 a3, .bool a4, .int .i64 a5, .fz (.int .i64) a6, .val (.slice none 0 0), .int .i64 a7]]), .v (.agg [.cs [.int .i64 a8, .int .i64 a9, .int .i64 a10, .bool a11, .int .i64 a12, .fz (.int .i64) a13, .val (.slice none 0 0), .int .i64 a14]])] => some ⟨(ref24_Same N a1 a2 a3 a4 a5 a6 a7 a8 a9 a10 a11 a12 a13 a14).isSome = true, .v (.c (.bool ((ref24_Same N a1 a2 a3 a4 a5 a6 a7 a8 a9 a10 a11 a12 a13 a14).getD default))), [], []⟩
  | _ => none
set_option maxRecDepth 100000 in
set_option maxHeartbeats 1000000 in
theorem ok_ref24_Same (N : Nat) : FnOK Try.prog gt0 11 (sp_ref24_Same N) := by
  refine fnOK_handed Try.func11 rfl (by kernel_rfl) tt_ok (ktNil) ?_
  intro args lk r h hp
  unfold sp_ref24_Same at h
  split at h
  · rename_i a1 a2 a3 a4 a5 a6 a7 a8 a9 a10 a11 a12 a13 a14
    change (List Int) at a6
    change (List Int) at a13
    cases h
    obtain ⟨x, hx⟩ := Option.isSome_iff_exists.1 hp
    simp only [hx, Option.getD_some]
    refine hand0 rfl rfl (fun w0 M ε0 hX => ?_)
    refine rCount (fun hε => ?_)
    have hT : ref24_Same N a1 a2 a3 a4 a5 a6 a7 a8 a9 a10 a11 a12 a13 a14 = some x := hx; clear hx hp; unfold ref24_Same at hT
    refine zA hX ?_
    refine rSeq ?_
    let x7 := (bif (bif (bif (bif (bif (decide (a1 ≠ a8)) then true else (decide (a2 ≠ a9))) then true else (decide (a3 ≠ a10))) then true else (!(a4 == a11))) then true else (decide (a5 ≠ a12))) then true else (decide ((a6.length : Int) ≠ (a13.length : Int))))
    refine zA hX ?_
    refine zCond rfl rfl (fun hc => ?_) (fun hc => ?_)
    · replace hT := sT hc hT
      refine zA hX ?_
      refine rRet (rThenRet ?_)
      have hy := Option.some.inj hT; subst hy
      exact zEnd0 hX rfl
    · replace hT := sF hc hT
      refine rSkip (rThen (rSeq (zA hX ?_)))
      refine rBlock ?_
      replace hT := sBind hT; obtain ⟨w1, hl, hT⟩ := hT
      refine rJoinA (fun v1 => (Sum.inl v1) = w1) (fun v1 => ⟨[(4, .v (.c (.bool false)))], [], 2⟩) .ret (fun v1 hv => ?_) (fun hxs10 => ?_)
      · subst hv; clear hl; replace hT := (sElimL hT)
        refine rInRet (rThenRet ?_)
        have hy := Option.some.inj hT; subst hy
        exact zEnd0 hX rfl
      refine rJoinA (fun v2 => (Sum.inr v2) = w1) (fun v2 => ⟨[(4, .v (.c (.bool false)))], [], 2⟩) (.exit 0) (fun v2 hv => ?_) (fun hxs11 => ?_)
      · subst hv; clear hl; replace hT := (sElimR hT)
        refine rInHit (rThen (zA hX ?_))
        refine rRet ?_
        have hy := Option.some.inj hT; subst hy
        exact zEnd0 hX rfl
      refine rLoopM (ref24_Same_b1 N a6 a13) (fun s1 => ⟨[(2, .v (.c (.ptr 0 0 0 0 0 0))), (3, .v (.c (.ptr 1 0 0 0 0 0))), (4, .v (.c (.bool false))), (5, .v (.c (.int .i64 s1)))], [(0, .mem true 30 none (.flat [.cs [.int .i64 a1, .int .i64 a2, .int .i64 a3, .bool a4, .int .i64 a5, .fz (.int .i64) a6, .val (.slice none 0 0), .int .i64 a7]])), (1, .mem true 30 none (.flat [.cs [.int .i64 a8, .int .i64 a9, .int .i64 a10, .bool a11, .int .i64 a12, .fz (.int .i64) a13, .val (.slice none 0 0), .int .i64 a14]]))], 2⟩) hl (To.mk' [] 0 hε rfl zL zL) (fun s1 zs1 NNs1 hz hnexts1 houts1 => ?_)
      clear hl hT
      have hT := hz; clear hz
      refine rSeq (zA hX ?_)
      refine zCond rfl rfl (fun hc => ?_) (fun hc => ?_)
      · replace hT := sT hc hT
        refine rSkip (rThen (rSeq (rBlock ?_)))
        replace hT := sIf hT; obtain ⟨⟨o1, o2, o3⟩, hT⟩ := hT
        refine rSeq (zDraw md0 0 [] hX mixed rfl rfl rfl rfl rfl ?_)
        refine rThen ?_
        refine zCond rfl rfl (fun hc => ?_) (fun hc => ?_)
        · replace hT := sT hc hT
          refine zA hX ?_
          refine rRet (rInRet (rThenRet (rThenRet ?_)))
          exact zTo [] 0 hε (hxs10 _ (houts1 _ (Option.some.inj hT).symm))
        · replace hT := sF hc hT
          refine rSkip (rInNormal (rThen ?_))
          replace hT := sIf hT; obtain ⟨o1, hT⟩ := hT
          refine zReg md0 hX rfl rfl rfl ?_
          exact hnexts1 _ (Option.some.inj hT).symm _ (To.mk' [] 0 hε rfl zL zL)
      · replace hT := sF hc hT
        refine rExit (rThenExit (rThenExit ?_))
        exact zTo [] 0 hε (hxs11 _ (houts1 _ (Option.some.inj hT).symm))
  · cases h
def law24_SheetheadTakes (N : Nat) (a1 : ByteArray) (a2 : Int) : Option Bool :=
  let c1 := (inbits_New N a1)
  if c1.isSome = true then
    joinK (fun (v1 : (Bool × ByteArray × Int)) =>
      bif v1.1 then
        let c4 := (law24_lives N)
        if c4.isSome = true then
          some (c4.getD default)
        else none
      else
        let c5 := (sheethead_Take N v1.2.1 v1.2.2)
        if c5.isSome = true then
          let c6 := (ref02_Show N a1)
          let c7 := (ref24_Take N (c6.getD default) a2)
          if c6.isSome = true ∧ c7.isSome = true then
            let c8 := (sheethead_Take_v1 N)
            if c8.isSome = true then
              let c9 := (ref24_Same N (c5.getD default).1 (c5.getD default).2.1 (c5.getD default).2.2.1 (c5.getD default).2.2.2.1 (c5.getD default).2.2.2.2.1 (c5.getD default).2.2.2.2.2.1 (c5.getD default).2.2.2.2.2.2.1 (c7.getD default).1 (c7.getD default).2.1 (c7.getD default).2.2.1 (c7.getD default).2.2.2.1 (c7.getD default).2.2.2.2.1 (c7.getD default).2.2.2.2.2.1 (c7.getD default).2.2.2.2.2.2.1)
              let c10 := (overspill_inbits_Reader_At N (c5.getD default).2.2.2.2.2.2.2.2.1 (c5.getD default).2.2.2.2.2.2.2.2.2)
              let c11 := (law24_lives N)
              let x1 := (bif (bif (bif (bif (bif (bif (c9.getD default) then true else false) then (decide ((c5.getD default).2.2.2.2.2.2.1 = 0)) else false) then (decide ((c5.getD default).2.2.2.2.2.2.2.1 = (c7.getD default).2.2.2.2.2.2.2.2)) else false) then (decide ((c10.getD default) = (c7.getD default).2.2.2.2.2.2.2.1)) else false) then (decide ((c8.getD default).2.2.2.2.2.2 = 1)) else false) then (c11.getD default) else false)
              if c9.isSome = true ∧ ((bif (bif (bif (c9.getD default) then true else false) then (decide ((c5.getD default).2.2.2.2.2.2.1 = 0)) else false) then (decide ((c5.getD default).2.2.2.2.2.2.2.1 = (c7.getD default).2.2.2.2.2.2.2.2)) else false) = true → c10.isSome = true) ∧ ((bif (bif (bif (bif (bif (c9.getD default) then true else false) then (decide ((c5.getD default).2.2.2.2.2.2.1 = 0)) else false) then (decide ((c5.getD default).2.2.2.2.2.2.2.1 = (c7.getD default).2.2.2.2.2.2.2.2)) else false) then (decide ((c10.getD default) = (c7.getD default).2.2.2.2.2.2.2.1)) else false) then (decide ((c8.getD default).2.2.2.2.2.2 = 1)) else false) = true → c11.isSome = true) then
                some x1
              else none
            else none
          else none
        else none
    ) fun k1 =>
      let c3 := (overspill_inbits_Reader_Seek N a2 (c1.getD default).1 (c1.getD default).2)
      if ((!(decide ((200 : Int) < (ByteArray.size a1 : Int)))) = true → c3.isSome = true) then
        bif (!(decide ((200 : Int) < (ByteArray.size a1 : Int)))) then
          let x6 := (bif (decide ((200 : Int) < (ByteArray.size a1 : Int))) then true else (decide ((c3.getD default).1 ≠ 0)))
          k1 (x6, (c3.getD default).2.1, (c3.getD default).2.2)
        else
          k1 ((bif (decide ((200 : Int) < (ByteArray.size a1 : Int))) then true else false), (c1.getD default).1, (c1.getD default).2)
      else none
  else none
def sp_law24_SheetheadTakes (N : Nat) : X.Spec := fun args lk => match args with
  | [.v (.c (.str a1)), .v (.c (.int .i64 a2))] => some ⟨(law24_SheetheadTakes N a1 a2).isSome = true, .v (.c (.bool ((law24_SheetheadTakes N a1 a2).getD default))), [], []⟩
  | _ => none
set_option maxRecDepth 100000 in
set_option maxHeartbeats 1000000 in
theorem ok_law24_SheetheadTakes (N : Nat) : FnOK Try.prog gt0 3 (sp_law24_SheetheadTakes N) := by
  refine fnOK_handed Try.func3 rfl (by kernel_rfl) tt_ok (ktCons (ok_overspill_inbits_Reader_At N) (ktCons (ok_ref24_Same N) (ktCons (ok_ref24_Take N) (ktCons (ok_ref02_Show N) (ktCons (FnOK.or (ok_sheethead_Take N) (ok_sheethead_Take_v1 N)) (ktCons (ok_law24_lives N) (ktCons (ok_overspill_inbits_Reader_Seek N) (ktCons (ok_inbits_New N) (ktNil))))))))) ?_
  intro args lk r h hp
  unfold sp_law24_SheetheadTakes at h
  split at h
  · rename_i a1 a2
    cases h
    obtain ⟨x, hx⟩ := Option.isSome_iff_exists.1 hp
    simp only [hx, Option.getD_some]
    refine hand0 rfl rfl (fun w0 M ε0 hX => ?_)
    refine rCount (fun hε => ?_)
    have hT : law24_SheetheadTakes N a1 a2 = some x := hx; clear hx hp; unfold law24_SheetheadTakes at hT
    refine zA hX ?_
    let c1 := (inbits_New N a1)
    replace hT := sIf hT; obtain ⟨o1, hT⟩ := hT
    refine zA hX ?_
    refine rSeq (rSeq (rRegSL ?_))
    refine rJoinKL hT (fun v1 => ⟨[(0, .v (.c (.str a1))), (1, .v (.c (.int .i64 a2))), (4, .v (.c (.bool false))), (5, .v (.c (.ptr 0 0 0 0 0 0))), (23, .v (.c (.bool v1.1)))], [(0, .mem true 49 none (.flat [.cs [.str v1.2.1, .int .i64 v1.2.2]]))], 1⟩) (fun v1 hT => ?_) (fun k1 hjk1 hT => ?_)
    · skip
      refine rThen ?_
      refine zCond rfl rfl (fun hc => ?_) (fun hc => ?_)
      · replace hT := sT hc hT
        let c4 := (law24_lives N)
        replace hT := sIf hT; obtain ⟨o1, hT⟩ := hT
        refine zA hX ?_
        refine rRet (rThenRet ?_)
        have hy := Option.some.inj hT; subst hy
        exact zEnd0 hX rfl
      · replace hT := sF hc hT
        refine rSkip (rThen ?_)
        let c5 := (sheethead_Take N v1.2.1 v1.2.2)
        replace hT := sIf hT; obtain ⟨o1, hT⟩ := hT
        refine zA hX ?_
        let c6 := (ref02_Show N a1)
        let c7 := (ref24_Take N (c6.getD default) a2)
        replace hT := sIf hT; obtain ⟨⟨o1, o2⟩, hT⟩ := hT
        refine zA hX ?_
        let c8 := (sheethead_Take_v1 N)
        replace hT := sIf hT; obtain ⟨o1, hT⟩ := hT
        refine zA hX ?_
        let c9 := (ref24_Same N (c5.getD default).1 (c5.getD default).2.1 (c5.getD default).2.2.1 (c5.getD default).2.2.2.1 (c5.getD default).2.2.2.2.1 (c5.getD default).2.2.2.2.2.1 (c5.getD default).2.2.2.2.2.2.1 (c7.getD default).1 (c7.getD default).2.1 (c7.getD default).2.2.1 (c7.getD default).2.2.2.1 (c7.getD default).2.2.2.2.1 (c7.getD default).2.2.2.2.2.1 (c7.getD default).2.2.2.2.2.2.1)
        let c10 := (overspill_inbits_Reader_At N (c5.getD default).2.2.2.2.2.2.2.2.1 (c5.getD default).2.2.2.2.2.2.2.2.2)
        let c11 := (law24_lives N)
        let x1 := (bif (bif (bif (bif (bif (bif (c9.getD default) then true else false) then (decide ((c5.getD default).2.2.2.2.2.2.1 = 0)) else false) then (decide ((c5.getD default).2.2.2.2.2.2.2.1 = (c7.getD default).2.2.2.2.2.2.2.2)) else false) then (decide ((c10.getD default) = (c7.getD default).2.2.2.2.2.2.2.1)) else false) then (decide ((c8.getD default).2.2.2.2.2.2 = 1)) else false) then (c11.getD default) else false)
        replace hT := sIf hT; obtain ⟨⟨o1, o2, o3⟩, hT⟩ := hT
        refine rSeq (rRegC md0 hX rfl rfl rfl zO ?_)
        refine rThen (rRet ?_)
        have hy := Option.some.inj hT; subst hy
        exact zEnd0 hX rfl
    · skip
      let c3 := (overspill_inbits_Reader_Seek N a2 (c1.getD default).1 (c1.getD default).2)
      replace hT := sIf hT; obtain ⟨r1, hT⟩ := hT
      refine rSLG md0 hX rfl rfl rfl zP rfl rfl rfl rfl (fun hg => (by (repeat' first | exact True.intro | with_reducible assumption | (with_reducible apply And.intro)) <;> first | exact rfl | assumption | exact r1 hg | omega | exact Nat.le_of_ble_eq_true rfl)) (fun hg => ?_) (fun hg => ?_)
      · replace hT := sT hg hT
        let x6 := (bif (decide ((200 : Int) < (ByteArray.size a1 : Int))) then true else (decide ((c3.getD default).1 ≠ 0)))
        refine rSLDone md0 hX rfl rfl rfl zP ?_
        exact zTo [] 0 hε (hjk1 _ hT)
      · replace hT := sF hg hT
        refine rSLSkip md0 hX rfl rfl rfl zP rfl rfl rfl (by assumption) ?_
        refine rSLDone md0 hX rfl rfl rfl zP ?_
        exact zTo [] 0 hε (hjk1 _ hT)
  · cases h
def ref02_Plain_b1 (N : Nat) (a1 : ByteArray) (s1 : Int) : Option (Int ⊕ (Unit ⊕ Unit)) :=
  bif (decide (s1 < (ByteArray.size a1 : Int))) then
    let x1 := (bif (decide ((byteI a1 (s1).toNat) ≠ 48)) then (decide ((byteI a1 (s1).toNat) ≠ 49)) else false)
    if (0 : Int) ≤ s1 ∧ s1 < (ByteArray.size a1 : Int) ∧ ((decide ((byteI a1 (s1).toNat) ≠ 48)) = true → (0 : Int) ≤ s1) ∧ ((decide ((byteI a1 (s1).toNat) ≠ 48)) = true → s1 < (ByteArray.size a1 : Int)) then
      bif x1 then
        some (.inr (Sum.inl ()))
      else
        if inK .i64 (s1 + 1) then
          some (.inl (s1 + 1))
        else none
    else none
  else
    some (.inr (Sum.inr ()))
def ref02_Plain (N : Nat) (a1 : ByteArray) : Option Bool :=
  (iter (ref02_Plain_b1 N a1) N 0).bind fun w1 =>
    (Sum.elim (fun v1 =>
      some false
    )
      (fun v2 =>
        some true
      )
    ) w1
def sp_ref02_Plain (N : Nat) : X.Spec := fun args lk => match args with
  | [.v (.c (.str a1))] => some ⟨(ref02_Plain N a1).isSome = true, .v (.c (.bool ((ref02_Plain N a1).getD default))), [], []⟩
  | _ => none
set_option maxRecDepth 100000 in
set_option maxHeartbeats 1000000 in
theorem ok_ref02_Plain (N : Nat) : FnOK Try.prog gt0 13 (sp_ref02_Plain N) := by
  refine fnOK_handed Try.func13 rfl (by kernel_rfl) tt_ok (ktNil) ?_
  intro args lk r h hp
  unfold sp_ref02_Plain at h
  split at h
  · rename_i a1
    cases h
    obtain ⟨x, hx⟩ := Option.isSome_iff_exists.1 hp
    simp only [hx, Option.getD_some]
    refine hand0 rfl rfl (fun w0 M ε0 hX => ?_)
    refine rCount (fun hε => ?_)
    have hT : ref02_Plain N a1 = some x := hx; clear hx hp; unfold ref02_Plain at hT
    refine zA hX ?_
    refine rSeq (zA hX ?_)
    refine rBlock ?_
    replace hT := sBind hT; obtain ⟨w1, hl, hT⟩ := hT
    refine rJoinA (fun v1 => (Sum.inl v1) = w1) (fun v1 => ⟨[(2, .v (.c (.bool false)))], [], 0⟩) .ret (fun v1 hv => ?_) (fun hxs10 => ?_)
    · subst hv; clear hl; replace hT := (sElimL hT)
      refine rInRet (rThenRet ?_)
      have hy := Option.some.inj hT; subst hy
      exact zEnd0 hX rfl
    refine rJoinA (fun v2 => (Sum.inr v2) = w1) (fun v2 => ⟨[(2, .v (.c (.bool false)))], [], 0⟩) (.exit 0) (fun v2 hv => ?_) (fun hxs11 => ?_)
    · subst hv; clear hl; replace hT := (sElimR hT)
      refine rInHit (rThen (zA hX ?_))
      refine rRet ?_
      have hy := Option.some.inj hT; subst hy
      exact zEnd0 hX rfl
    refine rLoopM (ref02_Plain_b1 N a1) (fun s1 => ⟨[(0, .v (.c (.str a1))), (2, .v (.c (.bool false))), (3, .v (.c (.int .i64 s1)))], [], 0⟩) hl (To.mk' [] 0 hε rfl zL zL) (fun s1 zs1 NNs1 hz hnexts1 houts1 => ?_)
    clear hl hT
    have hT := hz; clear hz
    refine rSeq (zA hX ?_)
    refine zCond rfl rfl (fun hc => ?_) (fun hc => ?_)
    · replace hT := sT hc hT
      refine rSkip (rThen (rSeq (rBlock ?_)))
      let x1 := (bif (decide ((byteI a1 (s1).toNat) ≠ 48)) then (decide ((byteI a1 (s1).toNat) ≠ 49)) else false)
      replace hT := sIf hT; obtain ⟨⟨o1, o2, o3, o4⟩, hT⟩ := hT
      refine rSeq (rRegC md0 hX rfl rfl rfl zO ?_)
      refine rThen ?_
      refine zCond rfl rfl (fun hc => ?_) (fun hc => ?_)
      · replace hT := sT hc hT
        refine zA hX ?_
        refine rRet (rInRet (rThenRet (rThenRet ?_)))
        exact zTo [] 0 hε (hxs10 _ (houts1 _ (Option.some.inj hT).symm))
      · replace hT := sF hc hT
        refine rSkip (rInNormal (rThen ?_))
        replace hT := sIf hT; obtain ⟨o1, hT⟩ := hT
        refine zReg md0 hX rfl rfl rfl ?_
        exact hnexts1 _ (Option.some.inj hT).symm _ (To.mk' [] 0 hε rfl zL zL)
    · replace hT := sF hc hT
      refine rExit (rThenExit (rThenExit ?_))
      exact zTo [] 0 hε (hxs11 _ (houts1 _ (Option.some.inj hT).symm))
  · cases h
def outbits_plain_b1 (N : Nat) (a1 : ByteArray) (s1 : Nat) : Option (Nat ⊕ (Unit ⊕ Unit)) :=
  if (ByteArray.size a1 : Int) ≤ 9223372036854775807 then
    bif (decide (s1 < ByteArray.size a1)) then
      let x1 := (bif (decide (((Utf8.decode a1 s1).1 : Int) ≠ 48)) then (decide (((Utf8.decode a1 s1).1 : Int) ≠ 49)) else false)
      bif x1 then
        some (.inr (Sum.inl ()))
      else
        some (.inl (s1 + (Utf8.decode a1 s1).2))
    else
      some (.inr (Sum.inr ()))
  else none
def outbits_plain (N : Nat) (a1 : ByteArray) : Option Bool :=
  (iter (outbits_plain_b1 N a1) N 0).bind fun w1 =>
    (Sum.elim (fun v1 =>
      some false
    )
      (fun v2 =>
        some true
      )
    ) w1
def sp_outbits_plain (N : Nat) : X.Spec := fun args lk => match args with
  | [.v (.c (.str a1))] => some ⟨(outbits_plain N a1).isSome = true, .v (.c (.bool ((outbits_plain N a1).getD default))), [], []⟩
  | _ => none
set_option maxRecDepth 100000 in
set_option maxHeartbeats 1000000 in
theorem ok_outbits_plain (N : Nat) : FnOK Try.prog gt0 27 (sp_outbits_plain N) := by
  refine fnOK_handed Try.func27 rfl (by kernel_rfl) tt_ok (ktNil) ?_
  intro args lk r h hp
  unfold sp_outbits_plain at h
  split at h
  · rename_i a1
    cases h
    obtain ⟨x, hx⟩ := Option.isSome_iff_exists.1 hp
    simp only [hx, Option.getD_some]
    refine hand0 rfl rfl (fun w0 M ε0 hX => ?_)
    refine rCount (fun hε => ?_)
    have hT : outbits_plain N a1 = some x := hx; clear hx hp; unfold outbits_plain at hT
    refine zA hX ?_
    refine rSeq (zA hX ?_)
    refine rBlock ?_
    replace hT := sBind hT; obtain ⟨w1, hl, hT⟩ := hT
    refine rJoinA (fun v1 => (Sum.inl v1) = w1) (fun v1 => ⟨[(2, .v (.c (.bool false)))], [], 1⟩) .ret (fun v1 hv => ?_) (fun hxs10 => ?_)
    · subst hv; clear hl; replace hT := (sElimL hT)
      refine rInRet (rThenRet ?_)
      have hy := Option.some.inj hT; subst hy
      exact zEnd0 hX rfl
    refine rJoinA (fun v2 => (Sum.inr v2) = w1) (fun v2 => ⟨[(2, .v (.c (.bool false)))], [], 1⟩) (.exit 0) (fun v2 hv => ?_) (fun hxs11 => ?_)
    · subst hv; clear hl; replace hT := (sElimR hT)
      refine rInHit (rThen (zA hX ?_))
      refine rRet ?_
      have hy := Option.some.inj hT; subst hy
      exact zEnd0 hX rfl
    refine rLoopM (outbits_plain_b1 N a1) (fun s1 => ⟨[(2, .v (.c (.bool false))), (6, .v (.c (.ptr 0 0 0 0 0 0)))], [(0, .iter a1 s1)], 1⟩) hl (To.mk' [] 0 hε rfl zL zL) (fun s1 zs1 NNs1 hz hnexts1 houts1 => ?_)
    clear hl hT
    have hT := hz; clear hz
    refine rSeq (rRegSL ?_)
    replace hT := sIf hT; obtain ⟨o1, hT⟩ := hT
    refine rSLNext rfl rfl rfl rfl rfl rfl zZ rfl o1 rfl rfl (fun hb => ?_) (fun hb => ?_)
    · replace hT := sT (decide_eq_true hb) hT
      refine rSLDone md0 hX rfl rfl rfl zP ?_
      refine rThen (rSeq (rCondT rfl rfl zP rfl ?_))
      refine rSkip (rThen (rBlock (zA hX ?_)))
      let x1 := (bif (decide (((Utf8.decode a1 s1).1 : Int) ≠ 48)) then (decide (((Utf8.decode a1 s1).1 : Int) ≠ 49)) else false)
      refine zA hX ?_
      refine zCond rfl rfl (fun hc => ?_) (fun hc => ?_)
      · replace hT := sT hc hT
        refine zA hX ?_
        refine rRet (rInRet (rThenRet ?_))
        exact zTo [] 0 hε (hxs10 _ (houts1 _ (Option.some.inj hT).symm))
      · replace hT := sF hc hT
        refine rSkip (rInNormal ?_)
        exact hnexts1 _ (Option.some.inj hT).symm _ (To.mk' [] 0 hε rfl zL zL)
    · replace hT := sF (decide_eq_false hb) hT
      refine rSLDone md0 hX rfl rfl rfl zP ?_
      refine rThen (rSeq (rCondF rfl rfl zP rfl ?_))
      refine rExit (rThenExit (rThenExit ?_))
      exact zTo [] 0 hε (hxs11 _ (houts1 _ (Option.some.inj hT).symm))
  · cases h
def overspill_outbits_Writer_Add_b1 (N : Nat) (a1 : ByteArray) (s1 : ((List Bool) × Nat)) : Option (((List Bool) × Nat) ⊕ (List Bool)) :=
  if (ByteArray.size a1 : Int) ≤ 9223372036854775807 then
    bif (decide (s1.2 < ByteArray.size a1)) then
      let c2 := (overspill_outbits_Writer_bit N (decide (((Utf8.decode a1 s1.2).1 : Int) = 49)) s1.1)
      if c2.isSome = true then
        some (.inl ((c2.getD default), (s1.2 + (Utf8.decode a1 s1.2).2)))
      else none
    else
      some (.inr s1.1)
  else none
def overspill_outbits_Writer_Add (N : Nat) (a1 : ByteArray) (a2 : (List Bool)) : Option (Int × (List Bool)) :=
  let c1 := (outbits_plain N a1)
  if ((!false) = true → c1.isSome = true) then
    bif (!(c1.getD default)) then
      some (1, a2)
    else
      (iter (overspill_outbits_Writer_Add_b1 N a1) N (a2, 0)).bind fun v1 =>
        some (0, v1)
  else none
def sp_overspill_outbits_Writer_Add (N : Nat) : X.Spec := fun args lk => match args with
  | [.v (.c (.ptr i0 0 0 0 0 0)), .v (.c (.str a1))] => (match lk i0 with
    | some (.obj 5 a2) => some ⟨(overspill_outbits_Writer_Add N a1 a2).isSome = true, .v (.c (.int .i64 ((overspill_outbits_Writer_Add N a1 a2).getD default).1)), [], [(i0, .obj 5 ((overspill_outbits_Writer_Add N a1 a2).getD default).2)]⟩
    | _ => none)
  | _ => none
set_option maxRecDepth 100000 in
set_option maxHeartbeats 1000000 in
theorem ok_overspill_outbits_Writer_Add (N : Nat) : FnOK Try.prog gt0 15 (sp_overspill_outbits_Writer_Add N) := by
  refine fnOK_handed Try.func15 rfl (by kernel_rfl) tt_ok (ktCons (ok_overspill_outbits_Writer_bit N) (ktCons (ok_outbits_plain N) (ktNil))) ?_
  intro args lk r h hp
  unfold sp_overspill_outbits_Writer_Add at h
  split at h
  · rename_i i0 a1
    split at h
    · rename_i a2 hl0
      cases h
      obtain ⟨x, hx⟩ := Option.isSome_iff_exists.1 hp
      simp only [hx, Option.getD_some]
      refine handL [i0] 1 [(0, .obj 5 a2)] [.v (.c (.ptr 0 0 0 0 0 0)), .v (.c (.str a1))] rfl rfl rfl ⟨isSome_of hl0, trivial⟩ ⟨⟨rfl, zT, _, hl0, .inl rfl⟩, trivial⟩ rfl (fun w0 M ε0 hX => ?_)
      refine rCount (fun hε => ?_)
      have hT : overspill_outbits_Writer_Add N a1 a2 = some x := hx; clear hx hp; unfold overspill_outbits_Writer_Add at hT
      refine zA hX ?_
      refine rSeq ?_
      let c1 := (outbits_plain N a1)
      replace hT := sIf hT; obtain ⟨o1, hT⟩ := hT
      refine rSeq (rRegC md0 hX rfl rfl rfl zO ?_)
      refine rThen ?_
      refine zCond rfl rfl (fun hc => ?_) (fun hc => ?_)
      · replace hT := sT hc hT
        refine zA hX ?_
        refine rRet (rThenRet ?_)
        have hy := Option.some.inj hT; subst hy
        exact rEndA [] [] [(0, .obj 5 a2)] (.v (.c (.int .i64 1))) hX rfl zZ zL rfl rfl rfl zT rfl rfl zT rfl rfl
      · replace hT := sF hc hT
        refine rSkip (rThen (rSeq (zA hX ?_)))
        refine rBlock ?_
        replace hT := sBind hT; obtain ⟨w1, hl, hT⟩ := hT
        refine rJoinA (fun v1 => v1 = w1) (fun v1 => ⟨[(4, .v (.c (.int .i64 0)))], [(0, .obj 5 v1)], 2⟩) (.exit 0) (fun v1 hv => ?_) (fun hxs10 => ?_)
        · subst hv; clear hl
          refine rInHit (rThen (zA hX ?_))
          refine rRet ?_
          have hy := Option.some.inj hT; subst hy
          exact rEndA [] [] [(0, .obj 5 v1)] (.v (.c (.int .i64 0))) hX rfl zZ zL rfl rfl rfl zT rfl rfl zT rfl rfl
        refine rLoopM (overspill_outbits_Writer_Add_b1 N a1) (fun s1 => ⟨[(0, .v (.c (.ptr 0 0 0 0 0 0))), (4, .v (.c (.int .i64 0))), (15, .v (.c (.ptr 1 0 0 0 0 0)))], [(0, .obj 5 s1.1), (1, .iter a1 s1.2)], 2⟩) hl (To.mk' [] 1 hε rfl zL zL) (fun s1 zs1 NNs1 hz hnexts1 houts1 => ?_)
        clear hl hT
        have hT := hz; clear hz
        refine rSeq (rRegSL ?_)
        replace hT := sIf hT; obtain ⟨o1, hT⟩ := hT
        refine rSLNext rfl rfl rfl rfl rfl rfl zZ rfl o1 rfl rfl (fun hb => ?_) (fun hb => ?_)
        · replace hT := sT (decide_eq_true hb) hT
          refine rSLDone md0 hX rfl rfl rfl zP ?_
          refine rThen (rSeq (rCondT rfl rfl zP rfl ?_))
          refine rSkip (rThen (rBlock (zA hX ?_)))
          let c2 := (overspill_outbits_Writer_bit N (decide (((Utf8.decode a1 s1.2).1 : Int) = 49)) s1.1)
          replace hT := sIf hT; obtain ⟨o1, hT⟩ := hT
          refine zReg md0 hX rfl rfl rfl ?_
          refine rInNormal ?_
          exact hnexts1 _ (Option.some.inj hT).symm _ (To.mk' [] 1 hε rfl zL zL)
        · replace hT := sF (decide_eq_false hb) hT
          refine rSLDone md0 hX rfl rfl rfl zP ?_
          refine rThen (rSeq (rCondF rfl rfl zP rfl ?_))
          refine rExit (rThenExit (rThenExit ?_))
          exact zTo [] 1 hε (hxs10 _ (houts1 _ (Option.some.inj hT).symm))
    · cases h
  · cases h
def sheethead_may_v1_b1 (N : Nat) (a6 : (List Int)) (s1 : (Bool × Int)) : Option ((Bool × Int) ⊕ Bool) :=
  bif (decide (s1.2 < (a6.length : Int))) then
    if (0 : Int) ≤ s1.2 ∧ s1.2 < (a6.length : Int) then
      let x7 := (bif (bif s1.1 then (decide ((0 : Int) ≤ (a6.getD (s1.2).toNat 0))) else false) then (decide ((a6.getD (s1.2).toNat 0) ≤ 255)) else false)
      if inK .i64 (s1.2 + 1) then
        some (.inl (x7, (s1.2 + 1)))
      else none
    else none
  else
    some (.inr s1.1)
def sheethead_may_v1 (N : Nat) (a1 : Int) (a2 : Int) (a3 : Int) (a4 : Bool) (a5 : Int) (a6 : (List Int)) (a7 : Zt1) (a8 : Int) : Option Bool :=
  let c1 := (formats_Size N a3)
  if c1.isSome = true then
    let x1 := (bif (bif (bif (bif (bif (bif (bif (c1.getD default).2.2 then (decide ((0 : Int) ≤ a1)) else false) then (decide (a1 ≤ 255)) else false) then (decide ((0 : Int) ≤ a2)) else false) then (decide (a2 ≤ 7)) else false) then (decide ((1 : Int) ≤ a5)) else false) then (decide (a5 ≤ 31)) else false) then (decide ((a6.length : Int) ≤ 8)) else false)
    (iter (sheethead_may_v1_b1 N a6) N (x1, 0)).bind fun v1 =>
      some v1
  else none
def sp_sheethead_may_v1 (N : Nat) : X.Spec := fun args lk => match args with
  | [.v (.agg [.cs [.int .i64 a1, .int .i64 a2, .int .i64 a3, .bool a4, .int .i64 a5, .fz (.int .i64) a6, .fz (.pair .bool (.pair (.int .i64) (.pair (.int .i64) (.sl (.pair (.int .i64) (.pair .bool (.pair (.int .i64) (.pair (.int .i64) (.pair (.arr 2 .i64) (.pair (.arr 6 .i64) (.arrS 6 (.pair .bool (.pair (.int .i64) (.int .i64)))))))))))))) a7, .int .i64 a8]])] => some ⟨(sheethead_may_v1 N a1 a2 a3 a4 a5 a6 a7 a8).isSome = true, .v (.c (.bool ((sheethead_may_v1 N a1 a2 a3 a4 a5 a6 a7 a8).getD default))), [], []⟩
  | _ => none
set_option maxRecDepth 100000 in
set_option maxHeartbeats 1000000 in
theorem ok_sheethead_may_v1 (N : Nat) : FnOK Try.prog gt0 29 (sp_sheethead_may_v1 N) := by
  refine fnOK_handed Try.func29 rfl (by kernel_rfl) tt_ok (ktCons (ok_formats_Size N) (ktNil)) ?_
  intro args lk r h hp
  unfold sp_sheethead_may_v1 at h
  split at h
  · rename_i a1 a2 a3 a4 a5 a6 a7 a8
    change (List Int) at a6
    change Zt1 at a7
    cases h
    obtain ⟨x, hx⟩ := Option.isSome_iff_exists.1 hp
    simp only [hx, Option.getD_some]
    refine hand0 rfl rfl (fun w0 M ε0 hX => ?_)
    refine rCount (fun hε => ?_)
    have hT : sheethead_may_v1 N a1 a2 a3 a4 a5 a6 a7 a8 = some x := hx; clear hx hp; unfold sheethead_may_v1 at hT
    refine zA hX ?_
    let c1 := (formats_Size N a3)
    replace hT := sIf hT; obtain ⟨o1, hT⟩ := hT
    refine zA hX ?_
    let x1 := (bif (bif (bif (bif (bif (bif (bif (c1.getD default).2.2 then (decide ((0 : Int) ≤ a1)) else false) then (decide (a1 ≤ 255)) else false) then (decide ((0 : Int) ≤ a2)) else false) then (decide (a2 ≤ 7)) else false) then (decide ((1 : Int) ≤ a5)) else false) then (decide (a5 ≤ 31)) else false) then (decide ((a6.length : Int) ≤ 8)) else false)
    refine zA hX ?_
    refine rSeq (zA hX ?_)
    refine rBlock ?_
    replace hT := sBind hT; obtain ⟨w1, hl, hT⟩ := hT
    refine rJoinA (fun v1 => v1 = w1) (fun v1 => ⟨[(2, .v (.c (.bool false))), (5, .v (.c (.bool v1)))], [], 1⟩) (.exit 0) (fun v1 hv => ?_) (fun hxs10 => ?_)
    · subst hv; clear hl
      refine rInHit (rThen (zA hX ?_))
      refine rRet ?_
      have hy := Option.some.inj hT; subst hy
      exact zEnd0 hX rfl
    refine rLoopM (sheethead_may_v1_b1 N a6) (fun s1 => ⟨[(2, .v (.c (.bool false))), (5, .v (.c (.bool s1.1))), (53, .v (.c (.fz (.int .i64) a6))), (54, .v (.c (.int .i64 (a6.length : Int)))), (55, .v (.c (.int .i64 s1.2)))], [], 1⟩) hl (To.mk' [] 0 hε rfl zL zL) (fun s1 zs1 NNs1 hz hnexts1 houts1 => ?_)
    clear hl hT
    have hT := hz; clear hz
    refine zA hX ?_
    refine rSeq ?_
    refine zCond rfl rfl (fun hc => ?_) (fun hc => ?_)
    · replace hT := sT hc hT
      refine rSkip (rThen (rSeq (rBlock ?_)))
      replace hT := sIf hT; obtain ⟨⟨o1, o2⟩, hT⟩ := hT
      refine zA hX ?_
      let x7 := (bif (bif s1.1 then (decide ((0 : Int) ≤ (a6.getD (s1.2).toNat 0))) else false) then (decide ((a6.getD (s1.2).toNat 0) ≤ 255)) else false)
      refine zReg md0 hX rfl rfl rfl ?_
      refine rInNormal (rThen ?_)
      replace hT := sIf hT; obtain ⟨o1, hT⟩ := hT
      refine zReg md0 hX rfl rfl rfl ?_
      exact hnexts1 _ (Option.some.inj hT).symm _ (To.mk' [] 0 hε rfl zL zL)
    · replace hT := sF hc hT
      refine rExit (rThenExit (rThenExit ?_))
      exact zTo [] 0 hε (hxs10 _ (houts1 _ (Option.some.inj hT).symm))
  · cases h

end Go.Proofs.Ytngghhpbjppkcaa
