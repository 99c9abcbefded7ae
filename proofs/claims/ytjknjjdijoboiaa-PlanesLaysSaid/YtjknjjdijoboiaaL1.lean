/- Models of functions, and that the program does what they tell. -/
import Derived.Test.YtjknjjdijoboiaaL0
set_option linter.unusedVariables false
set_option linter.unusedSimpArgs false
namespace Go.Proofs.Ytjknjjdijoboiaa
open Go.X

def formats_Size (N : Nat) (a1 : Int) : Option (Int × Int × Bool) :=
  bif (decide (a1 = 1)) then
    some (128, 96, true)
  else
    bif (decide (a1 = 2)) then
      some (176, 144, true)
    else
      bif (decide (a1 = 3)) then
        some (352, 288, true)
      else
        bif (decide (a1 = 4)) then
          some (704, 576, true)
        else
          bif (decide (a1 = 5)) then
            some (1408, 1152, true)
          else
            bif (decide (a1 = 6)) then
              some (32, 32, true)
            else
              some (0, 0, false)
def sp_formats_Size (N : Nat) : X.Spec := fun args lk => match args with
  | [.v (.c (.int .i64 a1))] => some ⟨(formats_Size N a1).isSome = true, .tup [.c (.int .i64 ((formats_Size N a1).getD default).1), .c (.int .i64 ((formats_Size N a1).getD default).2.1), .c (.bool ((formats_Size N a1).getD default).2.2)], [], []⟩
  | _ => none
set_option maxRecDepth 100000 in
set_option maxHeartbeats 1000000 in
theorem ok_formats_Size (N : Nat) : FnOK Try.prog gt0 62 (sp_formats_Size N) := by
  refine fnOK_handed Try.func62 rfl (by kernel_rfl) tt_ok (ktNil) ?_
  intro args lk r h hp
  unfold sp_formats_Size at h
  split at h
  · rename_i a1
    cases h
    obtain ⟨x, hx⟩ := Option.isSome_iff_exists.1 hp
    simp only [hx, Option.getD_some]
    refine hand0 rfl rfl (fun w0 M ε0 hX => ?_)
    refine rCount (fun hε => ?_)
    have hT : formats_Size N a1 = some x := hx; clear hx hp; unfold formats_Size at hT
    refine rSeq ?_
    refine zReg md0 hX rfl rfl rfl ?_
    refine rThen ?_
    refine rSeq ?_
    refine rSeq ?_
    refine zReg md0 hX rfl rfl rfl ?_
    refine rThen ?_
    refine rBlock ?_
    refine rSeq ?_
    refine zReg md0 hX rfl rfl rfl ?_
    refine rThen ?_
    refine zCond rfl rfl (fun hc => ?_) (fun hc => ?_)
    · replace hT := sT hc hT
      refine rSeq ?_
      refine zReg md0 hX rfl rfl rfl ?_
      refine rThen ?_
      refine rRet ?_
      refine rInRet ?_
      refine rThenRet ?_
      have hy := Option.some.inj hT; subst hy
      exact zEnd0 hX rfl
    · replace hT := sF hc hT
      refine rSeq ?_
      refine zReg md0 hX rfl rfl rfl ?_
      refine rThen ?_
      refine zCond rfl rfl (fun hc => ?_) (fun hc => ?_)
      · replace hT := sT hc hT
        refine rSeq ?_
        refine zReg md0 hX rfl rfl rfl ?_
        refine rThen ?_
        refine rRet ?_
        refine rInRet ?_
        refine rThenRet ?_
        have hy := Option.some.inj hT; subst hy
        exact zEnd0 hX rfl
      · replace hT := sF hc hT
        refine rSeq ?_
        refine zReg md0 hX rfl rfl rfl ?_
        refine rThen ?_
        refine zCond rfl rfl (fun hc => ?_) (fun hc => ?_)
        · replace hT := sT hc hT
          refine rSeq ?_
          refine zReg md0 hX rfl rfl rfl ?_
          refine rThen ?_
          refine rRet ?_
          refine rInRet ?_
          refine rThenRet ?_
          have hy := Option.some.inj hT; subst hy
          exact zEnd0 hX rfl
        · replace hT := sF hc hT
          refine rSeq ?_
          refine zReg md0 hX rfl rfl rfl ?_
          refine rThen ?_
          refine zCond rfl rfl (fun hc => ?_) (fun hc => ?_)
          · replace hT := sT hc hT
            refine rSeq ?_
            refine zReg md0 hX rfl rfl rfl ?_
            refine rThen ?_
            refine rRet ?_
            refine rInRet ?_
            refine rThenRet ?_
            have hy := Option.some.inj hT; subst hy
            exact zEnd0 hX rfl
          · replace hT := sF hc hT
            refine rSeq ?_
            refine zReg md0 hX rfl rfl rfl ?_
            refine rThen ?_
            refine zCond rfl rfl (fun hc => ?_) (fun hc => ?_)
            · replace hT := sT hc hT
              refine rSeq ?_
              refine zReg md0 hX rfl rfl rfl ?_
              refine rThen ?_
              refine rRet ?_
              refine rInRet ?_
              refine rThenRet ?_
              have hy := Option.some.inj hT; subst hy
              exact zEnd0 hX rfl
            · replace hT := sF hc hT
              refine rSeq ?_
              refine zReg md0 hX rfl rfl rfl ?_
              refine rThen ?_
              refine zCond rfl rfl (fun hc => ?_) (fun hc => ?_)
              · replace hT := sT hc hT
                refine rSeq ?_
                refine zReg md0 hX rfl rfl rfl ?_
                refine rThen ?_
                refine rRet ?_
                refine rInRet ?_
                refine rThenRet ?_
                have hy := Option.some.inj hT; subst hy
                exact zEnd0 hX rfl
              · replace hT := sF hc hT
                refine rSkip ?_
                refine rInNormal ?_
                refine rThen ?_
                refine rSeq ?_
                refine zReg md0 hX rfl rfl rfl ?_
                refine rThen ?_
                refine rRet ?_
                have hy := Option.some.inj hT; subst hy
                exact zEnd0 hX rfl
  · cases h
def formats_Plane (N : Nat) (a1 : Int) (a2 : Int) : Option (Int × Int) :=
  let c1 := (formats_Size N a1)
  if c1.isSome = true then
    bif (decide (a2 = 0)) then
      some ((c1.getD default).1, (c1.getD default).2.1)
    else
      bif (bif (decide (a2 = 1)) then (decide (a2 = 1)) else (decide (a2 = 2))) then
        if (0 : Int) ≤ (c1.getD default).1 ∧ (0 : Int) ≤ (c1.getD default).2.1 then
          some (((c1.getD default).1 / 2), ((c1.getD default).2.1 / 2))
        else none
      else
        some (0, 0)
  else none
def sp_formats_Plane (N : Nat) : X.Spec := fun args lk => match args with
  | [.v (.c (.int .i64 a1)), .v (.c (.int .i64 a2))] => some ⟨(formats_Plane N a1 a2).isSome = true, .tup [.c (.int .i64 ((formats_Plane N a1 a2).getD default).1), .c (.int .i64 ((formats_Plane N a1 a2).getD default).2)], [], []⟩
  | _ => none
set_option maxRecDepth 100000 in
set_option maxHeartbeats 1000000 in
theorem ok_formats_Plane (N : Nat) : FnOK Try.prog gt0 51 (sp_formats_Plane N) := by
  refine fnOK_handed Try.func51 rfl (by kernel_rfl) tt_ok (ktCons (ok_formats_Size N) (ktNil)) ?_
  intro args lk r h hp
  unfold sp_formats_Plane at h
  split at h
  · rename_i a1 a2
    cases h
    obtain ⟨x, hx⟩ := Option.isSome_iff_exists.1 hp
    simp only [hx, Option.getD_some]
    refine hand0 rfl rfl (fun w0 M ε0 hX => ?_)
    refine rCount (fun hε => ?_)
    have hT : formats_Plane N a1 a2 = some x := hx; clear hx hp; unfold formats_Plane at hT
    refine rSeq ?_
    refine zReg md0 hX rfl rfl rfl ?_
    refine rThen ?_
    refine rSeq ?_
    let c1 := (formats_Size N a1)
    replace hT := sIf hT; obtain ⟨o1, hT⟩ := hT
    refine zReg md0 hX rfl rfl rfl ?_
    refine rThen ?_
    refine rSeq ?_
    refine rSeq ?_
    refine zReg md0 hX rfl rfl rfl ?_
    refine rThen ?_
    refine rBlock ?_
    refine rSeq ?_
    refine zReg md0 hX rfl rfl rfl ?_
    refine rThen ?_
    refine zCond rfl rfl (fun hc => ?_) (fun hc => ?_)
    · replace hT := sT hc hT
      refine rSeq ?_
      refine zReg md0 hX rfl rfl rfl ?_
      refine rThen ?_
      refine rRet ?_
      refine rInRet ?_
      refine rThenRet ?_
      have hy := Option.some.inj hT; subst hy
      exact zEnd0 hX rfl
    · replace hT := sF hc hT
      refine rSeq ?_
      refine rSeq ?_
      refine zReg md0 hX rfl rfl rfl ?_
      refine rThen ?_
      refine rJoin ⟨[(4, .v (.c (.int .i64 0))), (5, .v (.c (.int .i64 0))), (6, .v (.c (.int .i64 (c1.getD default).1))), (7, .v (.c (.int .i64 (c1.getD default).2.1))), (20, .v (.c (.bool (bif (decide (a2 = 1)) then (decide (a2 = 1)) else (decide (a2 = 2))))))], [], 0⟩ ?_ (fun hj => ?_)
      · skip
        refine rThen ?_
        refine zCond rfl rfl (fun hc => ?_) (fun hc => ?_)
        · replace hT := sT hc hT
          refine rSeq ?_
          replace hT := sIf hT; obtain ⟨⟨o1, o2⟩, hT⟩ := hT
          refine zReg md0 hX rfl rfl rfl ?_
          refine rThen ?_
          refine rRet ?_
          refine rInRet ?_
          refine rThenRet ?_
          have hy := Option.some.inj hT; subst hy
          exact zEnd0 hX rfl
        · replace hT := sF hc hT
          refine rSkip ?_
          refine rInNormal ?_
          refine rThen ?_
          refine rSeq ?_
          refine zReg md0 hX rfl rfl rfl ?_
          refine rThen ?_
          refine rRet ?_
          have hy := Option.some.inj hT; subst hy
          exact zEnd0 hX rfl
      · clear hT
        refine zCond rfl rfl (fun hc => ?_) (fun hc => ?_)
        · skip
          refine rSkip ?_
          exact rTo (To.mk' [] 0 hε rfl (by (repeat' first | exact True.intro | exact rfl | apply And.intro) <;> (repeat' first | exact rfl | refine Eq.trans ?_ (cTr (by assumption)) | refine Eq.trans ?_ (cFr (by assumption)) | refine Eq.trans (cTl (by assumption)) ?_ | refine Eq.trans (cFl (by assumption)) ?_)) (by (repeat' first | exact True.intro | exact rfl | apply And.intro) <;> (repeat' first | exact rfl | refine Eq.trans ?_ (cTr (by assumption)) | refine Eq.trans ?_ (cFr (by assumption)) | refine Eq.trans (cTl (by assumption)) ?_ | refine Eq.trans (cFl (by assumption)) ?_))) hj
        · skip
          refine zReg md0 hX rfl rfl rfl ?_
          exact rTo (To.mk' [] 0 hε rfl (by (repeat' first | exact True.intro | exact rfl | apply And.intro) <;> (repeat' first | exact rfl | refine Eq.trans ?_ (cTr (by assumption)) | refine Eq.trans ?_ (cFr (by assumption)) | refine Eq.trans (cTl (by assumption)) ?_ | refine Eq.trans (cFl (by assumption)) ?_)) (by (repeat' first | exact True.intro | exact rfl | apply And.intro) <;> (repeat' first | exact rfl | refine Eq.trans ?_ (cTr (by assumption)) | refine Eq.trans ?_ (cFr (by assumption)) | refine Eq.trans (cTl (by assumption)) ?_ | refine Eq.trans (cFl (by assumption)) ?_))) hj
  · cases h
def whole_Clip (N : Nat) (a1 : Int) (a2 : Int) (a3 : Int) : Option Int :=
  bif (bif (decide (a3 < a2)) then (decide (a3 < a2)) else (decide (a1 < a2))) then
    some a2
  else
    bif (decide (a3 < a1)) then
      some a3
    else
      some a1
def sp_whole_Clip (N : Nat) : X.Spec := fun args lk => match args with
  | [.v (.c (.int .i64 a1)), .v (.c (.int .i64 a2)), .v (.c (.int .i64 a3))] => some ⟨(whole_Clip N a1 a2 a3).isSome = true, .v (.c (.int .i64 ((whole_Clip N a1 a2 a3).getD default))), [], []⟩
  | _ => none
set_option maxRecDepth 100000 in
set_option maxHeartbeats 1000000 in
theorem ok_whole_Clip (N : Nat) : FnOK Try.prog gt0 65 (sp_whole_Clip N) := by
  refine fnOK_handed Try.func65 rfl (by kernel_rfl) tt_ok (ktNil) ?_
  intro args lk r h hp
  unfold sp_whole_Clip at h
  split at h
  · rename_i a1 a2 a3
    cases h
    obtain ⟨x, hx⟩ := Option.isSome_iff_exists.1 hp
    simp only [hx, Option.getD_some]
    refine hand0 rfl rfl (fun w0 M ε0 hX => ?_)
    refine rCount (fun hε => ?_)
    have hT : whole_Clip N a1 a2 a3 = some x := hx; clear hx hp; unfold whole_Clip at hT
    refine rSeq ?_
    refine zReg md0 hX rfl rfl rfl ?_
    refine rThen ?_
    refine rSeq ?_
    refine rBlock ?_
    refine rSeq ?_
    refine rSeq ?_
    refine zReg md0 hX rfl rfl rfl ?_
    refine rThen ?_
    refine rJoin ⟨[(0, .v (.c (.int .i64 a1))), (1, .v (.c (.int .i64 a2))), (2, .v (.c (.int .i64 a3))), (6, .v (.c (.int .i64 0))), (7, .v (.c (.bool (bif (decide (a3 < a2)) then (decide (a3 < a2)) else (decide (a1 < a2))))))], [], 0⟩ ?_ (fun hj => ?_)
    · skip
      refine rThen ?_
      refine zCond rfl rfl (fun hc => ?_) (fun hc => ?_)
      · replace hT := sT hc hT
        refine rSeq ?_
        refine zReg md0 hX rfl rfl rfl ?_
        refine rThen ?_
        refine rRet ?_
        refine rInRet ?_
        refine rThenRet ?_
        have hy := Option.some.inj hT; subst hy
        exact zEnd0 hX rfl
      · replace hT := sF hc hT
        refine rSeq ?_
        refine zReg md0 hX rfl rfl rfl ?_
        refine rThen ?_
        refine zCond rfl rfl (fun hc => ?_) (fun hc => ?_)
        · replace hT := sT hc hT
          refine rSeq ?_
          refine zReg md0 hX rfl rfl rfl ?_
          refine rThen ?_
          refine rRet ?_
          refine rInRet ?_
          refine rThenRet ?_
          have hy := Option.some.inj hT; subst hy
          exact zEnd0 hX rfl
        · replace hT := sF hc hT
          refine rSkip ?_
          refine rInNormal ?_
          refine rThen ?_
          refine rSeq ?_
          refine zReg md0 hX rfl rfl rfl ?_
          refine rThen ?_
          refine rRet ?_
          have hy := Option.some.inj hT; subst hy
          exact zEnd0 hX rfl
    · clear hT
      refine zCond rfl rfl (fun hc => ?_) (fun hc => ?_)
      · skip
        refine rSkip ?_
        exact rTo (To.mk' [] 0 hε rfl (by (repeat' first | exact True.intro | exact rfl | apply And.intro) <;> (repeat' first | exact rfl | refine Eq.trans ?_ (cTr (by assumption)) | refine Eq.trans ?_ (cFr (by assumption)) | refine Eq.trans (cTl (by assumption)) ?_ | refine Eq.trans (cFl (by assumption)) ?_)) (by (repeat' first | exact True.intro | exact rfl | apply And.intro) <;> (repeat' first | exact rfl | refine Eq.trans ?_ (cTr (by assumption)) | refine Eq.trans ?_ (cFr (by assumption)) | refine Eq.trans (cTl (by assumption)) ?_ | refine Eq.trans (cFl (by assumption)) ?_))) hj
      · skip
        refine zReg md0 hX rfl rfl rfl ?_
        exact rTo (To.mk' [] 0 hε rfl (by (repeat' first | exact True.intro | exact rfl | apply And.intro) <;> (repeat' first | exact rfl | refine Eq.trans ?_ (cTr (by assumption)) | refine Eq.trans ?_ (cFr (by assumption)) | refine Eq.trans (cTl (by assumption)) ?_ | refine Eq.trans (cFl (by assumption)) ?_)) (by (repeat' first | exact True.intro | exact rfl | apply And.intro) <;> (repeat' first | exact rfl | refine Eq.trans ?_ (cTr (by assumption)) | refine Eq.trans ?_ (cFr (by assumption)) | refine Eq.trans (cTl (by assumption)) ?_ | refine Eq.trans (cFl (by assumption)) ?_))) hj
  · cases h
def math_bits_Mul64 (N : Nat) (a1 : Int) (a2 : Int) : Option (Int × Int) :=
  if (0 : Int) ≤ a1 then
    if (0 : Int) ≤ a2 then
      let x1 := (((Int.toNat a1 &&& Int.toNat 4294967295 : Nat) : Int) * ((Int.toNat a2 &&& Int.toNat 4294967295 : Nat) : Int))
      if inK .u64 (((Int.toNat a1 &&& Int.toNat 4294967295 : Nat) : Int) * ((Int.toNat a2 &&& Int.toNat 4294967295 : Nat) : Int)) then
        let x2 := (((a1 / 2 ^ (Int.toNat 32)) * ((Int.toNat a2 &&& Int.toNat 4294967295 : Nat) : Int)) + (x1 / 2 ^ (Int.toNat 32)))
        if inK .u64 ((a1 / 2 ^ (Int.toNat 32)) * ((Int.toNat a2 &&& Int.toNat 4294967295 : Nat) : Int)) ∧ inK .u64 (((a1 / 2 ^ (Int.toNat 32)) * ((Int.toNat a2 &&& Int.toNat 4294967295 : Nat) : Int)) + (x1 / 2 ^ (Int.toNat 32))) then
          if (0 : Int) ≤ x2 then
            let x3 := (((Int.toNat x2 &&& Int.toNat 4294967295 : Nat) : Int) + (((Int.toNat a1 &&& Int.toNat 4294967295 : Nat) : Int) * (a2 / 2 ^ (Int.toNat 32))))
            if inK .u64 (((Int.toNat a1 &&& Int.toNat 4294967295 : Nat) : Int) * (a2 / 2 ^ (Int.toNat 32))) ∧ inK .u64 (((Int.toNat x2 &&& Int.toNat 4294967295 : Nat) : Int) + (((Int.toNat a1 &&& Int.toNat 4294967295 : Nat) : Int) * (a2 / 2 ^ (Int.toNat 32)))) then
              let x4 := ((((a1 / 2 ^ (Int.toNat 32)) * (a2 / 2 ^ (Int.toNat 32))) + (x2 / 2 ^ (Int.toNat 32))) + (x3 / 2 ^ (Int.toNat 32)))
              if inK .u64 ((a1 / 2 ^ (Int.toNat 32)) * (a2 / 2 ^ (Int.toNat 32))) ∧ inK .u64 (((a1 / 2 ^ (Int.toNat 32)) * (a2 / 2 ^ (Int.toNat 32))) + (x2 / 2 ^ (Int.toNat 32))) ∧ inK .u64 ((((a1 / 2 ^ (Int.toNat 32)) * (a2 / 2 ^ (Int.toNat 32))) + (x2 / 2 ^ (Int.toNat 32))) + (x3 / 2 ^ (Int.toNat 32))) then
                if inK .u64 (a1 * a2) then
                  some (x4, (a1 * a2))
                else none
              else none
            else none
          else none
        else none
      else none
    else none
  else none
def sp_math_bits_Mul64 (N : Nat) : X.Spec := fun args lk => match args with
  | [.v (.c (.int .u64 a1)), .v (.c (.int .u64 a2))] => some ⟨(math_bits_Mul64 N a1 a2).isSome = true, .tup [.c (.int .u64 ((math_bits_Mul64 N a1 a2).getD default).1), .c (.int .u64 ((math_bits_Mul64 N a1 a2).getD default).2)], [], []⟩
  | _ => none
set_option maxRecDepth 100000 in
set_option maxHeartbeats 1000000 in
theorem ok_math_bits_Mul64 (N : Nat) : FnOK Try.prog gt0 77 (sp_math_bits_Mul64 N) := by
  refine fnOK_handed Try.func77 rfl (by kernel_rfl) tt_ok (ktNil) ?_
  intro args lk r h hp
  unfold sp_math_bits_Mul64 at h
  split at h
  · rename_i a1 a2
    cases h
    obtain ⟨x, hx⟩ := Option.isSome_iff_exists.1 hp
    simp only [hx, Option.getD_some]
    refine hand0 rfl rfl (fun w0 M ε0 hX => ?_)
    refine rCount (fun hε => ?_)
    have hT : math_bits_Mul64 N a1 a2 = some x := hx; clear hx hp; unfold math_bits_Mul64 at hT
    refine rSeq ?_
    refine zReg md0 hX rfl rfl rfl ?_
    refine rThen ?_
    refine rSeq ?_
    replace hT := sIf hT; obtain ⟨o1, hT⟩ := hT
    refine zReg md0 hX rfl rfl rfl ?_
    refine rThen ?_
    refine rSeq ?_
    refine zReg md0 hX rfl rfl rfl ?_
    refine rThen ?_
    refine rSeq ?_
    replace hT := sIf hT; obtain ⟨o1, hT⟩ := hT
    refine zReg md0 hX rfl rfl rfl ?_
    refine rThen ?_
    refine rSeq ?_
    refine zReg md0 hX rfl rfl rfl ?_
    refine rThen ?_
    refine rSeq ?_
    let x1 := (((Int.toNat a1 &&& Int.toNat 4294967295 : Nat) : Int) * ((Int.toNat a2 &&& Int.toNat 4294967295 : Nat) : Int))
    replace hT := sIf hT; obtain ⟨o1, hT⟩ := hT
    refine zReg md0 hX rfl rfl rfl ?_
    refine rThen ?_
    refine rSeq ?_
    let x2 := (((a1 / 2 ^ (Int.toNat 32)) * ((Int.toNat a2 &&& Int.toNat 4294967295 : Nat) : Int)) + (x1 / 2 ^ (Int.toNat 32)))
    replace hT := sIf hT; obtain ⟨⟨o1, o2⟩, hT⟩ := hT
    refine zReg md0 hX rfl rfl rfl ?_
    refine rThen ?_
    refine rSeq ?_
    replace hT := sIf hT; obtain ⟨o1, hT⟩ := hT
    refine zReg md0 hX rfl rfl rfl ?_
    refine rThen ?_
    refine rSeq ?_
    refine zReg md0 hX rfl rfl rfl ?_
    refine rThen ?_
    refine rSeq ?_
    let x3 := (((Int.toNat x2 &&& Int.toNat 4294967295 : Nat) : Int) + (((Int.toNat a1 &&& Int.toNat 4294967295 : Nat) : Int) * (a2 / 2 ^ (Int.toNat 32))))
    replace hT := sIf hT; obtain ⟨⟨o1, o2⟩, hT⟩ := hT
    refine zReg md0 hX rfl rfl rfl ?_
    refine rThen ?_
    refine rSeq ?_
    let x4 := ((((a1 / 2 ^ (Int.toNat 32)) * (a2 / 2 ^ (Int.toNat 32))) + (x2 / 2 ^ (Int.toNat 32))) + (x3 / 2 ^ (Int.toNat 32)))
    replace hT := sIf hT; obtain ⟨⟨o1, o2, o3⟩, hT⟩ := hT
    refine zReg md0 hX rfl rfl rfl ?_
    refine rThen ?_
    refine rSeq ?_
    replace hT := sIf hT; obtain ⟨o1, hT⟩ := hT
    refine zReg md0 hX rfl rfl rfl ?_
    refine rThen ?_
    refine rRet ?_
    have hy := Option.some.inj hT; subst hy
    exact zEnd0 hX rfl
  · cases h
def math_bits_Mul (N : Nat) (a1 : Int) (a2 : Int) : Option (Int × Int) :=
  let c1 := (math_bits_Mul64 N a1 a2)
  if c1.isSome = true then
    some ((c1.getD default).1, (c1.getD default).2)
  else none
def sp_math_bits_Mul (N : Nat) : X.Spec := fun args lk => match args with
  | [.v (.c (.int .u64 a1)), .v (.c (.int .u64 a2))] => some ⟨(math_bits_Mul N a1 a2).isSome = true, .tup [.c (.int .u64 ((math_bits_Mul N a1 a2).getD default).1), .c (.int .u64 ((math_bits_Mul N a1 a2).getD default).2)], [], []⟩
  | _ => none
set_option maxRecDepth 100000 in
set_option maxHeartbeats 1000000 in
theorem ok_math_bits_Mul (N : Nat) : FnOK Try.prog gt0 74 (sp_math_bits_Mul N) := by
  refine fnOK_handed Try.func74 rfl (by kernel_rfl) tt_ok (ktCons (ok_math_bits_Mul64 N) (ktNil)) ?_
  intro args lk r h hp
  unfold sp_math_bits_Mul at h
  split at h
  · rename_i a1 a2
    cases h
    obtain ⟨x, hx⟩ := Option.isSome_iff_exists.1 hp
    simp only [hx, Option.getD_some]
    refine hand0 rfl rfl (fun w0 M ε0 hX => ?_)
    refine rCount (fun hε => ?_)
    have hT : math_bits_Mul N a1 a2 = some x := hx; clear hx hp; unfold math_bits_Mul at hT
    refine rSeq ?_
    refine zReg md0 hX rfl rfl rfl ?_
    refine rThen ?_
    refine rSeq ?_
    refine rCondF rfl rfl (by (repeat' first | exact True.intro | with_reducible assumption | (with_reducible apply And.intro) | intro _) <;> first | assumption | exact rfl | omega | exact Nat.le_of_ble_eq_true rfl | exact selF (by assumption) | exact selT (by assumption) | exact And.intro rfl rfl | exact And.intro (by assumption) rfl | exact And.intro (by omega) rfl | (simp only [inK] at *; omega) | (simp_all [sel] <;> fail) | fail) rfl ?_
    refine rSkip ?_
    refine rThen ?_
    refine rSeq ?_
    let c1 := (math_bits_Mul64 N a1 a2)
    replace hT := sIf hT; obtain ⟨o1, hT⟩ := hT
    refine zReg md0 hX rfl rfl rfl ?_
    refine rThen ?_
    refine rSeq ?_
    refine zReg md0 hX rfl rfl rfl ?_
    refine rThen ?_
    refine rRet ?_
    have hy := Option.some.inj hT; subst hy
    exact zEnd0 hX rfl
  · cases h
/-- So many times the same byte. -/
def rep (N : Nat) (a1 : Nat) (a2 : Int) (a3 : List Int) : Option (Nat × Nat × List Int) :=
  if a1 = 1 ∧ a3.length = 1 ∧ 0 ≤ a2 ∧ a2 ≤ 281474976710656 ∧ inK .u8 (a3.getD 0 0) then some (a2.toNat, a2.toNat, List.replicate a2.toNat (a3.getD 0 0)) else none
def bytes_Repeat_own_b1 (N : Nat) (c1 : (Option (Int × Int))) (x2 : Int) (s1 : (Int × (List Int))) : Option ((Int × (List Int)) ⊕ (List Int)) :=
  bif (decide (s1.1 < (c1.getD default).2)) then
    let x4 := (s1.1 + (((min (min s1.1 x2).toNat (((c1.getD default).2.toNat : Int) - s1.1).toNat) : Nat) : Int))
    let x6 := (layL s1.2 (s1.1).toNat ((s1.2.take (min s1.1 x2).toNat).take (min (min s1.1 x2).toNat (((c1.getD default).2.toNat : Int) - s1.1).toNat)) (min (min s1.1 x2).toNat (((c1.getD default).2.toNat : Int) - s1.1).toNat))
    if (0 : Int) ≤ s1.1 ∧ s1.1 ≤ ((c1.getD default).2.toNat : Int) ∧ ((c1.getD default).2.toNat : Int) ≤ ((c1.getD default).2.toNat : Int) ∧ (0 : Int) ≤ (min s1.1 x2) ∧ (min s1.1 x2) ≤ ((c1.getD default).2.toNat : Int) ∧ (min s1.1 x2).toNat ≤ (c1.getD default).2.toNat ∧ (s1.1).toNat + (min (min s1.1 x2).toNat (((c1.getD default).2.toNat : Int) - s1.1).toNat) ≤ (c1.getD default).2.toNat ∧ inK .i64 (s1.1 + (((min (min s1.1 x2).toNat (((c1.getD default).2.toNat : Int) - s1.1).toNat) : Nat) : Int)) then
      some (.inl (x4, x6))
    else none
  else
    some (.inr s1.2)
def bytes_Repeat_own (hv : Nat → (List Int → Option (Nat × Nat × (List Int))) → Option (Nat × Nat × (List Int))) (N : Nat) (a1 : Nat) (a2 : Int) (a3 : (List Int)) : Option (Nat × Nat × (List Int)) :=
  bif (decide (a2 = 0)) then
    some (0, 0, (List.replicate 0 0))
  else
    bif (decide (a2 < 0)) then
      none
    else
      let c1 := (math_bits_Mul N (a1 : Int) a2)
      if inK .u64 (a1 : Int) ∧ inK .u64 a2 ∧ c1.isSome = true then
        let x1 := (bif (decide ((0 : Int) < (c1.getD default).1)) then true else (decide ((9223372036854775807 : Int) < (c1.getD default).2)))
        bif x1 then
          none
        else
          if inK .i64 (c1.getD default).2 then
            bif (decide ((a1 : Int) = 0)) then
              some (0, 0, (List.replicate 0 0))
            else
              if ((decide ((8192 : Int) < (c1.getD default).2)) = true → (0 : Int) < (a1 : Int)) ∧ ((decide ((8192 : Int) < (c1.getD default).2)) = true → inK .i64 (((8192 : Int) / (a1 : Int)) * (a1 : Int))) then
                let x2 := (bif (decide ((8192 : Int) < (c1.getD default).2)) then (bif (decide ((((8192 : Int) / (a1 : Int)) * (a1 : Int)) = 0)) then (a1 : Int) else (((8192 : Int) / (a1 : Int)) * (a1 : Int))) else (c1.getD default).2)
                if 0 ≤ (c1.getD default).2 ∧ (c1.getD default).2 ≤ 281474976710656 then
                  hv (c1.getD default).2.toNat fun (z1 : List Int) =>
                    let x3 := (layL z1 0 ((a3.take a1).take (min a1 (c1.getD default).2.toNat)) (min a1 (c1.getD default).2.toNat))
                    if a1 ≤ 1 ∧ 0 + (min a1 (c1.getD default).2.toNat) ≤ (c1.getD default).2.toNat then
                      (iter (bytes_Repeat_own_b1 N c1 x2) N ((((min a1 (c1.getD default).2.toNat) : Nat) : Int), x3)).bind fun v1 =>
                        some ((c1.getD default).2.toNat, (c1.getD default).2.toNat, v1)
                    else none
                else none
              else none
          else none
      else none
def sp_bytes_Repeat_own (hv : Nat → (List Int → Option (Nat × Nat × (List Int))) → Option (Nat × Nat × (List Int))) (N : Nat) : X.Spec := fun args lk => match args with
  | [.v (.c (.sl i0 0 a1 1)), .v (.c (.int .i64 a2))] => (match lk i0 with
    | some (.mem _ _ _ (.flat [.ints 1 .u8 a3])) => some ⟨(bytes_Repeat_own hv N a1 a2 a3).isSome = true, .v (.c (.sl 0 0 ((bytes_Repeat_own hv N a1 a2 a3).getD default).1 1)), [.mem true 5 (some 0) (.flat [.ints ((bytes_Repeat_own hv N a1 a2 a3).getD default).2.1 .u8 ((bytes_Repeat_own hv N a1 a2 a3).getD default).2.2])], []⟩
    | _ => none)
  | _ => none
def sp_rep (N : Nat) : X.Spec := fun args lk => match args with
  | [.v (.c (.sl i0 0 a1 1)), .v (.c (.int .i64 a2))] => (match lk i0 with
    | some (.mem _ _ _ (.flat [.ints 1 .u8 a3])) => some ⟨(rep N a1 a2 a3).isSome = true, .v (.c (.sl 0 0 ((rep N a1 a2 a3).getD default).1 1)), [.mem true 5 (some 0) (.flat [.ints ((rep N a1 a2 a3).getD default).2.1 .u8 ((rep N a1 a2 a3).getD default).2.2])], []⟩
    | _ => none)
  | _ => none
set_option maxRecDepth 100000 in
set_option maxHeartbeats 1000000 in
theorem ok_bytes_Repeat_own (hv : Nat → (List Int → Option (Nat × Nat × (List Int))) → Option (Nat × Nat × (List Int))) (hHv : ∀ n k x, hv n k = some x → ∀ zs : List Int, zs.length = n → (∀ x ∈ zs, inK .u8 x) → k zs = some x) (N : Nat) : FnOK Try.prog gt0 64 (sp_bytes_Repeat_own hv N) := by
  refine fnOK_handed Try.func64 rfl (by kernel_rfl) tt_ok (ktCons (ok_math_bits_Mul N) (ktNil)) ?_
  intro args lk r h hp
  unfold sp_bytes_Repeat_own at h
  split at h
  · rename_i i0 a1 a2
    split at h
    · rename_i _ _ _ a3 hl0
      change (List Int) at a3
      cases h
      obtain ⟨x, hx⟩ := Option.isSome_iff_exists.1 hp
      simp only [hx, Option.getD_some]
      refine handL [i0] 1 [(0, .mem false 5 none (.flat [.ints 1 .u8 a3]))] [.v (.c (.sl 0 0 a1 1)), .v (.c (.int .i64 a2))] rfl rfl rfl ⟨isSome_of hl0, trivial⟩ ⟨⟨rfl, (by repeat' first | exact True.intro | exact rfl | exact ⟨_, rfl, rfl⟩ | apply And.intro | exact Or.inl rfl), _, hl0, sub_ro⟩, trivial⟩ rfl (fun w0 M ε0 hX => ?_)
      refine rCount (fun hε => ?_)
      have hT : bytes_Repeat_own hv N a1 a2 a3 = some x := hx; clear hx hp; unfold bytes_Repeat_own at hT
      refine rSeq ?_
      refine zReg md0 hX rfl rfl rfl ?_
      refine rThen ?_
      refine rSeq ?_
      refine rSeq ?_
      refine zReg md0 hX rfl rfl rfl ?_
      refine rThen ?_
      refine zCond rfl rfl (fun hc => ?_) (fun hc => ?_)
      · replace hT := sT hc hT
        refine rSeq ?_
        refine zReg md0 hX rfl rfl rfl ?_
        refine rThen ?_
        refine rRet ?_
        refine rThenRet ?_
        refine rTail0Q 1 rfl rfl ?_
        have hy := Option.some.inj hT; subst hy
        exact rEndA [1] [.mem true 5 (some 0) (.flat [.ints 0 .u8 (List.replicate 0 0)])] [] (.v (.c (.sl 1 0 0 1))) hX rfl (by repeat' first | exact True.intro | exact rfl | apply And.intro | omega | exact Nat.le_of_ble_eq_true rfl) (by repeat' first | exact True.intro | exact rfl | apply And.intro) rfl rfl rfl (by repeat' first | exact True.intro | exact rfl | exact ⟨_, rfl, rfl⟩ | apply And.intro | exact Or.inl rfl) rfl rfl (by repeat' first | exact True.intro | exact rfl | exact ⟨_, rfl, rfl⟩ | apply And.intro | exact Or.inl rfl) rfl rfl
      · replace hT := sF hc hT
        refine rSkip ?_
        refine rThen ?_
        refine rSeq ?_
        refine rSeq ?_
        refine zReg md0 hX rfl rfl rfl ?_
        refine rThen ?_
        refine zCond rfl rfl (fun hc => ?_) (fun hc => ?_)
        · replace hT := sT hc hT
          cases hT
        · replace hT := sF hc hT
          refine rSkip ?_
          refine rThen ?_
          refine rSeq ?_
          let c1 := (math_bits_Mul N (a1 : Int) a2)
          replace hT := sIf hT; obtain ⟨⟨o1, o2, o3⟩, hT⟩ := hT
          refine zReg md0 hX rfl rfl rfl ?_
          refine rThen ?_
          refine rSeq ?_
          refine rSeq ?_
          let x1 := (bif (decide ((0 : Int) < (c1.getD default).1)) then true else (decide ((9223372036854775807 : Int) < (c1.getD default).2)))
          refine zReg md0 hX rfl rfl rfl ?_
          refine rThen ?_
          refine zCond rfl rfl (fun hc => ?_) (fun hc => ?_)
          · replace hT := sT hc hT
            cases hT
          · replace hT := sF hc hT
            refine rSkip ?_
            refine rThen ?_
            refine rSeq ?_
            replace hT := sIf hT; obtain ⟨o1, hT⟩ := hT
            refine zReg md0 hX rfl rfl rfl ?_
            refine rThen ?_
            refine rSeq ?_
            refine rSeq ?_
            refine zReg md0 hX rfl rfl rfl ?_
            refine rThen ?_
            refine zCond rfl rfl (fun hc => ?_) (fun hc => ?_)
            · replace hT := sT hc hT
              refine rSeq ?_
              refine zReg md0 hX rfl rfl rfl ?_
              refine rThen ?_
              refine rRet ?_
              refine rThenRet ?_
              refine rTail0Q 1 rfl rfl ?_
              have hy := Option.some.inj hT; subst hy
              exact rEndA [1] [.mem true 5 (some 0) (.flat [.ints 0 .u8 (List.replicate 0 0)])] [] (.v (.c (.sl 1 0 0 1))) hX rfl (by repeat' first | exact True.intro | exact rfl | apply And.intro | omega | exact Nat.le_of_ble_eq_true rfl) (by repeat' first | exact True.intro | exact rfl | apply And.intro) rfl rfl rfl (by repeat' first | exact True.intro | exact rfl | exact ⟨_, rfl, rfl⟩ | apply And.intro | exact Or.inl rfl) rfl rfl (by repeat' first | exact True.intro | exact rfl | exact ⟨_, rfl, rfl⟩ | apply And.intro | exact Or.inl rfl) rfl rfl
            · replace hT := sF hc hT
              refine rSkip ?_
              refine rThen ?_
              refine rSeq ?_
              refine zReg md0 hX rfl rfl rfl ?_
              refine rThen ?_
              refine rSeq ?_
              refine rSeq ?_
              refine zReg md0 hX rfl rfl rfl ?_
              refine rThen ?_
              replace hT := sIf hT; obtain ⟨⟨q1, q2⟩, hT⟩ := hT
              refine rJoin ⟨[(0, .v (.c (.sl 0 0 a1 1))), (4, .v (.c (.val (.slice none 0 0)))), (7, .v (.c (.int .i64 (c1.getD default).2))), (8, .v (.c (.int .i64 (bif (decide ((8192 : Int) < (c1.getD default).2)) then (bif (decide ((((8192 : Int) / (a1 : Int)) * (a1 : Int)) = 0)) then (a1 : Int) else (((8192 : Int) / (a1 : Int)) * (a1 : Int))) else (c1.getD default).2))))], [(0, .mem false 5 none (.flat [.ints 1 .u8 a3]))], 1⟩ ?_ (fun hj => ?_)
              · skip
                let x2 := (bif (decide ((8192 : Int) < (c1.getD default).2)) then (bif (decide ((((8192 : Int) / (a1 : Int)) * (a1 : Int)) = 0)) then (a1 : Int) else (((8192 : Int) / (a1 : Int)) * (a1 : Int))) else (c1.getD default).2)
                refine rThen ?_
                refine rSeq ?_
                refine rRegSL ?_
                replace hT := sIf hT; obtain ⟨⟨n1, n2⟩, hT⟩ := hT
                refine rSLCut md0 1 hX rfl rfl rfl (by (repeat' first | exact True.intro | with_reducible assumption | (with_reducible apply And.intro) | intro _) <;> first | assumption | exact rfl | omega | exact Nat.le_of_ble_eq_true rfl | exact selF (by assumption) | exact selT (by assumption) | exact And.intro rfl rfl | exact And.intro (by assumption) rfl | exact And.intro (by omega) rfl | (simp only [inK] at *; omega) | (simp_all [sel] <;> fail) | fail) ?_
                refine rNoZero (fn := Try.f75) (ps := #[3]) (t' := 22) hX rfl rfl rfl rfl rfl rfl rfl rfl rfl rfl rfl rfl rfl rfl rfl n1 n2 Try.func75 (by kernel_rfl) (by kernel_rfl) (by kernel_rfl) (by kernel_rfl) (by kernel_rfl) rfl rfl rfl rfl rfl rfl (fun z1 h1z1 h2z1 => ?_)
                replace hT := hHv _ _ _ hT z1 h1z1 h2z1
                refine rSLDone md0 hX rfl rfl rfl (by (repeat' first | exact True.intro | with_reducible assumption | (with_reducible apply And.intro) | intro _) <;> first | assumption | exact rfl | omega | exact Nat.le_of_ble_eq_true rfl | exact selF (by assumption) | exact selT (by assumption) | exact And.intro rfl rfl | exact And.intro (by assumption) rfl | exact And.intro (by omega) rfl | (simp only [inK] at *; omega) | (simp_all [sel] <;> fail) | fail) ?_
                refine rThen ?_
                refine rSeq ?_
                let x3 := (layL z1 0 ((a3.take a1).take (min a1 (c1.getD default).2.toNat)) (min a1 (c1.getD default).2.toNat))
                replace hT := sIf hT; obtain ⟨⟨o1, o2⟩, hT⟩ := hT
                refine zReg md0 hX rfl rfl rfl ?_
                refine rThen ?_
                refine rSeq ?_
                refine rBlock ?_
                replace hT := sBind hT; obtain ⟨w1, hl, hT⟩ := hT
                refine rJoinA (fun v1 => v1 = w1) (fun v1 => ⟨[(4, .v (.c (.val (.slice none 0 0)))), (9, .v (.c (.sl 1 0 (c1.getD default).2.toNat 1)))], [(0, .mem false 5 none (.flat [.ints 1 .u8 a3])), (1, .mem true 5 (some 0) (.flat [.ints (c1.getD default).2.toNat .u8 v1]))], 2⟩) (.exit 0) (fun v1 hv => ?_) (fun hxs10 => ?_)
                · subst hv; clear hl
                  refine rInHit ?_
                  refine rThen ?_
                  refine rSeq ?_
                  refine zReg md0 hX rfl rfl rfl ?_
                  refine rThen ?_
                  refine rRet ?_
                  have hy := Option.some.inj hT; subst hy
                  exact rEndA [1] [.mem true 5 (some 0) (.flat [.ints (c1.getD default).2.toNat .u8 v1])] [] (.v (.c (.sl 1 0 (c1.getD default).2.toNat 1))) hX rfl (by repeat' first | exact True.intro | exact rfl | apply And.intro | omega | exact Nat.le_of_ble_eq_true rfl) (by repeat' first | exact True.intro | exact rfl | apply And.intro) rfl rfl rfl (by repeat' first | exact True.intro | exact rfl | exact ⟨_, rfl, rfl⟩ | apply And.intro | exact Or.inl rfl) rfl rfl (by repeat' first | exact True.intro | exact rfl | exact ⟨_, rfl, rfl⟩ | apply And.intro | exact Or.inl rfl) rfl rfl
                refine rLoopM (bytes_Repeat_own_b1 N c1 x2) (fun s1 => ⟨[(4, .v (.c (.val (.slice none 0 0)))), (7, .v (.c (.int .i64 (c1.getD default).2))), (8, .v (.c (.int .i64 x2))), (9, .v (.c (.sl 1 0 (c1.getD default).2.toNat 1))), (10, .v (.c (.int .i64 s1.1)))], [(0, .mem false 5 none (.flat [.ints 1 .u8 a3])), (1, .mem true 5 (some 0) (.flat [.ints (c1.getD default).2.toNat .u8 s1.2]))], 2⟩) hl (To.mk' [] 1 hε rfl (by repeat' first | exact True.intro | exact rfl | apply And.intro) (by repeat' first | exact True.intro | exact rfl | apply And.intro)) (fun s1 zs1 NNs1 hz hnexts1 houts1 => ?_)
                clear hl hT
                have hT := hz; clear hz
                refine rSeq ?_
                refine rSeq ?_
                refine zReg md0 hX rfl rfl rfl ?_
                refine rThen ?_
                refine zCond rfl rfl (fun hc => ?_) (fun hc => ?_)
                · replace hT := sT hc hT
                  refine rSkip ?_
                  refine rThen ?_
                  refine rBlock ?_
                  refine rSeq ?_
                  refine zReg md0 hX rfl rfl rfl ?_
                  refine rThen ?_
                  let x4 := (s1.1 + (((min (min s1.1 x2).toNat (((c1.getD default).2.toNat : Int) - s1.1).toNat) : Nat) : Int))
                  let x6 := (layL s1.2 (s1.1).toNat ((s1.2.take (min s1.1 x2).toNat).take (min (min s1.1 x2).toNat (((c1.getD default).2.toNat : Int) - s1.1).toNat)) (min (min s1.1 x2).toNat (((c1.getD default).2.toNat : Int) - s1.1).toNat))
                  replace hT := sIf hT; obtain ⟨⟨o1, o2, o3, o4, o5, o6, o7, o8⟩, hT⟩ := hT
                  refine rDrawA md0 0 7 8 [] hX mixed rfl rfl rfl rfl rfl rfl rfl rfl rfl rfl rfl rfl rfl rfl rfl (by repeat' first | exact True.intro | exact rfl | apply And.intro) rfl rfl (by (repeat' first | exact True.intro | with_reducible assumption | (with_reducible apply And.intro) | intro _) <;> first | assumption | exact rfl | omega | exact Nat.le_of_ble_eq_true rfl | exact selF (by assumption) | exact selT (by assumption) | exact And.intro rfl rfl | exact And.intro (by assumption) rfl | exact And.intro (by omega) rfl | (simp only [inK] at *; omega) | (simp_all [sel] <;> fail) | fail) ?_
                  refine rInNormal ?_
                  exact hnexts1 _ (Option.some.inj hT).symm _ (To.mk' [] 1 hε rfl (by repeat' first | exact True.intro | exact rfl | apply And.intro) (by repeat' first | exact True.intro | exact rfl | apply And.intro))
                · replace hT := sF hc hT
                  refine rExit ?_
                  refine rThenExit ?_
                  refine rThenExit ?_
                  exact zTo [] 1 hε (hxs10 _ (houts1 _ (Option.some.inj hT).symm))
              · clear hT
                refine zCond rfl rfl (fun hc => ?_) (fun hc => ?_)
                · skip
                  have q1 := q1 hc
                  have q2 := q2 hc
                  refine rSeq ?_
                  refine zReg md0 hX rfl rfl rfl ?_
                  refine rThen ?_
                  refine rSeq ?_
                  refine zReg md0 hX rfl rfl rfl ?_
                  refine rThen ?_
                  refine zCond rfl rfl (fun hc => ?_) (fun hc => ?_)
                  · skip
                    refine zReg md0 hX rfl rfl rfl ?_
                    exact rTo (To.mk' [] 1 hε rfl (by (repeat' first | exact True.intro | exact rfl | apply And.intro) <;> (repeat' first | exact rfl | refine Eq.trans ?_ (cTr (by assumption)) | refine Eq.trans ?_ (cFr (by assumption)) | refine Eq.trans (cTl (by assumption)) ?_ | refine Eq.trans (cFl (by assumption)) ?_)) (by (repeat' first | exact True.intro | exact rfl | apply And.intro) <;> (repeat' first | exact rfl | refine Eq.trans ?_ (cTr (by assumption)) | refine Eq.trans ?_ (cFr (by assumption)) | refine Eq.trans (cTl (by assumption)) ?_ | refine Eq.trans (cFl (by assumption)) ?_))) hj
                  · skip
                    refine rSkip ?_
                    exact rTo (To.mk' [] 1 hε rfl (by (repeat' first | exact True.intro | exact rfl | apply And.intro) <;> (repeat' first | exact rfl | refine Eq.trans ?_ (cTr (by assumption)) | refine Eq.trans ?_ (cFr (by assumption)) | refine Eq.trans (cTl (by assumption)) ?_ | refine Eq.trans (cFl (by assumption)) ?_)) (by (repeat' first | exact True.intro | exact rfl | apply And.intro) <;> (repeat' first | exact rfl | refine Eq.trans ?_ (cTr (by assumption)) | refine Eq.trans ?_ (cFr (by assumption)) | refine Eq.trans (cTl (by assumption)) ?_ | refine Eq.trans (cFl (by assumption)) ?_))) hj
                · skip
                  refine rSkip ?_
                  exact rTo (To.mk' [] 1 hε rfl (by (repeat' first | exact True.intro | exact rfl | apply And.intro) <;> (repeat' first | exact rfl | refine Eq.trans ?_ (cTr (by assumption)) | refine Eq.trans ?_ (cFr (by assumption)) | refine Eq.trans (cTl (by assumption)) ?_ | refine Eq.trans (cFl (by assumption)) ?_)) (by (repeat' first | exact True.intro | exact rfl | apply And.intro) <;> (repeat' first | exact rfl | refine Eq.trans ?_ (cTr (by assumption)) | refine Eq.trans ?_ (cFr (by assumption)) | refine Eq.trans (cTl (by assumption)) ?_ | refine Eq.trans (cFl (by assumption)) ?_))) hj
    · cases h
  · cases h
theorem mul_one (N : Nat) {n : Int} (h0 : 0 ≤ n) (h1 : n ≤ 281474976710656) : math_bits_Mul N 1 n = some (0, n) := by
  obtain ⟨m, rfl⟩ : ∃ m : Nat, n = m := ⟨n.toNat, by omega⟩
  have e1 : (Int.toNat 1 &&& Int.toNat 4294967295 : Nat) = 1 := by decide
  have e2 : (Int.toNat (m : Int) &&& Int.toNat 4294967295 : Nat) = m % 4294967296 := Nat.and_two_pow_sub_one_eq_mod m 32
  have e3 : ((1 : Int) / 4294967296) = 0 := by decide
  have e6 : ((1 : Nat) : Int) = 1 := rfl
  have e4 : ((2 : Int) ^ Int.toNat 32) = 4294967296 := by decide
  have e5 : (Int.toNat 0 &&& Int.toNat 4294967295 : Nat) = 0 := by decide
  have hm : ((m % 4294967296 : Nat) : Int) / 4294967296 = 0 := by omega
  have hd : (m : Int) / 4294967296 / 4294967296 = 0 := by omega
  have h64 : math_bits_Mul64 N 1 (m : Int) = some (0, (m : Int)) := by
    simp only [math_bits_Mul64, e1, e2, e3, e4, e5, e6, Int.one_mul, Int.zero_mul, Int.zero_add, Int.add_zero, hm, hd, Int.natCast_nonneg, Int.ofNat_zero, Int.zero_ediv, inK]
    rw [if_pos (by omega), if_pos trivial, if_pos ⟨trivial, by omega⟩, if_pos (by omega), if_pos (by omega), if_pos (by omega), if_pos (by omega), if_pos ⟨trivial, by omega⟩]
  simp only [math_bits_Mul, h64, Option.isSome_some, if_true, Option.getD_some]
theorem rep_loop (N : Nat) {n x2 b : Int} (hx : 1 ≤ x2) : ∀ (f : Nat) (k : Int) (zs : List Int), 1 ≤ k → k ≤ n → n ≤ 281474976710656 → (zs.length : Int) = n → zs.take k.toNat = List.replicate k.toNat b → n - k < f → iter (bytes_Repeat_own_b1 N (some (0, n)) x2) f (k, zs) = some (List.replicate n.toNat b)
  | 0, k, zs, h1, h2, h3, h4, h5, h6 => by omega
  | f + 1, k, zs, h1, h2, h3, h4, h5, h6 => by
    by_cases hk : k < n
    · have hb : ∃ k' zs', bytes_Repeat_own_b1 N (some (0, n)) x2 (k, zs) = some (.inl (k', zs')) ∧ k < k' ∧ k' ≤ n ∧ (zs'.length : Int) = n ∧ zs'.take k'.toNat = List.replicate k'.toNat b := by
        obtain ⟨m, hm⟩ : ∃ m : Nat, m = min (min k x2).toNat ((n.toNat : Int) - k).toNat := ⟨_, rfl⟩
        have g1 : m ≤ k.toNat := by omega
        have g2 : k.toNat + m ≤ n.toNat := by omega
        have g3 : 1 ≤ m := by omega
        refine ⟨k + m, layL zs k.toNat ((zs.take (min k x2).toNat).take m) m, ?_, by omega, by omega, ?_, ?_⟩
        · simp only [bytes_Repeat_own_b1, Option.getD_some, hk, decide_true, cond_true, ← hm]
          rw [if_pos]
          refine ⟨by omega, by omega, by omega, by omega, by omega, by omega, by omega, ?_⟩
          unfold inK
          omega
        · unfold layL
          simp only [List.length_append, List.length_take, List.length_drop]
          omega
        · unfold layL
          have e1 : (zs.take (min k x2).toNat).take m = List.replicate m b := by
            rw [List.take_take, show min m (min k x2).toNat = m by omega]
            have := congrArg (List.take m) h5
            rwa [List.take_take, show min m k.toNat = m by omega, List.take_replicate, show min m k.toNat = m by omega] at this
          rw [e1, h5, show (k + (m : Int)).toNat = k.toNat + m by omega, List.replicate_append_replicate, List.take_left' (by simp)]
      obtain ⟨k', zs', e, g1, g2, g3, g4⟩ := hb
      rw [iter, e]
      exact rep_loop N hx f k' zs' (by omega) g2 h3 g3 g4 (by omega)
    · have hkn : k = n := by omega
      have hb : bytes_Repeat_own_b1 N (some (0, n)) x2 (k, zs) = some (.inr zs) := by
        simp only [bytes_Repeat_own_b1, Option.getD_some, hk, decide_false, cond_false]
      rw [iter, hb]
      have : zs = List.replicate n.toNat b := by
        rw [← hkn, ← h5, List.take_of_length_le (by omega)]
      rw [this]
theorem rep_eq {hv : Nat → (List Int → Option (Nat × Nat × (List Int))) → Option (Nat × Nat × (List Int))} (hHv : ∀ n k x, (∀ zs : List Int, zs.length = n → (∀ x ∈ zs, inK .u8 x) → k zs = some x) → hv n k = some x) {n b : Int} (h0 : 0 ≤ n) (h1 : n ≤ 281474976710656) :
    bytes_Repeat_own hv 281474976710657 1 n [b] = some (n.toNat, n.toNat, List.replicate n.toNat b) := by
  unfold bytes_Repeat_own
  by_cases hz : n = 0
  · subst hz; rfl
  have hn0 : ¬ n < 0 := by omega
  have e1 : ((1 : Nat) : Int) = 1 := rfl
  simp only [hz, hn0, decide_false, cond_false, e1, mul_one _ h0 h1, Option.isSome_some, Option.getD_some]
  rw [if_pos ⟨by unfold inK; omega, by unfold inK; omega, trivial⟩]
  have hbig : ¬ (9223372036854775807 : Int) < n := by omega
  simp only [Int.lt_irrefl, decide_false, cond_false, hbig]
  rw [if_pos (by unfold inK; omega)]
  simp only [show ¬ ((1 : Int) = 0) by omega, decide_false, cond_false]
  rw [if_pos ⟨fun _ => by omega, fun _ => by decide⟩, if_pos ⟨h0, h1⟩]
  refine hHv _ _ _ fun zs hl hzs => ?_
  have hm : min 1 n.toNat = 1 := by omega
  simp only [hm]
  rw [if_pos ⟨by omega, by omega⟩]
  rw [rep_loop (b := b) _ ?_ _ _ _ (by omega) (by omega) h1 ?_ ?_ (by omega)]
  · rfl
  · cases hd : decide ((8192 : Int) < n)
    · simp only [cond_false]; omega
    · simp only [cond_true]; exact (by decide : (1 : Int) ≤ bif decide ((8192 : Int) / 1 * 1 = 0) then (1 : Int) else (8192 : Int) / 1 * 1)
  · unfold layL
    simp only [List.length_append, List.length_take, List.length_drop, List.length_cons, List.length_nil]
    omega
  · unfold layL
    simp
theorem ok_rep (N : Nat) : FnOK Try.prog gt0 64 (sp_rep N) := by
  obtain ⟨hv, h1, h2⟩ := havoc_ex (Nat × Nat × List Int)
  refine (ok_bytes_Repeat_own hv h1 281474976710657).weak fun args lk r' h hp => ?_
  unfold sp_rep at h
  split at h
  · rename_i i0 a1 a2
    split at h
    · rename_i _ _ _ a3 hl
      cases h
      change List Int at a3
      by_cases hc : a1 = 1 ∧ a3.length = 1 ∧ 0 ≤ a2 ∧ a2 ≤ 281474976710656 ∧ inK .u8 (a3.getD 0 0)
      · have hr : rep N a1 a2 a3 = some (a2.toNat, a2.toNat, List.replicate a2.toNat (a3.getD 0 0)) := by unfold rep; rw [if_pos hc]
        obtain ⟨rfl, hl3, h0, hm, hb⟩ := hc
        match a3, hl3 with
        | [b], _ =>
          have e := rep_eq h2 h0 hm (b := b)
          refine ⟨_, by unfold sp_bytes_Repeat_own; simp only [hl]; rfl, ?_, ?_, ?_, ?_⟩
          · simp only [e, Option.isSome_some]
          · simp only [e, hr, Option.getD_some]
          · simp only [e, hr, Option.getD_some]; rfl
          · rfl
      · exfalso
        have hr : rep N a1 a2 a3 = none := by unfold rep; rw [if_neg hc]
        simp [hr] at hp
    · cases h
  · cases h
def planes_New_b1 (N : Nat) (a1 : Int) (a2 : Int) (s1 : (Int × (List (List Int)))) : Option ((Int × (List (List Int))) ⊕ (List (List Int))) :=
  bif (decide (s1.1 < 3)) then
    let c2 := (formats_Plane N a1 s1.1)
    if c2.isSome = true then
      let c3 := (whole_Clip N a2 0 255)
      let c4 := (rep N 1 ((c2.getD default).1 * (c2.getD default).2) ((List.replicate 1 0).set 0 (c3.getD default)))
      if c3.isSome = true ∧ inK .u8 (c3.getD default) ∧ inK .i64 ((c2.getD default).1 * (c2.getD default).2) ∧ c4.isSome = true ∧ (0 : Int) ≤ s1.1 ∧ s1.1 < 3 then
        if (c4.getD default).1 = (c4.getD default).2.2.length then
          if (s1.1).toNat < 3 then
            if inK .i64 (s1.1 + 1) then
              some (.inl ((s1.1 + 1), (s1.2.set (s1.1).toNat (c4.getD default).2.2)))
            else none
          else none
        else none
      else none
    else none
  else
    some (.inr s1.2)
def planes_New (N : Nat) (a1 : Int) (a2 : Int) : Option (Int × (List (List Int)) × Int) :=
  let c1 := (formats_Size N a1)
  if c1.isSome = true then
    bif (!(c1.getD default).2.2) then
      some (0, (List.replicate 3 []), 1)
    else
      (iter (planes_New_b1 N a1 a2) N (0, (List.replicate 3 []))).bind fun v1 =>
        some (a1, v1, 0)
  else none
def sp_planes_New (N : Nat) : X.Spec := fun args lk => match args with
  | [.v (.c (.int .i64 a1)), .v (.c (.int .i64 a2))] => some ⟨(planes_New N a1 a2).isSome = true, .tup [.agg [.cs [.int .i64 ((planes_New N a1 a2).getD default).1], .fzs 3 (.int .u8) ((planes_New N a1 a2).getD default).2.1], .c (.int .i64 ((planes_New N a1 a2).getD default).2.2)], [], []⟩
  | _ => none
set_option maxRecDepth 100000 in
set_option maxHeartbeats 1000000 in
theorem ok_planes_New (N : Nat) : FnOK Try.prog gt0 23 (sp_planes_New N) := by
  refine fnOK_handed Try.func23 rfl (by kernel_rfl) tt_ok (ktCons (ok_rep N) (ktCons (ok_whole_Clip N) (ktCons (ok_formats_Plane N) (ktCons (ok_formats_Size N) (ktNil))))) ?_
  intro args lk r h hp
  unfold sp_planes_New at h
  split at h
  · rename_i a1 a2
    cases h
    obtain ⟨x, hx⟩ := Option.isSome_iff_exists.1 hp
    simp only [hx, Option.getD_some]
    refine hand0 rfl rfl (fun w0 M ε0 hX => ?_)
    refine rCount (fun hε => ?_)
    have hT : planes_New N a1 a2 = some x := hx; clear hx hp; unfold planes_New at hT
    refine rSeq ?_
    refine zReg md0 hX rfl rfl rfl ?_
    refine rThen ?_
    refine rSeq ?_
    refine rSeq ?_
    let c1 := (formats_Size N a1)
    replace hT := sIf hT; obtain ⟨o1, hT⟩ := hT
    refine zReg md0 hX rfl rfl rfl ?_
    refine rThen ?_
    refine rSeq ?_
    refine zReg md0 hX rfl rfl rfl ?_
    refine rThen ?_
    refine zCond rfl rfl (fun hc => ?_) (fun hc => ?_)
    · replace hT := sT hc hT
      refine rSeq ?_
      refine zReg md0 hX rfl rfl rfl ?_
      refine rThen ?_
      refine rRet ?_
      refine rThenRet ?_
      have hy := Option.some.inj hT; subst hy
      exact zEnd0 hX rfl
    · replace hT := sF hc hT
      refine rSkip ?_
      refine rThen ?_
      refine rSeq ?_
      refine zReg md0 hX rfl rfl rfl ?_
      refine rThen ?_
      refine rSeq ?_
      refine rSeq ?_
      refine zReg md0 hX rfl rfl rfl ?_
      refine rThen ?_
      refine rBlock ?_
      replace hT := sBind hT; obtain ⟨w1, hl, hT⟩ := hT
      refine rJoinA (fun v1 => v1 = w1) (fun v1 => ⟨[(4, .v (.c (.ptr 0 0 0 0 0 0))), (5, .v (.c (.int .i64 0))), (9, .v (.c (.ptr 1 0 0 0 0 0)))], [(0, .mem true 25 none (.flat [.cs [.int .i64 0], .fzs 3 (.int .u8) (List.replicate 3 [])])), (1, .mem true 25 none (.flat [.cs [.int .i64 a1], .fzs 3 (.int .u8) v1]))], 2⟩) (.exit 0) (fun v1 hv => ?_) (fun hxs10 => ?_)
      · subst hv; clear hl
        refine rInHit ?_
        refine rThen ?_
        refine rSeq ?_
        refine zReg md0 hX rfl rfl rfl ?_
        refine rThen ?_
        refine rRet ?_
        have hy := Option.some.inj hT; subst hy
        exact zEnd0 hX rfl
      refine rLoopM (planes_New_b1 N a1 a2) (fun s1 => ⟨[(0, .v (.c (.int .i64 a1))), (1, .v (.c (.int .i64 a2))), (4, .v (.c (.ptr 0 0 0 0 0 0))), (5, .v (.c (.int .i64 0))), (9, .v (.c (.ptr 1 0 0 0 0 0))), (24, .v (.c (.int .i64 s1.1)))], [(0, .mem true 25 none (.flat [.cs [.int .i64 0], .fzs 3 (.int .u8) (List.replicate 3 [])])), (1, .mem true 25 none (.flat [.cs [.int .i64 a1], .fzs 3 (.int .u8) s1.2]))], 2⟩) hl (To.mk' [] 0 hε rfl (by repeat' first | exact True.intro | exact rfl | apply And.intro) (by repeat' first | exact True.intro | exact rfl | apply And.intro)) (fun s1 zs1 NNs1 hz hnexts1 houts1 => ?_)
      clear hl hT
      have hT := hz; clear hz
      refine rSeq ?_
      refine zReg md0 hX rfl rfl rfl ?_
      refine rThen ?_
      refine rSeq ?_
      refine zCond rfl rfl (fun hc => ?_) (fun hc => ?_)
      · replace hT := sT hc hT
        refine rSkip ?_
        refine rThen ?_
        refine rSeq ?_
        refine rBlock ?_
        refine rSeq ?_
        refine zReg md0 hX rfl rfl rfl ?_
        refine rThen ?_
        refine rSeq ?_
        let c2 := (formats_Plane N a1 s1.1)
        replace hT := sIf hT; obtain ⟨o1, hT⟩ := hT
        refine zReg md0 hX rfl rfl rfl ?_
        refine rThen ?_
        refine rRegSL ?_
        let c3 := (whole_Clip N a2 0 255)
        let c4 := (rep N 1 ((c2.getD default).1 * (c2.getD default).2) ((List.replicate 1 0).set 0 (c3.getD default)))
        replace hT := sIf hT; obtain ⟨⟨o1, o2, o3, o4, o5, o6⟩, hT⟩ := hT
        refine rSLCut md0 11 hX rfl rfl rfl (by (repeat' first | exact True.intro | with_reducible assumption | (with_reducible apply And.intro) | intro _) <;> first | assumption | exact rfl | omega | exact Nat.le_of_ble_eq_true rfl | exact selF (by assumption) | exact selT (by assumption) | exact And.intro rfl rfl | exact And.intro (by assumption) rfl | exact And.intro (by omega) rfl | (simp only [inK] at *; omega) | (simp_all [sel] <;> fail) | fail) ?_
        replace hT := sIf hT; obtain ⟨f1, hT⟩ := hT
        refine rFreezeL 3 (.int .u8) (c4.getD default).2.2 [(0, .v (.c (.int .i64 a1))), (1, .v (.c (.int .i64 a2))), (4, .v (.c (.ptr 0 0 0 0 0 0))), (5, .v (.c (.int .i64 0))), (9, .v (.c (.ptr 1 0 0 0 0 0))), (10, .v (.c (.int .i64 s1.1))), (11, .v (.c (.int .i64 (c2.getD default).1))), (12, .v (.c (.int .i64 (c2.getD default).2))), (24, .v (.c (.int .i64 s1.1))), (25, .v (.c (.bool (decide (s1.1 < 3))))), (26, .v (.c (.int .i64 s1.1))), (27, .tup [.c (.int .i64 (c2.getD default).1), .c (.int .i64 (c2.getD default).2)]), (28, .v (.c (.int .i64 a1))), (29, .v (.c (.int .i64 s1.1))), (30, .tup [.c (.int .i64 (c2.getD default).1), .c (.int .i64 (c2.getD default).2)]), (31, .v (.c (.int .i64 (c2.getD default).1))), (32, .v (.c (.int .i64 (c2.getD default).2))), (33, .v (.c (.int .i64 s1.1))), (34, .v (.c (.int .i64 a2))), (35, .v (.c (.int .i64 (c3.getD default)))), (36, .v (.c (.int .u8 (c3.getD default)))), (37, .v (.c (.sl 2 0 1 1))), (38, .v (.c (.int .i64 (c2.getD default).1))), (39, .v (.c (.int .i64 (c2.getD default).2))), (40, .v (.c (.int .i64 ((c2.getD default).1 * (c2.getD default).2)))), (41, .v (.c (.fz (.int .u8) (c4.getD default).2.2))), (42, .v (.c (.ptr 1 0 0 1 0 0))), (43, .v (.c (.ptr 1 0 0 1 1 (s1.1).toNat)))] [(0, .mem true 25 none (.flat [.cs [.int .i64 0], .fzs 3 (.int .u8) (List.replicate 3 [])])), (1, .mem true 25 none (.flat [.cs [.int .i64 a1], .fzs 3 (.int .u8) s1.2])), (2, .mem true 5 (some 1) (.flat [.ints 1 .u8 ((List.replicate 1 0).set 0 (c3.getD default))]))] rfl rfl (by (repeat' first | exact True.intro | exact rfl | apply And.intro) <;> first | assumption | rfl) (by (repeat' first | exact True.intro | exact rfl | apply And.intro) <;> first | assumption | rfl) ?_
        replace hT := sIf hT; obtain ⟨o1, hT⟩ := hT
        refine rSLDone md0 hX rfl rfl rfl (by (repeat' first | exact True.intro | with_reducible assumption | (with_reducible apply And.intro) | intro _) <;> first | assumption | exact rfl | omega | exact Nat.le_of_ble_eq_true rfl | exact selF (by assumption) | exact selT (by assumption) | exact And.intro rfl rfl | exact And.intro (by assumption) rfl | exact And.intro (by omega) rfl | (simp only [inK] at *; omega) | (simp_all [sel] <;> fail) | fail) ?_
        refine rInNormal ?_
        refine rThen ?_
        replace hT := sIf hT; obtain ⟨o1, hT⟩ := hT
        refine zReg md0 hX rfl rfl rfl ?_
        exact hnexts1 _ (Option.some.inj hT).symm _ (To.mk' [] 0 hε rfl (by repeat' first | exact True.intro | exact rfl | apply And.intro) (by repeat' first | exact True.intro | exact rfl | apply And.intro))
      · replace hT := sF hc hT
        refine rExit ?_
        refine rThenExit ?_
        refine rThenExit ?_
        exact zTo [] 0 hε (hxs10 _ (houts1 _ (Option.some.inj hT).symm))
  · cases h
def planes_Right_b1 (N : Nat) (a1 : Int) (a2 : (List (List Int))) (s1 : (Bool × Int)) : Option ((Bool × Int) ⊕ Bool) :=
  bif (decide (s1.2 < 3)) then
    if (0 : Int) ≤ s1.2 ∧ s1.2 < 3 ∧ (s1.2).toNat < 3 then
      let c2 := (formats_Plane N a1 s1.2)
      if c2.isSome = true then
        let x1 := (bif s1.1 then (decide (((a2.getD (s1.2).toNat []).length : Int) = ((c2.getD default).1 * (c2.getD default).2))) else false)
        if (s1.1 = true → inK .i64 ((c2.getD default).1 * (c2.getD default).2)) then
          if inK .i64 (s1.2 + 1) then
            some (.inl (x1, (s1.2 + 1)))
          else none
        else none
      else none
    else none
  else
    some (.inr s1.1)
def planes_Right (N : Nat) (a1 : Int) (a2 : (List (List Int))) : Option Bool :=
  let c1 := (formats_Size N a1)
  if c1.isSome = true then
    (iter (planes_Right_b1 N a1 a2) N ((c1.getD default).2.2, 0)).bind fun v1 =>
      some v1
  else none
def sp_planes_Right (N : Nat) : X.Spec := fun args lk => match args with
  | [.v (.agg [.cs [.int .i64 a1], .fzs 3 (.int .u8) a2])] => some ⟨(planes_Right N a1 a2).isSome = true, .v (.c (.bool ((planes_Right N a1 a2).getD default))), [], []⟩
  | _ => none
set_option maxRecDepth 100000 in
set_option maxHeartbeats 1000000 in
theorem ok_planes_Right (N : Nat) : FnOK Try.prog gt0 20 (sp_planes_Right N) := by
  refine fnOK_handed Try.func20 rfl (by kernel_rfl) tt_ok (ktCons (ok_formats_Plane N) (ktCons (ok_formats_Size N) (ktNil))) ?_
  intro args lk r h hp
  unfold sp_planes_Right at h
  split at h
  · rename_i a1 a2
    change (List (List Int)) at a2
    cases h
    obtain ⟨x, hx⟩ := Option.isSome_iff_exists.1 hp
    simp only [hx, Option.getD_some]
    refine hand0 rfl rfl (fun w0 M ε0 hX => ?_)
    refine rCount (fun hε => ?_)
    have hT : planes_Right N a1 a2 = some x := hx; clear hx hp; unfold planes_Right at hT
    refine rSeq ?_
    refine zReg md0 hX rfl rfl rfl ?_
    refine rThen ?_
    refine rSeq ?_
    let c1 := (formats_Size N a1)
    replace hT := sIf hT; obtain ⟨o1, hT⟩ := hT
    refine zReg md0 hX rfl rfl rfl ?_
    refine rThen ?_
    refine rSeq ?_
    refine rSeq ?_
    refine zReg md0 hX rfl rfl rfl ?_
    refine rThen ?_
    refine rBlock ?_
    replace hT := sBind hT; obtain ⟨w1, hl, hT⟩ := hT
    refine rJoinA (fun v1 => v1 = w1) (fun v1 => ⟨[(2, .v (.c (.bool false))), (5, .v (.c (.bool v1)))], [], 1⟩) (.exit 0) (fun v1 hv => ?_) (fun hxs10 => ?_)
    · subst hv; clear hl
      refine rInHit ?_
      refine rThen ?_
      refine rSeq ?_
      refine zReg md0 hX rfl rfl rfl ?_
      refine rThen ?_
      refine rRet ?_
      have hy := Option.some.inj hT; subst hy
      exact zEnd0 hX rfl
    refine rLoopM (planes_Right_b1 N a1 a2) (fun s1 => ⟨[(1, .v (.c (.ptr 0 0 0 0 0 0))), (2, .v (.c (.bool false))), (5, .v (.c (.bool s1.1))), (18, .v (.agg [.fzs 3 (.int .u8) a2])), (19, .v (.c (.int .i64 s1.2)))], [(0, .mem true 25 none (.flat [.cs [.int .i64 a1], .fzs 3 (.int .u8) a2]))], 1⟩) hl (To.mk' [] 0 hε rfl (by repeat' first | exact True.intro | exact rfl | apply And.intro) (by repeat' first | exact True.intro | exact rfl | apply And.intro)) (fun s1 zs1 NNs1 hz hnexts1 houts1 => ?_)
    clear hl hT
    have hT := hz; clear hz
    refine rSeq ?_
    refine zReg md0 hX rfl rfl rfl ?_
    refine rThen ?_
    refine rSeq ?_
    refine zCond rfl rfl (fun hc => ?_) (fun hc => ?_)
    · replace hT := sT hc hT
      refine rSkip ?_
      refine rThen ?_
      refine rSeq ?_
      refine rBlock ?_
      refine rSeq ?_
      replace hT := sIf hT; obtain ⟨⟨o1, o2, o3⟩, hT⟩ := hT
      refine zReg md0 hX rfl rfl rfl ?_
      refine rThen ?_
      refine rSeq ?_
      let c2 := (formats_Plane N a1 s1.2)
      replace hT := sIf hT; obtain ⟨o1, hT⟩ := hT
      refine zReg md0 hX rfl rfl rfl ?_
      refine rThen ?_
      let x1 := (bif s1.1 then (decide (((a2.getD (s1.2).toNat []).length : Int) = ((c2.getD default).1 * (c2.getD default).2))) else false)
      replace hT := sIf hT; obtain ⟨o1, hT⟩ := hT
      refine rRegC md0 hX rfl rfl rfl (by (repeat' first | exact True.intro | with_reducible assumption | (with_reducible apply And.intro) | intro _) <;> first | assumption | exact o1 (by assumption) | exact rfl | omega | exact Nat.le_of_ble_eq_true rfl | exact selF (by assumption) | exact selT (by assumption) | exact And.intro rfl rfl | exact And.intro (by assumption) rfl | exact And.intro (by omega) rfl | (simp only [inK] at *; omega) | (simp_all [sel] <;> fail) | fail) ?_
      refine rInNormal ?_
      refine rThen ?_
      replace hT := sIf hT; obtain ⟨o1, hT⟩ := hT
      refine zReg md0 hX rfl rfl rfl ?_
      exact hnexts1 _ (Option.some.inj hT).symm _ (To.mk' [] 0 hε rfl (by repeat' first | exact True.intro | exact rfl | apply And.intro) (by repeat' first | exact True.intro | exact rfl | apply And.intro))
    · replace hT := sF hc hT
      refine rExit ?_
      refine rThenExit ?_
      refine rThenExit ?_
      exact zTo [] 0 hε (hxs10 _ (houts1 _ (Option.some.inj hT).symm))
  · cases h
def law17_lives (N : Nat) : Option Bool :=
  let c1 := (planes_New N 6 300)
  if c1.isSome = true then
    let c2 := (planes_Right N (c1.getD default).1 (c1.getD default).2.1)
    let x1 := (bif (bif (bif (bif (decide ((c1.getD default).2.2 = 0)) then (c2.getD default) else false) then (decide ((((c1.getD default).2.1.getD 0 []).length : Int) = 1024)) else false) then (decide ((((c1.getD default).2.1.getD 2 []).length : Int) = 256)) else false) then (decide ((((c1.getD default).2.1.getD 1 []).getD 7 0) = 255)) else false)
    if ((decide ((c1.getD default).2.2 = 0)) = true → c2.isSome = true) ∧ ((bif (bif (bif (decide ((c1.getD default).2.2 = 0)) then (c2.getD default) else false) then (decide ((((c1.getD default).2.1.getD 0 []).length : Int) = 1024)) else false) then (decide ((((c1.getD default).2.1.getD 2 []).length : Int) = 256)) else false) = true → (7 : Int) < (((c1.getD default).2.1.getD 1 []).length : Int)) then
      some x1
    else none
  else none
def sp_law17_lives (N : Nat) : X.Spec := fun args lk => match args with
  | [] => some ⟨(law17_lives N).isSome = true, .v (.c (.bool ((law17_lives N).getD default))), [], []⟩
  | _ => none
set_option maxRecDepth 100000 in
set_option maxHeartbeats 1000000 in
theorem ok_law17_lives (N : Nat) : FnOK Try.prog gt0 19 (sp_law17_lives N) := by
  refine fnOK_handed Try.func19 rfl (by kernel_rfl) tt_ok (ktCons (ok_planes_Right N) (ktCons (ok_planes_New N) (ktNil))) ?_
  intro args lk r h hp
  unfold sp_law17_lives at h
  split at h
  · skip
    cases h
    obtain ⟨x, hx⟩ := Option.isSome_iff_exists.1 hp
    simp only [hx, Option.getD_some]
    refine hand0 rfl rfl (fun w0 M ε0 hX => ?_)
    refine rCount (fun hε => ?_)
    have hT : law17_lives N = some x := hx; clear hx hp; unfold law17_lives at hT
    refine rSeq ?_
    refine zReg md0 hX rfl rfl rfl ?_
    refine rThen ?_
    refine rSeq ?_
    let c1 := (planes_New N 6 300)
    replace hT := sIf hT; obtain ⟨o1, hT⟩ := hT
    refine zReg md0 hX rfl rfl rfl ?_
    refine rThen ?_
    refine rSeq ?_
    let c2 := (planes_Right N (c1.getD default).1 (c1.getD default).2.1)
    let x1 := (bif (bif (bif (bif (decide ((c1.getD default).2.2 = 0)) then (c2.getD default) else false) then (decide ((((c1.getD default).2.1.getD 0 []).length : Int) = 1024)) else false) then (decide ((((c1.getD default).2.1.getD 2 []).length : Int) = 256)) else false) then (decide ((((c1.getD default).2.1.getD 1 []).getD 7 0) = 255)) else false)
    replace hT := sIf hT; obtain ⟨⟨o1, o2⟩, hT⟩ := hT
    refine rRegC md0 hX rfl rfl rfl (by (repeat' first | exact True.intro | with_reducible assumption | (with_reducible apply And.intro) | intro _) <;> first | assumption | exact o1 (by assumption) | exact o2 (by assumption) | exact rfl | omega | exact Nat.le_of_ble_eq_true rfl | exact selF (by assumption) | exact selT (by assumption) | exact And.intro rfl rfl | exact And.intro (by assumption) rfl | exact And.intro (by omega) rfl | (simp only [inK] at *; omega) | (simp_all [sel] <;> fail) | fail) ?_
    refine rThen ?_
    refine rRet ?_
    have hy := Option.some.inj hT; subst hy
    exact zEnd0 hX rfl
  · cases h
def planes_New_own (N : Nat) (a1 : Int) (a2 : Int) : Option (Int × Nat × Nat × Nat × Int × Nat × (List Int) × Nat × (List Int) × Nat × (List Int)) :=
  let c1 := (formats_Size N a1)
  if c1.isSome = true then
    bif (!(c1.getD default).2.2) then
      some (0, 0, 0, 0, 1, 0, [], 0, [], 0, [])
    else
      let c2 := (formats_Plane N a1 0)
      if c2.isSome = true then
        let c3 := (whole_Clip N a2 0 255)
        let c4 := (rep N 1 ((c2.getD default).1 * (c2.getD default).2) ((List.replicate 1 0).set 0 (c3.getD default)))
        if c3.isSome = true ∧ inK .u8 (c3.getD default) ∧ inK .i64 ((c2.getD default).1 * (c2.getD default).2) ∧ c4.isSome = true then
          let c5 := (formats_Plane N a1 1)
          if c5.isSome = true then
            let c6 := (whole_Clip N a2 0 255)
            let c7 := (rep N 1 ((c5.getD default).1 * (c5.getD default).2) ((List.replicate 1 0).set 0 (c6.getD default)))
            if c6.isSome = true ∧ inK .u8 (c6.getD default) ∧ inK .i64 ((c5.getD default).1 * (c5.getD default).2) ∧ c7.isSome = true then
              let c8 := (formats_Plane N a1 2)
              if c8.isSome = true then
                let c9 := (whole_Clip N a2 0 255)
                let c10 := (rep N 1 ((c8.getD default).1 * (c8.getD default).2) ((List.replicate 1 0).set 0 (c9.getD default)))
                if c9.isSome = true ∧ inK .u8 (c9.getD default) ∧ inK .i64 ((c8.getD default).1 * (c8.getD default).2) ∧ c10.isSome = true then
                  some (a1, (c4.getD default).1, (c7.getD default).1, (c10.getD default).1, 0, (c4.getD default).2.1, (c4.getD default).2.2, (c7.getD default).2.1, (c7.getD default).2.2, (c10.getD default).2.1, (c10.getD default).2.2)
                else none
              else none
            else none
          else none
        else none
      else none
  else none
def sp_planes_New_own (N : Nat) : X.Spec := fun args lk => match args with
  | [.v (.c (.int .i64 a1)), .v (.c (.int .i64 a2))] => some ⟨(planes_New_own N a1 a2).isSome = true, .tup [.agg [.cs [.int .i64 ((planes_New_own N a1 a2).getD default).1, .sl 0 0 ((planes_New_own N a1 a2).getD default).2.1 1, .sl 1 0 ((planes_New_own N a1 a2).getD default).2.2.1 1, .sl 2 0 ((planes_New_own N a1 a2).getD default).2.2.2.1 1]], .c (.int .i64 ((planes_New_own N a1 a2).getD default).2.2.2.2.1)], [.mem true 5 (some 0) (.flat [.ints ((planes_New_own N a1 a2).getD default).2.2.2.2.2.1 .u8 ((planes_New_own N a1 a2).getD default).2.2.2.2.2.2.1]), .mem true 5 (some 0) (.flat [.ints ((planes_New_own N a1 a2).getD default).2.2.2.2.2.2.2.1 .u8 ((planes_New_own N a1 a2).getD default).2.2.2.2.2.2.2.2.1]), .mem true 5 (some 0) (.flat [.ints ((planes_New_own N a1 a2).getD default).2.2.2.2.2.2.2.2.2.1 .u8 ((planes_New_own N a1 a2).getD default).2.2.2.2.2.2.2.2.2.2])], []⟩
  | _ => none
set_option maxRecDepth 100000 in
set_option maxHeartbeats 1000000 in
theorem ok_planes_New_own (N : Nat) : FnOK Try.prog gt0 23 (sp_planes_New_own N) := by
  refine fnOK_handed Try.func23 rfl (by kernel_rfl) ttC_ok (ktCons (ok_rep N) (ktCons (ok_whole_Clip N) (ktCons (ok_formats_Plane N) (ktCons (ok_formats_Size N) (ktNil))))) ?_
  intro args lk r h hp
  unfold sp_planes_New_own at h
  split at h
  · rename_i a1 a2
    cases h
    obtain ⟨x, hx⟩ := Option.isSome_iff_exists.1 hp
    simp only [hx, Option.getD_some]
    refine hand0 rfl rfl (fun w0 M ε0 hX => ?_)
    refine rCount (fun hε => ?_)
    have hT : planes_New_own N a1 a2 = some x := hx; clear hx hp; unfold planes_New_own at hT
    refine rSeq ?_
    refine zReg md0 hX rfl rfl rfl ?_
    refine rThen ?_
    refine rSeq ?_
    refine rSeq ?_
    let c1 := (formats_Size N a1)
    replace hT := sIf hT; obtain ⟨o1, hT⟩ := hT
    refine zReg md0 hX rfl rfl rfl ?_
    refine rThen ?_
    refine rSeq ?_
    refine zReg md0 hX rfl rfl rfl ?_
    refine rThen ?_
    refine zCond rfl rfl (fun hc => ?_) (fun hc => ?_)
    · replace hT := sT hc hT
      refine rSeq ?_
      refine zReg md0 hX rfl rfl rfl ?_
      refine rThen ?_
      refine rRet ?_
      refine rThenRet ?_
      refine rNilQ 5 1 (.flat [.ints 0 .u8 []]) [(4, .v (.c (.ptr 0 0 0 0 0 0))), (5, .v (.c (.int .i64 1)))] [(0, .mem true 25 none (.flat [.cs [.int .i64 0, .sl 1 0 0 1, .val (.slice none 0 0), .val (.slice none 0 0)]]))] (nil_ints _) (by (repeat' first | exact True.intro | exact rfl | apply And.intro) <;> first | assumption | rfl) (by (repeat' first | exact True.intro | exact rfl | apply And.intro) <;> first | assumption | rfl) ?_
      refine rNilQ 5 1 (.flat [.ints 0 .u8 []]) [(4, .v (.c (.ptr 0 0 0 0 0 0))), (5, .v (.c (.int .i64 1)))] [(0, .mem true 25 none (.flat [.cs [.int .i64 0, .sl 1 0 0 1, .sl 2 0 0 1, .val (.slice none 0 0)]])), (1, .mem true 5 (some 1) (.flat [.ints 0 .u8 []]))] (nil_ints _) (by (repeat' first | exact True.intro | exact rfl | apply And.intro) <;> first | assumption | rfl) (by (repeat' first | exact True.intro | exact rfl | apply And.intro) <;> first | assumption | rfl) ?_
      refine rNilQ 5 1 (.flat [.ints 0 .u8 []]) [(4, .v (.c (.ptr 0 0 0 0 0 0))), (5, .v (.c (.int .i64 1)))] [(0, .mem true 25 none (.flat [.cs [.int .i64 0, .sl 1 0 0 1, .sl 2 0 0 1, .sl 3 0 0 1]])), (1, .mem true 5 (some 1) (.flat [.ints 0 .u8 []])), (2, .mem true 5 (some 1) (.flat [.ints 0 .u8 []]))] (nil_ints _) (by (repeat' first | exact True.intro | exact rfl | apply And.intro) <;> first | assumption | rfl) (by (repeat' first | exact True.intro | exact rfl | apply And.intro) <;> first | assumption | rfl) ?_
      refine rTail0Q 1 rfl rfl ?_
      refine rTail0Q 2 rfl rfl ?_
      refine rTail0Q 3 rfl rfl ?_
      have hy := Option.some.inj hT; subst hy
      exact rEndA [1, 2, 3] [.mem true 5 (some 0) (.flat [.ints 0 .u8 []]), .mem true 5 (some 0) (.flat [.ints 0 .u8 []]), .mem true 5 (some 0) (.flat [.ints 0 .u8 []])] [] (.tup [.agg [.cs [.int .i64 0, .sl 1 0 0 1, .sl 2 0 0 1, .sl 3 0 0 1]], .c (.int .i64 1)]) hX rfl (by repeat' first | exact True.intro | exact rfl | apply And.intro | omega | exact Nat.le_of_ble_eq_true rfl) (by repeat' first | exact True.intro | exact rfl | apply And.intro) rfl rfl rfl (by repeat' first | exact True.intro | exact rfl | exact ⟨_, rfl, rfl⟩ | apply And.intro | exact Or.inl rfl) rfl rfl (by repeat' first | exact True.intro | exact rfl | exact ⟨_, rfl, rfl⟩ | apply And.intro | exact Or.inl rfl) rfl rfl
    · replace hT := sF hc hT
      refine rSkip ?_
      refine rThen ?_
      refine rSeq ?_
      refine zReg md0 hX rfl rfl rfl ?_
      refine rThen ?_
      refine rSeq ?_
      refine rSeq ?_
      refine zReg md0 hX rfl rfl rfl ?_
      refine rThen ?_
      refine rBlock ?_
      refine rRounds 24 ?_
      refine rSeq ?_
      refine zReg md0 hX rfl rfl rfl ?_
      refine rThen ?_
      refine rSeq ?_
      refine rCondT rfl rfl (by (repeat' first | exact True.intro | with_reducible assumption | (with_reducible apply And.intro) | intro _) <;> first | assumption | exact rfl | omega | exact Nat.le_of_ble_eq_true rfl | exact selF (by assumption) | exact selT (by assumption) | exact And.intro rfl rfl | exact And.intro (by assumption) rfl | exact And.intro (by omega) rfl | (simp only [inK] at *; omega) | (simp_all [sel] <;> fail) | fail) rfl ?_
      refine rSkip ?_
      refine rThen ?_
      refine rSeq ?_
      refine rBlock ?_
      refine rSeq ?_
      refine zReg md0 hX rfl rfl rfl ?_
      refine rThen ?_
      refine rSeq ?_
      let c2 := (formats_Plane N a1 0)
      replace hT := sIf hT; obtain ⟨o1, hT⟩ := hT
      refine zReg md0 hX rfl rfl rfl ?_
      refine rThen ?_
      let c3 := (whole_Clip N a2 0 255)
      let c4 := (rep N 1 ((c2.getD default).1 * (c2.getD default).2) ((List.replicate 1 0).set 0 (c3.getD default)))
      replace hT := sIf hT; obtain ⟨⟨o1, o2, o3, o4⟩, hT⟩ := hT
      refine zReg md0 hX rfl rfl rfl ?_
      refine rInNormal ?_
      refine rThen ?_
      refine zReg md0 hX rfl rfl rfl ?_
      refine rRound ?_
      refine rSeq ?_
      refine zReg md0 hX rfl rfl rfl ?_
      refine rThen ?_
      refine rSeq ?_
      refine rCondT rfl rfl (by (repeat' first | exact True.intro | with_reducible assumption | (with_reducible apply And.intro) | intro _) <;> first | assumption | exact rfl | omega | exact Nat.le_of_ble_eq_true rfl | exact selF (by assumption) | exact selT (by assumption) | exact And.intro rfl rfl | exact And.intro (by assumption) rfl | exact And.intro (by omega) rfl | (simp only [inK] at *; omega) | (simp_all [sel] <;> fail) | fail) rfl ?_
      refine rSkip ?_
      refine rThen ?_
      refine rSeq ?_
      refine rBlock ?_
      refine rSeq ?_
      refine zReg md0 hX rfl rfl rfl ?_
      refine rThen ?_
      refine rSeq ?_
      let c5 := (formats_Plane N a1 1)
      replace hT := sIf hT; obtain ⟨o1, hT⟩ := hT
      refine zReg md0 hX rfl rfl rfl ?_
      refine rThen ?_
      let c6 := (whole_Clip N a2 0 255)
      let c7 := (rep N 1 ((c5.getD default).1 * (c5.getD default).2) ((List.replicate 1 0).set 0 (c6.getD default)))
      replace hT := sIf hT; obtain ⟨⟨o1, o2, o3, o4⟩, hT⟩ := hT
      refine zReg md0 hX rfl rfl rfl ?_
      refine rInNormal ?_
      refine rThen ?_
      refine zReg md0 hX rfl rfl rfl ?_
      refine rRound ?_
      refine rSeq ?_
      refine zReg md0 hX rfl rfl rfl ?_
      refine rThen ?_
      refine rSeq ?_
      refine rCondT rfl rfl (by (repeat' first | exact True.intro | with_reducible assumption | (with_reducible apply And.intro) | intro _) <;> first | assumption | exact rfl | omega | exact Nat.le_of_ble_eq_true rfl | exact selF (by assumption) | exact selT (by assumption) | exact And.intro rfl rfl | exact And.intro (by assumption) rfl | exact And.intro (by omega) rfl | (simp only [inK] at *; omega) | (simp_all [sel] <;> fail) | fail) rfl ?_
      refine rSkip ?_
      refine rThen ?_
      refine rSeq ?_
      refine rBlock ?_
      refine rSeq ?_
      refine zReg md0 hX rfl rfl rfl ?_
      refine rThen ?_
      refine rSeq ?_
      let c8 := (formats_Plane N a1 2)
      replace hT := sIf hT; obtain ⟨o1, hT⟩ := hT
      refine zReg md0 hX rfl rfl rfl ?_
      refine rThen ?_
      let c9 := (whole_Clip N a2 0 255)
      let c10 := (rep N 1 ((c8.getD default).1 * (c8.getD default).2) ((List.replicate 1 0).set 0 (c9.getD default)))
      replace hT := sIf hT; obtain ⟨⟨o1, o2, o3, o4⟩, hT⟩ := hT
      refine zReg md0 hX rfl rfl rfl ?_
      refine rInNormal ?_
      refine rThen ?_
      refine zReg md0 hX rfl rfl rfl ?_
      refine rRound ?_
      refine rSeq ?_
      refine zReg md0 hX rfl rfl rfl ?_
      refine rThen ?_
      refine rSeq ?_
      refine rCondF rfl rfl (by (repeat' first | exact True.intro | with_reducible assumption | (with_reducible apply And.intro) | intro _) <;> first | assumption | exact rfl | omega | exact Nat.le_of_ble_eq_true rfl | exact selF (by assumption) | exact selT (by assumption) | exact And.intro rfl rfl | exact And.intro (by assumption) rfl | exact And.intro (by omega) rfl | (simp only [inK] at *; omega) | (simp_all [sel] <;> fail) | fail) rfl ?_
      refine rExit ?_
      refine rThenExit ?_
      refine rThenExit ?_
      refine rInHit ?_
      refine rThen ?_
      refine rSeq ?_
      refine zReg md0 hX rfl rfl rfl ?_
      refine rThen ?_
      refine rRet ?_
      have hy := Option.some.inj hT; subst hy
      exact rEndA [3, 5, 7] [.mem true 5 (some 0) (.flat [.ints (c4.getD default).2.1 .u8 (c4.getD default).2.2]), .mem true 5 (some 0) (.flat [.ints (c7.getD default).2.1 .u8 (c7.getD default).2.2]), .mem true 5 (some 0) (.flat [.ints (c10.getD default).2.1 .u8 (c10.getD default).2.2])] [] (.tup [.agg [.cs [.int .i64 a1, .sl 3 0 (c4.getD default).1 1, .sl 5 0 (c7.getD default).1 1, .sl 7 0 (c10.getD default).1 1]], .c (.int .i64 0)]) hX rfl (by repeat' first | exact True.intro | exact rfl | apply And.intro | omega | exact Nat.le_of_ble_eq_true rfl) (by repeat' first | exact True.intro | exact rfl | apply And.intro) rfl rfl rfl (by repeat' first | exact True.intro | exact rfl | exact ⟨_, rfl, rfl⟩ | apply And.intro | exact Or.inl rfl) rfl rfl (by repeat' first | exact True.intro | exact rfl | exact ⟨_, rfl, rfl⟩ | apply And.intro | exact Or.inl rfl) rfl rfl
  · cases h
def planes_On_own_ptr (N : Nat) (a1 : Int) : Option (Int × Int × Nat × Nat × Nat × Nat × (List Int) × Nat × (List Int) × Nat × (List Int)) :=
  let c1 := (planes_New_own N a1 0)
  if c1.isSome = true then
    bif (decide ((c1.getD default).2.2.2.2.1 ≠ 0)) then
      none
    else
      some (0, (c1.getD default).1, (c1.getD default).2.1, (c1.getD default).2.2.1, (c1.getD default).2.2.2.1, (c1.getD default).2.2.2.2.2.1, (c1.getD default).2.2.2.2.2.2.1, (c1.getD default).2.2.2.2.2.2.2.1, (c1.getD default).2.2.2.2.2.2.2.2.1, (c1.getD default).2.2.2.2.2.2.2.2.2.1, (c1.getD default).2.2.2.2.2.2.2.2.2.2)
  else none
def sp_planes_On_own_ptr (N : Nat) : X.Spec := fun args lk => match args with
  | [.v (.c (.int .i64 a1))] => some ⟨(planes_On_own_ptr N a1).isSome = true, .tup [.c (.ptr 0 0 0 0 0 0), .c (.int .i64 ((planes_On_own_ptr N a1).getD default).1)], [.mem true 53 none (.flat [.cs [.int .i64 ((planes_On_own_ptr N a1).getD default).2.1], .cs [.sl 1 0 ((planes_On_own_ptr N a1).getD default).2.2.1 1, .sl 2 0 ((planes_On_own_ptr N a1).getD default).2.2.2.1 1, .sl 3 0 ((planes_On_own_ptr N a1).getD default).2.2.2.2.1 1]]), .mem true 5 (some 0) (.flat [.ints ((planes_On_own_ptr N a1).getD default).2.2.2.2.2.1 .u8 ((planes_On_own_ptr N a1).getD default).2.2.2.2.2.2.1]), .mem true 5 (some 0) (.flat [.ints ((planes_On_own_ptr N a1).getD default).2.2.2.2.2.2.2.1 .u8 ((planes_On_own_ptr N a1).getD default).2.2.2.2.2.2.2.2.1]), .mem true 5 (some 0) (.flat [.ints ((planes_On_own_ptr N a1).getD default).2.2.2.2.2.2.2.2.2.1 .u8 ((planes_On_own_ptr N a1).getD default).2.2.2.2.2.2.2.2.2.2])], []⟩
  | _ => none
set_option maxRecDepth 100000 in
set_option maxHeartbeats 1000000 in
theorem ok_planes_On_own_ptr (N : Nat) : FnOK Try.prog gt0 27 (sp_planes_On_own_ptr N) := by
  refine fnOK_handed Try.func27 rfl (by kernel_rfl) ttC_ok (ktCons (ok_planes_New_own N) (ktNil)) ?_
  intro args lk r h hp
  unfold sp_planes_On_own_ptr at h
  split at h
  · rename_i a1
    cases h
    obtain ⟨x, hx⟩ := Option.isSome_iff_exists.1 hp
    simp only [hx, Option.getD_some]
    refine hand0 rfl rfl (fun w0 M ε0 hX => ?_)
    refine rCount (fun hε => ?_)
    have hT : planes_On_own_ptr N a1 = some x := hx; clear hx hp; unfold planes_On_own_ptr at hT
    refine rSeq ?_
    refine zReg md0 hX rfl rfl rfl ?_
    refine rThen ?_
    refine rSeq ?_
    let c1 := (planes_New_own N a1 0)
    replace hT := sIf hT; obtain ⟨o1, hT⟩ := hT
    refine zReg md0 hX rfl rfl rfl ?_
    refine rThen ?_
    refine rSeq ?_
    refine rSeq ?_
    refine zReg md0 hX rfl rfl rfl ?_
    refine rThen ?_
    refine zCond rfl rfl (fun hc => ?_) (fun hc => ?_)
    · replace hT := sT hc hT
      refine rSeq ?_
      refine zReg md0 hX rfl rfl rfl ?_
      refine rThen ?_
      refine rRet ?_
      refine rThenRet ?_
      cases hT
    · replace hT := sF hc hT
      refine rSkip ?_
      refine rThen ?_
      refine rSeq ?_
      refine zReg md0 hX rfl rfl rfl ?_
      refine rThen ?_
      refine rRet ?_
      have hy := Option.some.inj hT; subst hy
      exact rEndA [4, 0, 1, 2] [.mem true 53 none (.flat [.cs [.int .i64 (c1.getD default).1], .cs [.sl 0 0 (c1.getD default).2.1 1, .sl 1 0 (c1.getD default).2.2.1 1, .sl 2 0 (c1.getD default).2.2.2.1 1]]), .mem true 5 (some 0) (.flat [.ints (c1.getD default).2.2.2.2.2.1 .u8 (c1.getD default).2.2.2.2.2.2.1]), .mem true 5 (some 0) (.flat [.ints (c1.getD default).2.2.2.2.2.2.2.1 .u8 (c1.getD default).2.2.2.2.2.2.2.2.1]), .mem true 5 (some 0) (.flat [.ints (c1.getD default).2.2.2.2.2.2.2.2.2.1 .u8 (c1.getD default).2.2.2.2.2.2.2.2.2.2])] [] (.tup [.c (.ptr 4 0 0 0 0 0), .c (.int .i64 0)]) hX rfl (by repeat' first | exact True.intro | exact rfl | apply And.intro | omega | exact Nat.le_of_ble_eq_true rfl) (by repeat' first | exact True.intro | exact rfl | apply And.intro) rfl rfl rfl (by repeat' first | exact True.intro | exact rfl | exact ⟨_, rfl, rfl⟩ | apply And.intro | exact Or.inl rfl) rfl rfl (by repeat' first | exact True.intro | exact rfl | exact ⟨_, rfl, rfl⟩ | apply And.intro | exact Or.inl rfl) rfl rfl
  · cases h
def overspill_planes_Canvas_Lay (N : Nat) (a1 : Int) (a2 : (List Int)) : Option Int :=
  some 1
def sp_overspill_planes_Canvas_Lay (N : Nat) : X.Spec := fun args lk => match args with
  | [.v (.c (.val (.pointer none))), .v (.c (.int .i64 a1)), .v (.agg [.ints 384 .i64 a2])] => some ⟨(overspill_planes_Canvas_Lay N a1 a2).isSome = true, .v (.c (.int .i64 ((overspill_planes_Canvas_Lay N a1 a2).getD default))), [], []⟩
  | _ => none
set_option maxRecDepth 100000 in
set_option maxHeartbeats 1000000 in
theorem ok_overspill_planes_Canvas_Lay (N : Nat) : FnOK Try.prog gt0 28 (sp_overspill_planes_Canvas_Lay N) := by
  refine fnOK_handed Try.func28 rfl (by kernel_rfl) ttC_ok (ktNil) ?_
  intro args lk r h hp
  unfold sp_overspill_planes_Canvas_Lay at h
  split at h
  · rename_i a1 a2
    change (List Int) at a2
    cases h
    obtain ⟨x, hx⟩ := Option.isSome_iff_exists.1 hp
    simp only [hx, Option.getD_some]
    refine hand0 rfl rfl (fun w0 M ε0 hX => ?_)
    refine rCount (fun hε => ?_)
    have hT : overspill_planes_Canvas_Lay N a1 a2 = some x := hx; clear hx hp; unfold overspill_planes_Canvas_Lay at hT
    refine rSeq ?_
    refine zReg md0 hX rfl rfl rfl ?_
    refine rThen ?_
    refine rSeq ?_
    refine rSeq ?_
    refine rRegSL ?_
    refine rSLSkip md0 hX rfl rfl rfl (by (repeat' first | exact True.intro | with_reducible assumption | (with_reducible apply And.intro) | intro _) <;> first | assumption | exact rfl | omega | exact Nat.le_of_ble_eq_true rfl | exact selF (by assumption) | exact selT (by assumption) | exact And.intro rfl rfl | exact And.intro (by assumption) rfl | exact And.intro (by omega) rfl | (simp only [inK] at *; omega) | (simp_all [sel] <;> fail) | fail) rfl rfl rfl rfl ?_
    refine rSLSkip md0 hX rfl rfl rfl (by (repeat' first | exact True.intro | with_reducible assumption | (with_reducible apply And.intro) | intro _) <;> first | assumption | exact rfl | omega | exact Nat.le_of_ble_eq_true rfl | exact selF (by assumption) | exact selT (by assumption) | exact And.intro rfl rfl | exact And.intro (by assumption) rfl | exact And.intro (by omega) rfl | (simp only [inK] at *; omega) | (simp_all [sel] <;> fail) | fail) rfl rfl rfl rfl ?_
    refine rSLSkip md0 hX rfl rfl rfl (by (repeat' first | exact True.intro | with_reducible assumption | (with_reducible apply And.intro) | intro _) <;> first | assumption | exact rfl | omega | exact Nat.le_of_ble_eq_true rfl | exact selF (by assumption) | exact selT (by assumption) | exact And.intro rfl rfl | exact And.intro (by assumption) rfl | exact And.intro (by omega) rfl | (simp only [inK] at *; omega) | (simp_all [sel] <;> fail) | fail) rfl rfl rfl rfl ?_
    refine rSLSkip md0 hX rfl rfl rfl (by (repeat' first | exact True.intro | with_reducible assumption | (with_reducible apply And.intro) | intro _) <;> first | assumption | exact rfl | omega | exact Nat.le_of_ble_eq_true rfl | exact selF (by assumption) | exact selT (by assumption) | exact And.intro rfl rfl | exact And.intro (by assumption) rfl | exact And.intro (by omega) rfl | (simp only [inK] at *; omega) | (simp_all [sel] <;> fail) | fail) rfl rfl rfl rfl ?_
    refine rSLSkip md0 hX rfl rfl rfl (by (repeat' first | exact True.intro | with_reducible assumption | (with_reducible apply And.intro) | intro _) <;> first | assumption | exact rfl | omega | exact Nat.le_of_ble_eq_true rfl | exact selF (by assumption) | exact selT (by assumption) | exact And.intro rfl rfl | exact And.intro (by assumption) rfl | exact And.intro (by omega) rfl | (simp only [inK] at *; omega) | (simp_all [sel] <;> fail) | fail) rfl rfl rfl rfl ?_
    refine rSLDone md0 hX rfl rfl rfl (by (repeat' first | exact True.intro | with_reducible assumption | (with_reducible apply And.intro) | intro _) <;> first | assumption | exact rfl | omega | exact Nat.le_of_ble_eq_true rfl | exact selF (by assumption) | exact selT (by assumption) | exact And.intro rfl rfl | exact And.intro (by assumption) rfl | exact And.intro (by omega) rfl | (simp only [inK] at *; omega) | (simp_all [sel] <;> fail) | fail) ?_
    refine rThen ?_
    refine rCondT rfl rfl (by (repeat' first | exact True.intro | with_reducible assumption | (with_reducible apply And.intro) | intro _) <;> first | assumption | exact rfl | omega | exact Nat.le_of_ble_eq_true rfl | exact selF (by assumption) | exact selT (by assumption) | exact And.intro rfl rfl | exact And.intro (by assumption) rfl | exact And.intro (by omega) rfl | (simp only [inK] at *; omega) | (simp_all [sel] <;> fail) | fail) rfl ?_
    refine rSeq ?_
    refine zReg md0 hX rfl rfl rfl ?_
    refine rThen ?_
    refine rRet ?_
    refine rThenRet ?_
    have hy := Option.some.inj hT; subst hy
    exact zEnd0 hX rfl
  · cases h
def formats_Cells (N : Nat) (a1 : Int) : Option (Int × Int) :=
  let c1 := (formats_Size N a1)
  if c1.isSome = true then
    if (0 : Int) ≤ (c1.getD default).1 ∧ (0 : Int) ≤ (c1.getD default).2.1 then
      some (((c1.getD default).1 / 16), ((c1.getD default).2.1 / 16))
    else none
  else none
def sp_formats_Cells (N : Nat) : X.Spec := fun args lk => match args with
  | [.v (.c (.int .i64 a1))] => some ⟨(formats_Cells N a1).isSome = true, .tup [.c (.int .i64 ((formats_Cells N a1).getD default).1), .c (.int .i64 ((formats_Cells N a1).getD default).2)], [], []⟩
  | _ => none
set_option maxRecDepth 100000 in
set_option maxHeartbeats 1000000 in
theorem ok_formats_Cells (N : Nat) : FnOK Try.prog gt0 50 (sp_formats_Cells N) := by
  refine fnOK_handed Try.func50 rfl (by kernel_rfl) tt_ok (ktCons (ok_formats_Size N) (ktNil)) ?_
  intro args lk r h hp
  unfold sp_formats_Cells at h
  split at h
  · rename_i a1
    cases h
    obtain ⟨x, hx⟩ := Option.isSome_iff_exists.1 hp
    simp only [hx, Option.getD_some]
    refine hand0 rfl rfl (fun w0 M ε0 hX => ?_)
    refine rCount (fun hε => ?_)
    have hT : formats_Cells N a1 = some x := hx; clear hx hp; unfold formats_Cells at hT
    refine rSeq ?_
    refine zReg md0 hX rfl rfl rfl ?_
    refine rThen ?_
    refine rSeq ?_
    let c1 := (formats_Size N a1)
    replace hT := sIf hT; obtain ⟨o1, hT⟩ := hT
    refine zReg md0 hX rfl rfl rfl ?_
    refine rThen ?_
    refine rSeq ?_
    replace hT := sIf hT; obtain ⟨⟨o1, o2⟩, hT⟩ := hT
    refine zReg md0 hX rfl rfl rfl ?_
    refine rThen ?_
    refine rRet ?_
    have hy := Option.some.inj hT; subst hy
    exact zEnd0 hX rfl
  · cases h
def planes_has (N : Nat) (a1 : Int) (a2 : Int) : Option Bool :=
  let c1 := (formats_Cells N a1)
  if c1.isSome = true then
    let x1 := (bif (decide ((0 : Int) ≤ a2)) then (decide (a2 < ((c1.getD default).1 * (c1.getD default).2))) else false)
    if ((decide ((0 : Int) ≤ a2)) = true → inK .i64 ((c1.getD default).1 * (c1.getD default).2)) then
      some x1
    else none
  else none
def sp_planes_has (N : Nat) : X.Spec := fun args lk => match args with
  | [.v (.c (.int .i64 a1)), .v (.c (.int .i64 a2))] => some ⟨(planes_has N a1 a2).isSome = true, .v (.c (.bool ((planes_has N a1 a2).getD default))), [], []⟩
  | _ => none
set_option maxRecDepth 100000 in
set_option maxHeartbeats 1000000 in
theorem ok_planes_has (N : Nat) : FnOK Try.prog gt0 67 (sp_planes_has N) := by
  refine fnOK_handed Try.func67 rfl (by kernel_rfl) tt_ok (ktCons (ok_formats_Cells N) (ktNil)) ?_
  intro args lk r h hp
  unfold sp_planes_has at h
  split at h
  · rename_i a1 a2
    cases h
    obtain ⟨x, hx⟩ := Option.isSome_iff_exists.1 hp
    simp only [hx, Option.getD_some]
    refine hand0 rfl rfl (fun w0 M ε0 hX => ?_)
    refine rCount (fun hε => ?_)
    have hT : planes_has N a1 a2 = some x := hx; clear hx hp; unfold planes_has at hT
    refine rSeq ?_
    refine zReg md0 hX rfl rfl rfl ?_
    refine rThen ?_
    refine rSeq ?_
    let c1 := (formats_Cells N a1)
    replace hT := sIf hT; obtain ⟨o1, hT⟩ := hT
    refine zReg md0 hX rfl rfl rfl ?_
    refine rThen ?_
    refine rSeq ?_
    let x1 := (bif (decide ((0 : Int) ≤ a2)) then (decide (a2 < ((c1.getD default).1 * (c1.getD default).2))) else false)
    replace hT := sIf hT; obtain ⟨o1, hT⟩ := hT
    refine rRegC md0 hX rfl rfl rfl (by (repeat' first | exact True.intro | with_reducible assumption | (with_reducible apply And.intro) | intro _) <;> first | assumption | exact o1 (by assumption) | exact rfl | omega | exact Nat.le_of_ble_eq_true rfl | exact selF (by assumption) | exact selT (by assumption) | exact And.intro rfl rfl | exact And.intro (by assumption) rfl | exact And.intro (by omega) rfl | (simp only [inK] at *; omega) | (simp_all [sel] <;> fail) | fail) ?_
    refine rThen ?_
    refine rRet ?_
    have hy := Option.some.inj hT; subst hy
    exact zEnd0 hX rfl
  · cases h
def planes_place (N : Nat) (a1 : Int) (a2 : Int) (a3 : Int) : Option (Int × Int × Int) :=
  let c1 := (formats_Cells N a1)
  if c1.isSome = true then
    if (0 : Int) ≤ a2 ∧ (0 : Int) < (c1.getD default).1 ∧ inK .i64 ((a2 % (c1.getD default).1) * 8) ∧ inK .i64 ((a2 / (c1.getD default).1) * 8) then
      bif (decide (a3 < 4)) then
        let c2 := (formats_Plane N a1 0)
        if c2.isSome = true then
          let x1 := ((((((2 : Int) * ((a2 / (c1.getD default).1) * 8)) + ((a3 / 2) * 8)) * (c2.getD default).1) + ((2 : Int) * ((a2 % (c1.getD default).1) * 8))) + ((a3 % 2) * 8))
          if inK .i64 ((2 : Int) * ((a2 / (c1.getD default).1) * 8)) ∧ (0 : Int) ≤ a3 ∧ inK .i64 ((a3 / 2) * 8) ∧ inK .i64 (((2 : Int) * ((a2 / (c1.getD default).1) * 8)) + ((a3 / 2) * 8)) ∧ inK .i64 ((((2 : Int) * ((a2 / (c1.getD default).1) * 8)) + ((a3 / 2) * 8)) * (c2.getD default).1) ∧ inK .i64 ((2 : Int) * ((a2 % (c1.getD default).1) * 8)) ∧ inK .i64 (((((2 : Int) * ((a2 / (c1.getD default).1) * 8)) + ((a3 / 2) * 8)) * (c2.getD default).1) + ((2 : Int) * ((a2 % (c1.getD default).1) * 8))) ∧ inK .i64 ((a3 % 2) * 8) ∧ inK .i64 ((((((2 : Int) * ((a2 / (c1.getD default).1) * 8)) + ((a3 / 2) * 8)) * (c2.getD default).1) + ((2 : Int) * ((a2 % (c1.getD default).1) * 8))) + ((a3 % 2) * 8)) then
            some (0, x1, (c2.getD default).1)
          else none
        else none
      else
        if inK .i64 (a3 - 4) ∧ inK .i64 ((a3 - 4) + 1) then
          let c3 := (formats_Plane N a1 ((a3 - 4) + 1))
          if c3.isSome = true then
            let x3 := ((((a2 / (c1.getD default).1) * 8) * (c3.getD default).1) + ((a2 % (c1.getD default).1) * 8))
            if inK .i64 (((a2 / (c1.getD default).1) * 8) * (c3.getD default).1) ∧ inK .i64 ((((a2 / (c1.getD default).1) * 8) * (c3.getD default).1) + ((a2 % (c1.getD default).1) * 8)) then
              some (((a3 - 4) + 1), x3, (c3.getD default).1)
            else none
          else none
        else none
    else none
  else none
def sp_planes_place (N : Nat) : X.Spec := fun args lk => match args with
  | [.v (.c (.int .i64 a1)), .v (.c (.int .i64 a2)), .v (.c (.int .i64 a3))] => some ⟨(planes_place N a1 a2 a3).isSome = true, .tup [.c (.int .i64 ((planes_place N a1 a2 a3).getD default).1), .c (.int .i64 ((planes_place N a1 a2 a3).getD default).2.1), .c (.int .i64 ((planes_place N a1 a2 a3).getD default).2.2)], [], []⟩
  | _ => none
set_option maxRecDepth 100000 in
set_option maxHeartbeats 1000000 in
theorem ok_planes_place (N : Nat) : FnOK Try.prog gt0 68 (sp_planes_place N) := by
  refine fnOK_handed Try.func68 rfl (by kernel_rfl) tt_ok (ktCons (ok_formats_Plane N) (ktCons (ok_formats_Cells N) (ktNil))) ?_
  intro args lk r h hp
  unfold sp_planes_place at h
  split at h
  · rename_i a1 a2 a3
    cases h
    obtain ⟨x, hx⟩ := Option.isSome_iff_exists.1 hp
    simp only [hx, Option.getD_some]
    refine hand0 rfl rfl (fun w0 M ε0 hX => ?_)
    refine rCount (fun hε => ?_)
    have hT : planes_place N a1 a2 a3 = some x := hx; clear hx hp; unfold planes_place at hT
    refine rSeq ?_
    refine zReg md0 hX rfl rfl rfl ?_
    refine rThen ?_
    refine rSeq ?_
    let c1 := (formats_Cells N a1)
    replace hT := sIf hT; obtain ⟨o1, hT⟩ := hT
    refine zReg md0 hX rfl rfl rfl ?_
    refine rThen ?_
    refine rSeq ?_
    replace hT := sIf hT; obtain ⟨⟨o1, o2, o3, o4⟩, hT⟩ := hT
    refine zDraw md0 0 [] hX mixed rfl rfl rfl rfl rfl ?_
    refine rThen ?_
    refine rSeq ?_
    refine rSeq ?_
    refine zReg md0 hX rfl rfl rfl ?_
    refine rThen ?_
    refine zCond rfl rfl (fun hc => ?_) (fun hc => ?_)
    · replace hT := sT hc hT
      refine rSeq ?_
      let c2 := (formats_Plane N a1 0)
      replace hT := sIf hT; obtain ⟨o1, hT⟩ := hT
      refine zReg md0 hX rfl rfl rfl ?_
      refine rThen ?_
      refine rSeq ?_
      let x1 := ((((((2 : Int) * ((a2 / (c1.getD default).1) * 8)) + ((a3 / 2) * 8)) * (c2.getD default).1) + ((2 : Int) * ((a2 % (c1.getD default).1) * 8))) + ((a3 % 2) * 8))
      replace hT := sIf hT; obtain ⟨⟨o1, o2, o3, o4, o5, o6, o7, o8, o9⟩, hT⟩ := hT
      refine zReg md0 hX rfl rfl rfl ?_
      refine rThen ?_
      refine rRet ?_
      refine rThenRet ?_
      have hy := Option.some.inj hT; subst hy
      exact zEnd0 hX rfl
    · replace hT := sF hc hT
      refine rSkip ?_
      refine rThen ?_
      refine rSeq ?_
      replace hT := sIf hT; obtain ⟨⟨o1, o2⟩, hT⟩ := hT
      refine zReg md0 hX rfl rfl rfl ?_
      refine rThen ?_
      refine rSeq ?_
      let c3 := (formats_Plane N a1 ((a3 - 4) + 1))
      replace hT := sIf hT; obtain ⟨o1, hT⟩ := hT
      refine zReg md0 hX rfl rfl rfl ?_
      refine rThen ?_
      refine rSeq ?_
      let x3 := ((((a2 / (c1.getD default).1) * 8) * (c3.getD default).1) + ((a2 % (c1.getD default).1) * 8))
      replace hT := sIf hT; obtain ⟨⟨o1, o2⟩, hT⟩ := hT
      refine zReg md0 hX rfl rfl rfl ?_
      refine rThen ?_
      refine rRet ?_
      have hy := Option.some.inj hT; subst hy
      exact zEnd0 hX rfl
  · cases h
def overspill_planes_Canvas_Lay_v1 (N : Nat) (a1 : Int) (a2 : (List Int)) (a3 : Int) : Option Int :=
  let c1 := (planes_has N a3 a1)
  if ((!false) = true → c1.isSome = true) then
    bif (!(c1.getD default)) then
      some 1
    else
      none
  else none
def sp_overspill_planes_Canvas_Lay_v1 (N : Nat) : X.Spec := fun args lk => match args with
  | [.v (.c (.ptr i0 0 0 0 0 0)), .v (.c (.int .i64 a1)), .v (.agg [.ints 384 .i64 a2])] => (match lk i0 with
    | some (.mem _ _ _ (.flat [.cs [.int .i64 a3, .val (.slice none 0 0), .val (.slice none 0 0), .val (.slice none 0 0)]])) => some ⟨(overspill_planes_Canvas_Lay_v1 N a1 a2 a3).isSome = true, .v (.c (.int .i64 ((overspill_planes_Canvas_Lay_v1 N a1 a2 a3).getD default))), [], []⟩
    | _ => none)
  | _ => none
set_option maxRecDepth 100000 in
set_option maxHeartbeats 1000000 in
theorem ok_overspill_planes_Canvas_Lay_v1 (N : Nat) : FnOK Try.prog gt0 28 (sp_overspill_planes_Canvas_Lay_v1 N) := by
  refine fnOK_handed Try.func28 rfl (by kernel_rfl) ttC_ok (ktCons (ok_planes_has N) (ktNil)) ?_
  intro args lk r h hp
  unfold sp_overspill_planes_Canvas_Lay_v1 at h
  split at h
  · rename_i i0 a1 a2
    split at h
    · rename_i _ _ _ a3 hl0
      change (List Int) at a2
      cases h
      obtain ⟨x, hx⟩ := Option.isSome_iff_exists.1 hp
      simp only [hx, Option.getD_some]
      refine handL [i0] 1 [(0, .mem false 53 none (.flat [.cs [.int .i64 a3, .val (.slice none 0 0), .val (.slice none 0 0), .val (.slice none 0 0)]]))] [.v (.c (.ptr 0 0 0 0 0 0)), .v (.c (.int .i64 a1)), .v (.agg [.ints 384 .i64 a2])] rfl rfl rfl ⟨isSome_of hl0, trivial⟩ ⟨⟨rfl, (by repeat' first | exact True.intro | exact rfl | exact ⟨_, rfl, rfl⟩ | apply And.intro | exact Or.inl rfl), _, hl0, sub_ro⟩, trivial⟩ rfl (fun w0 M ε0 hX => ?_)
      refine rCount (fun hε => ?_)
      have hT : overspill_planes_Canvas_Lay_v1 N a1 a2 a3 = some x := hx; clear hx hp; unfold overspill_planes_Canvas_Lay_v1 at hT
      refine rSeq ?_
      refine zReg md0 hX rfl rfl rfl ?_
      refine rThen ?_
      refine rSeq ?_
      refine rSeq ?_
      let c1 := (planes_has N a3 a1)
      replace hT := sIf hT; obtain ⟨o1, hT⟩ := hT
      refine rRegC md0 hX rfl rfl rfl (by (repeat' first | exact True.intro | with_reducible assumption | (with_reducible apply And.intro) | intro _) <;> first | assumption | exact o1 (by assumption) | exact rfl | omega | exact Nat.le_of_ble_eq_true rfl | exact selF (by assumption) | exact selT (by assumption) | exact And.intro rfl rfl | exact And.intro (by assumption) rfl | exact And.intro (by omega) rfl | (simp only [inK] at *; omega) | (simp_all [sel] <;> fail) | fail) ?_
      refine rThen ?_
      refine zCond rfl rfl (fun hc => ?_) (fun hc => ?_)
      · replace hT := sT hc hT
        refine rSeq ?_
        refine zReg md0 hX rfl rfl rfl ?_
        refine rThen ?_
        refine rRet ?_
        refine rThenRet ?_
        have hy := Option.some.inj hT; subst hy
        exact zEnd0 hX rfl
      · replace hT := sF hc hT
        refine rSkip ?_
        refine rThen ?_
        refine rSeq ?_
        refine rSeq ?_
        refine zReg md0 hX rfl rfl rfl ?_
        refine rThen ?_
        refine rBlock ?_
        cases hT
    · cases h
  · cases h
def overspill_planes_Canvas_Frame (N : Nat) : Option Int :=
  some 0
def sp_overspill_planes_Canvas_Frame (N : Nat) : X.Spec := fun args lk => match args with
  | [.v (.c (.val (.pointer none)))] => some ⟨(overspill_planes_Canvas_Frame N).isSome = true, .v (.agg [.cs [.int .i64 ((overspill_planes_Canvas_Frame N).getD default), .val (.slice none 0 0), .val (.slice none 0 0), .val (.slice none 0 0)]]), [], []⟩
  | _ => none
set_option maxRecDepth 100000 in
set_option maxHeartbeats 1000000 in
theorem ok_overspill_planes_Canvas_Frame (N : Nat) : FnOK Try.prog gt0 29 (sp_overspill_planes_Canvas_Frame N) := by
  refine fnOK_handed Try.func29 rfl (by kernel_rfl) ttC_ok (ktNil) ?_
  intro args lk r h hp
  unfold sp_overspill_planes_Canvas_Frame at h
  split at h
  · skip
    cases h
    obtain ⟨x, hx⟩ := Option.isSome_iff_exists.1 hp
    simp only [hx, Option.getD_some]
    refine hand0 rfl rfl (fun w0 M ε0 hX => ?_)
    refine rCount (fun hε => ?_)
    have hT : overspill_planes_Canvas_Frame N = some x := hx; clear hx hp; unfold overspill_planes_Canvas_Frame at hT
    refine rSeq ?_
    refine zReg md0 hX rfl rfl rfl ?_
    refine rThen ?_
    refine rSeq ?_
    refine rSeq ?_
    refine zReg md0 hX rfl rfl rfl ?_
    refine rThen ?_
    refine rCondT rfl rfl (by (repeat' first | exact True.intro | with_reducible assumption | (with_reducible apply And.intro) | intro _) <;> first | assumption | exact rfl | omega | exact Nat.le_of_ble_eq_true rfl | exact selF (by assumption) | exact selT (by assumption) | exact And.intro rfl rfl | exact And.intro (by assumption) rfl | exact And.intro (by omega) rfl | (simp only [inK] at *; omega) | (simp_all [sel] <;> fail) | fail) rfl ?_
    refine rSeq ?_
    refine zReg md0 hX rfl rfl rfl ?_
    refine rThen ?_
    refine rRet ?_
    refine rThenRet ?_
    have hy := Option.some.inj hT; subst hy
    exact zEnd0 hX rfl
  · cases h
def bytes_Equal (N : Nat) : Option Bool :=
  some (decide (ByteArray.toList ⟨#[]⟩ = ByteArray.toList ⟨#[]⟩))
def sp_bytes_Equal (N : Nat) : X.Spec := fun args lk => match args with
  | [.v (.c (.val (.slice none 0 0))), .v (.c (.val (.slice none 0 0)))] => some ⟨(bytes_Equal N).isSome = true, .v (.c (.bool ((bytes_Equal N).getD default))), [], []⟩
  | _ => none
set_option maxRecDepth 100000 in
set_option maxHeartbeats 1000000 in
theorem ok_bytes_Equal (N : Nat) : FnOK Try.prog gt0 63 (sp_bytes_Equal N) := by
  refine fnOK_handed Try.func63 rfl (by kernel_rfl) tt_ok (ktNil) ?_
  intro args lk r h hp
  unfold sp_bytes_Equal at h
  split at h
  · skip
    cases h
    obtain ⟨x, hx⟩ := Option.isSome_iff_exists.1 hp
    simp only [hx, Option.getD_some]
    refine hand0 rfl rfl (fun w0 M ε0 hX => ?_)
    refine rCount (fun hε => ?_)
    have hT : bytes_Equal N = some x := hx; clear hx hp; unfold bytes_Equal at hT
    refine rSeq ?_
    refine zReg md0 hX rfl rfl rfl ?_
    refine rThen ?_
    refine rSeq ?_
    refine zReg md0 hX rfl rfl rfl ?_
    refine rThen ?_
    refine rRet ?_
    have hy := Option.some.inj hT; subst hy
    exact zEnd0 hX rfl
  · cases h
def planes_Same_b1 (N : Nat) (s1 : (Bool × Int)) : Option ((Bool × Int) ⊕ Bool) :=
  bif (decide (s1.2 < 3)) then
    bif (decide (s1.2 = 0)) then
      let c1 := (bytes_Equal N)
      if (s1.1 = true → c1.isSome = true) then
        some (.inl ((bif s1.1 then (c1.getD default) else false), 1))
      else none
    else
      bif (decide (s1.2 = 1)) then
        let c2 := (bytes_Equal N)
        if (s1.1 = true → c2.isSome = true) then
          some (.inl ((bif s1.1 then (c2.getD default) else false), 2))
        else none
      else
        bif (decide (s1.2 = 2)) then
          let c3 := (bytes_Equal N)
          if (s1.1 = true → c3.isSome = true) then
            some (.inl ((bif s1.1 then (c3.getD default) else false), 3))
          else none
        else
          none
  else
    some (.inr s1.1)
def planes_Same (N : Nat) (a1 : Int) (a2 : Int) : Option Bool :=
  (iter (planes_Same_b1 N) N ((decide (a1 = a2)), 0)).bind fun v1 =>
    some v1
def sp_planes_Same (N : Nat) : X.Spec := fun args lk => match args with
  | [.v (.agg [.cs [.int .i64 a1, .val (.slice none 0 0), .val (.slice none 0 0), .val (.slice none 0 0)]]), .v (.agg [.cs [.int .i64 a2, .val (.slice none 0 0), .val (.slice none 0 0), .val (.slice none 0 0)]])] => some ⟨(planes_Same N a1 a2).isSome = true, .v (.c (.bool ((planes_Same N a1 a2).getD default))), [], []⟩
  | _ => none
set_option maxRecDepth 100000 in
set_option maxHeartbeats 1000000 in
theorem ok_planes_Same (N : Nat) : FnOK Try.prog gt0 21 (sp_planes_Same N) := by
  refine fnOK_handed Try.func21 rfl (by kernel_rfl) tt_ok (ktCons (ok_bytes_Equal N) (ktNil)) ?_
  intro args lk r h hp
  unfold sp_planes_Same at h
  split at h
  · rename_i a1 a2
    cases h
    obtain ⟨x, hx⟩ := Option.isSome_iff_exists.1 hp
    simp only [hx, Option.getD_some]
    refine hand0 rfl rfl (fun w0 M ε0 hX => ?_)
    refine rCount (fun hε => ?_)
    have hT : planes_Same N a1 a2 = some x := hx; clear hx hp; unfold planes_Same at hT
    refine rSeq ?_
    refine zReg md0 hX rfl rfl rfl ?_
    refine rThen ?_
    refine rSeq ?_
    refine zReg md0 hX rfl rfl rfl ?_
    refine rThen ?_
    refine rSeq ?_
    refine rSeq ?_
    refine zReg md0 hX rfl rfl rfl ?_
    refine rThen ?_
    refine rBlock ?_
    replace hT := sBind hT; obtain ⟨w1, hl, hT⟩ := hT
    refine rJoinA (fun v1 => v1 = w1) (fun v1 => ⟨[(4, .v (.c (.bool false))), (5, .v (.c (.bool v1)))], [], 2⟩) (.exit 0) (fun v1 hv => ?_) (fun hxs10 => ?_)
    · subst hv; clear hl
      refine rInHit ?_
      refine rThen ?_
      refine rSeq ?_
      refine zReg md0 hX rfl rfl rfl ?_
      refine rThen ?_
      refine rRet ?_
      have hy := Option.some.inj hT; subst hy
      exact zEnd0 hX rfl
    refine rLoopM (planes_Same_b1 N) (fun s1 => ⟨[(2, .v (.c (.ptr 0 0 0 0 0 0))), (3, .v (.c (.ptr 1 0 0 0 0 0))), (4, .v (.c (.bool false))), (5, .v (.c (.bool s1.1))), (12, .v (.c (.int .i64 s1.2)))], [(0, .mem true 25 none (.flat [.cs [.int .i64 a1, .val (.slice none 0 0), .val (.slice none 0 0), .val (.slice none 0 0)]])), (1, .mem true 25 none (.flat [.cs [.int .i64 a2, .val (.slice none 0 0), .val (.slice none 0 0), .val (.slice none 0 0)]]))], 2⟩) hl (To.mk' [] 0 hε rfl (by repeat' first | exact True.intro | exact rfl | apply And.intro) (by repeat' first | exact True.intro | exact rfl | apply And.intro)) (fun s1 zs1 NNs1 hz hnexts1 houts1 => ?_)
    clear hl hT
    have hT := hz; clear hz
    refine rSeq ?_
    refine zReg md0 hX rfl rfl rfl ?_
    refine rThen ?_
    refine rSeq ?_
    refine zCond rfl rfl (fun hc => ?_) (fun hc => ?_)
    · replace hT := sT hc hT
      refine rSkip ?_
      refine rThen ?_
      refine rSeq ?_
      refine rBlock ?_
      refine rSeq ?_
      refine zReg md0 hX rfl rfl rfl ?_
      refine rThen ?_
      refine rToW (T := ⟨[(2, .v (.c (.ptr 0 0 0 0 0 0))), (3, .v (.c (.ptr 1 0 0 0 0 0))), (4, .v (.c (.bool false))), (5, .v (.c (.bool s1.1))), (6, .v (.c (.int .i64 s1.2))), (12, .v (.c (.int .i64 s1.2))), (13, .v (.c (.bool (decide (s1.2 < 3))))), (14, .v (.c (.int .i64 s1.2)))], [(0, .mem true 25 none (.flat [.cs [.int .i64 a1, .val (.slice none 0 0), .val (.slice none 0 0), .val (.slice none 0 0)]])), (1, .mem true 25 none (.flat [.cs [.int .i64 a2, .val (.slice none 0 0), .val (.slice none 0 0), .val (.slice none 0 0)]]))], 2⟩) (To.mk' [] 0 hε rfl (by repeat' first | exact True.intro | exact rfl | apply And.intro) (by repeat' first | exact True.intro | exact rfl | apply And.intro)) ?_
      cases hs0 : (decide (s1.2 = 0))
      · replace hT := sF hs0 hT
        cases hs1 : (decide (s1.2 = 1))
        · replace hT := sF hs1 hT
          cases hs2 : (decide (s1.2 = 2))
          · replace hT := sF hs2 hT
            cases hT
          · replace hT := sT hs2 hT
            rw [of_decide_eq_true hs2]
            let c3 := (bytes_Equal N)
            replace hT := sIf hT; obtain ⟨o1, hT⟩ := hT
            refine rDrawM md0 1 [12] hX mixed rfl rfl rfl rfl rfl (by (repeat' first | exact True.intro | with_reducible assumption | (with_reducible apply And.intro) | intro _) <;> first | assumption | exact o1 (by assumption) | exact rfl | omega | exact Nat.le_of_ble_eq_true rfl | exact selF (by assumption) | exact selT (by assumption) | exact And.intro rfl rfl | exact And.intro (by assumption) rfl | exact And.intro (by omega) rfl | (simp only [inK] at *; omega) | (simp_all [sel] <;> fail) | fail) ?_
            refine rInNormal ?_
            refine rThen ?_
            refine zReg md0 hX rfl rfl rfl ?_
            exact hnexts1 _ (Option.some.inj hT).symm _ (To.mk' [] 0 hε rfl (by repeat' first | exact True.intro | exact rfl | apply And.intro) (by repeat' first | exact True.intro | exact rfl | apply And.intro))
        · replace hT := sT hs1 hT
          rw [of_decide_eq_true hs1]
          let c2 := (bytes_Equal N)
          replace hT := sIf hT; obtain ⟨o1, hT⟩ := hT
          refine rDrawM md0 1 [12] hX mixed rfl rfl rfl rfl rfl (by (repeat' first | exact True.intro | with_reducible assumption | (with_reducible apply And.intro) | intro _) <;> first | assumption | exact o1 (by assumption) | exact rfl | omega | exact Nat.le_of_ble_eq_true rfl | exact selF (by assumption) | exact selT (by assumption) | exact And.intro rfl rfl | exact And.intro (by assumption) rfl | exact And.intro (by omega) rfl | (simp only [inK] at *; omega) | (simp_all [sel] <;> fail) | fail) ?_
          refine rInNormal ?_
          refine rThen ?_
          refine zReg md0 hX rfl rfl rfl ?_
          exact hnexts1 _ (Option.some.inj hT).symm _ (To.mk' [] 0 hε rfl (by repeat' first | exact True.intro | exact rfl | apply And.intro) (by repeat' first | exact True.intro | exact rfl | apply And.intro))
      · replace hT := sT hs0 hT
        rw [of_decide_eq_true hs0]
        let c1 := (bytes_Equal N)
        replace hT := sIf hT; obtain ⟨o1, hT⟩ := hT
        refine rDrawM md0 1 [12] hX mixed rfl rfl rfl rfl rfl (by (repeat' first | exact True.intro | with_reducible assumption | (with_reducible apply And.intro) | intro _) <;> first | assumption | exact o1 (by assumption) | exact rfl | omega | exact Nat.le_of_ble_eq_true rfl | exact selF (by assumption) | exact selT (by assumption) | exact And.intro rfl rfl | exact And.intro (by assumption) rfl | exact And.intro (by omega) rfl | (simp only [inK] at *; omega) | (simp_all [sel] <;> fail) | fail) ?_
        refine rInNormal ?_
        refine rThen ?_
        refine zReg md0 hX rfl rfl rfl ?_
        exact hnexts1 _ (Option.some.inj hT).symm _ (To.mk' [] 0 hε rfl (by repeat' first | exact True.intro | exact rfl | apply And.intro) (by repeat' first | exact True.intro | exact rfl | apply And.intro))
    · replace hT := sF hc hT
      refine rExit ?_
      refine rThenExit ?_
      refine rThenExit ?_
      exact zTo [] 0 hε (hxs10 _ (houts1 _ (Option.some.inj hT).symm))
  · cases h
def overspill_planes_Canvas_Frame_v1 (N : Nat) (a1 : Int) : Option (Int × (List (List Int))) :=
  if 0 + (min 0 0) ≤ 0 then
    if 0 + (min 0 0) ≤ 0 then
      if 0 + (min 0 0) ≤ 0 then
        if 0 = (layL (List.replicate 0 0) 0 (([].take 0).take (min 0 0)) (min 0 0)).length then
          some (a1, [(layL (List.replicate 0 0) 0 (([].take 0).take (min 0 0)) (min 0 0)), (layL (List.replicate 0 0) 0 (([].take 0).take (min 0 0)) (min 0 0)), (layL (List.replicate 0 0) 0 (([].take 0).take (min 0 0)) (min 0 0))])
        else none
      else none
    else none
  else none
def sp_overspill_planes_Canvas_Frame_v1 (N : Nat) : X.Spec := fun args lk => match args with
  | [.v (.c (.ptr i0 0 0 0 0 0))] => (match lk i0 with
    | some (.mem _ _ _ (.flat [.cs [.int .i64 a1, .val (.slice none 0 0), .val (.slice none 0 0), .val (.slice none 0 0)]])) => some ⟨(overspill_planes_Canvas_Frame_v1 N a1).isSome = true, .v (.agg [.cs [.int .i64 ((overspill_planes_Canvas_Frame_v1 N a1).getD default).1], .fzs 3 (.int .u8) ((overspill_planes_Canvas_Frame_v1 N a1).getD default).2]), [], []⟩
    | _ => none)
  | _ => none
set_option maxRecDepth 100000 in
set_option maxHeartbeats 1000000 in
theorem ok_overspill_planes_Canvas_Frame_v1 (N : Nat) : FnOK Try.prog gt0 29 (sp_overspill_planes_Canvas_Frame_v1 N) := by
  refine fnOK_handed Try.func29 rfl (by kernel_rfl) ttC_ok (ktNil) ?_
  intro args lk r h hp
  unfold sp_overspill_planes_Canvas_Frame_v1 at h
  split at h
  · rename_i i0
    split at h
    · rename_i _ _ _ a1 hl0
      cases h
      obtain ⟨x, hx⟩ := Option.isSome_iff_exists.1 hp
      simp only [hx, Option.getD_some]
      refine handL [i0] 1 [(0, .mem false 53 none (.flat [.cs [.int .i64 a1, .val (.slice none 0 0), .val (.slice none 0 0), .val (.slice none 0 0)]]))] [.v (.c (.ptr 0 0 0 0 0 0))] rfl rfl rfl ⟨isSome_of hl0, trivial⟩ ⟨⟨rfl, (by repeat' first | exact True.intro | exact rfl | exact ⟨_, rfl, rfl⟩ | apply And.intro | exact Or.inl rfl), _, hl0, sub_ro⟩, trivial⟩ rfl (fun w0 M ε0 hX => ?_)
      refine rCount (fun hε => ?_)
      have hT : overspill_planes_Canvas_Frame_v1 N a1 = some x := hx; clear hx hp; unfold overspill_planes_Canvas_Frame_v1 at hT
      refine rSeq ?_
      refine zReg md0 hX rfl rfl rfl ?_
      refine rThen ?_
      refine rSeq ?_
      refine rSeq ?_
      refine zReg md0 hX rfl rfl rfl ?_
      refine rThen ?_
      refine rCondF rfl rfl (by (repeat' first | exact True.intro | with_reducible assumption | (with_reducible apply And.intro) | intro _) <;> first | assumption | exact rfl | omega | exact Nat.le_of_ble_eq_true rfl | exact selF (by assumption) | exact selT (by assumption) | exact And.intro rfl rfl | exact And.intro (by assumption) rfl | exact And.intro (by omega) rfl | (simp only [inK] at *; omega) | (simp_all [sel] <;> fail) | fail) rfl ?_
      refine rSkip ?_
      refine rThen ?_
      refine rSeq ?_
      refine zReg md0 hX rfl rfl rfl ?_
      refine rThen ?_
      refine rSeq ?_
      refine rSeq ?_
      refine zReg md0 hX rfl rfl rfl ?_
      refine rThen ?_
      refine rBlock ?_
      refine rRounds 24 ?_
      refine rSeq ?_
      refine zReg md0 hX rfl rfl rfl ?_
      refine rThen ?_
      refine rSeq ?_
      refine rCondT rfl rfl (by (repeat' first | exact True.intro | with_reducible assumption | (with_reducible apply And.intro) | intro _) <;> first | assumption | exact rfl | omega | exact Nat.le_of_ble_eq_true rfl | exact selF (by assumption) | exact selT (by assumption) | exact And.intro rfl rfl | exact And.intro (by assumption) rfl | exact And.intro (by omega) rfl | (simp only [inK] at *; omega) | (simp_all [sel] <;> fail) | fail) rfl ?_
      refine rSkip ?_
      refine rThen ?_
      refine rSeq ?_
      refine rBlock ?_
      refine rSeq ?_
      refine zReg md0 hX rfl rfl rfl ?_
      refine rThen ?_
      refine rSeq ?_
      refine zReg md0 hX rfl rfl rfl ?_
      refine rThen ?_
      refine rNil 5 1 (.flat [.ints 0 .u8 []]) [(2, .v (.c (.ptr 1 0 0 0 0 0))), (3, .v (.c (.ptr 2 0 0 0 0 0))), (4, .v (.c (.int .i64 0))), (5, .v (.c (.sl 4 0 0 1))), (19, .v (.agg [.cs [.val (.slice none 0 0), .val (.slice none 0 0), .val (.slice none 0 0)]])), (20, .v (.c (.int .i64 0))), (21, .v (.c (.bool true))), (22, .v (.c (.int .i64 0))), (23, .v (.c (.val (.slice none 0 0)))), (24, .v (.c (.int .i64 0))), (25, .v (.c (.val (.slice none 0 0)))), (26, .v (.c (.int .i64 0))), (27, .v (.c (.sl 3 0 0 1))), (28, .v (.c (.ptr 2 0 0 1 0 0))), (29, .v (.c (.ptr 2 0 0 1 1 0)))] [(0, .mem false 53 none (.flat [.cs [.int .i64 a1, .val (.slice none 0 0), .val (.slice none 0 0), .val (.slice none 0 0)]])), (1, .mem true 25 none (.flat [.cs [.int .i64 0, .val (.slice none 0 0), .val (.slice none 0 0), .val (.slice none 0 0)]])), (2, .mem true 25 none (.flat [.cs [.int .i64 a1, .sl 3 0 0 1, .val (.slice none 0 0), .val (.slice none 0 0)]])), (3, .mem true 5 (some 1) (.flat [.ints 0 .u8 (List.replicate 0 0)]))] (nil_ints _) (by (repeat' first | exact True.intro | exact rfl | apply And.intro) <;> first | assumption | rfl) (by (repeat' first | exact True.intro | exact rfl | apply And.intro) <;> first | assumption | rfl) ?_
      replace hT := sIf hT; obtain ⟨o1, hT⟩ := hT
      refine zReg md0 hX rfl rfl rfl ?_
      refine rInNormal ?_
      refine rThen ?_
      refine zReg md0 hX rfl rfl rfl ?_
      refine rRound ?_
      refine rSeq ?_
      refine zReg md0 hX rfl rfl rfl ?_
      refine rThen ?_
      refine rSeq ?_
      refine rCondT rfl rfl (by (repeat' first | exact True.intro | with_reducible assumption | (with_reducible apply And.intro) | intro _) <;> first | assumption | exact rfl | omega | exact Nat.le_of_ble_eq_true rfl | exact selF (by assumption) | exact selT (by assumption) | exact And.intro rfl rfl | exact And.intro (by assumption) rfl | exact And.intro (by omega) rfl | (simp only [inK] at *; omega) | (simp_all [sel] <;> fail) | fail) rfl ?_
      refine rSkip ?_
      refine rThen ?_
      refine rSeq ?_
      refine rBlock ?_
      refine rSeq ?_
      refine zReg md0 hX rfl rfl rfl ?_
      refine rThen ?_
      refine rSeq ?_
      refine zReg md0 hX rfl rfl rfl ?_
      refine rThen ?_
      refine rNil 5 1 (.flat [.ints 0 .u8 []]) [(2, .v (.c (.ptr 1 0 0 0 0 0))), (3, .v (.c (.ptr 2 0 0 0 0 0))), (4, .v (.c (.int .i64 1))), (5, .v (.c (.sl 6 0 0 1))), (19, .v (.agg [.cs [.val (.slice none 0 0), .val (.slice none 0 0), .val (.slice none 0 0)]])), (20, .v (.c (.int .i64 1))), (21, .v (.c (.bool true))), (22, .v (.c (.int .i64 1))), (23, .v (.c (.val (.slice none 0 0)))), (24, .v (.c (.int .i64 1))), (25, .v (.c (.val (.slice none 0 0)))), (26, .v (.c (.int .i64 0))), (27, .v (.c (.sl 5 0 0 1))), (28, .v (.c (.ptr 2 0 0 1 0 0))), (29, .v (.c (.ptr 2 0 0 1 1 1))), (30, .v (.c (.int .i64 0))), (31, .v (.c (.ptr 2 0 0 1 0 0))), (32, .v (.c (.ptr 2 0 0 1 1 0))), (33, .v (.c (.sl 3 0 0 1))), (34, .v (.c (.sl 4 0 0 1))), (36, .v (.c (.int .i64 1)))] [(0, .mem false 53 none (.flat [.cs [.int .i64 a1, .val (.slice none 0 0), .val (.slice none 0 0), .val (.slice none 0 0)]])), (1, .mem true 25 none (.flat [.cs [.int .i64 0, .val (.slice none 0 0), .val (.slice none 0 0), .val (.slice none 0 0)]])), (2, .mem true 25 none (.flat [.cs [.int .i64 a1, .sl 3 0 0 1, .sl 5 0 0 1, .val (.slice none 0 0)]])), (3, .mem true 5 (some 1) (.flat [.ints 0 .u8 (layL (List.replicate 0 0) 0 (([].take 0).take (min 0 0)) (min 0 0))])), (4, .mem true 5 (some 1) (.flat [.ints 0 .u8 []])), (5, .mem true 5 (some 1) (.flat [.ints 0 .u8 (List.replicate 0 0)]))] (nil_ints _) (by (repeat' first | exact True.intro | exact rfl | apply And.intro) <;> first | assumption | rfl) (by (repeat' first | exact True.intro | exact rfl | apply And.intro) <;> first | assumption | rfl) ?_
      replace hT := sIf hT; obtain ⟨o1, hT⟩ := hT
      refine zReg md0 hX rfl rfl rfl ?_
      refine rInNormal ?_
      refine rThen ?_
      refine zReg md0 hX rfl rfl rfl ?_
      refine rRound ?_
      refine rSeq ?_
      refine zReg md0 hX rfl rfl rfl ?_
      refine rThen ?_
      refine rSeq ?_
      refine rCondT rfl rfl (by (repeat' first | exact True.intro | with_reducible assumption | (with_reducible apply And.intro) | intro _) <;> first | assumption | exact rfl | omega | exact Nat.le_of_ble_eq_true rfl | exact selF (by assumption) | exact selT (by assumption) | exact And.intro rfl rfl | exact And.intro (by assumption) rfl | exact And.intro (by omega) rfl | (simp only [inK] at *; omega) | (simp_all [sel] <;> fail) | fail) rfl ?_
      refine rSkip ?_
      refine rThen ?_
      refine rSeq ?_
      refine rBlock ?_
      refine rSeq ?_
      refine zReg md0 hX rfl rfl rfl ?_
      refine rThen ?_
      refine rSeq ?_
      refine zReg md0 hX rfl rfl rfl ?_
      refine rThen ?_
      refine rNil 5 1 (.flat [.ints 0 .u8 []]) [(2, .v (.c (.ptr 1 0 0 0 0 0))), (3, .v (.c (.ptr 2 0 0 0 0 0))), (4, .v (.c (.int .i64 2))), (5, .v (.c (.sl 8 0 0 1))), (19, .v (.agg [.cs [.val (.slice none 0 0), .val (.slice none 0 0), .val (.slice none 0 0)]])), (20, .v (.c (.int .i64 2))), (21, .v (.c (.bool true))), (22, .v (.c (.int .i64 2))), (23, .v (.c (.val (.slice none 0 0)))), (24, .v (.c (.int .i64 2))), (25, .v (.c (.val (.slice none 0 0)))), (26, .v (.c (.int .i64 0))), (27, .v (.c (.sl 7 0 0 1))), (28, .v (.c (.ptr 2 0 0 1 0 0))), (29, .v (.c (.ptr 2 0 0 1 1 2))), (30, .v (.c (.int .i64 1))), (31, .v (.c (.ptr 2 0 0 1 0 0))), (32, .v (.c (.ptr 2 0 0 1 1 1))), (33, .v (.c (.sl 5 0 0 1))), (34, .v (.c (.sl 6 0 0 1))), (36, .v (.c (.int .i64 2)))] [(0, .mem false 53 none (.flat [.cs [.int .i64 a1, .val (.slice none 0 0), .val (.slice none 0 0), .val (.slice none 0 0)]])), (1, .mem true 25 none (.flat [.cs [.int .i64 0, .val (.slice none 0 0), .val (.slice none 0 0), .val (.slice none 0 0)]])), (2, .mem true 25 none (.flat [.cs [.int .i64 a1, .sl 3 0 0 1, .sl 5 0 0 1, .sl 7 0 0 1]])), (3, .mem true 5 (some 1) (.flat [.ints 0 .u8 (layL (List.replicate 0 0) 0 (([].take 0).take (min 0 0)) (min 0 0))])), (5, .mem true 5 (some 1) (.flat [.ints 0 .u8 (layL (List.replicate 0 0) 0 (([].take 0).take (min 0 0)) (min 0 0))])), (6, .mem true 5 (some 1) (.flat [.ints 0 .u8 []])), (7, .mem true 5 (some 1) (.flat [.ints 0 .u8 (List.replicate 0 0)]))] (nil_ints _) (by (repeat' first | exact True.intro | exact rfl | apply And.intro) <;> first | assumption | rfl) (by (repeat' first | exact True.intro | exact rfl | apply And.intro) <;> first | assumption | rfl) ?_
      replace hT := sIf hT; obtain ⟨o1, hT⟩ := hT
      refine zReg md0 hX rfl rfl rfl ?_
      refine rInNormal ?_
      refine rThen ?_
      refine zReg md0 hX rfl rfl rfl ?_
      refine rRound ?_
      refine rSeq ?_
      refine zReg md0 hX rfl rfl rfl ?_
      refine rThen ?_
      refine rSeq ?_
      refine rCondF rfl rfl (by (repeat' first | exact True.intro | with_reducible assumption | (with_reducible apply And.intro) | intro _) <;> first | assumption | exact rfl | omega | exact Nat.le_of_ble_eq_true rfl | exact selF (by assumption) | exact selT (by assumption) | exact And.intro rfl rfl | exact And.intro (by assumption) rfl | exact And.intro (by omega) rfl | (simp only [inK] at *; omega) | (simp_all [sel] <;> fail) | fail) rfl ?_
      refine rExit ?_
      refine rThenExit ?_
      refine rThenExit ?_
      refine rInHit ?_
      refine rThen ?_
      refine rSeq ?_
      refine zReg md0 hX rfl rfl rfl ?_
      refine rThen ?_
      refine rRet ?_
      replace hT := sIf hT; obtain ⟨p1, hT⟩ := hT
      refine rFreezeQ 3 (.int .u8) (layL (List.replicate 0 0) 0 (([].take 0).take (min 0 0)) (min 0 0)) [(2, .v (.c (.ptr 1 0 0 0 0 0)))] [(0, .mem false 53 none (.flat [.cs [.int .i64 a1, .val (.slice none 0 0), .val (.slice none 0 0), .val (.slice none 0 0)]])), (1, .mem true 25 none (.flat [.cs [.int .i64 a1, .fz (.int .u8) (layL (List.replicate 0 0) 0 (([].take 0).take (min 0 0)) (min 0 0)), .sl 5 0 0 1, .sl 7 0 0 1]])), (5, .mem true 5 (some 1) (.flat [.ints 0 .u8 (layL (List.replicate 0 0) 0 (([].take 0).take (min 0 0)) (min 0 0))])), (7, .mem true 5 (some 1) (.flat [.ints 0 .u8 (layL (List.replicate 0 0) 0 (([].take 0).take (min 0 0)) (min 0 0))]))] rfl rfl (by (repeat' first | exact True.intro | exact rfl | apply And.intro) <;> first | assumption | rfl) (by (repeat' first | exact True.intro | exact rfl | apply And.intro) <;> first | assumption | rfl) ?_
      refine rFreezeQ 5 (.int .u8) (layL (List.replicate 0 0) 0 (([].take 0).take (min 0 0)) (min 0 0)) [(2, .v (.c (.ptr 1 0 0 0 0 0)))] [(0, .mem false 53 none (.flat [.cs [.int .i64 a1, .val (.slice none 0 0), .val (.slice none 0 0), .val (.slice none 0 0)]])), (1, .mem true 25 none (.flat [.cs [.int .i64 a1, .fz (.int .u8) (layL (List.replicate 0 0) 0 (([].take 0).take (min 0 0)) (min 0 0)), .fz (.int .u8) (layL (List.replicate 0 0) 0 (([].take 0).take (min 0 0)) (min 0 0)), .sl 7 0 0 1]])), (7, .mem true 5 (some 1) (.flat [.ints 0 .u8 (layL (List.replicate 0 0) 0 (([].take 0).take (min 0 0)) (min 0 0))]))] rfl rfl (by (repeat' first | exact True.intro | exact rfl | apply And.intro) <;> first | assumption | rfl) (by (repeat' first | exact True.intro | exact rfl | apply And.intro) <;> first | assumption | rfl) ?_
      refine rFreezeQ 7 (.int .u8) (layL (List.replicate 0 0) 0 (([].take 0).take (min 0 0)) (min 0 0)) [(2, .v (.c (.ptr 1 0 0 0 0 0)))] [(0, .mem false 53 none (.flat [.cs [.int .i64 a1, .val (.slice none 0 0), .val (.slice none 0 0), .val (.slice none 0 0)]])), (1, .mem true 25 none (.flat [.cs [.int .i64 a1, .fz (.int .u8) (layL (List.replicate 0 0) 0 (([].take 0).take (min 0 0)) (min 0 0)), .fz (.int .u8) (layL (List.replicate 0 0) 0 (([].take 0).take (min 0 0)) (min 0 0)), .fz (.int .u8) (layL (List.replicate 0 0) 0 (([].take 0).take (min 0 0)) (min 0 0))]]))] rfl rfl (by (repeat' first | exact True.intro | exact rfl | apply And.intro) <;> first | assumption | rfl) (by (repeat' first | exact True.intro | exact rfl | apply And.intro) <;> first | assumption | rfl) ?_
      refine rPackE 1 rfl rfl ?_
      have hy := Option.some.inj hT; subst hy
      exact zEnd0 hX rfl
    · cases h
  · cases h
def bytes_Equal_v1 (N : Nat) (a1 : (List Int)) : Option Bool :=
  some (decide (ByteArray.toList (bytesOf a1) = ByteArray.toList ⟨#[]⟩))
def sp_bytes_Equal_v1 (N : Nat) : X.Spec := fun args lk => match args with
  | [.v (.c (.fz (.int .u8) a1)), .v (.c (.val (.slice none 0 0)))] => some ⟨(bytes_Equal_v1 N a1).isSome = true, .v (.c (.bool ((bytes_Equal_v1 N a1).getD default))), [], []⟩
  | _ => none
set_option maxRecDepth 100000 in
set_option maxHeartbeats 1000000 in
theorem ok_bytes_Equal_v1 (N : Nat) : FnOK Try.prog gt0 63 (sp_bytes_Equal_v1 N) := by
  refine fnOK_handed Try.func63 rfl (by kernel_rfl) tt_ok (ktNil) ?_
  intro args lk r h hp
  unfold sp_bytes_Equal_v1 at h
  split at h
  · rename_i a1
    change (List Int) at a1
    cases h
    obtain ⟨x, hx⟩ := Option.isSome_iff_exists.1 hp
    simp only [hx, Option.getD_some]
    refine hand0 rfl rfl (fun w0 M ε0 hX => ?_)
    refine rCount (fun hε => ?_)
    have hT : bytes_Equal_v1 N a1 = some x := hx; clear hx hp; unfold bytes_Equal_v1 at hT
    refine rSeq ?_
    refine zReg md0 hX rfl rfl rfl ?_
    refine rThen ?_
    refine rSeq ?_
    refine zReg md0 hX rfl rfl rfl ?_
    refine rThen ?_
    refine rRet ?_
    have hy := Option.some.inj hT; subst hy
    exact zEnd0 hX rfl
  · cases h
def planes_Same_v1_b1 (N : Nat) (a2 : (List (List Int))) (s1 : (Bool × Int)) : Option ((Bool × Int) ⊕ Bool) :=
  bif (decide (s1.2 < 3)) then
    bif (decide (s1.2 = 0)) then
      let c1 := (bytes_Equal_v1 N (a2.getD 0 []))
      if (s1.1 = true → c1.isSome = true) then
        some (.inl ((bif s1.1 then (c1.getD default) else false), 1))
      else none
    else
      bif (decide (s1.2 = 1)) then
        let c2 := (bytes_Equal_v1 N (a2.getD 1 []))
        if (s1.1 = true → c2.isSome = true) then
          some (.inl ((bif s1.1 then (c2.getD default) else false), 2))
        else none
      else
        bif (decide (s1.2 = 2)) then
          let c3 := (bytes_Equal_v1 N (a2.getD 2 []))
          if (s1.1 = true → c3.isSome = true) then
            some (.inl ((bif s1.1 then (c3.getD default) else false), 3))
          else none
        else
          none
  else
    some (.inr s1.1)
def planes_Same_v1 (N : Nat) (a1 : Int) (a2 : (List (List Int))) (a3 : Int) : Option Bool :=
  (iter (planes_Same_v1_b1 N a2) N ((decide (a1 = a3)), 0)).bind fun v1 =>
    some v1
def sp_planes_Same_v1 (N : Nat) : X.Spec := fun args lk => match args with
  | [.v (.agg [.cs [.int .i64 a1], .fzs 3 (.int .u8) a2]), .v (.agg [.cs [.int .i64 a3, .val (.slice none 0 0), .val (.slice none 0 0), .val (.slice none 0 0)]])] => some ⟨(planes_Same_v1 N a1 a2 a3).isSome = true, .v (.c (.bool ((planes_Same_v1 N a1 a2 a3).getD default))), [], []⟩
  | _ => none
set_option maxRecDepth 100000 in
set_option maxHeartbeats 1000000 in
theorem ok_planes_Same_v1 (N : Nat) : FnOK Try.prog gt0 21 (sp_planes_Same_v1 N) := by
  refine fnOK_handed Try.func21 rfl (by kernel_rfl) tt_ok (ktCons (ok_bytes_Equal_v1 N) (ktNil)) ?_
  intro args lk r h hp
  unfold sp_planes_Same_v1 at h
  split at h
  · rename_i a1 a2 a3
    change (List (List Int)) at a2
    cases h
    obtain ⟨x, hx⟩ := Option.isSome_iff_exists.1 hp
    simp only [hx, Option.getD_some]
    refine hand0 rfl rfl (fun w0 M ε0 hX => ?_)
    refine rCount (fun hε => ?_)
    have hT : planes_Same_v1 N a1 a2 a3 = some x := hx; clear hx hp; unfold planes_Same_v1 at hT
    refine rSeq ?_
    refine zReg md0 hX rfl rfl rfl ?_
    refine rThen ?_
    refine rSeq ?_
    refine zReg md0 hX rfl rfl rfl ?_
    refine rThen ?_
    refine rSeq ?_
    refine rSeq ?_
    refine zReg md0 hX rfl rfl rfl ?_
    refine rThen ?_
    refine rBlock ?_
    replace hT := sBind hT; obtain ⟨w1, hl, hT⟩ := hT
    refine rJoinA (fun v1 => v1 = w1) (fun v1 => ⟨[(4, .v (.c (.bool false))), (5, .v (.c (.bool v1)))], [], 2⟩) (.exit 0) (fun v1 hv => ?_) (fun hxs10 => ?_)
    · subst hv; clear hl
      refine rInHit ?_
      refine rThen ?_
      refine rSeq ?_
      refine zReg md0 hX rfl rfl rfl ?_
      refine rThen ?_
      refine rRet ?_
      have hy := Option.some.inj hT; subst hy
      exact zEnd0 hX rfl
    refine rLoopM (planes_Same_v1_b1 N a2) (fun s1 => ⟨[(2, .v (.c (.ptr 0 0 0 0 0 0))), (3, .v (.c (.ptr 1 0 0 0 0 0))), (4, .v (.c (.bool false))), (5, .v (.c (.bool s1.1))), (12, .v (.c (.int .i64 s1.2)))], [(0, .mem true 25 none (.flat [.cs [.int .i64 a1], .fzs 3 (.int .u8) a2])), (1, .mem true 25 none (.flat [.cs [.int .i64 a3, .val (.slice none 0 0), .val (.slice none 0 0), .val (.slice none 0 0)]]))], 2⟩) hl (To.mk' [] 0 hε rfl (by repeat' first | exact True.intro | exact rfl | apply And.intro) (by repeat' first | exact True.intro | exact rfl | apply And.intro)) (fun s1 zs1 NNs1 hz hnexts1 houts1 => ?_)
    clear hl hT
    have hT := hz; clear hz
    refine rSeq ?_
    refine zReg md0 hX rfl rfl rfl ?_
    refine rThen ?_
    refine rSeq ?_
    refine zCond rfl rfl (fun hc => ?_) (fun hc => ?_)
    · replace hT := sT hc hT
      refine rSkip ?_
      refine rThen ?_
      refine rSeq ?_
      refine rBlock ?_
      refine rSeq ?_
      refine zReg md0 hX rfl rfl rfl ?_
      refine rThen ?_
      refine rToW (T := ⟨[(2, .v (.c (.ptr 0 0 0 0 0 0))), (3, .v (.c (.ptr 1 0 0 0 0 0))), (4, .v (.c (.bool false))), (5, .v (.c (.bool s1.1))), (6, .v (.c (.int .i64 s1.2))), (12, .v (.c (.int .i64 s1.2))), (13, .v (.c (.bool (decide (s1.2 < 3))))), (14, .v (.c (.int .i64 s1.2)))], [(0, .mem true 25 none (.flat [.cs [.int .i64 a1], .fzs 3 (.int .u8) a2])), (1, .mem true 25 none (.flat [.cs [.int .i64 a3, .val (.slice none 0 0), .val (.slice none 0 0), .val (.slice none 0 0)]]))], 2⟩) (To.mk' [] 0 hε rfl (by repeat' first | exact True.intro | exact rfl | apply And.intro) (by repeat' first | exact True.intro | exact rfl | apply And.intro)) ?_
      cases hs0 : (decide (s1.2 = 0))
      · replace hT := sF hs0 hT
        cases hs1 : (decide (s1.2 = 1))
        · replace hT := sF hs1 hT
          cases hs2 : (decide (s1.2 = 2))
          · replace hT := sF hs2 hT
            cases hT
          · replace hT := sT hs2 hT
            rw [of_decide_eq_true hs2]
            let c3 := (bytes_Equal_v1 N (a2.getD 2 []))
            replace hT := sIf hT; obtain ⟨o1, hT⟩ := hT
            refine rDrawM md0 1 [12] hX mixed rfl rfl rfl rfl rfl (by (repeat' first | exact True.intro | with_reducible assumption | (with_reducible apply And.intro) | intro _) <;> first | assumption | exact o1 (by assumption) | exact rfl | omega | exact Nat.le_of_ble_eq_true rfl | exact selF (by assumption) | exact selT (by assumption) | exact And.intro rfl rfl | exact And.intro (by assumption) rfl | exact And.intro (by omega) rfl | (simp only [inK] at *; omega) | (simp_all [sel] <;> fail) | fail) ?_
            refine rInNormal ?_
            refine rThen ?_
            refine zReg md0 hX rfl rfl rfl ?_
            exact hnexts1 _ (Option.some.inj hT).symm _ (To.mk' [] 0 hε rfl (by repeat' first | exact True.intro | exact rfl | apply And.intro) (by repeat' first | exact True.intro | exact rfl | apply And.intro))
        · replace hT := sT hs1 hT
          rw [of_decide_eq_true hs1]
          let c2 := (bytes_Equal_v1 N (a2.getD 1 []))
          replace hT := sIf hT; obtain ⟨o1, hT⟩ := hT
          refine rDrawM md0 1 [12] hX mixed rfl rfl rfl rfl rfl (by (repeat' first | exact True.intro | with_reducible assumption | (with_reducible apply And.intro) | intro _) <;> first | assumption | exact o1 (by assumption) | exact rfl | omega | exact Nat.le_of_ble_eq_true rfl | exact selF (by assumption) | exact selT (by assumption) | exact And.intro rfl rfl | exact And.intro (by assumption) rfl | exact And.intro (by omega) rfl | (simp only [inK] at *; omega) | (simp_all [sel] <;> fail) | fail) ?_
          refine rInNormal ?_
          refine rThen ?_
          refine zReg md0 hX rfl rfl rfl ?_
          exact hnexts1 _ (Option.some.inj hT).symm _ (To.mk' [] 0 hε rfl (by repeat' first | exact True.intro | exact rfl | apply And.intro) (by repeat' first | exact True.intro | exact rfl | apply And.intro))
      · replace hT := sT hs0 hT
        rw [of_decide_eq_true hs0]
        let c1 := (bytes_Equal_v1 N (a2.getD 0 []))
        replace hT := sIf hT; obtain ⟨o1, hT⟩ := hT
        refine rDrawM md0 1 [12] hX mixed rfl rfl rfl rfl rfl (by (repeat' first | exact True.intro | with_reducible assumption | (with_reducible apply And.intro) | intro _) <;> first | assumption | exact o1 (by assumption) | exact rfl | omega | exact Nat.le_of_ble_eq_true rfl | exact selF (by assumption) | exact selT (by assumption) | exact And.intro rfl rfl | exact And.intro (by assumption) rfl | exact And.intro (by omega) rfl | (simp only [inK] at *; omega) | (simp_all [sel] <;> fail) | fail) ?_
        refine rInNormal ?_
        refine rThen ?_
        refine zReg md0 hX rfl rfl rfl ?_
        exact hnexts1 _ (Option.some.inj hT).symm _ (To.mk' [] 0 hε rfl (by repeat' first | exact True.intro | exact rfl | apply And.intro) (by repeat' first | exact True.intro | exact rfl | apply And.intro))
    · replace hT := sF hc hT
      refine rExit ?_
      refine rThenExit ?_
      refine rThenExit ?_
      exact zTo [] 0 hε (hxs10 _ (houts1 _ (Option.some.inj hT).symm))
  · cases h
def ref16_Size (N : Nat) (a1 : Int) : Option (List Int) :=
  let x1 := [(List.replicate 4 0), (((((List.replicate 4 0).set 0 128).set 1 96).set 2 6).set 3 1), (((((List.replicate 4 0).set 0 176).set 1 144).set 2 9).set 3 1), (((((List.replicate 4 0).set 0 352).set 1 288).set 2 18).set 3 1), (((((List.replicate 4 0).set 0 704).set 1 576).set 2 18).set 3 2), (((((List.replicate 4 0).set 0 1408).set 1 1152).set 2 18).set 3 4), (((((List.replicate 4 0).set 0 32).set 1 32).set 2 2).set 3 1)]
  bif (bif (decide (a1 < 0)) then true else (decide ((7 : Int) ≤ a1))) then
    some (List.replicate 4 0)
  else
    if (0 : Int) ≤ a1 ∧ a1 < 7 ∧ (a1).toNat < x1.length then
      some (x1.getD (a1).toNat (List.replicate 4 (0 : Int)))
    else none
def sp_ref16_Size (N : Nat) : X.Spec := fun args lk => match args with
  | [.v (.c (.int .i64 a1))] => some ⟨(ref16_Size N a1).isSome = true, .v (.agg [.ints 4 .i64 ((ref16_Size N a1).getD default)]), [], []⟩
  | _ => none
set_option maxRecDepth 100000 in
set_option maxHeartbeats 1000000 in
theorem ok_ref16_Size (N : Nat) : FnOK Try.prog gt0 54 (sp_ref16_Size N) := by
  refine fnOK_handed Try.func54 rfl (by kernel_rfl) tt_ok (ktNil) ?_
  intro args lk r h hp
  unfold sp_ref16_Size at h
  split at h
  · rename_i a1
    cases h
    obtain ⟨x, hx⟩ := Option.isSome_iff_exists.1 hp
    simp only [hx, Option.getD_some]
    refine hand0 rfl rfl (fun w0 M ε0 hX => ?_)
    refine rCount (fun hε => ?_)
    have hT : ref16_Size N a1 = some x := hx; clear hx hp; unfold ref16_Size at hT
    refine rSeq ?_
    refine zReg md0 hX rfl rfl rfl ?_
    refine rThen ?_
    refine rSeq ?_
    refine zReg md0 hX rfl rfl rfl ?_
    refine rLstQ 1 (.arr 4 .i64) [(List.replicate 4 0), (((((List.replicate 4 0).set 0 128).set 1 96).set 2 6).set 3 1), (((((List.replicate 4 0).set 0 176).set 1 144).set 2 9).set 3 1), (((((List.replicate 4 0).set 0 352).set 1 288).set 2 18).set 3 1), (((((List.replicate 4 0).set 0 704).set 1 576).set 2 18).set 3 2), (((((List.replicate 4 0).set 0 1408).set 1 1152).set 2 18).set 3 4), (((((List.replicate 4 0).set 0 32).set 1 32).set 2 2).set 3 1)] rfl rfl rfl ?_
    refine rThen ?_
    refine rSeq ?_
    refine rSeq ?_
    let x1 := [(List.replicate 4 0), (((((List.replicate 4 0).set 0 128).set 1 96).set 2 6).set 3 1), (((((List.replicate 4 0).set 0 176).set 1 144).set 2 9).set 3 1), (((((List.replicate 4 0).set 0 352).set 1 288).set 2 18).set 3 1), (((((List.replicate 4 0).set 0 704).set 1 576).set 2 18).set 3 2), (((((List.replicate 4 0).set 0 1408).set 1 1152).set 2 18).set 3 4), (((((List.replicate 4 0).set 0 32).set 1 32).set 2 2).set 3 1)]
    refine zReg md0 hX rfl rfl rfl ?_
    refine rThen ?_
    refine zCond rfl rfl (fun hc => ?_) (fun hc => ?_)
    · replace hT := sT hc hT
      refine rSeq ?_
      refine zReg md0 hX rfl rfl rfl ?_
      refine rThen ?_
      refine rRet ?_
      refine rThenRet ?_
      have hy := Option.some.inj hT; subst hy
      exact zEnd0 hX rfl
    · replace hT := sF hc hT
      refine rSkip ?_
      refine rThen ?_
      refine rSeq ?_
      replace hT := sIf hT; obtain ⟨⟨o1, o2, o3⟩, hT⟩ := hT
      refine zReg md0 hX rfl rfl rfl ?_
      refine rThen ?_
      refine rRet ?_
      have hy := Option.some.inj hT; subst hy
      exact zEnd0 hX rfl
  · cases h
def ref16_Many (N : Nat) (a1 : Int) : Option Int :=
  let c1 := (ref16_Size N a1)
  let c2 := (ref16_Size N a1)
  if c1.isSome = true ∧ (0 : Int) ≤ ((c1.getD default).getD 0 0) ∧ c2.isSome = true ∧ (0 : Int) ≤ ((c2.getD default).getD 1 0) ∧ inK .i64 ((((c1.getD default).getD 0 0) / 16) * (((c2.getD default).getD 1 0) / 16)) then
    some ((((c1.getD default).getD 0 0) / 16) * (((c2.getD default).getD 1 0) / 16))
  else none
def sp_ref16_Many (N : Nat) : X.Spec := fun args lk => match args with
  | [.v (.c (.int .i64 a1))] => some ⟨(ref16_Many N a1).isSome = true, .v (.c (.int .i64 ((ref16_Many N a1).getD default))), [], []⟩
  | _ => none
set_option maxRecDepth 100000 in
set_option maxHeartbeats 1000000 in
theorem ok_ref16_Many (N : Nat) : FnOK Try.prog gt0 16 (sp_ref16_Many N) := by
  refine fnOK_handed Try.func16 rfl (by kernel_rfl) tt_ok (ktCons (ok_ref16_Size N) (ktNil)) ?_
  intro args lk r h hp
  unfold sp_ref16_Many at h
  split at h
  · rename_i a1
    cases h
    obtain ⟨x, hx⟩ := Option.isSome_iff_exists.1 hp
    simp only [hx, Option.getD_some]
    refine hand0 rfl rfl (fun w0 M ε0 hX => ?_)
    refine rCount (fun hε => ?_)
    have hT : ref16_Many N a1 = some x := hx; clear hx hp; unfold ref16_Many at hT
    refine rSeq ?_
    refine zReg md0 hX rfl rfl rfl ?_
    refine rThen ?_
    refine rSeq ?_
    let c1 := (ref16_Size N a1)
    let c2 := (ref16_Size N a1)
    replace hT := sIf hT; obtain ⟨⟨o1, o2, o3, o4, o5⟩, hT⟩ := hT
    refine zReg md0 hX rfl rfl rfl ?_
    refine rThen ?_
    refine rRet ?_
    have hy := Option.some.inj hT; subst hy
    exact zEnd0 hX rfl
  · cases h
def ref17_Wide (N : Nat) (a1 : Int) (a2 : Int) : Option Int :=
  bif (decide (a2 = 0)) then
    let c1 := (ref16_Size N a1)
    if c1.isSome = true then
      some ((c1.getD default).getD 0 0)
    else none
  else
    let c2 := (ref16_Size N a1)
    if c2.isSome = true ∧ (0 : Int) ≤ ((c2.getD default).getD 0 0) then
      some (((c2.getD default).getD 0 0) / 2)
    else none
def sp_ref17_Wide (N : Nat) : X.Spec := fun args lk => match args with
  | [.v (.c (.int .i64 a1)), .v (.c (.int .i64 a2))] => some ⟨(ref17_Wide N a1 a2).isSome = true, .v (.c (.int .i64 ((ref17_Wide N a1 a2).getD default))), [], []⟩
  | _ => none
set_option maxRecDepth 100000 in
set_option maxHeartbeats 1000000 in
theorem ok_ref17_Wide (N : Nat) : FnOK Try.prog gt0 55 (sp_ref17_Wide N) := by
  refine fnOK_handed Try.func55 rfl (by kernel_rfl) tt_ok (ktCons (ok_ref16_Size N) (ktNil)) ?_
  intro args lk r h hp
  unfold sp_ref17_Wide at h
  split at h
  · rename_i a1 a2
    cases h
    obtain ⟨x, hx⟩ := Option.isSome_iff_exists.1 hp
    simp only [hx, Option.getD_some]
    refine hand0 rfl rfl (fun w0 M ε0 hX => ?_)
    refine rCount (fun hε => ?_)
    have hT : ref17_Wide N a1 a2 = some x := hx; clear hx hp; unfold ref17_Wide at hT
    refine rSeq ?_
    refine zReg md0 hX rfl rfl rfl ?_
    refine rThen ?_
    refine rSeq ?_
    refine rSeq ?_
    refine zReg md0 hX rfl rfl rfl ?_
    refine rThen ?_
    refine zCond rfl rfl (fun hc => ?_) (fun hc => ?_)
    · replace hT := sT hc hT
      refine rSeq ?_
      let c1 := (ref16_Size N a1)
      replace hT := sIf hT; obtain ⟨o1, hT⟩ := hT
      refine zReg md0 hX rfl rfl rfl ?_
      refine rThen ?_
      refine rRet ?_
      refine rThenRet ?_
      have hy := Option.some.inj hT; subst hy
      exact zEnd0 hX rfl
    · replace hT := sF hc hT
      refine rSkip ?_
      refine rThen ?_
      refine rSeq ?_
      let c2 := (ref16_Size N a1)
      replace hT := sIf hT; obtain ⟨⟨o1, o2⟩, hT⟩ := hT
      refine zReg md0 hX rfl rfl rfl ?_
      refine rThen ?_
      refine rRet ?_
      have hy := Option.some.inj hT; subst hy
      exact zEnd0 hX rfl
  · cases h
def ref17_High (N : Nat) (a1 : Int) (a2 : Int) : Option Int :=
  bif (decide (a2 = 0)) then
    let c1 := (ref16_Size N a1)
    if c1.isSome = true then
      some ((c1.getD default).getD 1 0)
    else none
  else
    let c2 := (ref16_Size N a1)
    if c2.isSome = true ∧ (0 : Int) ≤ ((c2.getD default).getD 1 0) then
      some (((c2.getD default).getD 1 0) / 2)
    else none
def sp_ref17_High (N : Nat) : X.Spec := fun args lk => match args with
  | [.v (.c (.int .i64 a1)), .v (.c (.int .i64 a2))] => some ⟨(ref17_High N a1 a2).isSome = true, .v (.c (.int .i64 ((ref17_High N a1 a2).getD default))), [], []⟩
  | _ => none
set_option maxRecDepth 100000 in
set_option maxHeartbeats 1000000 in
theorem ok_ref17_High (N : Nat) : FnOK Try.prog gt0 56 (sp_ref17_High N) := by
  refine fnOK_handed Try.func56 rfl (by kernel_rfl) tt_ok (ktCons (ok_ref16_Size N) (ktNil)) ?_
  intro args lk r h hp
  unfold sp_ref17_High at h
  split at h
  · rename_i a1 a2
    cases h
    obtain ⟨x, hx⟩ := Option.isSome_iff_exists.1 hp
    simp only [hx, Option.getD_some]
    refine hand0 rfl rfl (fun w0 M ε0 hX => ?_)
    refine rCount (fun hε => ?_)
    have hT : ref17_High N a1 a2 = some x := hx; clear hx hp; unfold ref17_High at hT
    refine rSeq ?_
    refine zReg md0 hX rfl rfl rfl ?_
    refine rThen ?_
    refine rSeq ?_
    refine rSeq ?_
    refine zReg md0 hX rfl rfl rfl ?_
    refine rThen ?_
    refine zCond rfl rfl (fun hc => ?_) (fun hc => ?_)
    · replace hT := sT hc hT
      refine rSeq ?_
      let c1 := (ref16_Size N a1)
      replace hT := sIf hT; obtain ⟨o1, hT⟩ := hT
      refine zReg md0 hX rfl rfl rfl ?_
      refine rThen ?_
      refine rRet ?_
      refine rThenRet ?_
      have hy := Option.some.inj hT; subst hy
      exact zEnd0 hX rfl
    · replace hT := sF hc hT
      refine rSkip ?_
      refine rThen ?_
      refine rSeq ?_
      let c2 := (ref16_Size N a1)
      replace hT := sIf hT; obtain ⟨⟨o1, o2⟩, hT⟩ := hT
      refine zReg md0 hX rfl rfl rfl ?_
      refine rThen ?_
      refine rRet ?_
      have hy := Option.some.inj hT; subst hy
      exact zEnd0 hX rfl
  · cases h
def ref01_Clip (N : Nat) (a1 : Int) (a2 : Int) (a3 : Int) : Option Int :=
  bif (bif (decide (a3 < a2)) then true else (decide (a1 < a2))) then
    some a2
  else
    bif (decide (a3 < a1)) then
      some a3
    else
      some a1
def sp_ref01_Clip (N : Nat) : X.Spec := fun args lk => match args with
  | [.v (.c (.int .i64 a1)), .v (.c (.int .i64 a2)), .v (.c (.int .i64 a3))] => some ⟨(ref01_Clip N a1 a2 a3).isSome = true, .v (.c (.int .i64 ((ref01_Clip N a1 a2 a3).getD default))), [], []⟩
  | _ => none
set_option maxRecDepth 100000 in
set_option maxHeartbeats 1000000 in
theorem ok_ref01_Clip (N : Nat) : FnOK Try.prog gt0 66 (sp_ref01_Clip N) := by
  refine fnOK_handed Try.func66 rfl (by kernel_rfl) tt_ok (ktNil) ?_
  intro args lk r h hp
  unfold sp_ref01_Clip at h
  split at h
  · rename_i a1 a2 a3
    cases h
    obtain ⟨x, hx⟩ := Option.isSome_iff_exists.1 hp
    simp only [hx, Option.getD_some]
    refine hand0 rfl rfl (fun w0 M ε0 hX => ?_)
    refine rCount (fun hε => ?_)
    have hT : ref01_Clip N a1 a2 a3 = some x := hx; clear hx hp; unfold ref01_Clip at hT
    refine rSeq ?_
    refine zReg md0 hX rfl rfl rfl ?_
    refine rThen ?_
    refine rSeq ?_
    refine rSeq ?_
    refine zReg md0 hX rfl rfl rfl ?_
    refine rThen ?_
    refine zCond rfl rfl (fun hc => ?_) (fun hc => ?_)
    · replace hT := sT hc hT
      refine rSeq ?_
      refine zReg md0 hX rfl rfl rfl ?_
      refine rThen ?_
      refine rRet ?_
      refine rThenRet ?_
      have hy := Option.some.inj hT; subst hy
      exact zEnd0 hX rfl
    · replace hT := sF hc hT
      refine rSkip ?_
      refine rThen ?_
      refine rSeq ?_
      refine rSeq ?_
      refine zReg md0 hX rfl rfl rfl ?_
      refine rThen ?_
      refine zCond rfl rfl (fun hc => ?_) (fun hc => ?_)
      · replace hT := sT hc hT
        refine rSeq ?_
        refine zReg md0 hX rfl rfl rfl ?_
        refine rThen ?_
        refine rRet ?_
        refine rThenRet ?_
        have hy := Option.some.inj hT; subst hy
        exact zEnd0 hX rfl
      · replace hT := sF hc hT
        refine rSkip ?_
        refine rThen ?_
        refine rSeq ?_
        refine zReg md0 hX rfl rfl rfl ?_
        refine rThen ?_
        refine rRet ?_
        have hy := Option.some.inj hT; subst hy
        exact zEnd0 hX rfl
  · cases h
def ref17_New_own_b1 (N : Nat) (a2 : Int) (c5 : (Option Int)) (c6 : (Option Int)) (s3 : (Int × (List Int))) : Option ((Int × (List Int)) ⊕ (List Int)) :=
  bif (decide (s3.1 < (((c5.getD default) * (c6.getD default)).toNat : Int))) then
    let c7 := (ref01_Clip N a2 0 255)
    if c7.isSome = true ∧ inK .u8 (c7.getD default) ∧ (0 : Int) ≤ s3.1 ∧ s3.1 < (((c5.getD default) * (c6.getD default)).toNat : Int) ∧ (s3.1).toNat < ((c5.getD default) * (c6.getD default)).toNat then
      if inK .i64 (s3.1 + 1) then
        some (.inl ((s3.1 + 1), (s3.2.set (s3.1).toNat (c7.getD default))))
      else none
    else none
  else
    some (.inr s3.2)
def ref17_New_own_b2 (N : Nat) (a2 : Int) (c3 : (Option Int)) (c4 : (Option Int)) (s2 : (Int × (List Int))) : Option ((Int × (List Int)) ⊕ (List Int)) :=
  bif (decide (s2.1 < (((c3.getD default) * (c4.getD default)).toNat : Int))) then
    let c8 := (ref01_Clip N a2 0 255)
    if c8.isSome = true ∧ inK .u8 (c8.getD default) ∧ (0 : Int) ≤ s2.1 ∧ s2.1 < (((c3.getD default) * (c4.getD default)).toNat : Int) ∧ (s2.1).toNat < ((c3.getD default) * (c4.getD default)).toNat then
      if inK .i64 (s2.1 + 1) then
        some (.inl ((s2.1 + 1), (s2.2.set (s2.1).toNat (c8.getD default))))
      else none
    else none
  else
    some (.inr s2.2)
def ref17_New_own_b3 (N : Nat) (a2 : Int) (c1 : (Option Int)) (c2 : (Option Int)) (s1 : (Int × (List Int))) : Option ((Int × (List Int)) ⊕ (List Int)) :=
  bif (decide (s1.1 < (((c1.getD default) * (c2.getD default)).toNat : Int))) then
    let c9 := (ref01_Clip N a2 0 255)
    if c9.isSome = true ∧ inK .u8 (c9.getD default) ∧ (0 : Int) ≤ s1.1 ∧ s1.1 < (((c1.getD default) * (c2.getD default)).toNat : Int) ∧ (s1.1).toNat < ((c1.getD default) * (c2.getD default)).toNat then
      if inK .i64 (s1.1 + 1) then
        some (.inl ((s1.1 + 1), (s1.2.set (s1.1).toNat (c9.getD default))))
      else none
    else none
  else
    some (.inr s1.2)
def ref17_New_own (N : Nat) (a1 : Int) (a2 : Int) : Option (Int × Nat × Nat × Nat × Nat × (List Int) × Nat × (List Int) × Nat × (List Int)) :=
  let c1 := (ref17_Wide N a1 0)
  let c2 := (ref17_High N a1 0)
  if c1.isSome = true ∧ c2.isSome = true ∧ inK .i64 ((c1.getD default) * (c2.getD default)) ∧ (0 : Int) ≤ ((c1.getD default) * (c2.getD default)) ∧ ((c1.getD default) * (c2.getD default)) * 1 ≤ 140737488355328 then
    (iter (ref17_New_own_b3 N a2 c1 c2) N (0, (List.replicate ((c1.getD default) * (c2.getD default)).toNat 0))).bind fun v1 =>
      let c3 := (ref17_Wide N a1 1)
      let c4 := (ref17_High N a1 1)
      if c3.isSome = true ∧ c4.isSome = true ∧ inK .i64 ((c3.getD default) * (c4.getD default)) ∧ (0 : Int) ≤ ((c3.getD default) * (c4.getD default)) ∧ ((c3.getD default) * (c4.getD default)) * 1 ≤ 140737488355328 then
        (iter (ref17_New_own_b2 N a2 c3 c4) N (0, (List.replicate ((c3.getD default) * (c4.getD default)).toNat 0))).bind fun v2 =>
          let c5 := (ref17_Wide N a1 2)
          let c6 := (ref17_High N a1 2)
          if c5.isSome = true ∧ c6.isSome = true ∧ inK .i64 ((c5.getD default) * (c6.getD default)) ∧ (0 : Int) ≤ ((c5.getD default) * (c6.getD default)) ∧ ((c5.getD default) * (c6.getD default)) * 1 ≤ 140737488355328 then
            (iter (ref17_New_own_b1 N a2 c5 c6) N (0, (List.replicate ((c5.getD default) * (c6.getD default)).toNat 0))).bind fun v3 =>
              some (a1, ((c1.getD default) * (c2.getD default)).toNat, ((c3.getD default) * (c4.getD default)).toNat, ((c5.getD default) * (c6.getD default)).toNat, ((c1.getD default) * (c2.getD default)).toNat, v1, ((c3.getD default) * (c4.getD default)).toNat, v2, ((c5.getD default) * (c6.getD default)).toNat, v3)
          else none
      else none
  else none
def sp_ref17_New_own (N : Nat) : X.Spec := fun args lk => match args with
  | [.v (.c (.int .i64 a1)), .v (.c (.int .i64 a2))] => some ⟨(ref17_New_own N a1 a2).isSome = true, .v (.agg [.cs [.int .i64 ((ref17_New_own N a1 a2).getD default).1, .sl 0 0 ((ref17_New_own N a1 a2).getD default).2.1 1, .sl 1 0 ((ref17_New_own N a1 a2).getD default).2.2.1 1, .sl 2 0 ((ref17_New_own N a1 a2).getD default).2.2.2.1 1]]), [.mem true 5 (some 0) (.flat [.ints ((ref17_New_own N a1 a2).getD default).2.2.2.2.1 .u8 ((ref17_New_own N a1 a2).getD default).2.2.2.2.2.1]), .mem true 5 (some 0) (.flat [.ints ((ref17_New_own N a1 a2).getD default).2.2.2.2.2.2.1 .u8 ((ref17_New_own N a1 a2).getD default).2.2.2.2.2.2.2.1]), .mem true 5 (some 0) (.flat [.ints ((ref17_New_own N a1 a2).getD default).2.2.2.2.2.2.2.2.1 .u8 ((ref17_New_own N a1 a2).getD default).2.2.2.2.2.2.2.2.2])], []⟩
  | _ => none
set_option maxRecDepth 100000 in
set_option maxHeartbeats 1000000 in
theorem ok_ref17_New_own (N : Nat) : FnOK Try.prog gt0 24 (sp_ref17_New_own N) := by
  refine fnOK_handed Try.func24 rfl (by kernel_rfl) ttC_ok (ktCons (ok_ref01_Clip N) (ktCons (ok_ref17_High N) (ktCons (ok_ref17_Wide N) (ktNil)))) ?_
  intro args lk r h hp
  unfold sp_ref17_New_own at h
  split at h
  · rename_i a1 a2
    cases h
    obtain ⟨x, hx⟩ := Option.isSome_iff_exists.1 hp
    simp only [hx, Option.getD_some]
    refine hand0 rfl rfl (fun w0 M ε0 hX => ?_)
    refine rCount (fun hε => ?_)
    have hT : ref17_New_own N a1 a2 = some x := hx; clear hx hp; unfold ref17_New_own at hT
    refine rSeq ?_
    refine zReg md0 hX rfl rfl rfl ?_
    refine rThen ?_
    refine rSeq ?_
    refine zReg md0 hX rfl rfl rfl ?_
    refine rThen ?_
    refine rSeq ?_
    refine rSeq ?_
    refine zReg md0 hX rfl rfl rfl ?_
    refine rThen ?_
    refine rBlock ?_
    refine rRounds 24 ?_
    refine rSeq ?_
    refine rSeq ?_
    refine zReg md0 hX rfl rfl rfl ?_
    refine rThen ?_
    refine rCondT rfl rfl (by (repeat' first | exact True.intro | with_reducible assumption | (with_reducible apply And.intro) | intro _) <;> first | assumption | exact rfl | omega | exact Nat.le_of_ble_eq_true rfl | exact selF (by assumption) | exact selT (by assumption) | exact And.intro rfl rfl | exact And.intro (by assumption) rfl | exact And.intro (by omega) rfl | (simp only [inK] at *; omega) | (simp_all [sel] <;> fail) | fail) rfl ?_
    refine rSkip ?_
    refine rThen ?_
    refine rSeq ?_
    refine rBlock ?_
    refine rSeq ?_
    let c1 := (ref17_Wide N a1 0)
    let c2 := (ref17_High N a1 0)
    replace hT := sIf hT; obtain ⟨⟨o1, o2, o3, o4, o5⟩, hT⟩ := hT
    refine zReg md0 hX rfl rfl rfl ?_
    refine rThen ?_
    refine rSeq ?_
    refine rSeq ?_
    refine zReg md0 hX rfl rfl rfl ?_
    refine rThen ?_
    refine rBlock ?_
    replace hT := sBind hT; obtain ⟨w1, hl, hT⟩ := hT
    refine rJoinA (fun v1 => v1 = w1) (fun v1 => ⟨[(0, .v (.c (.int .i64 a1))), (1, .v (.c (.int .i64 a2))), (4, .v (.c (.ptr 0 0 0 0 0 0))), (5, .v (.c (.ptr 1 0 0 0 0 0))), (6, .v (.c (.int .i64 0))), (7, .v (.c (.sl 2 0 ((c1.getD default) * (c2.getD default)).toNat 1)))], [(0, .mem true 25 none (.flat [.cs [.int .i64 0, .val (.slice none 0 0), .val (.slice none 0 0), .val (.slice none 0 0)]])), (1, .mem true 25 none (.flat [.cs [.int .i64 a1, .val (.slice none 0 0), .val (.slice none 0 0), .val (.slice none 0 0)]])), (2, .mem true 5 (some 1) (.flat [.ints ((c1.getD default) * (c2.getD default)).toNat .u8 v1]))], 3⟩) (.exit 2) (fun v1 hv => ?_) (fun hxs10 => ?_)
    · subst hv; clear hl
      refine rInHit ?_
      refine rThen ?_
      refine zReg md0 hX rfl rfl rfl ?_
      refine rInNormal ?_
      refine rThen ?_
      refine zReg md0 hX rfl rfl rfl ?_
      refine rRound ?_
      refine rSeq ?_
      refine rSeq ?_
      refine zReg md0 hX rfl rfl rfl ?_
      refine rThen ?_
      refine rCondT rfl rfl (by (repeat' first | exact True.intro | with_reducible assumption | (with_reducible apply And.intro) | intro _) <;> first | assumption | exact rfl | omega | exact Nat.le_of_ble_eq_true rfl | exact selF (by assumption) | exact selT (by assumption) | exact And.intro rfl rfl | exact And.intro (by assumption) rfl | exact And.intro (by omega) rfl | (simp only [inK] at *; omega) | (simp_all [sel] <;> fail) | fail) rfl ?_
      refine rSkip ?_
      refine rThen ?_
      refine rSeq ?_
      refine rBlock ?_
      refine rSeq ?_
      let c3 := (ref17_Wide N a1 1)
      let c4 := (ref17_High N a1 1)
      replace hT := sIf hT; obtain ⟨⟨o1, o2, o3, o4, o5⟩, hT⟩ := hT
      refine zReg md0 hX rfl rfl rfl ?_
      refine rThen ?_
      refine rSeq ?_
      refine rSeq ?_
      refine zReg md0 hX rfl rfl rfl ?_
      refine rThen ?_
      refine rBlock ?_
      replace hT := sBind hT; obtain ⟨w2, hl, hT⟩ := hT
      refine rJoinA (fun v2 => v2 = w2) (fun v2 => ⟨[(0, .v (.c (.int .i64 a1))), (1, .v (.c (.int .i64 a2))), (4, .v (.c (.ptr 0 0 0 0 0 0))), (5, .v (.c (.ptr 1 0 0 0 0 0))), (6, .v (.c (.int .i64 1))), (7, .v (.c (.sl 3 0 ((c3.getD default) * (c4.getD default)).toNat 1)))], [(0, .mem true 25 none (.flat [.cs [.int .i64 0, .val (.slice none 0 0), .val (.slice none 0 0), .val (.slice none 0 0)]])), (1, .mem true 25 none (.flat [.cs [.int .i64 a1, .sl 2 0 ((c1.getD default) * (c2.getD default)).toNat 1, .val (.slice none 0 0), .val (.slice none 0 0)]])), (2, .mem true 5 (some 1) (.flat [.ints ((c1.getD default) * (c2.getD default)).toNat .u8 v1])), (3, .mem true 5 (some 1) (.flat [.ints ((c3.getD default) * (c4.getD default)).toNat .u8 v2]))], 4⟩) (.exit 2) (fun v2 hv => ?_) (fun hxs20 => ?_)
      · subst hv; clear hl
        refine rInHit ?_
        refine rThen ?_
        refine zReg md0 hX rfl rfl rfl ?_
        refine rInNormal ?_
        refine rThen ?_
        refine zReg md0 hX rfl rfl rfl ?_
        refine rRound ?_
        refine rSeq ?_
        refine rSeq ?_
        refine zReg md0 hX rfl rfl rfl ?_
        refine rThen ?_
        refine rCondT rfl rfl (by (repeat' first | exact True.intro | with_reducible assumption | (with_reducible apply And.intro) | intro _) <;> first | assumption | exact rfl | omega | exact Nat.le_of_ble_eq_true rfl | exact selF (by assumption) | exact selT (by assumption) | exact And.intro rfl rfl | exact And.intro (by assumption) rfl | exact And.intro (by omega) rfl | (simp only [inK] at *; omega) | (simp_all [sel] <;> fail) | fail) rfl ?_
        refine rSkip ?_
        refine rThen ?_
        refine rSeq ?_
        refine rBlock ?_
        refine rSeq ?_
        let c5 := (ref17_Wide N a1 2)
        let c6 := (ref17_High N a1 2)
        replace hT := sIf hT; obtain ⟨⟨o1, o2, o3, o4, o5⟩, hT⟩ := hT
        refine zReg md0 hX rfl rfl rfl ?_
        refine rThen ?_
        refine rSeq ?_
        refine rSeq ?_
        refine zReg md0 hX rfl rfl rfl ?_
        refine rThen ?_
        refine rBlock ?_
        replace hT := sBind hT; obtain ⟨w3, hl, hT⟩ := hT
        refine rJoinA (fun v3 => v3 = w3) (fun v3 => ⟨[(0, .v (.c (.int .i64 a1))), (1, .v (.c (.int .i64 a2))), (4, .v (.c (.ptr 0 0 0 0 0 0))), (5, .v (.c (.ptr 1 0 0 0 0 0))), (6, .v (.c (.int .i64 2))), (7, .v (.c (.sl 4 0 ((c5.getD default) * (c6.getD default)).toNat 1)))], [(0, .mem true 25 none (.flat [.cs [.int .i64 0, .val (.slice none 0 0), .val (.slice none 0 0), .val (.slice none 0 0)]])), (1, .mem true 25 none (.flat [.cs [.int .i64 a1, .sl 2 0 ((c1.getD default) * (c2.getD default)).toNat 1, .sl 3 0 ((c3.getD default) * (c4.getD default)).toNat 1, .val (.slice none 0 0)]])), (2, .mem true 5 (some 1) (.flat [.ints ((c1.getD default) * (c2.getD default)).toNat .u8 v1])), (3, .mem true 5 (some 1) (.flat [.ints ((c3.getD default) * (c4.getD default)).toNat .u8 v2])), (4, .mem true 5 (some 1) (.flat [.ints ((c5.getD default) * (c6.getD default)).toNat .u8 v3]))], 5⟩) (.exit 2) (fun v3 hv => ?_) (fun hxs30 => ?_)
        · subst hv; clear hl
          refine rInHit ?_
          refine rThen ?_
          refine zReg md0 hX rfl rfl rfl ?_
          refine rInNormal ?_
          refine rThen ?_
          refine zReg md0 hX rfl rfl rfl ?_
          refine rRound ?_
          refine rSeq ?_
          refine rSeq ?_
          refine zReg md0 hX rfl rfl rfl ?_
          refine rThen ?_
          refine rCondF rfl rfl (by (repeat' first | exact True.intro | with_reducible assumption | (with_reducible apply And.intro) | intro _) <;> first | assumption | exact rfl | omega | exact Nat.le_of_ble_eq_true rfl | exact selF (by assumption) | exact selT (by assumption) | exact And.intro rfl rfl | exact And.intro (by assumption) rfl | exact And.intro (by omega) rfl | (simp only [inK] at *; omega) | (simp_all [sel] <;> fail) | fail) rfl ?_
          refine rExit ?_
          refine rThenExit ?_
          refine rThenExit ?_
          refine rInHit ?_
          refine rThen ?_
          refine rSeq ?_
          refine zReg md0 hX rfl rfl rfl ?_
          refine rThen ?_
          refine rRet ?_
          refine rTail0Q 2 rfl rfl ?_
          refine rTail0Q 3 rfl rfl ?_
          refine rTail0Q 4 rfl rfl ?_
          have hy := Option.some.inj hT; subst hy
          exact rEndA [2, 3, 4] [.mem true 5 (some 0) (.flat [.ints ((c1.getD default) * (c2.getD default)).toNat .u8 v1]), .mem true 5 (some 0) (.flat [.ints ((c3.getD default) * (c4.getD default)).toNat .u8 v2]), .mem true 5 (some 0) (.flat [.ints ((c5.getD default) * (c6.getD default)).toNat .u8 v3])] [] (.v (.agg [.cs [.int .i64 a1, .sl 2 0 ((c1.getD default) * (c2.getD default)).toNat 1, .sl 3 0 ((c3.getD default) * (c4.getD default)).toNat 1, .sl 4 0 ((c5.getD default) * (c6.getD default)).toNat 1]])) hX rfl (by repeat' first | exact True.intro | exact rfl | apply And.intro | omega | exact Nat.le_of_ble_eq_true rfl) (by repeat' first | exact True.intro | exact rfl | apply And.intro) rfl rfl rfl (by repeat' first | exact True.intro | exact rfl | exact ⟨_, rfl, rfl⟩ | apply And.intro | exact Or.inl rfl) rfl rfl (by repeat' first | exact True.intro | exact rfl | exact ⟨_, rfl, rfl⟩ | apply And.intro | exact Or.inl rfl) rfl rfl
        refine rLoopM (ref17_New_own_b1 N a2 c5 c6) (fun s3 => ⟨[(0, .v (.c (.int .i64 a1))), (1, .v (.c (.int .i64 a2))), (4, .v (.c (.ptr 0 0 0 0 0 0))), (5, .v (.c (.ptr 1 0 0 0 0 0))), (6, .v (.c (.int .i64 2))), (7, .v (.c (.sl 4 0 ((c5.getD default) * (c6.getD default)).toNat 1))), (8, .v (.c (.int .i64 s3.1)))], [(0, .mem true 25 none (.flat [.cs [.int .i64 0, .val (.slice none 0 0), .val (.slice none 0 0), .val (.slice none 0 0)]])), (1, .mem true 25 none (.flat [.cs [.int .i64 a1, .sl 2 0 ((c1.getD default) * (c2.getD default)).toNat 1, .sl 3 0 ((c3.getD default) * (c4.getD default)).toNat 1, .val (.slice none 0 0)]])), (2, .mem true 5 (some 1) (.flat [.ints ((c1.getD default) * (c2.getD default)).toNat .u8 v1])), (3, .mem true 5 (some 1) (.flat [.ints ((c3.getD default) * (c4.getD default)).toNat .u8 v2])), (4, .mem true 5 (some 1) (.flat [.ints ((c5.getD default) * (c6.getD default)).toNat .u8 s3.2]))], 5⟩) hl (To.mk' [] 0 hε rfl (by repeat' first | exact True.intro | exact rfl | apply And.intro) (by repeat' first | exact True.intro | exact rfl | apply And.intro)) (fun s3 zs3 NNs3 hz hnexts3 houts3 => ?_)
        clear hl hT
        have hT := hz; clear hz
        refine rSeq ?_
        refine rSeq ?_
        refine zReg md0 hX rfl rfl rfl ?_
        refine rThen ?_
        refine zCond rfl rfl (fun hc => ?_) (fun hc => ?_)
        · replace hT := sT hc hT
          refine rSkip ?_
          refine rThen ?_
          refine rSeq ?_
          refine rBlock ?_
          let c7 := (ref01_Clip N a2 0 255)
          replace hT := sIf hT; obtain ⟨⟨o1, o2, o3, o4, o5⟩, hT⟩ := hT
          refine zReg md0 hX rfl rfl rfl ?_
          refine rInNormal ?_
          refine rThen ?_
          replace hT := sIf hT; obtain ⟨o1, hT⟩ := hT
          refine zReg md0 hX rfl rfl rfl ?_
          exact hnexts3 _ (Option.some.inj hT).symm _ (To.mk' [] 0 hε rfl (by repeat' first | exact True.intro | exact rfl | apply And.intro) (by repeat' first | exact True.intro | exact rfl | apply And.intro))
        · replace hT := sF hc hT
          refine rExit ?_
          refine rThenExit ?_
          refine rThenExit ?_
          exact zTo [] 0 hε (hxs30 _ (houts3 _ (Option.some.inj hT).symm))
      refine rLoopM (ref17_New_own_b2 N a2 c3 c4) (fun s2 => ⟨[(0, .v (.c (.int .i64 a1))), (1, .v (.c (.int .i64 a2))), (4, .v (.c (.ptr 0 0 0 0 0 0))), (5, .v (.c (.ptr 1 0 0 0 0 0))), (6, .v (.c (.int .i64 1))), (7, .v (.c (.sl 3 0 ((c3.getD default) * (c4.getD default)).toNat 1))), (8, .v (.c (.int .i64 s2.1)))], [(0, .mem true 25 none (.flat [.cs [.int .i64 0, .val (.slice none 0 0), .val (.slice none 0 0), .val (.slice none 0 0)]])), (1, .mem true 25 none (.flat [.cs [.int .i64 a1, .sl 2 0 ((c1.getD default) * (c2.getD default)).toNat 1, .val (.slice none 0 0), .val (.slice none 0 0)]])), (2, .mem true 5 (some 1) (.flat [.ints ((c1.getD default) * (c2.getD default)).toNat .u8 v1])), (3, .mem true 5 (some 1) (.flat [.ints ((c3.getD default) * (c4.getD default)).toNat .u8 s2.2]))], 4⟩) hl (To.mk' [] 0 hε rfl (by repeat' first | exact True.intro | exact rfl | apply And.intro) (by repeat' first | exact True.intro | exact rfl | apply And.intro)) (fun s2 zs2 NNs2 hz hnexts2 houts2 => ?_)
      clear hl hT
      have hT := hz; clear hz
      refine rSeq ?_
      refine rSeq ?_
      refine zReg md0 hX rfl rfl rfl ?_
      refine rThen ?_
      refine zCond rfl rfl (fun hc => ?_) (fun hc => ?_)
      · replace hT := sT hc hT
        refine rSkip ?_
        refine rThen ?_
        refine rSeq ?_
        refine rBlock ?_
        let c8 := (ref01_Clip N a2 0 255)
        replace hT := sIf hT; obtain ⟨⟨o1, o2, o3, o4, o5⟩, hT⟩ := hT
        refine zReg md0 hX rfl rfl rfl ?_
        refine rInNormal ?_
        refine rThen ?_
        replace hT := sIf hT; obtain ⟨o1, hT⟩ := hT
        refine zReg md0 hX rfl rfl rfl ?_
        exact hnexts2 _ (Option.some.inj hT).symm _ (To.mk' [] 0 hε rfl (by repeat' first | exact True.intro | exact rfl | apply And.intro) (by repeat' first | exact True.intro | exact rfl | apply And.intro))
      · replace hT := sF hc hT
        refine rExit ?_
        refine rThenExit ?_
        refine rThenExit ?_
        exact zTo [] 0 hε (hxs20 _ (houts2 _ (Option.some.inj hT).symm))
    refine rLoopM (ref17_New_own_b3 N a2 c1 c2) (fun s1 => ⟨[(0, .v (.c (.int .i64 a1))), (1, .v (.c (.int .i64 a2))), (4, .v (.c (.ptr 0 0 0 0 0 0))), (5, .v (.c (.ptr 1 0 0 0 0 0))), (6, .v (.c (.int .i64 0))), (7, .v (.c (.sl 2 0 ((c1.getD default) * (c2.getD default)).toNat 1))), (8, .v (.c (.int .i64 s1.1)))], [(0, .mem true 25 none (.flat [.cs [.int .i64 0, .val (.slice none 0 0), .val (.slice none 0 0), .val (.slice none 0 0)]])), (1, .mem true 25 none (.flat [.cs [.int .i64 a1, .val (.slice none 0 0), .val (.slice none 0 0), .val (.slice none 0 0)]])), (2, .mem true 5 (some 1) (.flat [.ints ((c1.getD default) * (c2.getD default)).toNat .u8 s1.2]))], 3⟩) hl (To.mk' [] 0 hε rfl (by repeat' first | exact True.intro | exact rfl | apply And.intro) (by repeat' first | exact True.intro | exact rfl | apply And.intro)) (fun s1 zs1 NNs1 hz hnexts1 houts1 => ?_)
    clear hl hT
    have hT := hz; clear hz
    refine rSeq ?_
    refine rSeq ?_
    refine zReg md0 hX rfl rfl rfl ?_
    refine rThen ?_
    refine zCond rfl rfl (fun hc => ?_) (fun hc => ?_)
    · replace hT := sT hc hT
      refine rSkip ?_
      refine rThen ?_
      refine rSeq ?_
      refine rBlock ?_
      let c9 := (ref01_Clip N a2 0 255)
      replace hT := sIf hT; obtain ⟨⟨o1, o2, o3, o4, o5⟩, hT⟩ := hT
      refine zReg md0 hX rfl rfl rfl ?_
      refine rInNormal ?_
      refine rThen ?_
      replace hT := sIf hT; obtain ⟨o1, hT⟩ := hT
      refine zReg md0 hX rfl rfl rfl ?_
      exact hnexts1 _ (Option.some.inj hT).symm _ (To.mk' [] 0 hε rfl (by repeat' first | exact True.intro | exact rfl | apply And.intro) (by repeat' first | exact True.intro | exact rfl | apply And.intro))
    · replace hT := sF hc hT
      refine rExit ?_
      refine rThenExit ?_
      refine rThenExit ?_
      exact zTo [] 0 hε (hxs10 _ (houts1 _ (Option.some.inj hT).symm))
  · cases h
def overspill_planes_Canvas_Frame_v2 (N : Nat) (a1 : Int) (a2 : Nat) (a3 : Nat) (a4 : Nat) (a5 : Nat) (a6 : (List Int)) (a7 : Nat) (a8 : (List Int)) (a9 : Nat) (a10 : (List Int)) : Option (Int × (List (List Int))) :=
  if (0 : Int) ≤ (a2 : Int) ∧ (a2 : Int) * 1 ≤ 140737488355328 then
    let x1 := (layL (List.replicate (a2 : Int).toNat 0) 0 ((a6.take a2).take (min a2 (a2 : Int).toNat)) (min a2 (a2 : Int).toNat))
    if a2 ≤ a5 ∧ 0 + (min a2 (a2 : Int).toNat) ≤ (a2 : Int).toNat then
      if (0 : Int) ≤ (a3 : Int) ∧ (a3 : Int) * 1 ≤ 140737488355328 then
        let x2 := (layL (List.replicate (a3 : Int).toNat 0) 0 ((a8.take a3).take (min a3 (a3 : Int).toNat)) (min a3 (a3 : Int).toNat))
        if a3 ≤ a7 ∧ 0 + (min a3 (a3 : Int).toNat) ≤ (a3 : Int).toNat then
          if (0 : Int) ≤ (a4 : Int) ∧ (a4 : Int) * 1 ≤ 140737488355328 then
            let x3 := (layL (List.replicate (a4 : Int).toNat 0) 0 ((a10.take a4).take (min a4 (a4 : Int).toNat)) (min a4 (a4 : Int).toNat))
            if a4 ≤ a9 ∧ 0 + (min a4 (a4 : Int).toNat) ≤ (a4 : Int).toNat then
              if (a2 : Int).toNat = x1.length ∧ (a3 : Int).toNat = x2.length ∧ (a4 : Int).toNat = x3.length then
                some (a1, [x1, x2, x3])
              else none
            else none
          else none
        else none
      else none
    else none
  else none
def sp_overspill_planes_Canvas_Frame_v2 (N : Nat) : X.Spec := fun args lk => match args with
  | [.v (.c (.ptr i0 0 0 0 0 0))] => (match lk i0 with
    | some (.mem _ _ _ (.flat [.cs [.int .i64 a1], .cs [.sl i1 0 a2 1, .sl i2 0 a3 1, .sl i3 0 a4 1]])) => (match lk i1 with
    | some (.mem _ _ _ (.flat [.ints a5 .u8 a6])) => (match lk i2 with
    | some (.mem _ _ _ (.flat [.ints a7 .u8 a8])) => (match lk i3 with
    | some (.mem _ _ _ (.flat [.ints a9 .u8 a10])) => some ⟨(overspill_planes_Canvas_Frame_v2 N a1 a2 a3 a4 a5 a6 a7 a8 a9 a10).isSome = true, .v (.agg [.cs [.int .i64 ((overspill_planes_Canvas_Frame_v2 N a1 a2 a3 a4 a5 a6 a7 a8 a9 a10).getD default).1], .fzs 3 (.int .u8) ((overspill_planes_Canvas_Frame_v2 N a1 a2 a3 a4 a5 a6 a7 a8 a9 a10).getD default).2]), [], []⟩
    | _ => none)
    | _ => none)
    | _ => none)
    | _ => none)
  | _ => none
set_option maxRecDepth 100000 in
set_option maxHeartbeats 1000000 in
theorem ok_overspill_planes_Canvas_Frame_v2 (N : Nat) : FnOK Try.prog gt0 29 (sp_overspill_planes_Canvas_Frame_v2 N) := by
  refine fnOK_handed Try.func29 rfl (by kernel_rfl) ttC_ok (ktNil) ?_
  intro args lk r h hp
  unfold sp_overspill_planes_Canvas_Frame_v2 at h
  split at h
  · rename_i i0
    split at h
    · rename_i _ _ _ a1 i1 a2 i2 a3 i3 a4 hl0
      split at h
      · rename_i _ _ _ a5 a6 hl1
        split at h
        · rename_i _ _ _ a7 a8 hl2
          split at h
          · rename_i _ _ _ a9 a10 hl3
            change (List Int) at a6
            change (List Int) at a8
            change (List Int) at a10
            cases h
            obtain ⟨x, hx⟩ := Option.isSome_iff_exists.1 hp
            simp only [hx, Option.getD_some]
            refine handL [i0, i1, i2, i3] 4 [(0, .mem false 53 none (.flat [.cs [.int .i64 a1], .cs [.sl 1 0 a2 1, .sl 2 0 a3 1, .sl 3 0 a4 1]])), (1, .mem false 5 none (.flat [.ints a5 .u8 a6])), (2, .mem false 5 none (.flat [.ints a7 .u8 a8])), (3, .mem false 5 none (.flat [.ints a9 .u8 a10]))] [.v (.c (.ptr 0 0 0 0 0 0))] rfl rfl rfl ⟨isSome_of hl3, isSome_of hl2, isSome_of hl1, isSome_of hl0, trivial⟩ ⟨⟨rfl, (by repeat' first | exact True.intro | exact rfl | exact ⟨_, rfl, rfl⟩ | apply And.intro | exact Or.inl rfl), _, hl0, sub_ro⟩, ⟨rfl, (by repeat' first | exact True.intro | exact rfl | exact ⟨_, rfl, rfl⟩ | apply And.intro | exact Or.inl rfl), _, hl1, sub_ro⟩, ⟨rfl, (by repeat' first | exact True.intro | exact rfl | exact ⟨_, rfl, rfl⟩ | apply And.intro | exact Or.inl rfl), _, hl2, sub_ro⟩, ⟨rfl, (by repeat' first | exact True.intro | exact rfl | exact ⟨_, rfl, rfl⟩ | apply And.intro | exact Or.inl rfl), _, hl3, sub_ro⟩, trivial⟩ rfl (fun w0 M ε0 hX => ?_)
            refine rCount (fun hε => ?_)
            have hT : overspill_planes_Canvas_Frame_v2 N a1 a2 a3 a4 a5 a6 a7 a8 a9 a10 = some x := hx; clear hx hp; unfold overspill_planes_Canvas_Frame_v2 at hT
            refine rSeq ?_
            refine zReg md0 hX rfl rfl rfl ?_
            refine rThen ?_
            refine rSeq ?_
            refine rSeq ?_
            refine zReg md0 hX rfl rfl rfl ?_
            refine rThen ?_
            refine rCondF rfl rfl (by (repeat' first | exact True.intro | with_reducible assumption | (with_reducible apply And.intro) | intro _) <;> first | assumption | exact rfl | omega | exact Nat.le_of_ble_eq_true rfl | exact selF (by assumption) | exact selT (by assumption) | exact And.intro rfl rfl | exact And.intro (by assumption) rfl | exact And.intro (by omega) rfl | (simp only [inK] at *; omega) | (simp_all [sel] <;> fail) | fail) rfl ?_
            refine rSkip ?_
            refine rThen ?_
            refine rSeq ?_
            refine zReg md0 hX rfl rfl rfl ?_
            refine rThen ?_
            refine rSeq ?_
            refine rSeq ?_
            refine zReg md0 hX rfl rfl rfl ?_
            refine rThen ?_
            refine rBlock ?_
            refine rRounds 24 ?_
            refine rSeq ?_
            refine zReg md0 hX rfl rfl rfl ?_
            refine rThen ?_
            refine rSeq ?_
            refine rCondT rfl rfl (by (repeat' first | exact True.intro | with_reducible assumption | (with_reducible apply And.intro) | intro _) <;> first | assumption | exact rfl | omega | exact Nat.le_of_ble_eq_true rfl | exact selF (by assumption) | exact selT (by assumption) | exact And.intro rfl rfl | exact And.intro (by assumption) rfl | exact And.intro (by omega) rfl | (simp only [inK] at *; omega) | (simp_all [sel] <;> fail) | fail) rfl ?_
            refine rSkip ?_
            refine rThen ?_
            refine rSeq ?_
            refine rBlock ?_
            refine rSeq ?_
            refine zReg md0 hX rfl rfl rfl ?_
            refine rThen ?_
            refine rSeq ?_
            replace hT := sIf hT; obtain ⟨⟨o1, o2⟩, hT⟩ := hT
            refine zReg md0 hX rfl rfl rfl ?_
            refine rThen ?_
            let x1 := (layL (List.replicate (a2 : Int).toNat 0) 0 ((a6.take a2).take (min a2 (a2 : Int).toNat)) (min a2 (a2 : Int).toNat))
            replace hT := sIf hT; obtain ⟨⟨o1, o2⟩, hT⟩ := hT
            refine zReg md0 hX rfl rfl rfl ?_
            refine rInNormal ?_
            refine rThen ?_
            refine zReg md0 hX rfl rfl rfl ?_
            refine rRound ?_
            refine rSeq ?_
            refine zReg md0 hX rfl rfl rfl ?_
            refine rThen ?_
            refine rSeq ?_
            refine rCondT rfl rfl (by (repeat' first | exact True.intro | with_reducible assumption | (with_reducible apply And.intro) | intro _) <;> first | assumption | exact rfl | omega | exact Nat.le_of_ble_eq_true rfl | exact selF (by assumption) | exact selT (by assumption) | exact And.intro rfl rfl | exact And.intro (by assumption) rfl | exact And.intro (by omega) rfl | (simp only [inK] at *; omega) | (simp_all [sel] <;> fail) | fail) rfl ?_
            refine rSkip ?_
            refine rThen ?_
            refine rSeq ?_
            refine rBlock ?_
            refine rSeq ?_
            refine zReg md0 hX rfl rfl rfl ?_
            refine rThen ?_
            refine rSeq ?_
            replace hT := sIf hT; obtain ⟨⟨o1, o2⟩, hT⟩ := hT
            refine zReg md0 hX rfl rfl rfl ?_
            refine rThen ?_
            let x2 := (layL (List.replicate (a3 : Int).toNat 0) 0 ((a8.take a3).take (min a3 (a3 : Int).toNat)) (min a3 (a3 : Int).toNat))
            replace hT := sIf hT; obtain ⟨⟨o1, o2⟩, hT⟩ := hT
            refine zReg md0 hX rfl rfl rfl ?_
            refine rInNormal ?_
            refine rThen ?_
            refine zReg md0 hX rfl rfl rfl ?_
            refine rRound ?_
            refine rSeq ?_
            refine zReg md0 hX rfl rfl rfl ?_
            refine rThen ?_
            refine rSeq ?_
            refine rCondT rfl rfl (by (repeat' first | exact True.intro | with_reducible assumption | (with_reducible apply And.intro) | intro _) <;> first | assumption | exact rfl | omega | exact Nat.le_of_ble_eq_true rfl | exact selF (by assumption) | exact selT (by assumption) | exact And.intro rfl rfl | exact And.intro (by assumption) rfl | exact And.intro (by omega) rfl | (simp only [inK] at *; omega) | (simp_all [sel] <;> fail) | fail) rfl ?_
            refine rSkip ?_
            refine rThen ?_
            refine rSeq ?_
            refine rBlock ?_
            refine rSeq ?_
            refine zReg md0 hX rfl rfl rfl ?_
            refine rThen ?_
            refine rSeq ?_
            replace hT := sIf hT; obtain ⟨⟨o1, o2⟩, hT⟩ := hT
            refine zReg md0 hX rfl rfl rfl ?_
            refine rThen ?_
            let x3 := (layL (List.replicate (a4 : Int).toNat 0) 0 ((a10.take a4).take (min a4 (a4 : Int).toNat)) (min a4 (a4 : Int).toNat))
            replace hT := sIf hT; obtain ⟨⟨o1, o2⟩, hT⟩ := hT
            refine zReg md0 hX rfl rfl rfl ?_
            refine rInNormal ?_
            refine rThen ?_
            refine zReg md0 hX rfl rfl rfl ?_
            refine rRound ?_
            refine rSeq ?_
            refine zReg md0 hX rfl rfl rfl ?_
            refine rThen ?_
            refine rSeq ?_
            refine rCondF rfl rfl (by (repeat' first | exact True.intro | with_reducible assumption | (with_reducible apply And.intro) | intro _) <;> first | assumption | exact rfl | omega | exact Nat.le_of_ble_eq_true rfl | exact selF (by assumption) | exact selT (by assumption) | exact And.intro rfl rfl | exact And.intro (by assumption) rfl | exact And.intro (by omega) rfl | (simp only [inK] at *; omega) | (simp_all [sel] <;> fail) | fail) rfl ?_
            refine rExit ?_
            refine rThenExit ?_
            refine rThenExit ?_
            refine rInHit ?_
            refine rThen ?_
            refine rSeq ?_
            refine zReg md0 hX rfl rfl rfl ?_
            refine rThen ?_
            refine rRet ?_
            replace hT := sIf hT; obtain ⟨⟨p1, p2, p3⟩, hT⟩ := hT
            refine rFreezeQ 6 (.int .u8) x1 [(2, .v (.c (.ptr 4 0 0 0 0 0)))] [(0, .mem false 53 none (.flat [.cs [.int .i64 a1], .cs [.sl 1 0 a2 1, .sl 2 0 a3 1, .sl 3 0 a4 1]])), (1, .mem false 5 none (.flat [.ints a5 .u8 a6])), (2, .mem false 5 none (.flat [.ints a7 .u8 a8])), (3, .mem false 5 none (.flat [.ints a9 .u8 a10])), (4, .mem true 25 none (.flat [.cs [.int .i64 a1, .fz (.int .u8) x1, .sl 7 0 (a3 : Int).toNat 1, .sl 8 0 (a4 : Int).toNat 1]])), (7, .mem true 5 (some 1) (.flat [.ints (a3 : Int).toNat .u8 x2])), (8, .mem true 5 (some 1) (.flat [.ints (a4 : Int).toNat .u8 x3]))] rfl rfl (by (repeat' first | exact True.intro | exact rfl | apply And.intro) <;> first | assumption | rfl) (by (repeat' first | exact True.intro | exact rfl | apply And.intro) <;> first | assumption | rfl) ?_
            refine rFreezeQ 7 (.int .u8) x2 [(2, .v (.c (.ptr 4 0 0 0 0 0)))] [(0, .mem false 53 none (.flat [.cs [.int .i64 a1], .cs [.sl 1 0 a2 1, .sl 2 0 a3 1, .sl 3 0 a4 1]])), (1, .mem false 5 none (.flat [.ints a5 .u8 a6])), (2, .mem false 5 none (.flat [.ints a7 .u8 a8])), (3, .mem false 5 none (.flat [.ints a9 .u8 a10])), (4, .mem true 25 none (.flat [.cs [.int .i64 a1, .fz (.int .u8) x1, .fz (.int .u8) x2, .sl 8 0 (a4 : Int).toNat 1]])), (8, .mem true 5 (some 1) (.flat [.ints (a4 : Int).toNat .u8 x3]))] rfl rfl (by (repeat' first | exact True.intro | exact rfl | apply And.intro) <;> first | assumption | rfl) (by (repeat' first | exact True.intro | exact rfl | apply And.intro) <;> first | assumption | rfl) ?_
            refine rFreezeQ 8 (.int .u8) x3 [(2, .v (.c (.ptr 4 0 0 0 0 0)))] [(0, .mem false 53 none (.flat [.cs [.int .i64 a1], .cs [.sl 1 0 a2 1, .sl 2 0 a3 1, .sl 3 0 a4 1]])), (1, .mem false 5 none (.flat [.ints a5 .u8 a6])), (2, .mem false 5 none (.flat [.ints a7 .u8 a8])), (3, .mem false 5 none (.flat [.ints a9 .u8 a10])), (4, .mem true 25 none (.flat [.cs [.int .i64 a1, .fz (.int .u8) x1, .fz (.int .u8) x2, .fz (.int .u8) x3]]))] rfl rfl (by (repeat' first | exact True.intro | exact rfl | apply And.intro) <;> first | assumption | rfl) (by (repeat' first | exact True.intro | exact rfl | apply And.intro) <;> first | assumption | rfl) ?_
            refine rPackE 4 rfl rfl ?_
            have hy := Option.some.inj hT; subst hy
            exact zEnd0 hX rfl
          · cases h
        · cases h
      · cases h
    · cases h
  · cases h
def law17_patch_b1 (N : Nat) (a2 : (List Int)) (s1 : (Int × (List Int))) : Option ((Int × (List Int)) ⊕ (List Int)) :=
  bif (decide (s1.1 < (a2.length : Int))) then
    if (0 : Int) ≤ s1.1 ∧ (0 : Int) ≤ (s1.1 / 64) ∧ s1.1 < (a2.length : Int) ∧ (0 : Int) ≤ ((s1.1 / 64) % 6) ∧ ((s1.1 / 64) % 6) < 6 ∧ (0 : Int) ≤ (s1.1 % 64) ∧ (s1.1 % 64) < 64 ∧ (((s1.1 / 64) % 6).toNat * 64 + (s1.1 % 64).toNat) < 384 then
      if inK .i64 (s1.1 + 1) then
        some (.inl ((s1.1 + 1), (s1.2.set (((s1.1 / 64) % 6).toNat * 64 + (s1.1 % 64).toNat) (a2.getD (s1.1).toNat 0))))
      else none
    else none
  else
    some (.inr s1.2)
def law17_patch (N : Nat) (a1 : Int) (a2 : (List Int)) : Option (List Int) :=
  (iter (law17_patch_b1 N a2) N (0, (List.replicate 384 0))).bind fun v1 =>
    some v1
def sp_law17_patch (N : Nat) : X.Spec := fun args lk => match args with
  | [.v (.agg [.cs [.int .i64 a1, .fz (.int .i64) a2]])] => some ⟨(law17_patch N a1 a2).isSome = true, .v (.agg [.ints 384 .i64 ((law17_patch N a1 a2).getD default)]), [], []⟩
  | _ => none
set_option maxRecDepth 100000 in
set_option maxHeartbeats 1000000 in
theorem ok_law17_patch (N : Nat) : FnOK Try.prog gt0 30 (sp_law17_patch N) := by
  refine fnOK_handed Try.func30 rfl (by kernel_rfl) tt_ok (ktNil) ?_
  intro args lk r h hp
  unfold sp_law17_patch at h
  split at h
  · rename_i a1 a2
    change (List Int) at a2
    cases h
    obtain ⟨x, hx⟩ := Option.isSome_iff_exists.1 hp
    simp only [hx, Option.getD_some]
    refine hand0 rfl rfl (fun w0 M ε0 hX => ?_)
    refine rCount (fun hε => ?_)
    have hT : law17_patch N a1 a2 = some x := hx; clear hx hp; unfold law17_patch at hT
    refine rSeq ?_
    refine zReg md0 hX rfl rfl rfl ?_
    refine rThen ?_
    refine rSeq ?_
    refine zReg md0 hX rfl rfl rfl ?_
    refine rThen ?_
    refine rSeq ?_
    refine rSeq ?_
    refine zReg md0 hX rfl rfl rfl ?_
    refine rThen ?_
    refine rBlock ?_
    replace hT := sBind hT; obtain ⟨w1, hl, hT⟩ := hT
    refine rJoinA (fun v1 => v1 = w1) (fun v1 => ⟨[(2, .v (.c (.ptr 1 0 0 0 0 0))), (3, .v (.c (.ptr 2 0 0 0 0 0)))], [(1, .mem true 31 none (.flat [.ints 384 .i64 (List.replicate 384 0)])), (2, .mem true 31 none (.flat [.ints 384 .i64 v1]))], 3⟩) (.exit 0) (fun v1 hv => ?_) (fun hxs10 => ?_)
    · subst hv; clear hl
      refine rInHit ?_
      refine rThen ?_
      refine rSeq ?_
      refine zReg md0 hX rfl rfl rfl ?_
      refine rThen ?_
      refine rRet ?_
      have hy := Option.some.inj hT; subst hy
      exact zEnd0 hX rfl
    refine rLoopM (law17_patch_b1 N a2) (fun s1 => ⟨[(1, .v (.c (.ptr 0 0 0 0 0 0))), (2, .v (.c (.ptr 1 0 0 0 0 0))), (3, .v (.c (.ptr 2 0 0 0 0 0))), (4, .v (.c (.int .i64 s1.1)))], [(0, .mem true 58 none (.flat [.cs [.int .i64 a1, .fz (.int .i64) a2]])), (1, .mem true 31 none (.flat [.ints 384 .i64 (List.replicate 384 0)])), (2, .mem true 31 none (.flat [.ints 384 .i64 s1.2]))], 3⟩) hl (To.mk' [] 0 hε rfl (by repeat' first | exact True.intro | exact rfl | apply And.intro) (by repeat' first | exact True.intro | exact rfl | apply And.intro)) (fun s1 zs1 NNs1 hz hnexts1 houts1 => ?_)
    clear hl hT
    have hT := hz; clear hz
    refine rSeq ?_
    refine rSeq ?_
    refine zReg md0 hX rfl rfl rfl ?_
    refine rThen ?_
    refine zCond rfl rfl (fun hc => ?_) (fun hc => ?_)
    · replace hT := sT hc hT
      refine rSkip ?_
      refine rThen ?_
      refine rSeq ?_
      refine rBlock ?_
      replace hT := sIf hT; obtain ⟨⟨o1, o2, o3, o4, o5, o6, o7, o8⟩, hT⟩ := hT
      refine zDraw md0 1 [12] hX mixed rfl rfl rfl rfl rfl ?_
      refine rInNormal ?_
      refine rThen ?_
      replace hT := sIf hT; obtain ⟨o1, hT⟩ := hT
      refine zReg md0 hX rfl rfl rfl ?_
      exact hnexts1 _ (Option.some.inj hT).symm _ (To.mk' [] 0 hε rfl (by repeat' first | exact True.intro | exact rfl | apply And.intro) (by repeat' first | exact True.intro | exact rfl | apply And.intro))
    · replace hT := sF hc hT
      refine rExit ?_
      refine rThenExit ?_
      refine rThenExit ?_
      exact zTo [] 0 hε (hxs10 _ (houts1 _ (Option.some.inj hT).symm))
  · cases h

end Go.Proofs.Ytjknjjdijoboiaa
