/- Models of functions, and that the program does what they tell. -/
import Derived.Test.YtkfaebbbjahcpaaDoorF0
set_option linter.unusedVariables false
set_option linter.unusedSimpArgs false
namespace Go.Proofs.YtkfaebbbjahcpaaDoor
open Go.X

def whole_Clip (N : Nat) (a1 : Int) (a2 : Int) (a3 : Int) : Option Int :=
  bif (bif (decide (a3 < a2)) then (decide (a3 < a2)) else (decide (a1 < a2))) then
    some a2
  else
    bif (decide (a3 < a1)) then
      some a3
    else
      some a1
def sp_whole_Clip (N : Nat) : X.Spec := fun args lk => match args with
  | [.v (.c (.int .i64 a1)), .v (.c (.int .i64 a2)), .v (.c (.int .i64 a3))] => some ⟨(whole_Clip N a1 a2 a3).isSome = true, .v (.c (.int .i64 ((whole_Clip N a1 a2 a3).getD default))), [], []⟩
  | _ => none
set_option maxRecDepth 100000 in
set_option maxHeartbeats 1000000 in
theorem ok_whole_Clip (N : Nat) : FnOK Tryd.prog gt0 101 (sp_whole_Clip N) := by
  refine fnOK_handed Tryd.func101 rfl (by kernel_rfl) tt_ok (ktNil) ?_
  intro args lk r h hp
  unfold sp_whole_Clip at h
  split at h
  · rename_i a1 a2 a3
    cases h
    obtain ⟨x, hx⟩ := Option.isSome_iff_exists.1 hp
    simp only [hx, Option.getD_some]
    refine hand0 rfl rfl (fun w0 M ε0 hX => ?_)
    refine rCount (fun hε => ?_)
    have hT := hx; clear hx hp
    refine rSeq ?_
    refine rRegC md0 hX rfl rfl rfl (by repeat' first | exact True.intro | exact rfl | apply And.intro | omega | exact Nat.le_of_ble_eq_true rfl) ?_
    refine rThen ?_
    refine rSeq ?_
    refine rBlock ?_
    refine rSeq ?_
    refine rSeq ?_
    refine rRegC md0 hX rfl rfl rfl (by repeat' first | exact True.intro | exact rfl | apply And.intro | omega | exact Nat.le_of_ble_eq_true rfl) ?_
    refine rThen ?_
    refine rJoin ⟨[(0, .v (.c (.int .i64 a1))), (1, .v (.c (.int .i64 a2))), (2, .v (.c (.int .i64 a3))), (6, .v (.c (.int .i64 0))), (7, .v (.c (.bool (bif (decide (a3 < a2)) then (decide (a3 < a2)) else (decide (a1 < a2))))))], [], 0⟩ ?_ (fun hj => ?_)
    · skip
      refine rThen ?_
      refine rCond rfl rfl (by repeat' first | exact True.intro | exact rfl | apply And.intro | omega | exact Nat.le_of_ble_eq_true rfl) (fun hc => ?_) (fun hc => ?_)
      · have hT := sT hc hT
        refine rSeq ?_
        refine rRegC md0 hX rfl rfl rfl (by repeat' first | exact True.intro | exact rfl | apply And.intro | omega | exact Nat.le_of_ble_eq_true rfl) ?_
        refine rThen ?_
        refine rRet ?_
        refine rInRet ?_
        refine rThenRet ?_
        obtain rfl := Option.some.inj hT
        exact rEnd0 hX rfl (by repeat' first | exact True.intro | exact rfl | apply And.intro | omega | exact Nat.le_of_ble_eq_true rfl) (by repeat' first | exact True.intro | exact rfl | apply And.intro) rfl rfl rfl rfl rfl
      · have hT := sF hc hT
        refine rSeq ?_
        refine rRegC md0 hX rfl rfl rfl (by repeat' first | exact True.intro | exact rfl | apply And.intro | omega | exact Nat.le_of_ble_eq_true rfl) ?_
        refine rThen ?_
        refine rCond rfl rfl (by repeat' first | exact True.intro | exact rfl | apply And.intro | omega | exact Nat.le_of_ble_eq_true rfl) (fun hc => ?_) (fun hc => ?_)
        · have hT := sT hc hT
          refine rSeq ?_
          refine rRegC md0 hX rfl rfl rfl (by repeat' first | exact True.intro | exact rfl | apply And.intro | omega | exact Nat.le_of_ble_eq_true rfl) ?_
          refine rThen ?_
          refine rRet ?_
          refine rInRet ?_
          refine rThenRet ?_
          obtain rfl := Option.some.inj hT
          exact rEnd0 hX rfl (by repeat' first | exact True.intro | exact rfl | apply And.intro | omega | exact Nat.le_of_ble_eq_true rfl) (by repeat' first | exact True.intro | exact rfl | apply And.intro) rfl rfl rfl rfl rfl
        · have hT := sF hc hT
          refine rSkip ?_
          refine rInNormal ?_
          refine rThen ?_
          refine rSeq ?_
          refine rRegC md0 hX rfl rfl rfl (by repeat' first | exact True.intro | exact rfl | apply And.intro | omega | exact Nat.le_of_ble_eq_true rfl) ?_
          refine rThen ?_
          refine rRet ?_
          obtain rfl := Option.some.inj hT
          exact rEnd0 hX rfl (by repeat' first | exact True.intro | exact rfl | apply And.intro | omega | exact Nat.le_of_ble_eq_true rfl) (by repeat' first | exact True.intro | exact rfl | apply And.intro) rfl rfl rfl rfl rfl
    · clear hT
      refine rCond rfl rfl (by repeat' first | exact True.intro | exact rfl | apply And.intro | omega | exact Nat.le_of_ble_eq_true rfl) (fun hc => ?_) (fun hc => ?_)
      · skip
        refine rSkip ?_
        exact rTo (To.mk' [] 0 hε rfl (by (repeat' first | exact True.intro | exact rfl | apply And.intro) <;> (repeat' first | exact rfl | refine Eq.trans ?_ (cTr (by assumption)) | refine Eq.trans ?_ (cFr (by assumption)))) (by (repeat' first | exact True.intro | exact rfl | apply And.intro) <;> (repeat' first | exact rfl | refine Eq.trans ?_ (cTr (by assumption)) | refine Eq.trans ?_ (cFr (by assumption))))) hj
      · skip
        refine rRegC md0 hX rfl rfl rfl (by repeat' first | exact True.intro | exact rfl | apply And.intro | omega | exact Nat.le_of_ble_eq_true rfl) ?_
        exact rTo (To.mk' [] 0 hε rfl (by (repeat' first | exact True.intro | exact rfl | apply And.intro) <;> (repeat' first | exact rfl | refine Eq.trans ?_ (cTr (by assumption)) | refine Eq.trans ?_ (cFr (by assumption)))) (by (repeat' first | exact True.intro | exact rfl | apply And.intro) <;> (repeat' first | exact rfl | refine Eq.trans ?_ (cTr (by assumption)) | refine Eq.trans ?_ (cFr (by assumption))))) hj
  · cases h
def feed_plain_b1 (N : Nat) (a1 : (List Int)) (s1 : (Int × (List Int))) : Option ((Int × (List Int)) ⊕ (List Int)) :=
  bif (decide (s1.1 < 64)) then
    if (0 : Int) ≤ s1.1 ∧ s1.1 < 64 ∧ (s1.1).toNat < 64 then
      let c3 := (whole_Clip N (a1.getD (s1.1).toNat 0) (-127) 127)
      if c3.isSome = true ∧ (0 : Int) ≤ s1.1 ∧ s1.1 < 64 ∧ (s1.1).toNat < 64 then
        if inK .i64 (s1.1 + 1) then
          some (.inl ((s1.1 + 1), (s1.2.set (s1.1).toNat (c3.getD default))))
        else none
      else none
    else none
  else
    some (.inr s1.2)
def feed_plain (N : Nat) (a1 : (List Int)) (a2 : (List Int)) (a3 : Int) (a4 : Int) (a5 : Bool) : Option ((List Int) × (List Int) × Int × Int × Bool) :=
  (iter (feed_plain_b1 N a1) N (0, a1)).bind fun v1 =>
    let c1 := (whole_Clip N a3 1 31)
    let c2 := (whole_Clip N a4 1 31)
    if c1.isSome = true ∧ c2.isSome = true then
      some ((bif a5 then (v1.set 0 0) else v1), (bif a5 then (List.replicate 64 0) else a2), (c1.getD default), (c2.getD default), a5)
    else none
def sp_feed_plain (N : Nat) : X.Spec := fun args lk => match args with
  | [.v (.agg [.ints 64 .i64 a1, .ints 64 .i64 a2, .cs [.int .i64 a3, .int .i64 a4, .bool a5]])] => some ⟨(feed_plain N a1 a2 a3 a4 a5).isSome = true, .v (.agg [.ints 64 .i64 ((feed_plain N a1 a2 a3 a4 a5).getD default).1, .ints 64 .i64 ((feed_plain N a1 a2 a3 a4 a5).getD default).2.1, .cs [.int .i64 ((feed_plain N a1 a2 a3 a4 a5).getD default).2.2.1, .int .i64 ((feed_plain N a1 a2 a3 a4 a5).getD default).2.2.2.1, .bool ((feed_plain N a1 a2 a3 a4 a5).getD default).2.2.2.2]]), [], []⟩
  | _ => none
set_option maxRecDepth 100000 in
set_option maxHeartbeats 1000000 in
theorem ok_feed_plain (N : Nat) : FnOK Tryd.prog gt0 49 (sp_feed_plain N) := by
  refine fnOK_handed Tryd.func49 rfl (by kernel_rfl) tt_ok (ktCons (ok_whole_Clip N) (ktNil)) ?_
  intro args lk r h hp
  unfold sp_feed_plain at h
  split at h
  · rename_i a1 a2 a3 a4 a5
    cases h
    obtain ⟨x, hx⟩ := Option.isSome_iff_exists.1 hp
    simp only [hx, Option.getD_some]
    refine hand0 rfl rfl (fun w0 M ε0 hX => ?_)
    refine rCount (fun hε => ?_)
    have hT := hx; clear hx hp
    refine rSeq ?_
    refine rRegC md0 hX rfl rfl rfl (by repeat' first | exact True.intro | exact rfl | apply And.intro | omega | exact Nat.le_of_ble_eq_true rfl) ?_
    refine rThen ?_
    refine rSeq ?_
    refine rSeq ?_
    refine rRegC md0 hX rfl rfl rfl (by repeat' first | exact True.intro | exact rfl | apply And.intro | omega | exact Nat.le_of_ble_eq_true rfl) ?_
    refine rThen ?_
    refine rBlock ?_
    obtain ⟨w1, hl, hT⟩ := sBind hT
    refine rJoinA (fun v1 => v1 = w1) (fun v1 => ⟨[(1, .v (.c (.ptr 0 0 0 0 0 0))), (2, .v (.c (.ptr 1 0 0 0 0 0)))], [(0, .mem true 26 none (.flat [.ints 64 .i64 v1, .ints 64 .i64 a2, .cs [.int .i64 a3, .int .i64 a4, .bool a5]])), (1, .mem true 26 none (.flat [.ints 64 .i64 (List.replicate 64 0), .ints 64 .i64 (List.replicate 64 0), .cs [.int .i64 0, .int .i64 0, .bool false]]))], 2⟩) (.exit 0) (fun v1 hv => ?_) (fun hxs10 => ?_)
    · subst hv; clear hl
      refine rInHit ?_
      refine rThen ?_
      refine rSeq ?_
      refine rSeq ?_
      refine rRegC md0 hX rfl rfl rfl (by repeat' first | exact True.intro | exact rfl | apply And.intro | omega | exact Nat.le_of_ble_eq_true rfl) ?_
      refine rThen ?_
      refine rJoin ⟨[(1, .v (.c (.ptr 0 0 0 0 0 0))), (2, .v (.c (.ptr 1 0 0 0 0 0)))], [(0, .mem true 26 none (.flat [.ints 64 .i64 (bif a5 then (v1.set 0 0) else v1), .ints 64 .i64 (bif a5 then (List.replicate 64 0) else a2), .cs [.int .i64 a3, .int .i64 a4, .bool a5]])), (1, .mem true 26 none (.flat [.ints 64 .i64 (List.replicate 64 0), .ints 64 .i64 (List.replicate 64 0), .cs [.int .i64 0, .int .i64 0, .bool false]]))], 2⟩ ?_ (fun hj => ?_)
      · skip
        refine rThen ?_
        refine rSeq ?_
        let c1 := (whole_Clip N a3 1 31)
        let c2 := (whole_Clip N a4 1 31)
        obtain ⟨⟨o1, o2⟩, hT⟩ := sIf hT
        refine rDrawM md0 2 [7, 9] hX mixed rfl rfl rfl rfl rfl (by (repeat' first | exact True.intro | with_reducible assumption | (with_reducible apply And.intro) | intro _) <;> first | assumption | exact rfl | omega | exact Nat.le_of_ble_eq_true rfl | (simp only [inK] at *; omega) | (simp_all [sel] <;> fail) | fail) ?_
        refine rThen ?_
        refine rSeq ?_
        refine rRegC md0 hX rfl rfl rfl (by repeat' first | exact True.intro | exact rfl | apply And.intro | omega | exact Nat.le_of_ble_eq_true rfl) ?_
        refine rThen ?_
        refine rRet ?_
        obtain rfl := Option.some.inj hT
        exact rEnd0 hX rfl (by repeat' first | exact True.intro | exact rfl | apply And.intro | omega | exact Nat.le_of_ble_eq_true rfl) (by repeat' first | exact True.intro | exact rfl | apply And.intro) rfl rfl rfl rfl rfl
      · clear hT
        refine rCond rfl rfl (by repeat' first | exact True.intro | exact rfl | apply And.intro | omega | exact Nat.le_of_ble_eq_true rfl) (fun hc => ?_) (fun hc => ?_)
        · skip
          refine rRegC md0 hX rfl rfl rfl (by repeat' first | exact True.intro | exact rfl | apply And.intro | omega | exact Nat.le_of_ble_eq_true rfl) ?_
          exact rTo (To.mk' [] 0 hε rfl (by (repeat' first | exact True.intro | exact rfl | apply And.intro) <;> (repeat' first | exact rfl | refine Eq.trans ?_ (cTr (by assumption)) | refine Eq.trans ?_ (cFr (by assumption)))) (by (repeat' first | exact True.intro | exact rfl | apply And.intro) <;> (repeat' first | exact rfl | refine Eq.trans ?_ (cTr (by assumption)) | refine Eq.trans ?_ (cFr (by assumption))))) hj
        · skip
          refine rSkip ?_
          exact rTo (To.mk' [] 0 hε rfl (by (repeat' first | exact True.intro | exact rfl | apply And.intro) <;> (repeat' first | exact rfl | refine Eq.trans ?_ (cTr (by assumption)) | refine Eq.trans ?_ (cFr (by assumption)))) (by (repeat' first | exact True.intro | exact rfl | apply And.intro) <;> (repeat' first | exact rfl | refine Eq.trans ?_ (cTr (by assumption)) | refine Eq.trans ?_ (cFr (by assumption))))) hj
    refine rLoopM (feed_plain_b1 N a1) (fun s1 => ⟨[(1, .v (.c (.ptr 0 0 0 0 0 0))), (2, .v (.c (.ptr 1 0 0 0 0 0))), (6, .v (.agg [.ints 64 .i64 a1])), (7, .v (.c (.int .i64 s1.1)))], [(0, .mem true 26 none (.flat [.ints 64 .i64 s1.2, .ints 64 .i64 a2, .cs [.int .i64 a3, .int .i64 a4, .bool a5]])), (1, .mem true 26 none (.flat [.ints 64 .i64 (List.replicate 64 0), .ints 64 .i64 (List.replicate 64 0), .cs [.int .i64 0, .int .i64 0, .bool false]]))], 2⟩) hl (To.mk' [] 0 hε rfl (by repeat' first | exact True.intro | exact rfl | apply And.intro) (by repeat' first | exact True.intro | exact rfl | apply And.intro)) (fun s1 zs1 NNs1 hz hnexts1 houts1 => ?_)
    clear hl hT
    have hT := hz; clear hz
    refine rSeq ?_
    refine rRegC md0 hX rfl rfl rfl (by repeat' first | exact True.intro | exact rfl | apply And.intro | omega | exact Nat.le_of_ble_eq_true rfl) ?_
    refine rThen ?_
    refine rSeq ?_
    refine rCond rfl rfl (by repeat' first | exact True.intro | exact rfl | apply And.intro | omega | exact Nat.le_of_ble_eq_true rfl) (fun hc => ?_) (fun hc => ?_)
    · have hT := sT hc hT
      refine rSkip ?_
      refine rThen ?_
      refine rSeq ?_
      refine rBlock ?_
      refine rSeq ?_
      obtain ⟨⟨o1, o2, o3⟩, hT⟩ := sIf hT
      refine rRegC md0 hX rfl rfl rfl (by (repeat' first | exact True.intro | with_reducible assumption | (with_reducible apply And.intro) | intro _) <;> first | assumption | exact rfl | omega | exact Nat.le_of_ble_eq_true rfl | (simp only [inK] at *; omega) | (simp_all [sel] <;> fail) | fail) ?_
      refine rThen ?_
      let c3 := (whole_Clip N (a1.getD (s1.1).toNat 0) (-127) 127)
      obtain ⟨⟨o1, o2, o3, o4⟩, hT⟩ := sIf hT
      refine rRegC md0 hX rfl rfl rfl (by (repeat' first | exact True.intro | with_reducible assumption | (with_reducible apply And.intro) | intro _) <;> first | assumption | exact rfl | omega | exact Nat.le_of_ble_eq_true rfl | (simp only [inK] at *; omega) | (simp_all [sel] <;> fail) | fail) ?_
      refine rInNormal ?_
      refine rThen ?_
      obtain ⟨o1, hT⟩ := sIf hT
      refine rRegC md0 hX rfl rfl rfl (by (repeat' first | exact True.intro | with_reducible assumption | (with_reducible apply And.intro) | intro _) <;> first | assumption | exact rfl | omega | exact Nat.le_of_ble_eq_true rfl | (simp only [inK] at *; omega) | (simp_all [sel] <;> fail) | fail) ?_
      exact hnexts1 _ (Option.some.inj hT).symm _ (To.mk' [] 0 hε rfl (by repeat' first | exact True.intro | exact rfl | apply And.intro) (by repeat' first | exact True.intro | exact rfl | apply And.intro))
    · have hT := sF hc hT
      refine rExit ?_
      refine rThenExit ?_
      refine rThenExit ?_
      exact rTo (To.mk' [] 0 hε rfl (by repeat' first | exact True.intro | exact rfl | apply And.intro) (by repeat' first | exact True.intro | exact rfl | apply And.intro)) (hxs10 _ (houts1 _ (Option.some.inj hT).symm))
  · cases h
def scale_Value (N : Nat) (a1 : Int) (a2 : Int) : Option Int :=
  let c1 := (whole_Clip N a1 (-127) 127)
  if c1.isSome = true then
    let c2 := (whole_Clip N a2 1 31)
    if c2.isSome = true then
      bif (decide ((c1.getD default) = 0)) then
        some 0
      else
        if inK .i64 (-(c1.getD default)) ∧ inK .i64 ((2 : Int) * (max (c1.getD default) (-(c1.getD default)))) ∧ inK .i64 (((2 : Int) * (max (c1.getD default) (-(c1.getD default)))) + 1) ∧ inK .i64 ((c2.getD default) * (((2 : Int) * (max (c1.getD default) (-(c1.getD default)))) + 1)) then
          if (0 : Int) ≤ (c2.getD default) then
            if ((decide (((c2.getD default) % 2) = 0)) = true → inK .i64 (((c2.getD default) * (((2 : Int) * (max (c1.getD default) (-(c1.getD default)))) + 1)) - 1)) then
              let x1 := (bif (decide (((c2.getD default) % 2) = 0)) then (((c2.getD default) * (((2 : Int) * (max (c1.getD default) (-(c1.getD default)))) + 1)) - 1) else ((c2.getD default) * (((2 : Int) * (max (c1.getD default) (-(c1.getD default)))) + 1)))
              if ((decide ((c1.getD default) < 0)) = true → inK .i64 (-x1)) then
                let c3 := (whole_Clip N (bif (decide ((c1.getD default) < 0)) then (-x1) else x1) (-2048) 2047)
                if c3.isSome = true then
                  some (c3.getD default)
                else none
              else none
            else none
          else none
        else none
    else none
  else none
def sp_scale_Value (N : Nat) : X.Spec := fun args lk => match args with
  | [.v (.c (.int .i64 a1)), .v (.c (.int .i64 a2))] => some ⟨(scale_Value N a1 a2).isSome = true, .v (.c (.int .i64 ((scale_Value N a1 a2).getD default))), [], []⟩
  | _ => none
set_option maxRecDepth 100000 in
set_option maxHeartbeats 1000000 in
theorem ok_scale_Value (N : Nat) : FnOK Tryd.prog gt0 102 (sp_scale_Value N) := by
  refine fnOK_handed Tryd.func102 rfl (by kernel_rfl) tt_ok (ktCons (ok_whole_Clip N) (ktNil)) ?_
  intro args lk r h hp
  unfold sp_scale_Value at h
  split at h
  · rename_i a1 a2
    cases h
    obtain ⟨x, hx⟩ := Option.isSome_iff_exists.1 hp
    simp only [hx, Option.getD_some]
    refine hand0 rfl rfl (fun w0 M ε0 hX => ?_)
    refine rCount (fun hε => ?_)
    have hT := hx; clear hx hp
    refine rSeq ?_
    refine rRegC md0 hX rfl rfl rfl (by repeat' first | exact True.intro | exact rfl | apply And.intro | omega | exact Nat.le_of_ble_eq_true rfl) ?_
    refine rThen ?_
    refine rSeq ?_
    let c1 := (whole_Clip N a1 (-127) 127)
    obtain ⟨o1, hT⟩ := sIf hT
    refine rRegC md0 hX rfl rfl rfl (by (repeat' first | exact True.intro | with_reducible assumption | (with_reducible apply And.intro) | intro _) <;> first | assumption | exact rfl | omega | exact Nat.le_of_ble_eq_true rfl | (simp only [inK] at *; omega) | (simp_all [sel] <;> fail) | fail) ?_
    refine rThen ?_
    refine rSeq ?_
    let c2 := (whole_Clip N a2 1 31)
    obtain ⟨o1, hT⟩ := sIf hT
    refine rRegC md0 hX rfl rfl rfl (by (repeat' first | exact True.intro | with_reducible assumption | (with_reducible apply And.intro) | intro _) <;> first | assumption | exact rfl | omega | exact Nat.le_of_ble_eq_true rfl | (simp only [inK] at *; omega) | (simp_all [sel] <;> fail) | fail) ?_
    refine rThen ?_
    refine rSeq ?_
    refine rSeq ?_
    refine rRegC md0 hX rfl rfl rfl (by repeat' first | exact True.intro | exact rfl | apply And.intro | omega | exact Nat.le_of_ble_eq_true rfl) ?_
    refine rThen ?_
    refine rCond rfl rfl (by repeat' first | exact True.intro | exact rfl | apply And.intro | omega | exact Nat.le_of_ble_eq_true rfl) (fun hc => ?_) (fun hc => ?_)
    · have hT := sT hc hT
      refine rSeq ?_
      refine rRegC md0 hX rfl rfl rfl (by repeat' first | exact True.intro | exact rfl | apply And.intro | omega | exact Nat.le_of_ble_eq_true rfl) ?_
      refine rThen ?_
      refine rRet ?_
      refine rThenRet ?_
      obtain rfl := Option.some.inj hT
      exact rEnd0 hX rfl (by repeat' first | exact True.intro | exact rfl | apply And.intro | omega | exact Nat.le_of_ble_eq_true rfl) (by repeat' first | exact True.intro | exact rfl | apply And.intro) rfl rfl rfl rfl rfl
    · have hT := sF hc hT
      refine rSkip ?_
      refine rThen ?_
      refine rSeq ?_
      obtain ⟨⟨o1, o2, o3, o4⟩, hT⟩ := sIf hT
      refine rRegC md0 hX rfl rfl rfl (by (repeat' first | exact True.intro | with_reducible assumption | (with_reducible apply And.intro) | intro _) <;> first | assumption | exact rfl | omega | exact Nat.le_of_ble_eq_true rfl | (simp only [inK] at *; omega) | (simp_all [sel] <;> fail) | fail) ?_
      refine rThen ?_
      refine rSeq ?_
      refine rSeq ?_
      obtain ⟨o1, hT⟩ := sIf hT
      refine rRegC md0 hX rfl rfl rfl (by (repeat' first | exact True.intro | with_reducible assumption | (with_reducible apply And.intro) | intro _) <;> first | assumption | exact rfl | omega | exact Nat.le_of_ble_eq_true rfl | (simp only [inK] at *; omega) | (simp_all [sel] <;> fail) | fail) ?_
      refine rThen ?_
      obtain ⟨q2, hT⟩ := sIf hT
      refine rJoin ⟨[(0, .v (.c (.int .i64 (c1.getD default)))), (4, .v (.c (.int .i64 0))), (5, .v (.c (.int .i64 (bif (decide (((c2.getD default) % 2) = 0)) then (((c2.getD default) * (((2 : Int) * (max (c1.getD default) (-(c1.getD default)))) + 1)) - 1) else ((c2.getD default) * (((2 : Int) * (max (c1.getD default) (-(c1.getD default)))) + 1))))))], [], 0⟩ ?_ (fun hj => ?_)
      · skip
        let x1 := (bif (decide (((c2.getD default) % 2) = 0)) then (((c2.getD default) * (((2 : Int) * (max (c1.getD default) (-(c1.getD default)))) + 1)) - 1) else ((c2.getD default) * (((2 : Int) * (max (c1.getD default) (-(c1.getD default)))) + 1)))
        refine rThen ?_
        refine rSeq ?_
        refine rSeq ?_
        refine rRegC md0 hX rfl rfl rfl (by repeat' first | exact True.intro | exact rfl | apply And.intro | omega | exact Nat.le_of_ble_eq_true rfl) ?_
        refine rThen ?_
        obtain ⟨q1, hT⟩ := sIf hT
        refine rJoin ⟨[(4, .v (.c (.int .i64 0))), (5, .v (.c (.int .i64 (bif (decide ((c1.getD default) < 0)) then (-x1) else x1))))], [], 0⟩ ?_ (fun hj => ?_)
        · skip
          refine rThen ?_
          refine rSeq ?_
          let c3 := (whole_Clip N (bif (decide ((c1.getD default) < 0)) then (-x1) else x1) (-2048) 2047)
          obtain ⟨o1, hT⟩ := sIf hT
          refine rRegC md0 hX rfl rfl rfl (by (repeat' first | exact True.intro | with_reducible assumption | (with_reducible apply And.intro) | intro _) <;> first | assumption | exact rfl | omega | exact Nat.le_of_ble_eq_true rfl | (simp only [inK] at *; omega) | (simp_all [sel] <;> fail) | fail) ?_
          refine rThen ?_
          refine rRet ?_
          obtain rfl := Option.some.inj hT
          exact rEnd0 hX rfl (by repeat' first | exact True.intro | exact rfl | apply And.intro | omega | exact Nat.le_of_ble_eq_true rfl) (by repeat' first | exact True.intro | exact rfl | apply And.intro) rfl rfl rfl rfl rfl
        · clear hT
          refine rCond rfl rfl (by repeat' first | exact True.intro | exact rfl | apply And.intro | omega | exact Nat.le_of_ble_eq_true rfl) (fun hc => ?_) (fun hc => ?_)
          · skip
            have q1 := q1 hc
            refine rRegC md0 hX rfl rfl rfl (by (repeat' first | exact True.intro | with_reducible assumption | (with_reducible apply And.intro) | intro _) <;> first | assumption | exact rfl | omega | exact Nat.le_of_ble_eq_true rfl | (simp only [inK] at *; omega) | (simp_all [sel] <;> fail) | fail) ?_
            exact rTo (To.mk' [] 0 hε rfl (by (repeat' first | exact True.intro | exact rfl | apply And.intro) <;> (repeat' first | exact rfl | refine Eq.trans ?_ (cTr (by assumption)) | refine Eq.trans ?_ (cFr (by assumption)))) (by (repeat' first | exact True.intro | exact rfl | apply And.intro) <;> (repeat' first | exact rfl | refine Eq.trans ?_ (cTr (by assumption)) | refine Eq.trans ?_ (cFr (by assumption))))) hj
          · skip
            refine rSkip ?_
            exact rTo (To.mk' [] 0 hε rfl (by (repeat' first | exact True.intro | exact rfl | apply And.intro) <;> (repeat' first | exact rfl | refine Eq.trans ?_ (cTr (by assumption)) | refine Eq.trans ?_ (cFr (by assumption)))) (by (repeat' first | exact True.intro | exact rfl | apply And.intro) <;> (repeat' first | exact rfl | refine Eq.trans ?_ (cTr (by assumption)) | refine Eq.trans ?_ (cFr (by assumption))))) hj
      · clear hT
        refine rCond rfl rfl (by repeat' first | exact True.intro | exact rfl | apply And.intro | omega | exact Nat.le_of_ble_eq_true rfl) (fun hc => ?_) (fun hc => ?_)
        · skip
          have q2 := q2 hc
          refine rRegC md0 hX rfl rfl rfl (by (repeat' first | exact True.intro | with_reducible assumption | (with_reducible apply And.intro) | intro _) <;> first | assumption | exact rfl | omega | exact Nat.le_of_ble_eq_true rfl | (simp only [inK] at *; omega) | (simp_all [sel] <;> fail) | fail) ?_
          exact rTo (To.mk' [] 0 hε rfl (by (repeat' first | exact True.intro | exact rfl | apply And.intro) <;> (repeat' first | exact rfl | refine Eq.trans ?_ (cTr (by assumption)) | refine Eq.trans ?_ (cFr (by assumption)))) (by (repeat' first | exact True.intro | exact rfl | apply And.intro) <;> (repeat' first | exact rfl | refine Eq.trans ?_ (cTr (by assumption)) | refine Eq.trans ?_ (cFr (by assumption))))) hj
        · skip
          refine rSkip ?_
          exact rTo (To.mk' [] 0 hε rfl (by (repeat' first | exact True.intro | exact rfl | apply And.intro) <;> (repeat' first | exact rfl | refine Eq.trans ?_ (cTr (by assumption)) | refine Eq.trans ?_ (cFr (by assumption)))) (by (repeat' first | exact True.intro | exact rfl | apply And.intro) <;> (repeat' first | exact rfl | refine Eq.trans ?_ (cTr (by assumption)) | refine Eq.trans ?_ (cFr (by assumption))))) hj
  · cases h
def scale_Dc (N : Nat) (a1 : Int) : Option Int :=
  let c1 := (whole_Clip N a1 1 254)
  if c1.isSome = true ∧ inK .i64 ((8 : Int) * (c1.getD default)) then
    some ((8 : Int) * (c1.getD default))
  else none
def sp_scale_Dc (N : Nat) : X.Spec := fun args lk => match args with
  | [.v (.c (.int .i64 a1))] => some ⟨(scale_Dc N a1).isSome = true, .v (.c (.int .i64 ((scale_Dc N a1).getD default))), [], []⟩
  | _ => none
set_option maxRecDepth 100000 in
set_option maxHeartbeats 1000000 in
theorem ok_scale_Dc (N : Nat) : FnOK Tryd.prog gt0 103 (sp_scale_Dc N) := by
  refine fnOK_handed Tryd.func103 rfl (by kernel_rfl) tt_ok (ktCons (ok_whole_Clip N) (ktNil)) ?_
  intro args lk r h hp
  unfold sp_scale_Dc at h
  split at h
  · rename_i a1
    cases h
    obtain ⟨x, hx⟩ := Option.isSome_iff_exists.1 hp
    simp only [hx, Option.getD_some]
    refine hand0 rfl rfl (fun w0 M ε0 hX => ?_)
    refine rCount (fun hε => ?_)
    have hT := hx; clear hx hp
    refine rSeq ?_
    refine rRegC md0 hX rfl rfl rfl (by repeat' first | exact True.intro | exact rfl | apply And.intro | omega | exact Nat.le_of_ble_eq_true rfl) ?_
    refine rThen ?_
    refine rSeq ?_
    let c1 := (whole_Clip N a1 1 254)
    obtain ⟨⟨o1, o2⟩, hT⟩ := sIf hT
    refine rRegC md0 hX rfl rfl rfl (by (repeat' first | exact True.intro | with_reducible assumption | (with_reducible apply And.intro) | intro _) <;> first | assumption | exact rfl | omega | exact Nat.le_of_ble_eq_true rfl | (simp only [inK] at *; omega) | (simp_all [sel] <;> fail) | fail) ?_
    refine rThen ?_
    refine rRet ?_
    obtain rfl := Option.some.inj hT
    exact rEnd0 hX rfl (by repeat' first | exact True.intro | exact rfl | apply And.intro | omega | exact Nat.le_of_ble_eq_true rfl) (by repeat' first | exact True.intro | exact rfl | apply And.intro) rfl rfl rfl rfl rfl
  · cases h
def scale_Block_b1 (N : Nat) (a1 : (List Int)) (a2 : Int) (s1 : (Int × (List Int))) : Option ((Int × (List Int)) ⊕ (List Int)) :=
  bif (decide (s1.1 < 64)) then
    if (0 : Int) ≤ s1.1 ∧ s1.1 < 64 ∧ (s1.1).toNat < 64 then
      let c2 := (scale_Value N (a1.getD (s1.1).toNat 0) a2)
      if c2.isSome = true ∧ (0 : Int) ≤ s1.1 ∧ s1.1 < 64 ∧ (s1.1).toNat < 64 then
        if inK .i64 (s1.1 + 1) then
          some (.inl ((s1.1 + 1), (s1.2.set (s1.1).toNat (c2.getD default))))
        else none
      else none
    else none
  else
    some (.inr s1.2)
def scale_Block (N : Nat) (a1 : (List Int)) (a2 : Int) (a3 : Bool) (a4 : Int) : Option (List Int) :=
  (iter (scale_Block_b1 N a1 a2) N (0, (List.replicate 64 0))).bind fun v1 =>
    let c1 := (scale_Dc N a4)
    if (a3 = true → c1.isSome = true) then
      some (bif a3 then (v1.set 0 (c1.getD default)) else v1)
    else none
def sp_scale_Block (N : Nat) : X.Spec := fun args lk => match args with
  | [.v (.agg [.ints 64 .i64 a1]), .v (.c (.int .i64 a2)), .v (.c (.bool a3)), .v (.c (.int .i64 a4))] => some ⟨(scale_Block N a1 a2 a3 a4).isSome = true, .v (.agg [.ints 64 .i64 ((scale_Block N a1 a2 a3 a4).getD default)]), [], []⟩
  | _ => none
set_option maxRecDepth 100000 in
set_option maxHeartbeats 1000000 in
theorem ok_scale_Block (N : Nat) : FnOK Tryd.prog gt0 50 (sp_scale_Block N) := by
  refine fnOK_handed Tryd.func50 rfl (by kernel_rfl) tt_ok (ktCons (ok_scale_Value N) (ktCons (ok_scale_Dc N) (ktNil))) ?_
  intro args lk r h hp
  unfold sp_scale_Block at h
  split at h
  · rename_i a1 a2 a3 a4
    cases h
    obtain ⟨x, hx⟩ := Option.isSome_iff_exists.1 hp
    simp only [hx, Option.getD_some]
    refine hand0 rfl rfl (fun w0 M ε0 hX => ?_)
    refine rCount (fun hε => ?_)
    have hT := hx; clear hx hp
    refine rSeq ?_
    refine rRegC md0 hX rfl rfl rfl (by repeat' first | exact True.intro | exact rfl | apply And.intro | omega | exact Nat.le_of_ble_eq_true rfl) ?_
    refine rThen ?_
    refine rSeq ?_
    refine rRegC md0 hX rfl rfl rfl (by repeat' first | exact True.intro | exact rfl | apply And.intro | omega | exact Nat.le_of_ble_eq_true rfl) ?_
    refine rThen ?_
    refine rSeq ?_
    refine rSeq ?_
    refine rRegC md0 hX rfl rfl rfl (by repeat' first | exact True.intro | exact rfl | apply And.intro | omega | exact Nat.le_of_ble_eq_true rfl) ?_
    refine rThen ?_
    refine rBlock ?_
    obtain ⟨w1, hl, hT⟩ := sBind hT
    refine rJoinA (fun v1 => v1 = w1) (fun v1 => ⟨[(2, .v (.c (.bool a3))), (3, .v (.c (.int .i64 a4))), (8, .v (.c (.ptr 1 0 0 0 0 0))), (9, .v (.c (.ptr 2 0 0 0 0 0)))], [(1, .mem true 22 none (.flat [.ints 64 .i64 (List.replicate 64 0)])), (2, .mem true 22 none (.flat [.ints 64 .i64 v1]))], 3⟩) (.exit 0) (fun v1 hv => ?_) (fun hxs10 => ?_)
    · subst hv; clear hl
      refine rInHit ?_
      refine rThen ?_
      refine rSeq ?_
      refine rSeq ?_
      refine rRegC md0 hX rfl rfl rfl (by repeat' first | exact True.intro | exact rfl | apply And.intro | omega | exact Nat.le_of_ble_eq_true rfl) ?_
      refine rThen ?_
      let c1 := (scale_Dc N a4)
      obtain ⟨q1, hT⟩ := sIf hT
      refine rJoin ⟨[(8, .v (.c (.ptr 1 0 0 0 0 0))), (9, .v (.c (.ptr 2 0 0 0 0 0)))], [(1, .mem true 22 none (.flat [.ints 64 .i64 (List.replicate 64 0)])), (2, .mem true 22 none (.flat [.ints 64 .i64 (bif a3 then (v1.set 0 (c1.getD default)) else v1)]))], 3⟩ ?_ (fun hj => ?_)
      · skip
        refine rThen ?_
        refine rSeq ?_
        refine rRegC md0 hX rfl rfl rfl (by repeat' first | exact True.intro | exact rfl | apply And.intro | omega | exact Nat.le_of_ble_eq_true rfl) ?_
        refine rThen ?_
        refine rRet ?_
        obtain rfl := Option.some.inj hT
        exact rEnd0 hX rfl (by repeat' first | exact True.intro | exact rfl | apply And.intro | omega | exact Nat.le_of_ble_eq_true rfl) (by repeat' first | exact True.intro | exact rfl | apply And.intro) rfl rfl rfl rfl rfl
      · clear hT
        refine rCond rfl rfl (by repeat' first | exact True.intro | exact rfl | apply And.intro | omega | exact Nat.le_of_ble_eq_true rfl) (fun hc => ?_) (fun hc => ?_)
        · skip
          have q1 := q1 hc
          refine rRegC md0 hX rfl rfl rfl (by (repeat' first | exact True.intro | with_reducible assumption | (with_reducible apply And.intro) | intro _) <;> first | assumption | exact rfl | omega | exact Nat.le_of_ble_eq_true rfl | (simp only [inK] at *; omega) | (simp_all [sel] <;> fail) | fail) ?_
          exact rTo (To.mk' [] 0 hε rfl (by (repeat' first | exact True.intro | exact rfl | apply And.intro) <;> (repeat' first | exact rfl | refine Eq.trans ?_ (cTr (by assumption)) | refine Eq.trans ?_ (cFr (by assumption)))) (by (repeat' first | exact True.intro | exact rfl | apply And.intro) <;> (repeat' first | exact rfl | refine Eq.trans ?_ (cTr (by assumption)) | refine Eq.trans ?_ (cFr (by assumption))))) hj
        · skip
          refine rSkip ?_
          exact rTo (To.mk' [] 0 hε rfl (by (repeat' first | exact True.intro | exact rfl | apply And.intro) <;> (repeat' first | exact rfl | refine Eq.trans ?_ (cTr (by assumption)) | refine Eq.trans ?_ (cFr (by assumption)))) (by (repeat' first | exact True.intro | exact rfl | apply And.intro) <;> (repeat' first | exact rfl | refine Eq.trans ?_ (cTr (by assumption)) | refine Eq.trans ?_ (cFr (by assumption))))) hj
    refine rLoopM (scale_Block_b1 N a1 a2) (fun s1 => ⟨[(1, .v (.c (.int .i64 a2))), (2, .v (.c (.bool a3))), (3, .v (.c (.int .i64 a4))), (8, .v (.c (.ptr 1 0 0 0 0 0))), (9, .v (.c (.ptr 2 0 0 0 0 0))), (12, .v (.agg [.ints 64 .i64 a1])), (13, .v (.c (.int .i64 s1.1)))], [(1, .mem true 22 none (.flat [.ints 64 .i64 (List.replicate 64 0)])), (2, .mem true 22 none (.flat [.ints 64 .i64 s1.2]))], 3⟩) hl (To.mk' [] 0 hε rfl (by repeat' first | exact True.intro | exact rfl | apply And.intro) (by repeat' first | exact True.intro | exact rfl | apply And.intro)) (fun s1 zs1 NNs1 hz hnexts1 houts1 => ?_)
    clear hl hT
    have hT := hz; clear hz
    refine rSeq ?_
    refine rRegC md0 hX rfl rfl rfl (by repeat' first | exact True.intro | exact rfl | apply And.intro | omega | exact Nat.le_of_ble_eq_true rfl) ?_
    refine rThen ?_
    refine rSeq ?_
    refine rCond rfl rfl (by repeat' first | exact True.intro | exact rfl | apply And.intro | omega | exact Nat.le_of_ble_eq_true rfl) (fun hc => ?_) (fun hc => ?_)
    · have hT := sT hc hT
      refine rSkip ?_
      refine rThen ?_
      refine rSeq ?_
      refine rBlock ?_
      refine rSeq ?_
      obtain ⟨⟨o1, o2, o3⟩, hT⟩ := sIf hT
      refine rRegC md0 hX rfl rfl rfl (by (repeat' first | exact True.intro | with_reducible assumption | (with_reducible apply And.intro) | intro _) <;> first | assumption | exact rfl | omega | exact Nat.le_of_ble_eq_true rfl | (simp only [inK] at *; omega) | (simp_all [sel] <;> fail) | fail) ?_
      refine rThen ?_
      let c2 := (scale_Value N (a1.getD (s1.1).toNat 0) a2)
      obtain ⟨⟨o1, o2, o3, o4⟩, hT⟩ := sIf hT
      refine rRegC md0 hX rfl rfl rfl (by (repeat' first | exact True.intro | with_reducible assumption | (with_reducible apply And.intro) | intro _) <;> first | assumption | exact rfl | omega | exact Nat.le_of_ble_eq_true rfl | (simp only [inK] at *; omega) | (simp_all [sel] <;> fail) | fail) ?_
      refine rInNormal ?_
      refine rThen ?_
      obtain ⟨o1, hT⟩ := sIf hT
      refine rRegC md0 hX rfl rfl rfl (by (repeat' first | exact True.intro | with_reducible assumption | (with_reducible apply And.intro) | intro _) <;> first | assumption | exact rfl | omega | exact Nat.le_of_ble_eq_true rfl | (simp only [inK] at *; omega) | (simp_all [sel] <;> fail) | fail) ?_
      exact hnexts1 _ (Option.some.inj hT).symm _ (To.mk' [] 0 hε rfl (by repeat' first | exact True.intro | exact rfl | apply And.intro) (by repeat' first | exact True.intro | exact rfl | apply And.intro))
    · have hT := sF hc hT
      refine rExit ?_
      refine rThenExit ?_
      refine rThenExit ?_
      exact rTo (To.mk' [] 0 hε rfl (by repeat' first | exact True.intro | exact rfl | apply And.intro) (by repeat' first | exact True.intro | exact rfl | apply And.intro)) (hxs10 _ (houts1 _ (Option.some.inj hT).symm))
  · cases h
def dct_within_b1 (N : Nat) (a1 : (List Int)) (s1 : (Int × (List Int))) : Option ((Int × (List Int)) ⊕ (List Int)) :=
  bif (decide (s1.1 < 64)) then
    if (0 : Int) ≤ s1.1 ∧ s1.1 < 64 ∧ (s1.1).toNat < 64 then
      let c1 := (whole_Clip N (a1.getD (s1.1).toNat 0) (-2048) 2047)
      if c1.isSome = true ∧ (0 : Int) ≤ s1.1 ∧ s1.1 < 64 ∧ (s1.1).toNat < 64 then
        if inK .i64 (s1.1 + 1) then
          some (.inl ((s1.1 + 1), (s1.2.set (s1.1).toNat (c1.getD default))))
        else none
      else none
    else none
  else
    some (.inr s1.2)
def dct_within (N : Nat) (a1 : (List Int)) : Option (List Int) :=
  (iter (dct_within_b1 N a1) N (0, (List.replicate 64 0))).bind fun v1 =>
    some v1
def sp_dct_within (N : Nat) : X.Spec := fun args lk => match args with
  | [.v (.agg [.ints 64 .i64 a1])] => some ⟨(dct_within N a1).isSome = true, .v (.agg [.ints 64 .i64 ((dct_within N a1).getD default)]), [], []⟩
  | _ => none
set_option maxRecDepth 100000 in
set_option maxHeartbeats 1000000 in
theorem ok_dct_within (N : Nat) : FnOK Tryd.prog gt0 104 (sp_dct_within N) := by
  refine fnOK_handed Tryd.func104 rfl (by kernel_rfl) tt_ok (ktCons (ok_whole_Clip N) (ktNil)) ?_
  intro args lk r h hp
  unfold sp_dct_within at h
  split at h
  · rename_i a1
    cases h
    obtain ⟨x, hx⟩ := Option.isSome_iff_exists.1 hp
    simp only [hx, Option.getD_some]
    refine hand0 rfl rfl (fun w0 M ε0 hX => ?_)
    refine rCount (fun hε => ?_)
    have hT := hx; clear hx hp
    refine rSeq ?_
    refine rRegC md0 hX rfl rfl rfl (by repeat' first | exact True.intro | exact rfl | apply And.intro | omega | exact Nat.le_of_ble_eq_true rfl) ?_
    refine rThen ?_
    refine rSeq ?_
    refine rRegC md0 hX rfl rfl rfl (by repeat' first | exact True.intro | exact rfl | apply And.intro | omega | exact Nat.le_of_ble_eq_true rfl) ?_
    refine rThen ?_
    refine rSeq ?_
    refine rSeq ?_
    refine rRegC md0 hX rfl rfl rfl (by repeat' first | exact True.intro | exact rfl | apply And.intro | omega | exact Nat.le_of_ble_eq_true rfl) ?_
    refine rThen ?_
    refine rBlock ?_
    obtain ⟨w1, hl, hT⟩ := sBind hT
    refine rJoinA (fun v1 => v1 = w1) (fun v1 => ⟨[(2, .v (.c (.ptr 1 0 0 0 0 0))), (3, .v (.c (.ptr 2 0 0 0 0 0)))], [(1, .mem true 129 none (.flat [.ints 64 .i64 (List.replicate 64 0)])), (2, .mem true 129 none (.flat [.ints 64 .i64 v1]))], 3⟩) (.exit 0) (fun v1 hv => ?_) (fun hxs10 => ?_)
    · subst hv; clear hl
      refine rInHit ?_
      refine rThen ?_
      refine rSeq ?_
      refine rRegC md0 hX rfl rfl rfl (by repeat' first | exact True.intro | exact rfl | apply And.intro | omega | exact Nat.le_of_ble_eq_true rfl) ?_
      refine rThen ?_
      refine rRet ?_
      obtain rfl := Option.some.inj hT
      exact rEnd0 hX rfl (by repeat' first | exact True.intro | exact rfl | apply And.intro | omega | exact Nat.le_of_ble_eq_true rfl) (by repeat' first | exact True.intro | exact rfl | apply And.intro) rfl rfl rfl rfl rfl
    refine rLoopM (dct_within_b1 N a1) (fun s1 => ⟨[(2, .v (.c (.ptr 1 0 0 0 0 0))), (3, .v (.c (.ptr 2 0 0 0 0 0))), (6, .v (.agg [.ints 64 .i64 a1])), (7, .v (.c (.int .i64 s1.1)))], [(1, .mem true 129 none (.flat [.ints 64 .i64 (List.replicate 64 0)])), (2, .mem true 129 none (.flat [.ints 64 .i64 s1.2]))], 3⟩) hl (To.mk' [] 0 hε rfl (by repeat' first | exact True.intro | exact rfl | apply And.intro) (by repeat' first | exact True.intro | exact rfl | apply And.intro)) (fun s1 zs1 NNs1 hz hnexts1 houts1 => ?_)
    clear hl hT
    have hT := hz; clear hz
    refine rSeq ?_
    refine rRegC md0 hX rfl rfl rfl (by repeat' first | exact True.intro | exact rfl | apply And.intro | omega | exact Nat.le_of_ble_eq_true rfl) ?_
    refine rThen ?_
    refine rSeq ?_
    refine rCond rfl rfl (by repeat' first | exact True.intro | exact rfl | apply And.intro | omega | exact Nat.le_of_ble_eq_true rfl) (fun hc => ?_) (fun hc => ?_)
    · have hT := sT hc hT
      refine rSkip ?_
      refine rThen ?_
      refine rSeq ?_
      refine rBlock ?_
      refine rSeq ?_
      obtain ⟨⟨o1, o2, o3⟩, hT⟩ := sIf hT
      refine rRegC md0 hX rfl rfl rfl (by (repeat' first | exact True.intro | with_reducible assumption | (with_reducible apply And.intro) | intro _) <;> first | assumption | exact rfl | omega | exact Nat.le_of_ble_eq_true rfl | (simp only [inK] at *; omega) | (simp_all [sel] <;> fail) | fail) ?_
      refine rThen ?_
      let c1 := (whole_Clip N (a1.getD (s1.1).toNat 0) (-2048) 2047)
      obtain ⟨⟨o1, o2, o3, o4⟩, hT⟩ := sIf hT
      refine rRegC md0 hX rfl rfl rfl (by (repeat' first | exact True.intro | with_reducible assumption | (with_reducible apply And.intro) | intro _) <;> first | assumption | exact rfl | omega | exact Nat.le_of_ble_eq_true rfl | (simp only [inK] at *; omega) | (simp_all [sel] <;> fail) | fail) ?_
      refine rInNormal ?_
      refine rThen ?_
      obtain ⟨o1, hT⟩ := sIf hT
      refine rRegC md0 hX rfl rfl rfl (by (repeat' first | exact True.intro | with_reducible assumption | (with_reducible apply And.intro) | intro _) <;> first | assumption | exact rfl | omega | exact Nat.le_of_ble_eq_true rfl | (simp only [inK] at *; omega) | (simp_all [sel] <;> fail) | fail) ?_
      exact hnexts1 _ (Option.some.inj hT).symm _ (To.mk' [] 0 hε rfl (by repeat' first | exact True.intro | exact rfl | apply And.intro) (by repeat' first | exact True.intro | exact rfl | apply And.intro))
    · have hT := sF hc hT
      refine rExit ?_
      refine rThenExit ?_
      refine rThenExit ?_
      exact rTo (To.mk' [] 0 hε rfl (by repeat' first | exact True.intro | exact rfl | apply And.intro) (by repeat' first | exact True.intro | exact rfl | apply And.intro)) (hxs10 _ (houts1 _ (Option.some.inj hT).symm))
  · cases h
def overspill_dct_square_fore_b1 (N : Nat) (a1 : Int) (a2 : Int) (a3 : (List Int)) (s1 : (Int × Int)) : Option ((Int × Int) ⊕ Int) :=
  bif (decide (s1.2 < 8)) then
    let x1 := (s1.1 + ((weightsL.getD ((a2).toNat * 8 + (s1.2).toNat) 0) * (a3.getD (((8 : Int) * a1) + s1.2).toNat 0)))
    let x2 := ((weightsL.getD ((a2).toNat * 8 + (s1.2).toNat) 0) * (a3.getD (((8 : Int) * a1) + s1.2).toNat 0))
    if (0 : Int) ≤ a2 ∧ a2 < 8 ∧ (0 : Int) ≤ s1.2 ∧ s1.2 < 8 ∧ ((a2).toNat * 8 + (s1.2).toNat) < 64 ∧ inK .i64 ((8 : Int) * a1) ∧ inK .i64 (((8 : Int) * a1) + s1.2) ∧ (0 : Int) ≤ (((8 : Int) * a1) + s1.2) ∧ (((8 : Int) * a1) + s1.2) < 64 ∧ (((8 : Int) * a1) + s1.2).toNat < 64 ∧ inK .i64 ((weightsL.getD ((a2).toNat * 8 + (s1.2).toNat) 0) * (a3.getD (((8 : Int) * a1) + s1.2).toNat 0)) ∧ inK .i64 (s1.1 + ((weightsL.getD ((a2).toNat * 8 + (s1.2).toNat) 0) * (a3.getD (((8 : Int) * a1) + s1.2).toNat 0))) then
      if inK .i64 (s1.2 + 1) then
        some (.inl (x1, (s1.2 + 1)))
      else none
    else none
  else
    some (.inr s1.1)
def overspill_dct_square_fore (N : Nat) (a1 : Int) (a2 : Int) (a3 : (List Int)) : Option Int :=
  (iter (overspill_dct_square_fore_b1 N a1 a2 a3) N (0, 0)).bind fun v1 =>
    some v1
def sp_overspill_dct_square_fore (N : Nat) : X.Spec := fun args lk => match args with
  | [.v (.c (.ptr i0 0 0 0 0 0)), .v (.c (.int .i64 a1)), .v (.c (.int .i64 a2))] => match lk i0 with
    | some (.mem _ _ _ (.flat [.ints 64 .i64 a3])) => some ⟨(overspill_dct_square_fore N a1 a2 a3).isSome = true, .v (.c (.int .i64 ((overspill_dct_square_fore N a1 a2 a3).getD default))), [], []⟩
    | _ => none
  | _ => none
set_option maxRecDepth 100000 in
set_option maxHeartbeats 1000000 in
theorem ok_overspill_dct_square_fore (N : Nat) : FnOK Tryd.prog gt0 106 (sp_overspill_dct_square_fore N) := by
  refine fnOK_handed Tryd.func106 rfl (by kernel_rfl) tt_ok (ktNil) ?_
  intro args lk r h hp
  unfold sp_overspill_dct_square_fore at h
  split at h
  · rename_i i0 a1 a2
    split at h
    · rename_i _ _ _ a3 hl0
      cases h
      obtain ⟨x, hx⟩ := Option.isSome_iff_exists.1 hp
      simp only [hx, Option.getD_some]
      refine handL [i0] 1 [(0, .mem false 129 none (.flat [.ints 64 .i64 a3]))] [.v (.c (.ptr 0 0 0 0 0 0)), .v (.c (.int .i64 a1)), .v (.c (.int .i64 a2))] rfl rfl rfl ⟨isSome_of hl0, trivial⟩ ⟨⟨rfl, (by repeat' first | exact True.intro | exact rfl | apply And.intro), _, hl0, sub_ro⟩, trivial⟩ rfl (fun w0 M ε0 hX => ?_)
      refine rCount (fun hε => ?_)
      have hT := hx; clear hx hp
      refine rSeq ?_
      refine rRegC md0 hX rfl rfl rfl (by repeat' first | exact True.intro | exact rfl | apply And.intro | omega | exact Nat.le_of_ble_eq_true rfl) ?_
      refine rThen ?_
      refine rSeq ?_
      refine rRegC md0 hX rfl rfl rfl (by repeat' first | exact True.intro | exact rfl | apply And.intro | omega | exact Nat.le_of_ble_eq_true rfl) ?_
      refine rThen ?_
      refine rSeq ?_
      refine rSeq ?_
      refine rRegC md0 hX rfl rfl rfl (by repeat' first | exact True.intro | exact rfl | apply And.intro | omega | exact Nat.le_of_ble_eq_true rfl) ?_
      refine rThen ?_
      refine rBlock ?_
      obtain ⟨w1, hl, hT⟩ := sBind hT
      refine rJoinA (fun v1 => v1 = w1) (fun v1 => ⟨[(6, .v (.c (.int .i64 0))), (7, .v (.c (.int .i64 v1)))], [(0, .mem false 129 none (.flat [.ints 64 .i64 a3]))], 1⟩) (.exit 0) (fun v1 hv => ?_) (fun hxs10 => ?_)
      · subst hv; clear hl
        refine rInHit ?_
        refine rThen ?_
        refine rSeq ?_
        refine rRegC md0 hX rfl rfl rfl (by repeat' first | exact True.intro | exact rfl | apply And.intro | omega | exact Nat.le_of_ble_eq_true rfl) ?_
        refine rThen ?_
        refine rRet ?_
        obtain rfl := Option.some.inj hT
        exact rEnd0 hX rfl (by repeat' first | exact True.intro | exact rfl | apply And.intro | omega | exact Nat.le_of_ble_eq_true rfl) (by repeat' first | exact True.intro | exact rfl | apply And.intro) rfl rfl rfl rfl rfl
      refine rLoopM (overspill_dct_square_fore_b1 N a1 a2 a3) (fun s1 => ⟨[(0, .v (.c (.ptr 0 0 0 0 0 0))), (1, .v (.c (.int .i64 a1))), (2, .v (.c (.int .i64 a2))), (6, .v (.c (.int .i64 0))), (7, .v (.c (.int .i64 s1.1))), (9, .v (.c (.int .i64 s1.2)))], [(0, .mem false 129 none (.flat [.ints 64 .i64 a3]))], 1⟩) hl (To.mk' [] 1 hε rfl (by repeat' first | exact True.intro | exact rfl | apply And.intro) (by repeat' first | exact True.intro | exact rfl | apply And.intro)) (fun s1 zs1 NNs1 hz hnexts1 houts1 => ?_)
      clear hl hT
      have hT := hz; clear hz
      refine rSeq ?_
      refine rRegC md0 hX rfl rfl rfl (by repeat' first | exact True.intro | exact rfl | apply And.intro | omega | exact Nat.le_of_ble_eq_true rfl) ?_
      refine rThen ?_
      refine rSeq ?_
      refine rCond rfl rfl (by repeat' first | exact True.intro | exact rfl | apply And.intro | omega | exact Nat.le_of_ble_eq_true rfl) (fun hc => ?_) (fun hc => ?_)
      · have hT := sT hc hT
        refine rSkip ?_
        refine rThen ?_
        refine rSeq ?_
        refine rBlock ?_
        refine rSeq ?_
        refine rRegC md0 hX rfl rfl rfl (by repeat' first | exact True.intro | exact rfl | apply And.intro | omega | exact Nat.le_of_ble_eq_true rfl) ?_
        refine rThen ?_
        let x1 := (s1.1 + ((weightsL.getD ((a2).toNat * 8 + (s1.2).toNat) 0) * (a3.getD (((8 : Int) * a1) + s1.2).toNat 0)))
        let x2 := ((weightsL.getD ((a2).toNat * 8 + (s1.2).toNat) 0) * (a3.getD (((8 : Int) * a1) + s1.2).toNat 0))
        obtain ⟨⟨o1, o2, o3, o4, o5, o6, o7, o8, o9, o10, o11, o12⟩, hT⟩ := sIf hT
        refine rDrawM md0 1 [16] hX mixed rfl rfl rfl rfl rfl (by (repeat' first | exact True.intro | with_reducible assumption | (with_reducible apply And.intro) | intro _) <;> first | assumption | exact rfl | omega | exact Nat.le_of_ble_eq_true rfl | (simp only [inK] at *; omega) | (simp_all [sel] <;> fail) | fail) ?_
        refine rInNormal ?_
        refine rThen ?_
        obtain ⟨o1, hT⟩ := sIf hT
        refine rRegC md0 hX rfl rfl rfl (by (repeat' first | exact True.intro | with_reducible assumption | (with_reducible apply And.intro) | intro _) <;> first | assumption | exact rfl | omega | exact Nat.le_of_ble_eq_true rfl | (simp only [inK] at *; omega) | (simp_all [sel] <;> fail) | fail) ?_
        exact hnexts1 _ (Option.some.inj hT).symm _ (To.mk' [] 1 hε rfl (by repeat' first | exact True.intro | exact rfl | apply And.intro) (by repeat' first | exact True.intro | exact rfl | apply And.intro))
      · have hT := sF hc hT
        refine rExit ?_
        refine rThenExit ?_
        refine rThenExit ?_
        exact rTo (To.mk' [] 1 hε rfl (by repeat' first | exact True.intro | exact rfl | apply And.intro) (by repeat' first | exact True.intro | exact rfl | apply And.intro)) (hxs10 _ (houts1 _ (Option.some.inj hT).symm))
    · cases h
  · cases h
def dct_pass_b2 (N : Nat) (a1 : (List Int)) (s1 : (Int × (List Int))) (s2 : (Int × (List Int))) : Option ((Int × (List Int)) ⊕ (Int × Bool × (List Int))) :=
  bif (decide (s2.1 < 8)) then
    let c1 := (overspill_dct_square_fore N s1.1 s2.1 a1)
    if inK .i64 ((8 : Int) * s2.1) ∧ inK .i64 (((8 : Int) * s2.1) + s1.1) ∧ c1.isSome = true ∧ (0 : Int) ≤ (((8 : Int) * s2.1) + s1.1) ∧ (((8 : Int) * s2.1) + s1.1) < 64 ∧ (((8 : Int) * s2.1) + s1.1).toNat < 64 then
      if inK .i64 (s2.1 + 1) then
        some (.inl ((s2.1 + 1), (s2.2.set (((8 : Int) * s2.1) + s1.1).toNat (c1.getD default))))
      else none
    else none
  else
    some (.inr (s2.1, (decide (s2.1 < 8)), s2.2))
def dct_pass_b1 (N : Nat) (a1 : (List Int)) (s1 : (Int × (List Int))) : Option ((Int × (List Int)) ⊕ (List Int)) :=
  bif (decide (s1.1 < 8)) then
    (iter (dct_pass_b2 N a1 s1) N (0, s1.2)).bind fun v2 =>
      if inK .i64 (s1.1 + 1) then
        some (.inl ((s1.1 + 1), v2.2.2))
      else none
  else
    some (.inr s1.2)
def dct_pass (N : Nat) (a1 : (List Int)) : Option (List Int) :=
  (iter (dct_pass_b1 N a1) N (0, (List.replicate 64 0))).bind fun v1 =>
    some v1
def sp_dct_pass (N : Nat) : X.Spec := fun args lk => match args with
  | [.fnv 106 [.c (.ptr i0 0 0 0 0 0)] []] => match lk i0 with
    | some (.mem _ _ _ (.flat [.ints 64 .i64 a1])) => some ⟨(dct_pass N a1).isSome = true, .v (.agg [.ints 64 .i64 ((dct_pass N a1).getD default)]), [], []⟩
    | _ => none
  | _ => none
set_option maxRecDepth 100000 in
set_option maxHeartbeats 1000000 in
theorem ok_dct_pass (N : Nat) : FnOK Tryd.prog gt0 105 (sp_dct_pass N) := by
  refine fnOK_handed Tryd.func105 rfl (by kernel_rfl) tt_ok (ktCons (ok_overspill_dct_square_fore N) (ktNil)) ?_
  intro args lk r h hp
  unfold sp_dct_pass at h
  split at h
  · rename_i i0
    split at h
    · rename_i _ _ _ a1 hl0
      cases h
      obtain ⟨x, hx⟩ := Option.isSome_iff_exists.1 hp
      simp only [hx, Option.getD_some]
      refine handL [i0] 1 [(0, .mem false 129 none (.flat [.ints 64 .i64 a1]))] [.fnv 106 [.c (.ptr 0 0 0 0 0 0)] []] rfl rfl rfl ⟨isSome_of hl0, trivial⟩ ⟨⟨rfl, (by repeat' first | exact True.intro | exact rfl | apply And.intro), _, hl0, sub_ro⟩, trivial⟩ rfl (fun w0 M ε0 hX => ?_)
      refine rCount (fun hε => ?_)
      have hT := hx; clear hx hp
      refine rSeq ?_
      refine rRegC md0 hX rfl rfl rfl (by repeat' first | exact True.intro | exact rfl | apply And.intro | omega | exact Nat.le_of_ble_eq_true rfl) ?_
      refine rThen ?_
      refine rSeq ?_
      refine rRegC md0 hX rfl rfl rfl (by repeat' first | exact True.intro | exact rfl | apply And.intro | omega | exact Nat.le_of_ble_eq_true rfl) ?_
      refine rThen ?_
      refine rSeq ?_
      refine rSeq ?_
      refine rRegC md0 hX rfl rfl rfl (by repeat' first | exact True.intro | exact rfl | apply And.intro | omega | exact Nat.le_of_ble_eq_true rfl) ?_
      refine rThen ?_
      refine rBlock ?_
      obtain ⟨w1, hl, hT⟩ := sBind hT
      refine rJoinA (fun v1 => v1 = w1) (fun v1 => ⟨[(2, .v (.c (.ptr 1 0 0 0 0 0))), (3, .v (.c (.ptr 2 0 0 0 0 0)))], [(0, .mem false 129 none (.flat [.ints 64 .i64 a1])), (1, .mem true 129 none (.flat [.ints 64 .i64 (List.replicate 64 0)])), (2, .mem true 129 none (.flat [.ints 64 .i64 v1]))], 3⟩) (.exit 0) (fun v1 hv => ?_) (fun hxs10 => ?_)
      · subst hv; clear hl
        refine rInHit ?_
        refine rThen ?_
        refine rSeq ?_
        refine rRegC md0 hX rfl rfl rfl (by repeat' first | exact True.intro | exact rfl | apply And.intro | omega | exact Nat.le_of_ble_eq_true rfl) ?_
        refine rThen ?_
        refine rRet ?_
        obtain rfl := Option.some.inj hT
        exact rEnd0 hX rfl (by repeat' first | exact True.intro | exact rfl | apply And.intro | omega | exact Nat.le_of_ble_eq_true rfl) (by repeat' first | exact True.intro | exact rfl | apply And.intro) rfl rfl rfl rfl rfl
      refine rLoopM (dct_pass_b1 N a1) (fun s1 => ⟨[(0, .fnv 106 [.c (.ptr 0 0 0 0 0 0)] []), (2, .v (.c (.ptr 1 0 0 0 0 0))), (3, .v (.c (.ptr 2 0 0 0 0 0))), (6, .v (.c (.int .i64 s1.1)))], [(0, .mem false 129 none (.flat [.ints 64 .i64 a1])), (1, .mem true 129 none (.flat [.ints 64 .i64 (List.replicate 64 0)])), (2, .mem true 129 none (.flat [.ints 64 .i64 s1.2]))], 3⟩) hl (To.mk' [] 1 hε rfl (by repeat' first | exact True.intro | exact rfl | apply And.intro) (by repeat' first | exact True.intro | exact rfl | apply And.intro)) (fun s1 zs1 NNs1 hz hnexts1 houts1 => ?_)
      clear hl hT
      have hT := hz; clear hz
      refine rSeq ?_
      refine rRegC md0 hX rfl rfl rfl (by repeat' first | exact True.intro | exact rfl | apply And.intro | omega | exact Nat.le_of_ble_eq_true rfl) ?_
      refine rThen ?_
      refine rSeq ?_
      refine rCond rfl rfl (by repeat' first | exact True.intro | exact rfl | apply And.intro | omega | exact Nat.le_of_ble_eq_true rfl) (fun hc => ?_) (fun hc => ?_)
      · have hT := sT hc hT
        refine rSkip ?_
        refine rThen ?_
        refine rSeq ?_
        refine rBlock ?_
        refine rSeq ?_
        refine rRegC md0 hX rfl rfl rfl (by repeat' first | exact True.intro | exact rfl | apply And.intro | omega | exact Nat.le_of_ble_eq_true rfl) ?_
        refine rThen ?_
        refine rSeq ?_
        refine rRegC md0 hX rfl rfl rfl (by repeat' first | exact True.intro | exact rfl | apply And.intro | omega | exact Nat.le_of_ble_eq_true rfl) ?_
        refine rThen ?_
        refine rBlock ?_
        obtain ⟨w2, hl, hT⟩ := sBind hT
        refine rJoinA (fun v2 => v2 = w2) (fun v2 => ⟨[(0, .fnv 106 [.c (.ptr 0 0 0 0 0 0)] []), (2, .v (.c (.ptr 1 0 0 0 0 0))), (3, .v (.c (.ptr 2 0 0 0 0 0))), (4, .v (.c (.int .i64 s1.1))), (6, .v (.c (.int .i64 s1.1))), (7, .v (.c (.bool (decide (s1.1 < 8))))), (8, .v (.c (.int .i64 s1.1))), (9, .v (.c (.int .i64 v2.1))), (10, .v (.c (.bool v2.2.1)))], [(0, .mem false 129 none (.flat [.ints 64 .i64 a1])), (1, .mem true 129 none (.flat [.ints 64 .i64 (List.replicate 64 0)])), (2, .mem true 129 none (.flat [.ints 64 .i64 v2.2.2]))], 3⟩) (.exit 2) (fun v2 hv => ?_) (fun hxs20 => ?_)
        · subst hv; clear hl
          refine rInHit ?_
          refine rInNormal ?_
          refine rThen ?_
          obtain ⟨o1, hT⟩ := sIf hT
          refine rRegC md0 hX rfl rfl rfl (by (repeat' first | exact True.intro | with_reducible assumption | (with_reducible apply And.intro) | intro _) <;> first | assumption | exact rfl | omega | exact Nat.le_of_ble_eq_true rfl | (simp only [inK] at *; omega) | (simp_all [sel] <;> fail) | fail) ?_
          exact hnexts1 _ (Option.some.inj hT).symm _ (To.mk' [] 1 hε rfl (by repeat' first | exact True.intro | exact rfl | apply And.intro) (by repeat' first | exact True.intro | exact rfl | apply And.intro))
        refine rLoopM (dct_pass_b2 N a1 s1) (fun s2 => ⟨[(0, .fnv 106 [.c (.ptr 0 0 0 0 0 0)] []), (2, .v (.c (.ptr 1 0 0 0 0 0))), (3, .v (.c (.ptr 2 0 0 0 0 0))), (4, .v (.c (.int .i64 s1.1))), (6, .v (.c (.int .i64 s1.1))), (7, .v (.c (.bool (decide (s1.1 < 8))))), (8, .v (.c (.int .i64 s1.1))), (9, .v (.c (.int .i64 s2.1)))], [(0, .mem false 129 none (.flat [.ints 64 .i64 a1])), (1, .mem true 129 none (.flat [.ints 64 .i64 (List.replicate 64 0)])), (2, .mem true 129 none (.flat [.ints 64 .i64 s2.2]))], 3⟩) hl (To.mk' [] 1 hε rfl (by repeat' first | exact True.intro | exact rfl | apply And.intro) (by repeat' first | exact True.intro | exact rfl | apply And.intro)) (fun s2 zs2 NNs2 hz hnexts2 houts2 => ?_)
        clear hl hT
        have hT := hz; clear hz
        refine rSeq ?_
        refine rRegC md0 hX rfl rfl rfl (by repeat' first | exact True.intro | exact rfl | apply And.intro | omega | exact Nat.le_of_ble_eq_true rfl) ?_
        refine rThen ?_
        refine rSeq ?_
        refine rCond rfl rfl (by repeat' first | exact True.intro | exact rfl | apply And.intro | omega | exact Nat.le_of_ble_eq_true rfl) (fun hc => ?_) (fun hc => ?_)
        · have hT := sT hc hT
          refine rSkip ?_
          refine rThen ?_
          refine rSeq ?_
          refine rBlock ?_
          refine rSeq ?_
          refine rRegC md0 hX rfl rfl rfl (by repeat' first | exact True.intro | exact rfl | apply And.intro | omega | exact Nat.le_of_ble_eq_true rfl) ?_
          refine rThen ?_
          let c1 := (overspill_dct_square_fore N s1.1 s2.1 a1)
          obtain ⟨⟨o1, o2, o3, o4, o5, o6⟩, hT⟩ := sIf hT
          refine rRegC md0 hX rfl rfl rfl (by (repeat' first | exact True.intro | with_reducible assumption | (with_reducible apply And.intro) | intro _) <;> first | assumption | exact rfl | omega | exact Nat.le_of_ble_eq_true rfl | (simp only [inK] at *; omega) | (simp_all [sel] <;> fail) | fail) ?_
          refine rInNormal ?_
          refine rThen ?_
          obtain ⟨o1, hT⟩ := sIf hT
          refine rRegC md0 hX rfl rfl rfl (by (repeat' first | exact True.intro | with_reducible assumption | (with_reducible apply And.intro) | intro _) <;> first | assumption | exact rfl | omega | exact Nat.le_of_ble_eq_true rfl | (simp only [inK] at *; omega) | (simp_all [sel] <;> fail) | fail) ?_
          exact hnexts2 _ (Option.some.inj hT).symm _ (To.mk' [] 1 hε rfl (by repeat' first | exact True.intro | exact rfl | apply And.intro) (by repeat' first | exact True.intro | exact rfl | apply And.intro))
        · have hT := sF hc hT
          refine rExit ?_
          refine rThenExit ?_
          refine rThenExit ?_
          exact rTo (To.mk' [] 1 hε rfl (by repeat' first | exact True.intro | exact rfl | apply And.intro) (by repeat' first | exact True.intro | exact rfl | apply And.intro)) (hxs20 _ (houts2 _ (Option.some.inj hT).symm))
      · have hT := sF hc hT
        refine rExit ?_
        refine rThenExit ?_
        refine rThenExit ?_
        exact rTo (To.mk' [] 1 hε rfl (by repeat' first | exact True.intro | exact rfl | apply And.intro) (by repeat' first | exact True.intro | exact rfl | apply And.intro)) (hxs10 _ (houts1 _ (Option.some.inj hT).symm))
    · cases h
  · cases h
def whole_Round (N : Nat) (a1 : Int) (a2 : Int) : Option Int :=
  let c1 := (whole_Clip N a1 (-1099511627776) 1099511627776)
  let c2 := (whole_Clip N a2 0 32)
  if c1.isSome = true ∧ c2.isSome = true then
    bif (decide ((c2.getD default) = 0)) then
      some (c1.getD default)
    else
      let x1 := (((c1.getD default) + ((1 : Int) * 2 ^ (Int.toNat ((c2.getD default) - 1)))) / 2 ^ (Int.toNat (c2.getD default)))
      if inK .i64 ((c2.getD default) - 1) ∧ inK .u64 ((c2.getD default) - 1) ∧ (0 : Int) ≤ ((c2.getD default) - 1) ∧ (((c2.getD default) - 1)).toNat ≤ 64 ∧ inK .i64 ((1 : Int) * 2 ^ (Int.toNat ((c2.getD default) - 1))) ∧ inK .i64 ((c1.getD default) + ((1 : Int) * 2 ^ (Int.toNat ((c2.getD default) - 1)))) ∧ inK .u64 (c2.getD default) ∧ (0 : Int) ≤ (c2.getD default) ∧ ((c2.getD default)).toNat ≤ 64 then
        some x1
      else none
  else none
def sp_whole_Round (N : Nat) : X.Spec := fun args lk => match args with
  | [.v (.c (.int .i64 a1)), .v (.c (.int .i64 a2))] => some ⟨(whole_Round N a1 a2).isSome = true, .v (.c (.int .i64 ((whole_Round N a1 a2).getD default))), [], []⟩
  | _ => none
set_option maxRecDepth 100000 in
set_option maxHeartbeats 1000000 in
theorem ok_whole_Round (N : Nat) : FnOK Tryd.prog gt0 139 (sp_whole_Round N) := by
  refine fnOK_handed Tryd.func139 rfl (by kernel_rfl) tt_ok (ktCons (ok_whole_Clip N) (ktNil)) ?_
  intro args lk r h hp
  unfold sp_whole_Round at h
  split at h
  · rename_i a1 a2
    cases h
    obtain ⟨x, hx⟩ := Option.isSome_iff_exists.1 hp
    simp only [hx, Option.getD_some]
    refine hand0 rfl rfl (fun w0 M ε0 hX => ?_)
    refine rCount (fun hε => ?_)
    have hT := hx; clear hx hp
    refine rSeq ?_
    refine rRegC md0 hX rfl rfl rfl (by repeat' first | exact True.intro | exact rfl | apply And.intro | omega | exact Nat.le_of_ble_eq_true rfl) ?_
    refine rThen ?_
    refine rSeq ?_
    let c1 := (whole_Clip N a1 (-1099511627776) 1099511627776)
    let c2 := (whole_Clip N a2 0 32)
    obtain ⟨⟨o1, o2⟩, hT⟩ := sIf hT
    refine rRegC md0 hX rfl rfl rfl (by (repeat' first | exact True.intro | with_reducible assumption | (with_reducible apply And.intro) | intro _) <;> first | assumption | exact rfl | omega | exact Nat.le_of_ble_eq_true rfl | (simp only [inK] at *; omega) | (simp_all [sel] <;> fail) | fail) ?_
    refine rThen ?_
    refine rSeq ?_
    refine rSeq ?_
    refine rRegC md0 hX rfl rfl rfl (by repeat' first | exact True.intro | exact rfl | apply And.intro | omega | exact Nat.le_of_ble_eq_true rfl) ?_
    refine rThen ?_
    refine rCond rfl rfl (by repeat' first | exact True.intro | exact rfl | apply And.intro | omega | exact Nat.le_of_ble_eq_true rfl) (fun hc => ?_) (fun hc => ?_)
    · have hT := sT hc hT
      refine rSeq ?_
      refine rRegC md0 hX rfl rfl rfl (by repeat' first | exact True.intro | exact rfl | apply And.intro | omega | exact Nat.le_of_ble_eq_true rfl) ?_
      refine rThen ?_
      refine rRet ?_
      refine rThenRet ?_
      obtain rfl := Option.some.inj hT
      exact rEnd0 hX rfl (by repeat' first | exact True.intro | exact rfl | apply And.intro | omega | exact Nat.le_of_ble_eq_true rfl) (by repeat' first | exact True.intro | exact rfl | apply And.intro) rfl rfl rfl rfl rfl
    · have hT := sF hc hT
      refine rSkip ?_
      refine rThen ?_
      refine rSeq ?_
      let x1 := (((c1.getD default) + ((1 : Int) * 2 ^ (Int.toNat ((c2.getD default) - 1)))) / 2 ^ (Int.toNat (c2.getD default)))
      obtain ⟨⟨o1, o2, o3, o4, o5, o6, o7, o8, o9⟩, hT⟩ := sIf hT
      refine rRegC md0 hX rfl rfl rfl (by (repeat' first | exact True.intro | with_reducible assumption | (with_reducible apply And.intro) | intro _) <;> first | assumption | exact rfl | omega | exact Nat.le_of_ble_eq_true rfl | (simp only [inK] at *; omega) | (simp_all [sel] <;> fail) | fail) ?_
      refine rThen ?_
      refine rRet ?_
      obtain rfl := Option.some.inj hT
      exact rEnd0 hX rfl (by repeat' first | exact True.intro | exact rfl | apply And.intro | omega | exact Nat.le_of_ble_eq_true rfl) (by repeat' first | exact True.intro | exact rfl | apply And.intro) rfl rfl rfl rfl rfl
  · cases h
def dct_rounded_b1 (N : Nat) (a1 : (List Int)) (a2 : Int) (a3 : Int) (s1 : (Int × (List Int))) : Option ((Int × (List Int)) ⊕ (List Int)) :=
  bif (decide (s1.1 < 64)) then
    if (0 : Int) ≤ s1.1 ∧ s1.1 < 64 ∧ (s1.1).toNat < 64 then
      let c1 := (whole_Round N (a1.getD (s1.1).toNat 0) 15)
      let c2 := (whole_Clip N (c1.getD default) a2 a3)
      if c1.isSome = true ∧ c2.isSome = true ∧ (0 : Int) ≤ s1.1 ∧ s1.1 < 64 ∧ (s1.1).toNat < 64 then
        if inK .i64 (s1.1 + 1) then
          some (.inl ((s1.1 + 1), (s1.2.set (s1.1).toNat (c2.getD default))))
        else none
      else none
    else none
  else
    some (.inr s1.2)
def dct_rounded (N : Nat) (a1 : (List Int)) (a2 : Int) (a3 : Int) : Option (List Int) :=
  (iter (dct_rounded_b1 N a1 a2 a3) N (0, (List.replicate 64 0))).bind fun v1 =>
    some v1
def sp_dct_rounded (N : Nat) : X.Spec := fun args lk => match args with
  | [.v (.agg [.ints 64 .i64 a1]), .v (.c (.int .i64 a2)), .v (.c (.int .i64 a3))] => some ⟨(dct_rounded N a1 a2 a3).isSome = true, .v (.agg [.ints 64 .i64 ((dct_rounded N a1 a2 a3).getD default)]), [], []⟩
  | _ => none
set_option maxRecDepth 100000 in
set_option maxHeartbeats 1000000 in
theorem ok_dct_rounded (N : Nat) : FnOK Tryd.prog gt0 107 (sp_dct_rounded N) := by
  refine fnOK_handed Tryd.func107 rfl (by kernel_rfl) tt_ok (ktCons (ok_whole_Clip N) (ktCons (ok_whole_Round N) (ktNil))) ?_
  intro args lk r h hp
  unfold sp_dct_rounded at h
  split at h
  · rename_i a1 a2 a3
    cases h
    obtain ⟨x, hx⟩ := Option.isSome_iff_exists.1 hp
    simp only [hx, Option.getD_some]
    refine hand0 rfl rfl (fun w0 M ε0 hX => ?_)
    refine rCount (fun hε => ?_)
    have hT := hx; clear hx hp
    refine rSeq ?_
    refine rRegC md0 hX rfl rfl rfl (by repeat' first | exact True.intro | exact rfl | apply And.intro | omega | exact Nat.le_of_ble_eq_true rfl) ?_
    refine rThen ?_
    refine rSeq ?_
    refine rRegC md0 hX rfl rfl rfl (by repeat' first | exact True.intro | exact rfl | apply And.intro | omega | exact Nat.le_of_ble_eq_true rfl) ?_
    refine rThen ?_
    refine rSeq ?_
    refine rSeq ?_
    refine rRegC md0 hX rfl rfl rfl (by repeat' first | exact True.intro | exact rfl | apply And.intro | omega | exact Nat.le_of_ble_eq_true rfl) ?_
    refine rThen ?_
    refine rBlock ?_
    obtain ⟨w1, hl, hT⟩ := sBind hT
    refine rJoinA (fun v1 => v1 = w1) (fun v1 => ⟨[(6, .v (.c (.ptr 1 0 0 0 0 0))), (7, .v (.c (.ptr 2 0 0 0 0 0)))], [(1, .mem true 22 none (.flat [.ints 64 .i64 (List.replicate 64 0)])), (2, .mem true 22 none (.flat [.ints 64 .i64 v1]))], 3⟩) (.exit 0) (fun v1 hv => ?_) (fun hxs10 => ?_)
    · subst hv; clear hl
      refine rInHit ?_
      refine rThen ?_
      refine rSeq ?_
      refine rRegC md0 hX rfl rfl rfl (by repeat' first | exact True.intro | exact rfl | apply And.intro | omega | exact Nat.le_of_ble_eq_true rfl) ?_
      refine rThen ?_
      refine rRet ?_
      obtain rfl := Option.some.inj hT
      exact rEnd0 hX rfl (by repeat' first | exact True.intro | exact rfl | apply And.intro | omega | exact Nat.le_of_ble_eq_true rfl) (by repeat' first | exact True.intro | exact rfl | apply And.intro) rfl rfl rfl rfl rfl
    refine rLoopM (dct_rounded_b1 N a1 a2 a3) (fun s1 => ⟨[(1, .v (.c (.int .i64 a2))), (2, .v (.c (.int .i64 a3))), (6, .v (.c (.ptr 1 0 0 0 0 0))), (7, .v (.c (.ptr 2 0 0 0 0 0))), (10, .v (.agg [.ints 64 .i64 a1])), (11, .v (.c (.int .i64 s1.1)))], [(1, .mem true 22 none (.flat [.ints 64 .i64 (List.replicate 64 0)])), (2, .mem true 22 none (.flat [.ints 64 .i64 s1.2]))], 3⟩) hl (To.mk' [] 0 hε rfl (by repeat' first | exact True.intro | exact rfl | apply And.intro) (by repeat' first | exact True.intro | exact rfl | apply And.intro)) (fun s1 zs1 NNs1 hz hnexts1 houts1 => ?_)
    clear hl hT
    have hT := hz; clear hz
    refine rSeq ?_
    refine rRegC md0 hX rfl rfl rfl (by repeat' first | exact True.intro | exact rfl | apply And.intro | omega | exact Nat.le_of_ble_eq_true rfl) ?_
    refine rThen ?_
    refine rSeq ?_
    refine rCond rfl rfl (by repeat' first | exact True.intro | exact rfl | apply And.intro | omega | exact Nat.le_of_ble_eq_true rfl) (fun hc => ?_) (fun hc => ?_)
    · have hT := sT hc hT
      refine rSkip ?_
      refine rThen ?_
      refine rSeq ?_
      refine rBlock ?_
      refine rSeq ?_
      obtain ⟨⟨o1, o2, o3⟩, hT⟩ := sIf hT
      refine rRegC md0 hX rfl rfl rfl (by (repeat' first | exact True.intro | with_reducible assumption | (with_reducible apply And.intro) | intro _) <;> first | assumption | exact rfl | omega | exact Nat.le_of_ble_eq_true rfl | (simp only [inK] at *; omega) | (simp_all [sel] <;> fail) | fail) ?_
      refine rThen ?_
      let c1 := (whole_Round N (a1.getD (s1.1).toNat 0) 15)
      let c2 := (whole_Clip N (c1.getD default) a2 a3)
      obtain ⟨⟨o1, o2, o3, o4, o5⟩, hT⟩ := sIf hT
      refine rRegC md0 hX rfl rfl rfl (by (repeat' first | exact True.intro | with_reducible assumption | (with_reducible apply And.intro) | intro _) <;> first | assumption | exact rfl | omega | exact Nat.le_of_ble_eq_true rfl | (simp only [inK] at *; omega) | (simp_all [sel] <;> fail) | fail) ?_
      refine rInNormal ?_
      refine rThen ?_
      obtain ⟨o1, hT⟩ := sIf hT
      refine rRegC md0 hX rfl rfl rfl (by (repeat' first | exact True.intro | with_reducible assumption | (with_reducible apply And.intro) | intro _) <;> first | assumption | exact rfl | omega | exact Nat.le_of_ble_eq_true rfl | (simp only [inK] at *; omega) | (simp_all [sel] <;> fail) | fail) ?_
      exact hnexts1 _ (Option.some.inj hT).symm _ (To.mk' [] 0 hε rfl (by repeat' first | exact True.intro | exact rfl | apply And.intro) (by repeat' first | exact True.intro | exact rfl | apply And.intro))
    · have hT := sF hc hT
      refine rExit ?_
      refine rThenExit ?_
      refine rThenExit ?_
      exact rTo (To.mk' [] 0 hε rfl (by repeat' first | exact True.intro | exact rfl | apply And.intro) (by repeat' first | exact True.intro | exact rfl | apply And.intro)) (hxs10 _ (houts1 _ (Option.some.inj hT).symm))
  · cases h
def dct_Forward (N : Nat) (a1 : (List Int)) : Option (List Int) :=
  let c1 := (dct_within N a1)
  if c1.isSome = true then
    let c2 := (dct_pass N (c1.getD default))
    if c2.isSome = true then
      let c3 := (dct_pass N (c2.getD default))
      let c4 := (dct_rounded N (c3.getD default) (-2048) 2047)
      if c3.isSome = true ∧ c4.isSome = true then
        some (c4.getD default)
      else none
    else none
  else none
def sp_dct_Forward (N : Nat) : X.Spec := fun args lk => match args with
  | [.v (.agg [.ints 64 .i64 a1])] => some ⟨(dct_Forward N a1).isSome = true, .v (.agg [.ints 64 .i64 ((dct_Forward N a1).getD default)]), [], []⟩
  | _ => none
set_option maxRecDepth 100000 in
set_option maxHeartbeats 1000000 in
theorem ok_dct_Forward (N : Nat) : FnOK Tryd.prog gt0 51 (sp_dct_Forward N) := by
  refine fnOK_handed Tryd.func51 rfl (by kernel_rfl) tt_ok (ktCons (ok_dct_rounded N) (ktCons (ok_dct_pass N) (ktCons (ok_dct_within N) (ktNil)))) ?_
  intro args lk r h hp
  unfold sp_dct_Forward at h
  split at h
  · rename_i a1
    cases h
    obtain ⟨x, hx⟩ := Option.isSome_iff_exists.1 hp
    simp only [hx, Option.getD_some]
    refine hand0 rfl rfl (fun w0 M ε0 hX => ?_)
    refine rCount (fun hε => ?_)
    have hT := hx; clear hx hp
    refine rSeq ?_
    refine rRegC md0 hX rfl rfl rfl (by repeat' first | exact True.intro | exact rfl | apply And.intro | omega | exact Nat.le_of_ble_eq_true rfl) ?_
    refine rThen ?_
    refine rSeq ?_
    let c1 := (dct_within N a1)
    obtain ⟨o1, hT⟩ := sIf hT
    refine rRegC md0 hX rfl rfl rfl (by (repeat' first | exact True.intro | with_reducible assumption | (with_reducible apply And.intro) | intro _) <;> first | assumption | exact rfl | omega | exact Nat.le_of_ble_eq_true rfl | (simp only [inK] at *; omega) | (simp_all [sel] <;> fail) | fail) ?_
    refine rThen ?_
    refine rSeq ?_
    let c2 := (dct_pass N (c1.getD default))
    obtain ⟨o1, hT⟩ := sIf hT
    refine rRegC md0 hX rfl rfl rfl (by (repeat' first | exact True.intro | with_reducible assumption | (with_reducible apply And.intro) | intro _) <;> first | assumption | exact rfl | omega | exact Nat.le_of_ble_eq_true rfl | (simp only [inK] at *; omega) | (simp_all [sel] <;> fail) | fail) ?_
    refine rThen ?_
    refine rSeq ?_
    let c3 := (dct_pass N (c2.getD default))
    let c4 := (dct_rounded N (c3.getD default) (-2048) 2047)
    obtain ⟨⟨o1, o2⟩, hT⟩ := sIf hT
    refine rRegC md0 hX rfl rfl rfl (by (repeat' first | exact True.intro | with_reducible assumption | (with_reducible apply And.intro) | intro _) <;> first | assumption | exact rfl | omega | exact Nat.le_of_ble_eq_true rfl | (simp only [inK] at *; omega) | (simp_all [sel] <;> fail) | fail) ?_
    refine rThen ?_
    refine rRet ?_
    obtain rfl := Option.some.inj hT
    exact rEnd0 hX rfl (by repeat' first | exact True.intro | exact rfl | apply And.intro | omega | exact Nat.le_of_ble_eq_true rfl) (by repeat' first | exact True.intro | exact rfl | apply And.intro) rfl rfl rfl rfl rfl
  · cases h
def coarse_level (N : Nat) (a1 : Int) (a2 : Int) (a3 : Int) : Option Int :=
  let c1 := (whole_Clip N ((max a2 (0 : Int)) / ((2 : Int) * a3)) 0 127)
  if inK .i64 ((2 : Int) * a3) ∧ (0 : Int) ≤ (max a2 (0 : Int)) ∧ (0 : Int) < ((2 : Int) * a3) ∧ c1.isSome = true then
    bif (decide (a1 < 0)) then
      if inK .i64 (-(c1.getD default)) then
        some (-(c1.getD default))
      else none
    else
      some (c1.getD default)
  else none
def sp_coarse_level (N : Nat) : X.Spec := fun args lk => match args with
  | [.v (.c (.int .i64 a1)), .v (.c (.int .i64 a2)), .v (.c (.int .i64 a3))] => some ⟨(coarse_level N a1 a2 a3).isSome = true, .v (.c (.int .i64 ((coarse_level N a1 a2 a3).getD default))), [], []⟩
  | _ => none
set_option maxRecDepth 100000 in
set_option maxHeartbeats 1000000 in
theorem ok_coarse_level (N : Nat) : FnOK Tryd.prog gt0 140 (sp_coarse_level N) := by
  refine fnOK_handed Tryd.func140 rfl (by kernel_rfl) tt_ok (ktCons (ok_whole_Clip N) (ktNil)) ?_
  intro args lk r h hp
  unfold sp_coarse_level at h
  split at h
  · rename_i a1 a2 a3
    cases h
    obtain ⟨x, hx⟩ := Option.isSome_iff_exists.1 hp
    simp only [hx, Option.getD_some]
    refine hand0 rfl rfl (fun w0 M ε0 hX => ?_)
    refine rCount (fun hε => ?_)
    have hT := hx; clear hx hp
    refine rSeq ?_
    refine rRegC md0 hX rfl rfl rfl (by repeat' first | exact True.intro | exact rfl | apply And.intro | omega | exact Nat.le_of_ble_eq_true rfl) ?_
    refine rThen ?_
    refine rSeq ?_
    let c1 := (whole_Clip N ((max a2 (0 : Int)) / ((2 : Int) * a3)) 0 127)
    obtain ⟨⟨o1, o2, o3, o4⟩, hT⟩ := sIf hT
    refine rRegC md0 hX rfl rfl rfl (by (repeat' first | exact True.intro | with_reducible assumption | (with_reducible apply And.intro) | intro _) <;> first | assumption | exact rfl | omega | exact Nat.le_of_ble_eq_true rfl | (simp only [inK] at *; omega) | (simp_all [sel] <;> fail) | fail) ?_
    refine rThen ?_
    refine rSeq ?_
    refine rSeq ?_
    refine rRegC md0 hX rfl rfl rfl (by repeat' first | exact True.intro | exact rfl | apply And.intro | omega | exact Nat.le_of_ble_eq_true rfl) ?_
    refine rThen ?_
    refine rCond rfl rfl (by repeat' first | exact True.intro | exact rfl | apply And.intro | omega | exact Nat.le_of_ble_eq_true rfl) (fun hc => ?_) (fun hc => ?_)
    · have hT := sT hc hT
      refine rSeq ?_
      obtain ⟨o1, hT⟩ := sIf hT
      refine rRegC md0 hX rfl rfl rfl (by (repeat' first | exact True.intro | with_reducible assumption | (with_reducible apply And.intro) | intro _) <;> first | assumption | exact rfl | omega | exact Nat.le_of_ble_eq_true rfl | (simp only [inK] at *; omega) | (simp_all [sel] <;> fail) | fail) ?_
      refine rThen ?_
      refine rRet ?_
      refine rThenRet ?_
      obtain rfl := Option.some.inj hT
      exact rEnd0 hX rfl (by repeat' first | exact True.intro | exact rfl | apply And.intro | omega | exact Nat.le_of_ble_eq_true rfl) (by repeat' first | exact True.intro | exact rfl | apply And.intro) rfl rfl rfl rfl rfl
    · have hT := sF hc hT
      refine rSkip ?_
      refine rThen ?_
      refine rSeq ?_
      refine rRegC md0 hX rfl rfl rfl (by repeat' first | exact True.intro | exact rfl | apply And.intro | omega | exact Nat.le_of_ble_eq_true rfl) ?_
      refine rThen ?_
      refine rRet ?_
      obtain rfl := Option.some.inj hT
      exact rEnd0 hX rfl (by repeat' first | exact True.intro | exact rfl | apply And.intro | omega | exact Nat.le_of_ble_eq_true rfl) (by repeat' first | exact True.intro | exact rfl | apply And.intro) rfl rfl rfl rfl rfl
  · cases h
def coarse_Intra (N : Nat) (a1 : Int) (a2 : Int) : Option Int :=
  let c1 := (whole_Clip N a1 (-2048) 2047)
  let c2 := (whole_Clip N a2 1 31)
  if c1.isSome = true ∧ c2.isSome = true then
    let c3 := (coarse_level N (c1.getD default) (max (c1.getD default) (-(c1.getD default))) (c2.getD default))
    if inK .i64 (-(c1.getD default)) ∧ c3.isSome = true then
      some (c3.getD default)
    else none
  else none
def sp_coarse_Intra (N : Nat) : X.Spec := fun args lk => match args with
  | [.v (.c (.int .i64 a1)), .v (.c (.int .i64 a2))] => some ⟨(coarse_Intra N a1 a2).isSome = true, .v (.c (.int .i64 ((coarse_Intra N a1 a2).getD default))), [], []⟩
  | _ => none
set_option maxRecDepth 100000 in
set_option maxHeartbeats 1000000 in
theorem ok_coarse_Intra (N : Nat) : FnOK Tryd.prog gt0 109 (sp_coarse_Intra N) := by
  refine fnOK_handed Tryd.func109 rfl (by kernel_rfl) tt_ok (ktCons (ok_coarse_level N) (ktCons (ok_whole_Clip N) (ktNil))) ?_
  intro args lk r h hp
  unfold sp_coarse_Intra at h
  split at h
  · rename_i a1 a2
    cases h
    obtain ⟨x, hx⟩ := Option.isSome_iff_exists.1 hp
    simp only [hx, Option.getD_some]
    refine hand0 rfl rfl (fun w0 M ε0 hX => ?_)
    refine rCount (fun hε => ?_)
    have hT := hx; clear hx hp
    refine rSeq ?_
    refine rRegC md0 hX rfl rfl rfl (by repeat' first | exact True.intro | exact rfl | apply And.intro | omega | exact Nat.le_of_ble_eq_true rfl) ?_
    refine rThen ?_
    refine rSeq ?_
    let c1 := (whole_Clip N a1 (-2048) 2047)
    let c2 := (whole_Clip N a2 1 31)
    obtain ⟨⟨o1, o2⟩, hT⟩ := sIf hT
    refine rRegC md0 hX rfl rfl rfl (by (repeat' first | exact True.intro | with_reducible assumption | (with_reducible apply And.intro) | intro _) <;> first | assumption | exact rfl | omega | exact Nat.le_of_ble_eq_true rfl | (simp only [inK] at *; omega) | (simp_all [sel] <;> fail) | fail) ?_
    refine rThen ?_
    refine rSeq ?_
    let c3 := (coarse_level N (c1.getD default) (max (c1.getD default) (-(c1.getD default))) (c2.getD default))
    obtain ⟨⟨o1, o2⟩, hT⟩ := sIf hT
    refine rRegC md0 hX rfl rfl rfl (by (repeat' first | exact True.intro | with_reducible assumption | (with_reducible apply And.intro) | intro _) <;> first | assumption | exact rfl | omega | exact Nat.le_of_ble_eq_true rfl | (simp only [inK] at *; omega) | (simp_all [sel] <;> fail) | fail) ?_
    refine rThen ?_
    refine rRet ?_
    obtain rfl := Option.some.inj hT
    exact rEnd0 hX rfl (by repeat' first | exact True.intro | exact rfl | apply And.intro | omega | exact Nat.le_of_ble_eq_true rfl) (by repeat' first | exact True.intro | exact rfl | apply And.intro) rfl rfl rfl rfl rfl
  · cases h
def coarse_Inter (N : Nat) (a1 : Int) (a2 : Int) : Option Int :=
  let c1 := (whole_Clip N a1 (-2048) 2047)
  let c2 := (whole_Clip N a2 1 31)
  if c1.isSome = true ∧ c2.isSome = true then
    let c3 := (coarse_level N (c1.getD default) ((max (c1.getD default) (-(c1.getD default))) - ((c2.getD default) / 2)) (c2.getD default))
    if inK .i64 (-(c1.getD default)) ∧ (0 : Int) ≤ (c2.getD default) ∧ inK .i64 ((max (c1.getD default) (-(c1.getD default))) - ((c2.getD default) / 2)) ∧ c3.isSome = true then
      some (c3.getD default)
    else none
  else none
def sp_coarse_Inter (N : Nat) : X.Spec := fun args lk => match args with
  | [.v (.c (.int .i64 a1)), .v (.c (.int .i64 a2))] => some ⟨(coarse_Inter N a1 a2).isSome = true, .v (.c (.int .i64 ((coarse_Inter N a1 a2).getD default))), [], []⟩
  | _ => none
set_option maxRecDepth 100000 in
set_option maxHeartbeats 1000000 in
theorem ok_coarse_Inter (N : Nat) : FnOK Tryd.prog gt0 108 (sp_coarse_Inter N) := by
  refine fnOK_handed Tryd.func108 rfl (by kernel_rfl) tt_ok (ktCons (ok_coarse_level N) (ktCons (ok_whole_Clip N) (ktNil))) ?_
  intro args lk r h hp
  unfold sp_coarse_Inter at h
  split at h
  · rename_i a1 a2
    cases h
    obtain ⟨x, hx⟩ := Option.isSome_iff_exists.1 hp
    simp only [hx, Option.getD_some]
    refine hand0 rfl rfl (fun w0 M ε0 hX => ?_)
    refine rCount (fun hε => ?_)
    have hT := hx; clear hx hp
    refine rSeq ?_
    refine rRegC md0 hX rfl rfl rfl (by repeat' first | exact True.intro | exact rfl | apply And.intro | omega | exact Nat.le_of_ble_eq_true rfl) ?_
    refine rThen ?_
    refine rSeq ?_
    let c1 := (whole_Clip N a1 (-2048) 2047)
    let c2 := (whole_Clip N a2 1 31)
    obtain ⟨⟨o1, o2⟩, hT⟩ := sIf hT
    refine rRegC md0 hX rfl rfl rfl (by (repeat' first | exact True.intro | with_reducible assumption | (with_reducible apply And.intro) | intro _) <;> first | assumption | exact rfl | omega | exact Nat.le_of_ble_eq_true rfl | (simp only [inK] at *; omega) | (simp_all [sel] <;> fail) | fail) ?_
    refine rThen ?_
    refine rSeq ?_
    let c3 := (coarse_level N (c1.getD default) ((max (c1.getD default) (-(c1.getD default))) - ((c2.getD default) / 2)) (c2.getD default))
    obtain ⟨⟨o1, o2, o3, o4⟩, hT⟩ := sIf hT
    refine rRegC md0 hX rfl rfl rfl (by (repeat' first | exact True.intro | with_reducible assumption | (with_reducible apply And.intro) | intro _) <;> first | assumption | exact rfl | omega | exact Nat.le_of_ble_eq_true rfl | (simp only [inK] at *; omega) | (simp_all [sel] <;> fail) | fail) ?_
    refine rThen ?_
    refine rRet ?_
    obtain rfl := Option.some.inj hT
    exact rEnd0 hX rfl (by repeat' first | exact True.intro | exact rfl | apply And.intro | omega | exact Nat.le_of_ble_eq_true rfl) (by repeat' first | exact True.intro | exact rfl | apply And.intro) rfl rfl rfl rfl rfl
  · cases h
def coarse_Block_b1 (N : Nat) (a1 : (List Int)) (a2 : Int) (s1 : (Int × (List Int))) : Option ((Int × (List Int)) ⊕ (List Int)) :=
  bif (decide (s1.1 < 64)) then
    if (0 : Int) ≤ s1.1 ∧ s1.1 < 64 ∧ (s1.1).toNat < 64 then
      let c1 := (coarse_Intra N (a1.getD (s1.1).toNat 0) a2)
      if c1.isSome = true ∧ (0 : Int) ≤ s1.1 ∧ s1.1 < 64 ∧ (s1.1).toNat < 64 then
        if inK .i64 (s1.1 + 1) then
          some (.inl ((s1.1 + 1), (s1.2.set (s1.1).toNat (c1.getD default))))
        else none
      else none
    else none
  else
    some (.inr s1.2)
def coarse_Block_b2 (N : Nat) (a1 : (List Int)) (a2 : Int) (s2 : (Int × (List Int))) : Option ((Int × (List Int)) ⊕ (List Int)) :=
  bif (decide (s2.1 < 64)) then
    if (0 : Int) ≤ s2.1 ∧ s2.1 < 64 ∧ (s2.1).toNat < 64 then
      let c2 := (coarse_Inter N (a1.getD (s2.1).toNat 0) a2)
      if c2.isSome = true ∧ (0 : Int) ≤ s2.1 ∧ s2.1 < 64 ∧ (s2.1).toNat < 64 then
        if inK .i64 (s2.1 + 1) then
          some (.inl ((s2.1 + 1), (s2.2.set (s2.1).toNat (c2.getD default))))
        else none
      else none
    else none
  else
    some (.inr s2.2)
def coarse_Block (N : Nat) (a1 : (List Int)) (a2 : Int) (a3 : Bool) : Option (List Int) :=
  bif a3 then
    (iter (coarse_Block_b1 N a1 a2) N (0, (List.replicate 64 0))).bind fun v1 =>
      some (v1.set 0 0)
  else
    (iter (coarse_Block_b2 N a1 a2) N (0, (List.replicate 64 0))).bind fun v2 =>
      some v2
def sp_coarse_Block (N : Nat) : X.Spec := fun args lk => match args with
  | [.v (.agg [.ints 64 .i64 a1]), .v (.c (.int .i64 a2)), .v (.c (.bool a3))] => some ⟨(coarse_Block N a1 a2 a3).isSome = true, .v (.agg [.ints 64 .i64 ((coarse_Block N a1 a2 a3).getD default)]), [], []⟩
  | _ => none
set_option maxRecDepth 100000 in
set_option maxHeartbeats 1000000 in
theorem ok_coarse_Block (N : Nat) : FnOK Tryd.prog gt0 52 (sp_coarse_Block N) := by
  refine fnOK_handed Tryd.func52 rfl (by kernel_rfl) tt_ok (ktCons (ok_coarse_Inter N) (ktCons (ok_coarse_Intra N) (ktNil))) ?_
  intro args lk r h hp
  unfold sp_coarse_Block at h
  split at h
  · rename_i a1 a2 a3
    cases h
    obtain ⟨x, hx⟩ := Option.isSome_iff_exists.1 hp
    simp only [hx, Option.getD_some]
    refine hand0 rfl rfl (fun w0 M ε0 hX => ?_)
    refine rCount (fun hε => ?_)
    have hT := hx; clear hx hp
    refine rSeq ?_
    refine rRegC md0 hX rfl rfl rfl (by repeat' first | exact True.intro | exact rfl | apply And.intro | omega | exact Nat.le_of_ble_eq_true rfl) ?_
    refine rThen ?_
    refine rSeq ?_
    refine rRegC md0 hX rfl rfl rfl (by repeat' first | exact True.intro | exact rfl | apply And.intro | omega | exact Nat.le_of_ble_eq_true rfl) ?_
    refine rThen ?_
    refine rSeq ?_
    refine rSeq ?_
    refine rRegC md0 hX rfl rfl rfl (by repeat' first | exact True.intro | exact rfl | apply And.intro | omega | exact Nat.le_of_ble_eq_true rfl) ?_
    refine rThen ?_
    refine rCond rfl rfl (by repeat' first | exact True.intro | exact rfl | apply And.intro | omega | exact Nat.le_of_ble_eq_true rfl) (fun hc => ?_) (fun hc => ?_)
    · have hT := sT hc hT
      refine rRegC md0 hX rfl rfl rfl (by repeat' first | exact True.intro | exact rfl | apply And.intro | omega | exact Nat.le_of_ble_eq_true rfl) ?_
      refine rThen ?_
      refine rSeq ?_
      refine rRegC md0 hX rfl rfl rfl (by repeat' first | exact True.intro | exact rfl | apply And.intro | omega | exact Nat.le_of_ble_eq_true rfl) ?_
      refine rThen ?_
      refine rSeq ?_
      refine rSeq ?_
      refine rRegC md0 hX rfl rfl rfl (by repeat' first | exact True.intro | exact rfl | apply And.intro | omega | exact Nat.le_of_ble_eq_true rfl) ?_
      refine rThen ?_
      refine rBlock ?_
      obtain ⟨w1, hl, hT⟩ := sBind hT
      refine rJoinA (fun v1 => v1 = w1) (fun v1 => ⟨[(2, .v (.c (.bool a3))), (6, .v (.c (.ptr 1 0 0 0 0 0))), (8, .v (.c (.ptr 2 0 0 0 0 0)))], [(1, .mem true 22 none (.flat [.ints 64 .i64 (List.replicate 64 0)])), (2, .mem true 22 none (.flat [.ints 64 .i64 v1]))], 3⟩) (.exit 0) (fun v1 hv => ?_) (fun hxs10 => ?_)
      · subst hv; clear hl
        refine rInHit ?_
        refine rThen ?_
        refine rSeq ?_
        refine rSeq ?_
        refine rRegC md0 hX rfl rfl rfl (by repeat' first | exact True.intro | exact rfl | apply And.intro | omega | exact Nat.le_of_ble_eq_true rfl) ?_
        refine rThen ?_
        refine rCondT rfl rfl (by (repeat' first | exact True.intro | with_reducible assumption | (with_reducible apply And.intro) | intro _) <;> first | assumption | exact rfl | omega | exact Nat.le_of_ble_eq_true rfl | (simp only [inK] at *; omega) | (simp_all [sel] <;> fail) | fail) (by assumption) ?_
        refine rRegC md0 hX rfl rfl rfl (by repeat' first | exact True.intro | exact rfl | apply And.intro | omega | exact Nat.le_of_ble_eq_true rfl) ?_
        refine rThen ?_
        refine rSeq ?_
        refine rRegC md0 hX rfl rfl rfl (by repeat' first | exact True.intro | exact rfl | apply And.intro | omega | exact Nat.le_of_ble_eq_true rfl) ?_
        refine rThen ?_
        refine rRet ?_
        obtain rfl := Option.some.inj hT
        exact rEnd0 hX rfl (by repeat' first | exact True.intro | exact rfl | apply And.intro | omega | exact Nat.le_of_ble_eq_true rfl) (by repeat' first | exact True.intro | exact rfl | apply And.intro) rfl rfl rfl rfl rfl
      refine rLoopM (coarse_Block_b1 N a1 a2) (fun s1 => ⟨[(1, .v (.c (.int .i64 a2))), (2, .v (.c (.bool a3))), (6, .v (.c (.ptr 1 0 0 0 0 0))), (7, .v (.c (.clo 109 []))), (8, .v (.c (.ptr 2 0 0 0 0 0))), (12, .v (.agg [.ints 64 .i64 a1])), (13, .v (.c (.int .i64 s1.1)))], [(1, .mem true 22 none (.flat [.ints 64 .i64 (List.replicate 64 0)])), (2, .mem true 22 none (.flat [.ints 64 .i64 s1.2]))], 3⟩) hl (To.mk' [] 0 hε rfl (by repeat' first | exact True.intro | exact rfl | apply And.intro) (by repeat' first | exact True.intro | exact rfl | apply And.intro)) (fun s1 zs1 NNs1 hz hnexts1 houts1 => ?_)
      clear hl hT
      have hT := hz; clear hz
      refine rSeq ?_
      refine rRegC md0 hX rfl rfl rfl (by repeat' first | exact True.intro | exact rfl | apply And.intro | omega | exact Nat.le_of_ble_eq_true rfl) ?_
      refine rThen ?_
      refine rSeq ?_
      refine rCond rfl rfl (by repeat' first | exact True.intro | exact rfl | apply And.intro | omega | exact Nat.le_of_ble_eq_true rfl) (fun hc => ?_) (fun hc => ?_)
      · have hT := sT hc hT
        refine rSkip ?_
        refine rThen ?_
        refine rSeq ?_
        refine rBlock ?_
        refine rSeq ?_
        obtain ⟨⟨o1, o2, o3⟩, hT⟩ := sIf hT
        refine rRegC md0 hX rfl rfl rfl (by (repeat' first | exact True.intro | with_reducible assumption | (with_reducible apply And.intro) | intro _) <;> first | assumption | exact rfl | omega | exact Nat.le_of_ble_eq_true rfl | (simp only [inK] at *; omega) | (simp_all [sel] <;> fail) | fail) ?_
        refine rThen ?_
        let c1 := (coarse_Intra N (a1.getD (s1.1).toNat 0) a2)
        obtain ⟨⟨o1, o2, o3, o4⟩, hT⟩ := sIf hT
        refine rRegC md0 hX rfl rfl rfl (by (repeat' first | exact True.intro | with_reducible assumption | (with_reducible apply And.intro) | intro _) <;> first | assumption | exact rfl | omega | exact Nat.le_of_ble_eq_true rfl | (simp only [inK] at *; omega) | (simp_all [sel] <;> fail) | fail) ?_
        refine rInNormal ?_
        refine rThen ?_
        obtain ⟨o1, hT⟩ := sIf hT
        refine rRegC md0 hX rfl rfl rfl (by (repeat' first | exact True.intro | with_reducible assumption | (with_reducible apply And.intro) | intro _) <;> first | assumption | exact rfl | omega | exact Nat.le_of_ble_eq_true rfl | (simp only [inK] at *; omega) | (simp_all [sel] <;> fail) | fail) ?_
        exact hnexts1 _ (Option.some.inj hT).symm _ (To.mk' [] 0 hε rfl (by repeat' first | exact True.intro | exact rfl | apply And.intro) (by repeat' first | exact True.intro | exact rfl | apply And.intro))
      · have hT := sF hc hT
        refine rExit ?_
        refine rThenExit ?_
        refine rThenExit ?_
        exact rTo (To.mk' [] 0 hε rfl (by repeat' first | exact True.intro | exact rfl | apply And.intro) (by repeat' first | exact True.intro | exact rfl | apply And.intro)) (hxs10 _ (houts1 _ (Option.some.inj hT).symm))
    · have hT := sF hc hT
      refine rSkip ?_
      refine rThen ?_
      refine rSeq ?_
      refine rRegC md0 hX rfl rfl rfl (by repeat' first | exact True.intro | exact rfl | apply And.intro | omega | exact Nat.le_of_ble_eq_true rfl) ?_
      refine rThen ?_
      refine rSeq ?_
      refine rSeq ?_
      refine rRegC md0 hX rfl rfl rfl (by repeat' first | exact True.intro | exact rfl | apply And.intro | omega | exact Nat.le_of_ble_eq_true rfl) ?_
      refine rThen ?_
      refine rBlock ?_
      obtain ⟨w2, hl, hT⟩ := sBind hT
      refine rJoinA (fun v2 => v2 = w2) (fun v2 => ⟨[(2, .v (.c (.bool a3))), (6, .v (.c (.ptr 1 0 0 0 0 0))), (8, .v (.c (.ptr 2 0 0 0 0 0)))], [(1, .mem true 22 none (.flat [.ints 64 .i64 (List.replicate 64 0)])), (2, .mem true 22 none (.flat [.ints 64 .i64 v2]))], 3⟩) (.exit 0) (fun v2 hv => ?_) (fun hxs20 => ?_)
      · subst hv; clear hl
        refine rInHit ?_
        refine rThen ?_
        refine rSeq ?_
        refine rSeq ?_
        refine rRegC md0 hX rfl rfl rfl (by repeat' first | exact True.intro | exact rfl | apply And.intro | omega | exact Nat.le_of_ble_eq_true rfl) ?_
        refine rThen ?_
        refine rCondF rfl rfl (by (repeat' first | exact True.intro | with_reducible assumption | (with_reducible apply And.intro) | intro _) <;> first | assumption | exact rfl | omega | exact Nat.le_of_ble_eq_true rfl | (simp only [inK] at *; omega) | (simp_all [sel] <;> fail) | fail) (by assumption) ?_
        refine rSkip ?_
        refine rThen ?_
        refine rSeq ?_
        refine rRegC md0 hX rfl rfl rfl (by repeat' first | exact True.intro | exact rfl | apply And.intro | omega | exact Nat.le_of_ble_eq_true rfl) ?_
        refine rThen ?_
        refine rRet ?_
        obtain rfl := Option.some.inj hT
        exact rEnd0 hX rfl (by repeat' first | exact True.intro | exact rfl | apply And.intro | omega | exact Nat.le_of_ble_eq_true rfl) (by repeat' first | exact True.intro | exact rfl | apply And.intro) rfl rfl rfl rfl rfl
      refine rLoopM (coarse_Block_b2 N a1 a2) (fun s2 => ⟨[(1, .v (.c (.int .i64 a2))), (2, .v (.c (.bool a3))), (6, .v (.c (.ptr 1 0 0 0 0 0))), (7, .v (.c (.clo 108 []))), (8, .v (.c (.ptr 2 0 0 0 0 0))), (12, .v (.agg [.ints 64 .i64 a1])), (13, .v (.c (.int .i64 s2.1)))], [(1, .mem true 22 none (.flat [.ints 64 .i64 (List.replicate 64 0)])), (2, .mem true 22 none (.flat [.ints 64 .i64 s2.2]))], 3⟩) hl (To.mk' [] 0 hε rfl (by repeat' first | exact True.intro | exact rfl | apply And.intro) (by repeat' first | exact True.intro | exact rfl | apply And.intro)) (fun s2 zs2 NNs2 hz hnexts2 houts2 => ?_)
      clear hl hT
      have hT := hz; clear hz
      refine rSeq ?_
      refine rRegC md0 hX rfl rfl rfl (by repeat' first | exact True.intro | exact rfl | apply And.intro | omega | exact Nat.le_of_ble_eq_true rfl) ?_
      refine rThen ?_
      refine rSeq ?_
      refine rCond rfl rfl (by repeat' first | exact True.intro | exact rfl | apply And.intro | omega | exact Nat.le_of_ble_eq_true rfl) (fun hc => ?_) (fun hc => ?_)
      · have hT := sT hc hT
        refine rSkip ?_
        refine rThen ?_
        refine rSeq ?_
        refine rBlock ?_
        refine rSeq ?_
        obtain ⟨⟨o1, o2, o3⟩, hT⟩ := sIf hT
        refine rRegC md0 hX rfl rfl rfl (by (repeat' first | exact True.intro | with_reducible assumption | (with_reducible apply And.intro) | intro _) <;> first | assumption | exact rfl | omega | exact Nat.le_of_ble_eq_true rfl | (simp only [inK] at *; omega) | (simp_all [sel] <;> fail) | fail) ?_
        refine rThen ?_
        let c2 := (coarse_Inter N (a1.getD (s2.1).toNat 0) a2)
        obtain ⟨⟨o1, o2, o3, o4⟩, hT⟩ := sIf hT
        refine rRegC md0 hX rfl rfl rfl (by (repeat' first | exact True.intro | with_reducible assumption | (with_reducible apply And.intro) | intro _) <;> first | assumption | exact rfl | omega | exact Nat.le_of_ble_eq_true rfl | (simp only [inK] at *; omega) | (simp_all [sel] <;> fail) | fail) ?_
        refine rInNormal ?_
        refine rThen ?_
        obtain ⟨o1, hT⟩ := sIf hT
        refine rRegC md0 hX rfl rfl rfl (by (repeat' first | exact True.intro | with_reducible assumption | (with_reducible apply And.intro) | intro _) <;> first | assumption | exact rfl | omega | exact Nat.le_of_ble_eq_true rfl | (simp only [inK] at *; omega) | (simp_all [sel] <;> fail) | fail) ?_
        exact hnexts2 _ (Option.some.inj hT).symm _ (To.mk' [] 0 hε rfl (by repeat' first | exact True.intro | exact rfl | apply And.intro) (by repeat' first | exact True.intro | exact rfl | apply And.intro))
      · have hT := sF hc hT
        refine rExit ?_
        refine rThenExit ?_
        refine rThenExit ?_
        exact rTo (To.mk' [] 0 hε rfl (by repeat' first | exact True.intro | exact rfl | apply And.intro) (by repeat' first | exact True.intro | exact rfl | apply And.intro)) (hxs20 _ (houts2 _ (Option.some.inj hT).symm))
  · cases h
def feed_Block_b1 (N : Nat) (c3 : (Option (List Int))) (s1 : (Int × (List Int))) : Option ((Int × (List Int)) ⊕ (List Int)) :=
  bif (decide (s1.1 < 64)) then
    if (0 : Int) ≤ s1.1 ∧ s1.1 < 64 ∧ (s1.1).toNat < 64 then
      let x2 := (s1.2.set (s1.1).toNat ((s1.2.getD (s1.1).toNat 0) + ((c3.getD default).getD (s1.1).toNat 0)))
      if (0 : Int) ≤ s1.1 ∧ s1.1 < 64 ∧ (s1.1).toNat < 64 ∧ inK .i64 ((s1.2.getD (s1.1).toNat 0) + ((c3.getD default).getD (s1.1).toNat 0)) then
        if inK .i64 (s1.1 + 1) then
          some (.inl ((s1.1 + 1), x2))
        else none
      else none
    else none
  else
    some (.inr s1.2)
def feed_Block (N : Nat) (a1 : (List Int)) (a2 : (List Int)) (a3 : Int) (a4 : Int) (a5 : Bool) : Option (List Int) :=
  let c1 := (feed_plain N a1 a2 a3 a4 a5)
  if c1.isSome = true then
    let x1 := (bif (decide ((c1.getD default).2.2.1 = (c1.getD default).2.2.2.1)) then (decide ((c1.getD default).2.1 = (List.replicate 64 0))) else false)
    bif x1 then
      some (c1.getD default).1
    else
      let c2 := (scale_Block N (c1.getD default).1 (c1.getD default).2.2.1 false 0)
      if c2.isSome = true then
        let c3 := (dct_Forward N (c1.getD default).2.1)
        if c3.isSome = true then
          (iter (feed_Block_b1 N c3) N (0, (c2.getD default))).bind fun v1 =>
            let c4 := (coarse_Block N v1 (c1.getD default).2.2.2.1 (c1.getD default).2.2.2.2)
            if c4.isSome = true then
              some (c4.getD default)
            else none
        else none
      else none
  else none
def sp_feed_Block (N : Nat) : X.Spec := fun args lk => match args with
  | [.v (.agg [.ints 64 .i64 a1, .ints 64 .i64 a2, .cs [.int .i64 a3, .int .i64 a4, .bool a5]])] => some ⟨(feed_Block N a1 a2 a3 a4 a5).isSome = true, .v (.agg [.ints 64 .i64 ((feed_Block N a1 a2 a3 a4 a5).getD default)]), [], []⟩
  | _ => none
set_option maxRecDepth 100000 in
set_option maxHeartbeats 1000000 in
theorem ok_feed_Block (N : Nat) : FnOK Tryd.prog gt0 13 (sp_feed_Block N) := by
  refine fnOK_handed Tryd.func13 rfl (by kernel_rfl) tt_ok (ktCons (ok_coarse_Block N) (ktCons (ok_dct_Forward N) (ktCons (ok_scale_Block N) (ktCons (ok_feed_plain N) (ktNil))))) ?_
  intro args lk r h hp
  unfold sp_feed_Block at h
  split at h
  · rename_i a1 a2 a3 a4 a5
    cases h
    obtain ⟨x, hx⟩ := Option.isSome_iff_exists.1 hp
    simp only [hx, Option.getD_some]
    refine hand0 rfl rfl (fun w0 M ε0 hX => ?_)
    refine rCount (fun hε => ?_)
    have hT := hx; clear hx hp
    refine rSeq ?_
    refine rRegC md0 hX rfl rfl rfl (by repeat' first | exact True.intro | exact rfl | apply And.intro | omega | exact Nat.le_of_ble_eq_true rfl) ?_
    refine rThen ?_
    refine rSeq ?_
    let c1 := (feed_plain N a1 a2 a3 a4 a5)
    obtain ⟨o1, hT⟩ := sIf hT
    refine rRegC md0 hX rfl rfl rfl (by (repeat' first | exact True.intro | with_reducible assumption | (with_reducible apply And.intro) | intro _) <;> first | assumption | exact rfl | omega | exact Nat.le_of_ble_eq_true rfl | (simp only [inK] at *; omega) | (simp_all [sel] <;> fail) | fail) ?_
    refine rThen ?_
    refine rSeq ?_
    refine rSeq ?_
    let x1 := (bif (decide ((c1.getD default).2.2.1 = (c1.getD default).2.2.2.1)) then (decide ((c1.getD default).2.1 = (List.replicate 64 0))) else false)
    refine rRegC md0 hX rfl rfl rfl (by (repeat' first | exact True.intro | with_reducible assumption | (with_reducible apply And.intro) | intro _) <;> first | assumption | exact rfl | omega | exact Nat.le_of_ble_eq_true rfl | (simp only [inK] at *; omega) | (simp_all [sel] <;> fail) | fail) ?_
    refine rThen ?_
    refine rCond rfl rfl (by repeat' first | exact True.intro | exact rfl | apply And.intro | omega | exact Nat.le_of_ble_eq_true rfl) (fun hc => ?_) (fun hc => ?_)
    · have hT := sT hc hT
      refine rSeq ?_
      refine rRegC md0 hX rfl rfl rfl (by repeat' first | exact True.intro | exact rfl | apply And.intro | omega | exact Nat.le_of_ble_eq_true rfl) ?_
      refine rThen ?_
      refine rRet ?_
      refine rThenRet ?_
      obtain rfl := Option.some.inj hT
      exact rEnd0 hX rfl (by repeat' first | exact True.intro | exact rfl | apply And.intro | omega | exact Nat.le_of_ble_eq_true rfl) (by repeat' first | exact True.intro | exact rfl | apply And.intro) rfl rfl rfl rfl rfl
    · have hT := sF hc hT
      refine rSkip ?_
      refine rThen ?_
      refine rSeq ?_
      let c2 := (scale_Block N (c1.getD default).1 (c1.getD default).2.2.1 false 0)
      obtain ⟨o1, hT⟩ := sIf hT
      refine rRegC md0 hX rfl rfl rfl (by (repeat' first | exact True.intro | with_reducible assumption | (with_reducible apply And.intro) | intro _) <;> first | assumption | exact rfl | omega | exact Nat.le_of_ble_eq_true rfl | (simp only [inK] at *; omega) | (simp_all [sel] <;> fail) | fail) ?_
      refine rThen ?_
      refine rSeq ?_
      refine rSeq ?_
      let c3 := (dct_Forward N (c1.getD default).2.1)
      obtain ⟨o1, hT⟩ := sIf hT
      refine rRegC md0 hX rfl rfl rfl (by (repeat' first | exact True.intro | with_reducible assumption | (with_reducible apply And.intro) | intro _) <;> first | assumption | exact rfl | omega | exact Nat.le_of_ble_eq_true rfl | (simp only [inK] at *; omega) | (simp_all [sel] <;> fail) | fail) ?_
      refine rThen ?_
      refine rBlock ?_
      obtain ⟨w1, hl, hT⟩ := sBind hT
      refine rJoinA (fun v1 => v1 = w1) (fun v1 => ⟨[(1, .v (.c (.ptr 0 0 0 0 0 0))), (2, .v (.c (.ptr 1 0 0 0 0 0))), (3, .v (.c (.ptr 2 0 0 0 0 0)))], [(0, .mem true 26 none (.flat [.ints 64 .i64 (c1.getD default).1, .ints 64 .i64 (c1.getD default).2.1, .cs [.int .i64 (c1.getD default).2.2.1, .int .i64 (c1.getD default).2.2.2.1, .bool (c1.getD default).2.2.2.2]])), (1, .mem true 22 none (.flat [.ints 64 .i64 (List.replicate 64 0)])), (2, .mem true 22 none (.flat [.ints 64 .i64 v1]))], 3⟩) (.exit 0) (fun v1 hv => ?_) (fun hxs10 => ?_)
      · subst hv; clear hl
        refine rInHit ?_
        refine rThen ?_
        refine rSeq ?_
        let c4 := (coarse_Block N v1 (c1.getD default).2.2.2.1 (c1.getD default).2.2.2.2)
        obtain ⟨o1, hT⟩ := sIf hT
        refine rRegC md0 hX rfl rfl rfl (by (repeat' first | exact True.intro | with_reducible assumption | (with_reducible apply And.intro) | intro _) <;> first | assumption | exact rfl | omega | exact Nat.le_of_ble_eq_true rfl | (simp only [inK] at *; omega) | (simp_all [sel] <;> fail) | fail) ?_
        refine rThen ?_
        refine rRet ?_
        obtain rfl := Option.some.inj hT
        exact rEnd0 hX rfl (by repeat' first | exact True.intro | exact rfl | apply And.intro | omega | exact Nat.le_of_ble_eq_true rfl) (by repeat' first | exact True.intro | exact rfl | apply And.intro) rfl rfl rfl rfl rfl
      refine rLoopM (feed_Block_b1 N c3) (fun s1 => ⟨[(1, .v (.c (.ptr 0 0 0 0 0 0))), (2, .v (.c (.ptr 1 0 0 0 0 0))), (3, .v (.c (.ptr 2 0 0 0 0 0))), (28, .v (.agg [.ints 64 .i64 (c3.getD default)])), (29, .v (.c (.int .i64 s1.1)))], [(0, .mem true 26 none (.flat [.ints 64 .i64 (c1.getD default).1, .ints 64 .i64 (c1.getD default).2.1, .cs [.int .i64 (c1.getD default).2.2.1, .int .i64 (c1.getD default).2.2.2.1, .bool (c1.getD default).2.2.2.2]])), (1, .mem true 22 none (.flat [.ints 64 .i64 (List.replicate 64 0)])), (2, .mem true 22 none (.flat [.ints 64 .i64 s1.2]))], 3⟩) hl (To.mk' [] 0 hε rfl (by repeat' first | exact True.intro | exact rfl | apply And.intro) (by repeat' first | exact True.intro | exact rfl | apply And.intro)) (fun s1 zs1 NNs1 hz hnexts1 houts1 => ?_)
      clear hl hT
      have hT := hz; clear hz
      refine rSeq ?_
      refine rRegC md0 hX rfl rfl rfl (by repeat' first | exact True.intro | exact rfl | apply And.intro | omega | exact Nat.le_of_ble_eq_true rfl) ?_
      refine rThen ?_
      refine rSeq ?_
      refine rCond rfl rfl (by repeat' first | exact True.intro | exact rfl | apply And.intro | omega | exact Nat.le_of_ble_eq_true rfl) (fun hc => ?_) (fun hc => ?_)
      · have hT := sT hc hT
        refine rSkip ?_
        refine rThen ?_
        refine rSeq ?_
        refine rBlock ?_
        refine rSeq ?_
        obtain ⟨⟨o1, o2, o3⟩, hT⟩ := sIf hT
        refine rRegC md0 hX rfl rfl rfl (by (repeat' first | exact True.intro | with_reducible assumption | (with_reducible apply And.intro) | intro _) <;> first | assumption | exact rfl | omega | exact Nat.le_of_ble_eq_true rfl | (simp only [inK] at *; omega) | (simp_all [sel] <;> fail) | fail) ?_
        refine rThen ?_
        let x2 := (s1.2.set (s1.1).toNat ((s1.2.getD (s1.1).toNat 0) + ((c3.getD default).getD (s1.1).toNat 0)))
        obtain ⟨⟨o1, o2, o3, o4⟩, hT⟩ := sIf hT
        refine rRegC md0 hX rfl rfl rfl (by (repeat' first | exact True.intro | with_reducible assumption | (with_reducible apply And.intro) | intro _) <;> first | assumption | exact rfl | omega | exact Nat.le_of_ble_eq_true rfl | (simp only [inK] at *; omega) | (simp_all [sel] <;> fail) | fail) ?_
        refine rInNormal ?_
        refine rThen ?_
        obtain ⟨o1, hT⟩ := sIf hT
        refine rRegC md0 hX rfl rfl rfl (by (repeat' first | exact True.intro | with_reducible assumption | (with_reducible apply And.intro) | intro _) <;> first | assumption | exact rfl | omega | exact Nat.le_of_ble_eq_true rfl | (simp only [inK] at *; omega) | (simp_all [sel] <;> fail) | fail) ?_
        exact hnexts1 _ (Option.some.inj hT).symm _ (To.mk' [] 0 hε rfl (by repeat' first | exact True.intro | exact rfl | apply And.intro) (by repeat' first | exact True.intro | exact rfl | apply And.intro))
      · have hT := sF hc hT
        refine rExit ?_
        refine rThenExit ?_
        refine rThenExit ?_
        exact rTo (To.mk' [] 0 hε rfl (by repeat' first | exact True.intro | exact rfl | apply And.intro) (by repeat' first | exact True.intro | exact rfl | apply And.intro)) (hxs10 _ (houts1 _ (Option.some.inj hT).symm))
  · cases h
def ref01_Clip (N : Nat) (a1 : Int) (a2 : Int) (a3 : Int) : Option Int :=
  bif (bif (decide (a3 < a2)) then true else (decide (a1 < a2))) then
    some a2
  else
    bif (decide (a3 < a1)) then
      some a3
    else
      some a1
def sp_ref01_Clip (N : Nat) : X.Spec := fun args lk => match args with
  | [.v (.c (.int .i64 a1)), .v (.c (.int .i64 a2)), .v (.c (.int .i64 a3))] => some ⟨(ref01_Clip N a1 a2 a3).isSome = true, .v (.c (.int .i64 ((ref01_Clip N a1 a2 a3).getD default))), [], []⟩
  | _ => none
set_option maxRecDepth 100000 in
set_option maxHeartbeats 1000000 in
theorem ok_ref01_Clip (N : Nat) : FnOK Tryd.prog gt0 53 (sp_ref01_Clip N) := by
  refine fnOK_handed Tryd.func53 rfl (by kernel_rfl) tt_ok (ktNil) ?_
  intro args lk r h hp
  unfold sp_ref01_Clip at h
  split at h
  · rename_i a1 a2 a3
    cases h
    obtain ⟨x, hx⟩ := Option.isSome_iff_exists.1 hp
    simp only [hx, Option.getD_some]
    refine hand0 rfl rfl (fun w0 M ε0 hX => ?_)
    refine rCount (fun hε => ?_)
    have hT := hx; clear hx hp
    refine rSeq ?_
    refine rRegC md0 hX rfl rfl rfl (by repeat' first | exact True.intro | exact rfl | apply And.intro | omega | exact Nat.le_of_ble_eq_true rfl) ?_
    refine rThen ?_
    refine rSeq ?_
    refine rSeq ?_
    refine rRegC md0 hX rfl rfl rfl (by (repeat' first | exact True.intro | with_reducible assumption | (with_reducible apply And.intro) | intro _) <;> first | assumption | exact rfl | omega | exact Nat.le_of_ble_eq_true rfl | (simp only [inK] at *; omega) | (simp_all [sel] <;> fail) | fail) ?_
    refine rThen ?_
    refine rCond rfl rfl (by repeat' first | exact True.intro | exact rfl | apply And.intro | omega | exact Nat.le_of_ble_eq_true rfl) (fun hc => ?_) (fun hc => ?_)
    · have hT := sT hc hT
      refine rSeq ?_
      refine rRegC md0 hX rfl rfl rfl (by repeat' first | exact True.intro | exact rfl | apply And.intro | omega | exact Nat.le_of_ble_eq_true rfl) ?_
      refine rThen ?_
      refine rRet ?_
      refine rThenRet ?_
      obtain rfl := Option.some.inj hT
      exact rEnd0 hX rfl (by repeat' first | exact True.intro | exact rfl | apply And.intro | omega | exact Nat.le_of_ble_eq_true rfl) (by repeat' first | exact True.intro | exact rfl | apply And.intro) rfl rfl rfl rfl rfl
    · have hT := sF hc hT
      refine rSkip ?_
      refine rThen ?_
      refine rSeq ?_
      refine rSeq ?_
      refine rRegC md0 hX rfl rfl rfl (by repeat' first | exact True.intro | exact rfl | apply And.intro | omega | exact Nat.le_of_ble_eq_true rfl) ?_
      refine rThen ?_
      refine rCond rfl rfl (by repeat' first | exact True.intro | exact rfl | apply And.intro | omega | exact Nat.le_of_ble_eq_true rfl) (fun hc => ?_) (fun hc => ?_)
      · have hT := sT hc hT
        refine rSeq ?_
        refine rRegC md0 hX rfl rfl rfl (by repeat' first | exact True.intro | exact rfl | apply And.intro | omega | exact Nat.le_of_ble_eq_true rfl) ?_
        refine rThen ?_
        refine rRet ?_
        refine rThenRet ?_
        obtain rfl := Option.some.inj hT
        exact rEnd0 hX rfl (by repeat' first | exact True.intro | exact rfl | apply And.intro | omega | exact Nat.le_of_ble_eq_true rfl) (by repeat' first | exact True.intro | exact rfl | apply And.intro) rfl rfl rfl rfl rfl
      · have hT := sF hc hT
        refine rSkip ?_
        refine rThen ?_
        refine rSeq ?_
        refine rRegC md0 hX rfl rfl rfl (by repeat' first | exact True.intro | exact rfl | apply And.intro | omega | exact Nat.le_of_ble_eq_true rfl) ?_
        refine rThen ?_
        refine rRet ?_
        obtain rfl := Option.some.inj hT
        exact rEnd0 hX rfl (by repeat' first | exact True.intro | exact rfl | apply And.intro | omega | exact Nat.le_of_ble_eq_true rfl) (by repeat' first | exact True.intro | exact rfl | apply And.intro) rfl rfl rfl rfl rfl
  · cases h
def ref35_nought_b1 (N : Nat) (a1 : (List Int)) (s1 : Int) : Option (Int ⊕ (Unit ⊕ Unit)) :=
  bif (decide (s1 < 64)) then
    if (0 : Int) ≤ s1 ∧ s1 < 64 ∧ (s1).toNat < 64 then
      bif (decide ((a1.getD (s1).toNat 0) ≠ 0)) then
        some (.inr (Sum.inl ()))
      else
        if inK .i64 (s1 + 1) then
          some (.inl (s1 + 1))
        else none
    else none
  else
    some (.inr (Sum.inr ()))
def ref35_nought (N : Nat) (a1 : (List Int)) : Option Bool :=
  (iter (ref35_nought_b1 N a1) N 0).bind fun w1 =>
    (Sum.elim (fun v1 =>
      some false
    )
      (fun v2 =>
        some true
      )
    ) w1
def sp_ref35_nought (N : Nat) : X.Spec := fun args lk => match args with
  | [.v (.agg [.ints 64 .i64 a1])] => some ⟨(ref35_nought N a1).isSome = true, .v (.c (.bool ((ref35_nought N a1).getD default))), [], []⟩
  | _ => none
set_option maxRecDepth 100000 in
set_option maxHeartbeats 1000000 in
theorem ok_ref35_nought (N : Nat) : FnOK Tryd.prog gt0 54 (sp_ref35_nought N) := by
  refine fnOK_handed Tryd.func54 rfl (by kernel_rfl) tt_ok (ktNil) ?_
  intro args lk r h hp
  unfold sp_ref35_nought at h
  split at h
  · rename_i a1
    cases h
    obtain ⟨x, hx⟩ := Option.isSome_iff_exists.1 hp
    simp only [hx, Option.getD_some]
    refine hand0 rfl rfl (fun w0 M ε0 hX => ?_)
    refine rCount (fun hε => ?_)
    have hT := hx; clear hx hp
    refine rSeq ?_
    refine rRegC md0 hX rfl rfl rfl (by repeat' first | exact True.intro | exact rfl | apply And.intro | omega | exact Nat.le_of_ble_eq_true rfl) ?_
    refine rThen ?_
    refine rSeq ?_
    refine rSeq ?_
    refine rRegC md0 hX rfl rfl rfl (by repeat' first | exact True.intro | exact rfl | apply And.intro | omega | exact Nat.le_of_ble_eq_true rfl) ?_
    refine rThen ?_
    refine rBlock ?_
    obtain ⟨w1, hl, hT⟩ := sBind hT
    refine rJoinA (fun v1 => (Sum.inl v1) = w1) (fun v1 => ⟨[(2, .v (.c (.bool false)))], [], 1⟩) .ret (fun v1 hv => ?_) (fun hxs10 => ?_)
    · subst hv; clear hl; replace hT := (sElimL hT)
      refine rInRet ?_
      refine rThenRet ?_
      obtain rfl := Option.some.inj hT
      exact rEnd0 hX rfl (by repeat' first | exact True.intro | exact rfl | apply And.intro | omega | exact Nat.le_of_ble_eq_true rfl) (by repeat' first | exact True.intro | exact rfl | apply And.intro) rfl rfl rfl rfl rfl
    refine rJoinA (fun v2 => (Sum.inr v2) = w1) (fun v2 => ⟨[(2, .v (.c (.bool false)))], [], 1⟩) (.exit 0) (fun v2 hv => ?_) (fun hxs11 => ?_)
    · subst hv; clear hl; replace hT := (sElimR hT)
      refine rInHit ?_
      refine rThen ?_
      refine rSeq ?_
      refine rRegC md0 hX rfl rfl rfl (by repeat' first | exact True.intro | exact rfl | apply And.intro | omega | exact Nat.le_of_ble_eq_true rfl) ?_
      refine rThen ?_
      refine rRet ?_
      obtain rfl := Option.some.inj hT
      exact rEnd0 hX rfl (by repeat' first | exact True.intro | exact rfl | apply And.intro | omega | exact Nat.le_of_ble_eq_true rfl) (by repeat' first | exact True.intro | exact rfl | apply And.intro) rfl rfl rfl rfl rfl
    refine rLoopM (ref35_nought_b1 N a1) (fun s1 => ⟨[(1, .v (.c (.ptr 0 0 0 0 0 0))), (2, .v (.c (.bool false))), (3, .v (.c (.int .i64 s1)))], [(0, .mem true 22 none (.flat [.ints 64 .i64 a1]))], 1⟩) hl (To.mk' [] 0 hε rfl (by repeat' first | exact True.intro | exact rfl | apply And.intro) (by repeat' first | exact True.intro | exact rfl | apply And.intro)) (fun s1 zs1 NNs1 hz hnexts1 houts1 => ?_)
    clear hl hT
    have hT := hz; clear hz
    refine rSeq ?_
    refine rSeq ?_
    refine rRegC md0 hX rfl rfl rfl (by repeat' first | exact True.intro | exact rfl | apply And.intro | omega | exact Nat.le_of_ble_eq_true rfl) ?_
    refine rThen ?_
    refine rCond rfl rfl (by repeat' first | exact True.intro | exact rfl | apply And.intro | omega | exact Nat.le_of_ble_eq_true rfl) (fun hc => ?_) (fun hc => ?_)
    · have hT := sT hc hT
      refine rSkip ?_
      refine rThen ?_
      refine rSeq ?_
      refine rBlock ?_
      refine rSeq ?_
      obtain ⟨⟨o1, o2, o3⟩, hT⟩ := sIf hT
      refine rRegC md0 hX rfl rfl rfl (by (repeat' first | exact True.intro | with_reducible assumption | (with_reducible apply And.intro) | intro _) <;> first | assumption | exact rfl | omega | exact Nat.le_of_ble_eq_true rfl | (simp only [inK] at *; omega) | (simp_all [sel] <;> fail) | fail) ?_
      refine rThen ?_
      refine rCond rfl rfl (by repeat' first | exact True.intro | exact rfl | apply And.intro | omega | exact Nat.le_of_ble_eq_true rfl) (fun hc => ?_) (fun hc => ?_)
      · have hT := sT hc hT
        refine rSeq ?_
        refine rRegC md0 hX rfl rfl rfl (by repeat' first | exact True.intro | exact rfl | apply And.intro | omega | exact Nat.le_of_ble_eq_true rfl) ?_
        refine rThen ?_
        refine rRet ?_
        refine rInRet ?_
        refine rThenRet ?_
        refine rThenRet ?_
        exact rTo (To.mk' [] 0 hε rfl (by repeat' first | exact True.intro | exact rfl | apply And.intro) (by repeat' first | exact True.intro | exact rfl | apply And.intro)) (hxs10 _ (houts1 _ (Option.some.inj hT).symm))
      · have hT := sF hc hT
        refine rSkip ?_
        refine rInNormal ?_
        refine rThen ?_
        obtain ⟨o1, hT⟩ := sIf hT
        refine rRegC md0 hX rfl rfl rfl (by (repeat' first | exact True.intro | with_reducible assumption | (with_reducible apply And.intro) | intro _) <;> first | assumption | exact rfl | omega | exact Nat.le_of_ble_eq_true rfl | (simp only [inK] at *; omega) | (simp_all [sel] <;> fail) | fail) ?_
        exact hnexts1 _ (Option.some.inj hT).symm _ (To.mk' [] 0 hε rfl (by repeat' first | exact True.intro | exact rfl | apply And.intro) (by repeat' first | exact True.intro | exact rfl | apply And.intro))
    · have hT := sF hc hT
      refine rExit ?_
      refine rThenExit ?_
      refine rThenExit ?_
      exact rTo (To.mk' [] 0 hε rfl (by repeat' first | exact True.intro | exact rfl | apply And.intro) (by repeat' first | exact True.intro | exact rfl | apply And.intro)) (hxs11 _ (houts1 _ (Option.some.inj hT).symm))
  · cases h
def ref14_Weight (N : Nat) (a1 : Int) (a2 : Int) : Option Int :=
  let x1 := (layL (layL (layL (layL (layL (layL (layL (layL (List.replicate 32 0) 0 (((((List.replicate 4 0).set 0 64).set 1 64).set 2 64).set 3 64) 4) 4 (((((List.replicate 4 0).set 0 89).set 1 75).set 2 50).set 3 18) 4) 8 (((((List.replicate 4 0).set 0 83).set 1 36).set 2 (-36)).set 3 (-83)) 4) 12 (((((List.replicate 4 0).set 0 75).set 1 (-18)).set 2 (-89)).set 3 (-50)) 4) 16 (((((List.replicate 4 0).set 0 64).set 1 (-64)).set 2 (-64)).set 3 64) 4) 20 (((((List.replicate 4 0).set 0 50).set 1 (-89)).set 2 18).set 3 75) 4) 24 (((((List.replicate 4 0).set 0 36).set 1 (-83)).set 2 83).set 3 (-36)) 4) 28 (((((List.replicate 4 0).set 0 18).set 1 (-50)).set 2 75).set 3 (-89)) 4)
  bif (decide (a2 < 4)) then
    if (0 : Int) ≤ a1 ∧ a1 < 8 ∧ (0 : Int) ≤ a2 ∧ a2 < 4 ∧ ((a1).toNat * 4 + (a2).toNat) < 32 then
      some (x1.getD ((a1).toNat * 4 + (a2).toNat) 0)
    else none
  else
    if (0 : Int) ≤ a1 then
      bif (decide ((a1 % 2) = 1)) then
        if inK .i64 ((7 : Int) - a2) ∧ (0 : Int) ≤ a1 ∧ a1 < 8 ∧ (0 : Int) ≤ ((7 : Int) - a2) ∧ ((7 : Int) - a2) < 4 ∧ ((a1).toNat * 4 + ((7 : Int) - a2).toNat) < 32 ∧ inK .i64 (-(x1.getD ((a1).toNat * 4 + ((7 : Int) - a2).toNat) 0)) then
          some (-(x1.getD ((a1).toNat * 4 + ((7 : Int) - a2).toNat) 0))
        else none
      else
        if inK .i64 ((7 : Int) - a2) ∧ (0 : Int) ≤ a1 ∧ a1 < 8 ∧ (0 : Int) ≤ ((7 : Int) - a2) ∧ ((7 : Int) - a2) < 4 ∧ ((a1).toNat * 4 + ((7 : Int) - a2).toNat) < 32 then
          some (x1.getD ((a1).toNat * 4 + ((7 : Int) - a2).toNat) 0)
        else none
    else none
def sp_ref14_Weight (N : Nat) : X.Spec := fun args lk => match args with
  | [.v (.c (.int .i64 a1)), .v (.c (.int .i64 a2))] => some ⟨(ref14_Weight N a1 a2).isSome = true, .v (.c (.int .i64 ((ref14_Weight N a1 a2).getD default))), [], []⟩
  | _ => none
set_option maxRecDepth 100000 in
set_option maxHeartbeats 1000000 in
theorem ok_ref14_Weight (N : Nat) : FnOK Tryd.prog gt0 141 (sp_ref14_Weight N) := by
  refine fnOK_handed Tryd.func141 rfl (by kernel_rfl) tt_ok (ktNil) ?_
  intro args lk r h hp
  unfold sp_ref14_Weight at h
  split at h
  · rename_i a1 a2
    cases h
    obtain ⟨x, hx⟩ := Option.isSome_iff_exists.1 hp
    simp only [hx, Option.getD_some]
    refine hand0 rfl rfl (fun w0 M ε0 hX => ?_)
    refine rCount (fun hε => ?_)
    have hT := hx; clear hx hp
    refine rSeq ?_
    refine rRegC md0 hX rfl rfl rfl (by repeat' first | exact True.intro | exact rfl | apply And.intro | omega | exact Nat.le_of_ble_eq_true rfl) ?_
    refine rThen ?_
    refine rSeq ?_
    let x1 := (layL (layL (layL (layL (layL (layL (layL (layL (List.replicate 32 0) 0 (((((List.replicate 4 0).set 0 64).set 1 64).set 2 64).set 3 64) 4) 4 (((((List.replicate 4 0).set 0 89).set 1 75).set 2 50).set 3 18) 4) 8 (((((List.replicate 4 0).set 0 83).set 1 36).set 2 (-36)).set 3 (-83)) 4) 12 (((((List.replicate 4 0).set 0 75).set 1 (-18)).set 2 (-89)).set 3 (-50)) 4) 16 (((((List.replicate 4 0).set 0 64).set 1 (-64)).set 2 (-64)).set 3 64) 4) 20 (((((List.replicate 4 0).set 0 50).set 1 (-89)).set 2 18).set 3 75) 4) 24 (((((List.replicate 4 0).set 0 36).set 1 (-83)).set 2 83).set 3 (-36)) 4) 28 (((((List.replicate 4 0).set 0 18).set 1 (-50)).set 2 75).set 3 (-89)) 4)
    refine rRegC md0 hX rfl rfl rfl (by repeat' first | exact True.intro | exact rfl | apply And.intro | omega | exact Nat.le_of_ble_eq_true rfl) ?_
    refine rThen ?_
    refine rSeq ?_
    refine rSeq ?_
    refine rRegC md0 hX rfl rfl rfl (by repeat' first | exact True.intro | exact rfl | apply And.intro | omega | exact Nat.le_of_ble_eq_true rfl) ?_
    refine rThen ?_
    refine rCond rfl rfl (by repeat' first | exact True.intro | exact rfl | apply And.intro | omega | exact Nat.le_of_ble_eq_true rfl) (fun hc => ?_) (fun hc => ?_)
    · have hT := sT hc hT
      refine rSeq ?_
      obtain ⟨⟨o1, o2, o3, o4, o5⟩, hT⟩ := sIf hT
      refine rRegC md0 hX rfl rfl rfl (by (repeat' first | exact True.intro | with_reducible assumption | (with_reducible apply And.intro) | intro _) <;> first | assumption | exact rfl | omega | exact Nat.le_of_ble_eq_true rfl | (simp only [inK] at *; omega) | (simp_all [sel] <;> fail) | fail) ?_
      refine rThen ?_
      refine rRet ?_
      refine rThenRet ?_
      obtain rfl := Option.some.inj hT
      exact rEnd0 hX rfl (by repeat' first | exact True.intro | exact rfl | apply And.intro | omega | exact Nat.le_of_ble_eq_true rfl) (by repeat' first | exact True.intro | exact rfl | apply And.intro) rfl rfl rfl rfl rfl
    · have hT := sF hc hT
      refine rSkip ?_
      refine rThen ?_
      refine rSeq ?_
      refine rSeq ?_
      obtain ⟨o1, hT⟩ := sIf hT
      refine rRegC md0 hX rfl rfl rfl (by (repeat' first | exact True.intro | with_reducible assumption | (with_reducible apply And.intro) | intro _) <;> first | assumption | exact rfl | omega | exact Nat.le_of_ble_eq_true rfl | (simp only [inK] at *; omega) | (simp_all [sel] <;> fail) | fail) ?_
      refine rThen ?_
      refine rCond rfl rfl (by repeat' first | exact True.intro | exact rfl | apply And.intro | omega | exact Nat.le_of_ble_eq_true rfl) (fun hc => ?_) (fun hc => ?_)
      · have hT := sT hc hT
        refine rSeq ?_
        obtain ⟨⟨o1, o2, o3, o4, o5, o6, o7⟩, hT⟩ := sIf hT
        refine rRegC md0 hX rfl rfl rfl (by (repeat' first | exact True.intro | with_reducible assumption | (with_reducible apply And.intro) | intro _) <;> first | assumption | exact rfl | omega | exact Nat.le_of_ble_eq_true rfl | (simp only [inK] at *; omega) | (simp_all [sel] <;> fail) | fail) ?_
        refine rThen ?_
        refine rRet ?_
        refine rThenRet ?_
        obtain rfl := Option.some.inj hT
        exact rEnd0 hX rfl (by repeat' first | exact True.intro | exact rfl | apply And.intro | omega | exact Nat.le_of_ble_eq_true rfl) (by repeat' first | exact True.intro | exact rfl | apply And.intro) rfl rfl rfl rfl rfl
      · have hT := sF hc hT
        refine rSkip ?_
        refine rThen ?_
        refine rSeq ?_
        obtain ⟨⟨o1, o2, o3, o4, o5, o6⟩, hT⟩ := sIf hT
        refine rRegC md0 hX rfl rfl rfl (by (repeat' first | exact True.intro | with_reducible assumption | (with_reducible apply And.intro) | intro _) <;> first | assumption | exact rfl | omega | exact Nat.le_of_ble_eq_true rfl | (simp only [inK] at *; omega) | (simp_all [sel] <;> fail) | fail) ?_
        refine rThen ?_
        refine rRet ?_
        obtain rfl := Option.some.inj hT
        exact rEnd0 hX rfl (by repeat' first | exact True.intro | exact rfl | apply And.intro | omega | exact Nat.le_of_ble_eq_true rfl) (by repeat' first | exact True.intro | exact rfl | apply And.intro) rfl rfl rfl rfl rfl
  · cases h
def ref14_weights_b2 (N : Nat) (s1 : (Int × (List Int))) (s2 : (Int × (List Int))) : Option ((Int × (List Int)) ⊕ (Int × Int × Bool × (List Int))) :=
  bif (decide (s2.1 < 8)) then
    let c1 := (ref14_Weight N s1.1 s2.1)
    if c1.isSome = true ∧ (0 : Int) ≤ s1.1 ∧ s1.1 < 8 ∧ (0 : Int) ≤ s2.1 ∧ s2.1 < 8 ∧ ((s1.1).toNat * 8 + (s2.1).toNat) < 64 then
      if inK .i64 (s2.1 + 1) then
        some (.inl ((s2.1 + 1), (s2.2.set ((s1.1).toNat * 8 + (s2.1).toNat) (c1.getD default))))
      else none
    else none
  else
    some (.inr (s2.1, s2.1, (decide (s2.1 < 8)), s2.2))
def ref14_weights_b1 (N : Nat) (s1 : (Int × (List Int))) : Option ((Int × (List Int)) ⊕ (List Int)) :=
  bif (decide (s1.1 < 8)) then
    (iter (ref14_weights_b2 N s1) N (0, s1.2)).bind fun v2 =>
      if inK .i64 (s1.1 + 1) then
        some (.inl ((s1.1 + 1), v2.2.2.2))
      else none
  else
    some (.inr s1.2)
def ref14_weights (N : Nat) : Option (List Int) :=
  (iter (ref14_weights_b1 N) N (0, (List.replicate 64 0))).bind fun v1 =>
    some v1
def sp_ref14_weights (N : Nat) : X.Spec := fun args lk => match args with
  | [] => some ⟨(ref14_weights N).isSome = true, .v (.agg [.ints 64 .i64 ((ref14_weights N).getD default)]), [], []⟩
  | _ => none
set_option maxRecDepth 100000 in
set_option maxHeartbeats 1000000 in
theorem ok_ref14_weights (N : Nat) : FnOK Tryd.prog gt0 110 (sp_ref14_weights N) := by
  refine fnOK_handed Tryd.func110 rfl (by kernel_rfl) tt_ok (ktCons (ok_ref14_Weight N) (ktNil)) ?_
  intro args lk r h hp
  unfold sp_ref14_weights at h
  split at h
  · skip
    cases h
    obtain ⟨x, hx⟩ := Option.isSome_iff_exists.1 hp
    simp only [hx, Option.getD_some]
    refine hand0 rfl rfl (fun w0 M ε0 hX => ?_)
    refine rCount (fun hε => ?_)
    have hT := hx; clear hx hp
    refine rSeq ?_
    refine rRegC md0 hX rfl rfl rfl (by repeat' first | exact True.intro | exact rfl | apply And.intro | omega | exact Nat.le_of_ble_eq_true rfl) ?_
    refine rThen ?_
    refine rSeq ?_
    refine rRegC md0 hX rfl rfl rfl (by repeat' first | exact True.intro | exact rfl | apply And.intro | omega | exact Nat.le_of_ble_eq_true rfl) ?_
    refine rThen ?_
    refine rSeq ?_
    refine rSeq ?_
    refine rRegC md0 hX rfl rfl rfl (by repeat' first | exact True.intro | exact rfl | apply And.intro | omega | exact Nat.le_of_ble_eq_true rfl) ?_
    refine rThen ?_
    refine rBlock ?_
    obtain ⟨w1, hl, hT⟩ := sBind hT
    refine rJoinA (fun v1 => v1 = w1) (fun v1 => ⟨[(0, .v (.c (.ptr 0 0 0 0 0 0))), (1, .v (.c (.ptr 1 0 0 0 0 0)))], [(0, .mem true 134 none (.flat [.ints 64 .i64 (List.replicate 64 0)])), (1, .mem true 134 none (.flat [.ints 64 .i64 v1]))], 2⟩) (.exit 0) (fun v1 hv => ?_) (fun hxs10 => ?_)
    · subst hv; clear hl
      refine rInHit ?_
      refine rThen ?_
      refine rSeq ?_
      refine rRegC md0 hX rfl rfl rfl (by repeat' first | exact True.intro | exact rfl | apply And.intro | omega | exact Nat.le_of_ble_eq_true rfl) ?_
      refine rThen ?_
      refine rRet ?_
      obtain rfl := Option.some.inj hT
      exact rEnd0 hX rfl (by repeat' first | exact True.intro | exact rfl | apply And.intro | omega | exact Nat.le_of_ble_eq_true rfl) (by repeat' first | exact True.intro | exact rfl | apply And.intro) rfl rfl rfl rfl rfl
    refine rLoopM (ref14_weights_b1 N) (fun s1 => ⟨[(0, .v (.c (.ptr 0 0 0 0 0 0))), (1, .v (.c (.ptr 1 0 0 0 0 0))), (2, .v (.c (.int .i64 s1.1)))], [(0, .mem true 134 none (.flat [.ints 64 .i64 (List.replicate 64 0)])), (1, .mem true 134 none (.flat [.ints 64 .i64 s1.2]))], 2⟩) hl (To.mk' [] 0 hε rfl (by repeat' first | exact True.intro | exact rfl | apply And.intro) (by repeat' first | exact True.intro | exact rfl | apply And.intro)) (fun s1 zs1 NNs1 hz hnexts1 houts1 => ?_)
    clear hl hT
    have hT := hz; clear hz
    refine rSeq ?_
    refine rSeq ?_
    refine rRegC md0 hX rfl rfl rfl (by repeat' first | exact True.intro | exact rfl | apply And.intro | omega | exact Nat.le_of_ble_eq_true rfl) ?_
    refine rThen ?_
    refine rCond rfl rfl (by repeat' first | exact True.intro | exact rfl | apply And.intro | omega | exact Nat.le_of_ble_eq_true rfl) (fun hc => ?_) (fun hc => ?_)
    · have hT := sT hc hT
      refine rSkip ?_
      refine rThen ?_
      refine rSeq ?_
      refine rBlock ?_
      refine rSeq ?_
      refine rRegC md0 hX rfl rfl rfl (by repeat' first | exact True.intro | exact rfl | apply And.intro | omega | exact Nat.le_of_ble_eq_true rfl) ?_
      refine rThen ?_
      refine rBlock ?_
      obtain ⟨w2, hl, hT⟩ := sBind hT
      refine rJoinA (fun v2 => v2 = w2) (fun v2 => ⟨[(0, .v (.c (.ptr 0 0 0 0 0 0))), (1, .v (.c (.ptr 1 0 0 0 0 0))), (2, .v (.c (.int .i64 s1.1))), (3, .v (.c (.int .i64 v2.1))), (4, .v (.c (.int .i64 s1.1))), (5, .v (.c (.bool (decide (s1.1 < 8))))), (8, .v (.c (.int .i64 v2.2.1))), (9, .v (.c (.bool v2.2.2.1)))], [(0, .mem true 134 none (.flat [.ints 64 .i64 (List.replicate 64 0)])), (1, .mem true 134 none (.flat [.ints 64 .i64 v2.2.2.2]))], 2⟩) (.exit 2) (fun v2 hv => ?_) (fun hxs20 => ?_)
      · subst hv; clear hl
        refine rInHit ?_
        refine rInNormal ?_
        refine rThen ?_
        obtain ⟨o1, hT⟩ := sIf hT
        refine rRegC md0 hX rfl rfl rfl (by (repeat' first | exact True.intro | with_reducible assumption | (with_reducible apply And.intro) | intro _) <;> first | assumption | exact rfl | omega | exact Nat.le_of_ble_eq_true rfl | (simp only [inK] at *; omega) | (simp_all [sel] <;> fail) | fail) ?_
        exact hnexts1 _ (Option.some.inj hT).symm _ (To.mk' [] 0 hε rfl (by repeat' first | exact True.intro | exact rfl | apply And.intro) (by repeat' first | exact True.intro | exact rfl | apply And.intro))
      refine rLoopM (ref14_weights_b2 N s1) (fun s2 => ⟨[(0, .v (.c (.ptr 0 0 0 0 0 0))), (1, .v (.c (.ptr 1 0 0 0 0 0))), (2, .v (.c (.int .i64 s1.1))), (3, .v (.c (.int .i64 s2.1))), (4, .v (.c (.int .i64 s1.1))), (5, .v (.c (.bool (decide (s1.1 < 8)))))], [(0, .mem true 134 none (.flat [.ints 64 .i64 (List.replicate 64 0)])), (1, .mem true 134 none (.flat [.ints 64 .i64 s2.2]))], 2⟩) hl (To.mk' [] 0 hε rfl (by repeat' first | exact True.intro | exact rfl | apply And.intro) (by repeat' first | exact True.intro | exact rfl | apply And.intro)) (fun s2 zs2 NNs2 hz hnexts2 houts2 => ?_)
      clear hl hT
      have hT := hz; clear hz
      refine rSeq ?_
      refine rSeq ?_
      refine rRegC md0 hX rfl rfl rfl (by repeat' first | exact True.intro | exact rfl | apply And.intro | omega | exact Nat.le_of_ble_eq_true rfl) ?_
      refine rThen ?_
      refine rCond rfl rfl (by repeat' first | exact True.intro | exact rfl | apply And.intro | omega | exact Nat.le_of_ble_eq_true rfl) (fun hc => ?_) (fun hc => ?_)
      · have hT := sT hc hT
        refine rSkip ?_
        refine rThen ?_
        refine rSeq ?_
        refine rBlock ?_
        let c1 := (ref14_Weight N s1.1 s2.1)
        obtain ⟨⟨o1, o2, o3, o4, o5, o6⟩, hT⟩ := sIf hT
        refine rDrawM md0 1 [7] hX mixed rfl rfl rfl rfl rfl (by (repeat' first | exact True.intro | with_reducible assumption | (with_reducible apply And.intro) | intro _) <;> first | assumption | exact rfl | omega | exact Nat.le_of_ble_eq_true rfl | (simp only [inK] at *; omega) | (simp_all [sel] <;> fail) | fail) ?_
        refine rInNormal ?_
        refine rThen ?_
        obtain ⟨o1, hT⟩ := sIf hT
        refine rRegC md0 hX rfl rfl rfl (by (repeat' first | exact True.intro | with_reducible assumption | (with_reducible apply And.intro) | intro _) <;> first | assumption | exact rfl | omega | exact Nat.le_of_ble_eq_true rfl | (simp only [inK] at *; omega) | (simp_all [sel] <;> fail) | fail) ?_
        exact hnexts2 _ (Option.some.inj hT).symm _ (To.mk' [] 0 hε rfl (by repeat' first | exact True.intro | exact rfl | apply And.intro) (by repeat' first | exact True.intro | exact rfl | apply And.intro))
      · have hT := sF hc hT
        refine rExit ?_
        refine rThenExit ?_
        refine rThenExit ?_
        exact rTo (To.mk' [] 0 hε rfl (by repeat' first | exact True.intro | exact rfl | apply And.intro) (by repeat' first | exact True.intro | exact rfl | apply And.intro)) (hxs20 _ (houts2 _ (Option.some.inj hT).symm))
    · have hT := sF hc hT
      refine rExit ?_
      refine rThenExit ?_
      refine rThenExit ?_
      exact rTo (To.mk' [] 0 hε rfl (by repeat' first | exact True.intro | exact rfl | apply And.intro) (by repeat' first | exact True.intro | exact rfl | apply And.intro)) (hxs10 _ (houts1 _ (Option.some.inj hT).symm))
  · cases h
def ref01_Round_b1 (N : Nat) (c2 : (Option Int)) (s1 : (Int × Int)) : Option ((Int × Int) ⊕ Int) :=
  bif (decide (s1.2 < (c2.getD default))) then
    if inK .i64 ((2 : Int) * s1.1) then
      if inK .i64 (s1.2 + 1) then
        some (.inl (((2 : Int) * s1.1), (s1.2 + 1)))
      else none
    else none
  else
    some (.inr s1.1)
def ref01_Round (N : Nat) (a1 : Int) (a2 : Int) : Option Int :=
  let c1 := (ref01_Clip N a1 (-1099511627776) 1099511627776)
  if c1.isSome = true then
    let c2 := (ref01_Clip N a2 0 32)
    if c2.isSome = true then
      bif (decide ((c2.getD default) = 0)) then
        some (c1.getD default)
      else
        (iter (ref01_Round_b1 N c2) N (1, 0)).bind fun v1 =>
          if inK .i64 (Int.tdiv v1 2) ∧ inK .i64 ((c1.getD default) + (Int.tdiv v1 2)) then
            if v1 ≠ 0 ∧ inK .i64 (Int.tdiv ((c1.getD default) + (Int.tdiv v1 2)) v1) then
              let x1 := (decide (((Int.tdiv ((c1.getD default) + (Int.tdiv v1 2)) v1) * v1) ≠ ((c1.getD default) + (Int.tdiv v1 2))))
              let x2 := (bif (decide (((c1.getD default) + (Int.tdiv v1 2)) < 0)) then (decide (((Int.tdiv ((c1.getD default) + (Int.tdiv v1 2)) v1) * v1) ≠ ((c1.getD default) + (Int.tdiv v1 2)))) else false)
              if ((decide (((c1.getD default) + (Int.tdiv v1 2)) < 0)) = true → inK .i64 ((Int.tdiv ((c1.getD default) + (Int.tdiv v1 2)) v1) * v1)) then
                if (x2 = true → inK .i64 ((Int.tdiv ((c1.getD default) + (Int.tdiv v1 2)) v1) - 1)) then
                  let x3 := (bif x2 then ((Int.tdiv ((c1.getD default) + (Int.tdiv v1 2)) v1) - 1) else (Int.tdiv ((c1.getD default) + (Int.tdiv v1 2)) v1))
                  some x3
                else none
              else none
            else none
          else none
    else none
  else none
def sp_ref01_Round (N : Nat) : X.Spec := fun args lk => match args with
  | [.v (.c (.int .i64 a1)), .v (.c (.int .i64 a2))] => some ⟨(ref01_Round N a1 a2).isSome = true, .v (.c (.int .i64 ((ref01_Round N a1 a2).getD default))), [], []⟩
  | _ => none
set_option maxRecDepth 100000 in
set_option maxHeartbeats 1000000 in
theorem ok_ref01_Round (N : Nat) : FnOK Tryd.prog gt0 111 (sp_ref01_Round N) := by
  refine fnOK_handed Tryd.func111 rfl (by kernel_rfl) tt_ok (ktCons (ok_ref01_Clip N) (ktNil)) ?_
  intro args lk r h hp
  unfold sp_ref01_Round at h
  split at h
  · rename_i a1 a2
    cases h
    obtain ⟨x, hx⟩ := Option.isSome_iff_exists.1 hp
    simp only [hx, Option.getD_some]
    refine hand0 rfl rfl (fun w0 M ε0 hX => ?_)
    refine rCount (fun hε => ?_)
    have hT := hx; clear hx hp
    refine rSeq ?_
    refine rRegC mdT hX rfl rfl rfl (by repeat' first | exact True.intro | exact rfl | apply And.intro | omega | exact Nat.le_of_ble_eq_true rfl) ?_
    refine rThen ?_
    refine rSeq ?_
    let c1 := (ref01_Clip N a1 (-1099511627776) 1099511627776)
    obtain ⟨o1, hT⟩ := sIf hT
    refine rRegC mdT hX rfl rfl rfl (by (repeat' first | exact True.intro | with_reducible assumption | (with_reducible apply And.intro) | intro _) <;> first | assumption | exact rfl | omega | exact Nat.le_of_ble_eq_true rfl | (simp only [inK] at *; omega) | (simp_all [sel] <;> fail) | fail) ?_
    refine rThen ?_
    refine rSeq ?_
    let c2 := (ref01_Clip N a2 0 32)
    obtain ⟨o1, hT⟩ := sIf hT
    refine rRegC mdT hX rfl rfl rfl (by (repeat' first | exact True.intro | with_reducible assumption | (with_reducible apply And.intro) | intro _) <;> first | assumption | exact rfl | omega | exact Nat.le_of_ble_eq_true rfl | (simp only [inK] at *; omega) | (simp_all [sel] <;> fail) | fail) ?_
    refine rThen ?_
    refine rSeq ?_
    refine rSeq ?_
    refine rRegC mdT hX rfl rfl rfl (by repeat' first | exact True.intro | exact rfl | apply And.intro | omega | exact Nat.le_of_ble_eq_true rfl) ?_
    refine rThen ?_
    refine rCond rfl rfl (by repeat' first | exact True.intro | exact rfl | apply And.intro | omega | exact Nat.le_of_ble_eq_true rfl) (fun hc => ?_) (fun hc => ?_)
    · have hT := sT hc hT
      refine rSeq ?_
      refine rRegC mdT hX rfl rfl rfl (by repeat' first | exact True.intro | exact rfl | apply And.intro | omega | exact Nat.le_of_ble_eq_true rfl) ?_
      refine rThen ?_
      refine rRet ?_
      refine rThenRet ?_
      obtain rfl := Option.some.inj hT
      exact rEnd0 hX rfl (by repeat' first | exact True.intro | exact rfl | apply And.intro | omega | exact Nat.le_of_ble_eq_true rfl) (by repeat' first | exact True.intro | exact rfl | apply And.intro) rfl rfl rfl rfl rfl
    · have hT := sF hc hT
      refine rSkip ?_
      refine rThen ?_
      refine rSeq ?_
      refine rRegC mdT hX rfl rfl rfl (by repeat' first | exact True.intro | exact rfl | apply And.intro | omega | exact Nat.le_of_ble_eq_true rfl) ?_
      refine rThen ?_
      refine rSeq ?_
      refine rSeq ?_
      refine rRegC mdT hX rfl rfl rfl (by repeat' first | exact True.intro | exact rfl | apply And.intro | omega | exact Nat.le_of_ble_eq_true rfl) ?_
      refine rThen ?_
      refine rBlock ?_
      obtain ⟨w1, hl, hT⟩ := sBind hT
      refine rJoinA (fun v1 => v1 = w1) (fun v1 => ⟨[(0, .v (.c (.int .i64 (c1.getD default)))), (4, .v (.c (.int .i64 0))), (5, .v (.c (.int .i64 v1)))], [], 0⟩) (.exit 0) (fun v1 hv => ?_) (fun hxs10 => ?_)
      · subst hv; clear hl
        refine rInHit ?_
        refine rThen ?_
        refine rSeq ?_
        obtain ⟨⟨o1, o2⟩, hT⟩ := sIf hT
        refine rRegC mdT hX rfl rfl rfl (by (repeat' first | exact True.intro | with_reducible assumption | (with_reducible apply And.intro) | intro _) <;> first | assumption | exact rfl | omega | exact Nat.le_of_ble_eq_true rfl | (simp only [inK] at *; omega) | (simp_all [sel] <;> fail) | fail) ?_
        refine rThen ?_
        refine rSeq ?_
        obtain ⟨⟨o1, o2⟩, hT⟩ := sIf hT
        refine rRegC mdT hX rfl rfl rfl (by (repeat' first | exact True.intro | with_reducible assumption | (with_reducible apply And.intro) | intro _) <;> first | assumption | exact rfl | omega | exact Nat.le_of_ble_eq_true rfl | (simp only [inK] at *; omega) | (simp_all [sel] <;> fail) | fail) ?_
        refine rThen ?_
        refine rSeq ?_
        refine rSeq ?_
        let x1 := (decide (((Int.tdiv ((c1.getD default) + (Int.tdiv v1 2)) v1) * v1) ≠ ((c1.getD default) + (Int.tdiv v1 2))))
        let x2 := (bif (decide (((c1.getD default) + (Int.tdiv v1 2)) < 0)) then (decide (((Int.tdiv ((c1.getD default) + (Int.tdiv v1 2)) v1) * v1) ≠ ((c1.getD default) + (Int.tdiv v1 2)))) else false)
        obtain ⟨o1, hT⟩ := sIf hT
        refine rRegC mdT hX rfl rfl rfl (by (repeat' first | exact True.intro | with_reducible assumption | (with_reducible apply And.intro) | intro _) <;> first | assumption | exact o1 (by assumption) | exact rfl | omega | exact Nat.le_of_ble_eq_true rfl | (simp only [inK] at *; omega) | (simp_all [sel] <;> fail) | fail) ?_
        refine rThen ?_
        obtain ⟨q1, hT⟩ := sIf hT
        refine rJoin ⟨[(4, .v (.c (.int .i64 0))), (8, .v (.c (.int .i64 (bif x2 then ((Int.tdiv ((c1.getD default) + (Int.tdiv v1 2)) v1) - 1) else (Int.tdiv ((c1.getD default) + (Int.tdiv v1 2)) v1)))))], [], 0⟩ ?_ (fun hj => ?_)
        · skip
          let x3 := (bif x2 then ((Int.tdiv ((c1.getD default) + (Int.tdiv v1 2)) v1) - 1) else (Int.tdiv ((c1.getD default) + (Int.tdiv v1 2)) v1))
          refine rThen ?_
          refine rSeq ?_
          refine rRegC mdT hX rfl rfl rfl (by repeat' first | exact True.intro | exact rfl | apply And.intro | omega | exact Nat.le_of_ble_eq_true rfl) ?_
          refine rThen ?_
          refine rRet ?_
          obtain rfl := Option.some.inj hT
          exact rEnd0 hX rfl (by repeat' first | exact True.intro | exact rfl | apply And.intro | omega | exact Nat.le_of_ble_eq_true rfl) (by repeat' first | exact True.intro | exact rfl | apply And.intro) rfl rfl rfl rfl rfl
        · clear hT
          refine rCond rfl rfl (by repeat' first | exact True.intro | exact rfl | apply And.intro | omega | exact Nat.le_of_ble_eq_true rfl) (fun hc => ?_) (fun hc => ?_)
          · skip
            have q1 := q1 hc
            refine rRegC mdT hX rfl rfl rfl (by (repeat' first | exact True.intro | with_reducible assumption | (with_reducible apply And.intro) | intro _) <;> first | assumption | exact rfl | omega | exact Nat.le_of_ble_eq_true rfl | (simp only [inK] at *; omega) | (simp_all [sel] <;> fail) | fail) ?_
            exact rTo (To.mk' [] 0 hε rfl (by (repeat' first | exact True.intro | exact rfl | apply And.intro) <;> (repeat' first | exact rfl | refine Eq.trans ?_ (cTr (by assumption)) | refine Eq.trans ?_ (cFr (by assumption)))) (by (repeat' first | exact True.intro | exact rfl | apply And.intro) <;> (repeat' first | exact rfl | refine Eq.trans ?_ (cTr (by assumption)) | refine Eq.trans ?_ (cFr (by assumption))))) hj
          · skip
            refine rSkip ?_
            exact rTo (To.mk' [] 0 hε rfl (by (repeat' first | exact True.intro | exact rfl | apply And.intro) <;> (repeat' first | exact rfl | refine Eq.trans ?_ (cTr (by assumption)) | refine Eq.trans ?_ (cFr (by assumption)))) (by (repeat' first | exact True.intro | exact rfl | apply And.intro) <;> (repeat' first | exact rfl | refine Eq.trans ?_ (cTr (by assumption)) | refine Eq.trans ?_ (cFr (by assumption))))) hj
      refine rLoopM (ref01_Round_b1 N c2) (fun s1 => ⟨[(0, .v (.c (.int .i64 (c1.getD default)))), (1, .v (.c (.int .i64 (c2.getD default)))), (4, .v (.c (.int .i64 0))), (5, .v (.c (.int .i64 s1.1))), (6, .v (.c (.int .i64 s1.2)))], [], 0⟩) hl (To.mk' [] 0 hε rfl (by repeat' first | exact True.intro | exact rfl | apply And.intro) (by repeat' first | exact True.intro | exact rfl | apply And.intro)) (fun s1 zs1 NNs1 hz hnexts1 houts1 => ?_)
      clear hl hT
      have hT := hz; clear hz
      refine rSeq ?_
      refine rSeq ?_
      refine rRegC mdT hX rfl rfl rfl (by repeat' first | exact True.intro | exact rfl | apply And.intro | omega | exact Nat.le_of_ble_eq_true rfl) ?_
      refine rThen ?_
      refine rCond rfl rfl (by repeat' first | exact True.intro | exact rfl | apply And.intro | omega | exact Nat.le_of_ble_eq_true rfl) (fun hc => ?_) (fun hc => ?_)
      · have hT := sT hc hT
        refine rSkip ?_
        refine rThen ?_
        refine rSeq ?_
        refine rBlock ?_
        obtain ⟨o1, hT⟩ := sIf hT
        refine rRegC mdT hX rfl rfl rfl (by (repeat' first | exact True.intro | with_reducible assumption | (with_reducible apply And.intro) | intro _) <;> first | assumption | exact rfl | omega | exact Nat.le_of_ble_eq_true rfl | (simp only [inK] at *; omega) | (simp_all [sel] <;> fail) | fail) ?_
        refine rInNormal ?_
        refine rThen ?_
        obtain ⟨o1, hT⟩ := sIf hT
        refine rRegC mdT hX rfl rfl rfl (by (repeat' first | exact True.intro | with_reducible assumption | (with_reducible apply And.intro) | intro _) <;> first | assumption | exact rfl | omega | exact Nat.le_of_ble_eq_true rfl | (simp only [inK] at *; omega) | (simp_all [sel] <;> fail) | fail) ?_
        exact hnexts1 _ (Option.some.inj hT).symm _ (To.mk' [] 0 hε rfl (by repeat' first | exact True.intro | exact rfl | apply And.intro) (by repeat' first | exact True.intro | exact rfl | apply And.intro))
      · have hT := sF hc hT
        refine rExit ?_
        refine rThenExit ?_
        refine rThenExit ?_
        exact rTo (To.mk' [] 0 hε rfl (by repeat' first | exact True.intro | exact rfl | apply And.intro) (by repeat' first | exact True.intro | exact rfl | apply And.intro)) (hxs10 _ (houts1 _ (Option.some.inj hT).symm))
  · cases h
def ref14_Forward_b2 (N : Nat) (a1 : (List Int)) (c1 : (Option (List Int))) (s1 : (Int × (List Int))) (s2 : (Int × Int)) : Option ((Int × Int) ⊕ (Int × Int × Int × Bool)) :=
  bif (decide (s2.2 < 64)) then
    if (0 : Int) ≤ s2.2 ∧ s2.2 < 64 ∧ (s2.2).toNat < 64 then
      let c4 := (ref01_Clip N (a1.getD (s2.2).toNat 0) (-2048) 2047)
      if ((decide ((a1.getD (s2.2).toNat 0) ≠ 0)) = true → (0 : Int) ≤ s1.1) ∧ ((decide ((a1.getD (s2.2).toNat 0) ≠ 0)) = true → (0 : Int) ≤ s2.2) ∧ ((decide ((a1.getD (s2.2).toNat 0) ≠ 0)) = true → (0 : Int) ≤ (s1.1 % 8)) ∧ ((decide ((a1.getD (s2.2).toNat 0) ≠ 0)) = true → (s1.1 % 8) < 8) ∧ ((decide ((a1.getD (s2.2).toNat 0) ≠ 0)) = true → (0 : Int) ≤ (s2.2 % 8)) ∧ ((decide ((a1.getD (s2.2).toNat 0) ≠ 0)) = true → (s2.2 % 8) < 8) ∧ ((decide ((a1.getD (s2.2).toNat 0) ≠ 0)) = true → ((s1.1 % 8).toNat * 8 + (s2.2 % 8).toNat) < 64) ∧ ((decide ((a1.getD (s2.2).toNat 0) ≠ 0)) = true → (0 : Int) ≤ (s1.1 / 8)) ∧ ((decide ((a1.getD (s2.2).toNat 0) ≠ 0)) = true → (s1.1 / 8) < 8) ∧ ((decide ((a1.getD (s2.2).toNat 0) ≠ 0)) = true → (0 : Int) ≤ (s2.2 / 8)) ∧ ((decide ((a1.getD (s2.2).toNat 0) ≠ 0)) = true → (s2.2 / 8) < 8) ∧ ((decide ((a1.getD (s2.2).toNat 0) ≠ 0)) = true → ((s1.1 / 8).toNat * 8 + (s2.2 / 8).toNat) < 64) ∧ ((decide ((a1.getD (s2.2).toNat 0) ≠ 0)) = true → inK .i64 (((c1.getD default).getD ((s1.1 % 8).toNat * 8 + (s2.2 % 8).toNat) 0) * ((c1.getD default).getD ((s1.1 / 8).toNat * 8 + (s2.2 / 8).toNat) 0))) ∧ ((decide ((a1.getD (s2.2).toNat 0) ≠ 0)) = true → s2.2 < 64) ∧ ((decide ((a1.getD (s2.2).toNat 0) ≠ 0)) = true → (s2.2).toNat < 64) ∧ ((decide ((a1.getD (s2.2).toNat 0) ≠ 0)) = true → c4.isSome = true) ∧ ((decide ((a1.getD (s2.2).toNat 0) ≠ 0)) = true → inK .i64 ((((c1.getD default).getD ((s1.1 % 8).toNat * 8 + (s2.2 % 8).toNat) 0) * ((c1.getD default).getD ((s1.1 / 8).toNat * 8 + (s2.2 / 8).toNat) 0)) * (c4.getD default))) ∧ ((decide ((a1.getD (s2.2).toNat 0) ≠ 0)) = true → inK .i64 (s2.1 + ((((c1.getD default).getD ((s1.1 % 8).toNat * 8 + (s2.2 % 8).toNat) 0) * ((c1.getD default).getD ((s1.1 / 8).toNat * 8 + (s2.2 / 8).toNat) 0)) * (c4.getD default)))) then
        let x1 := (bif (decide ((a1.getD (s2.2).toNat 0) ≠ 0)) then (s2.1 + ((((c1.getD default).getD ((s1.1 % 8).toNat * 8 + (s2.2 % 8).toNat) 0) * ((c1.getD default).getD ((s1.1 / 8).toNat * 8 + (s2.2 / 8).toNat) 0)) * (c4.getD default))) else s2.1)
        if inK .i64 (s2.2 + 1) then
          some (.inl (x1, (s2.2 + 1)))
        else none
      else none
    else none
  else
    some (.inr (s2.1, s2.2, s2.2, (decide (s2.2 < 64))))
def ref14_Forward_b1 (N : Nat) (a1 : (List Int)) (c1 : (Option (List Int))) (s1 : (Int × (List Int))) : Option ((Int × (List Int)) ⊕ (List Int)) :=
  bif (decide (s1.1 < 64)) then
    (iter (ref14_Forward_b2 N a1 c1 s1) N (0, 0)).bind fun v2 =>
      let c2 := (ref01_Round N v2.1 15)
      let c3 := (ref01_Clip N (c2.getD default) (-2048) 2047)
      if c2.isSome = true ∧ c3.isSome = true ∧ (0 : Int) ≤ s1.1 ∧ s1.1 < 64 ∧ (s1.1).toNat < 64 then
        if inK .i64 (s1.1 + 1) then
          some (.inl ((s1.1 + 1), (s1.2.set (s1.1).toNat (c3.getD default))))
        else none
      else none
  else
    some (.inr s1.2)
def ref14_Forward (N : Nat) (a1 : (List Int)) : Option (List Int) :=
  let c1 := (ref14_weights N)
  if c1.isSome = true then
    (iter (ref14_Forward_b1 N a1 c1) N (0, (List.replicate 64 0))).bind fun v1 =>
      some v1
  else none
def sp_ref14_Forward (N : Nat) : X.Spec := fun args lk => match args with
  | [.v (.agg [.ints 64 .i64 a1])] => some ⟨(ref14_Forward N a1).isSome = true, .v (.agg [.ints 64 .i64 ((ref14_Forward N a1).getD default)]), [], []⟩
  | _ => none
set_option maxRecDepth 100000 in
set_option maxHeartbeats 1000000 in
theorem ok_ref14_Forward (N : Nat) : FnOK Tryd.prog gt0 55 (sp_ref14_Forward N) := by
  refine fnOK_handed Tryd.func55 rfl (by kernel_rfl) tt_ok (ktCons (ok_ref01_Clip N) (ktCons (ok_ref01_Round N) (ktCons (ok_ref14_weights N) (ktNil)))) ?_
  intro args lk r h hp
  unfold sp_ref14_Forward at h
  split at h
  · rename_i a1
    cases h
    obtain ⟨x, hx⟩ := Option.isSome_iff_exists.1 hp
    simp only [hx, Option.getD_some]
    refine hand0 rfl rfl (fun w0 M ε0 hX => ?_)
    refine rCount (fun hε => ?_)
    have hT := hx; clear hx hp
    refine rSeq ?_
    refine rRegC md0 hX rfl rfl rfl (by repeat' first | exact True.intro | exact rfl | apply And.intro | omega | exact Nat.le_of_ble_eq_true rfl) ?_
    refine rThen ?_
    refine rSeq ?_
    let c1 := (ref14_weights N)
    obtain ⟨o1, hT⟩ := sIf hT
    refine rRegC md0 hX rfl rfl rfl (by (repeat' first | exact True.intro | with_reducible assumption | (with_reducible apply And.intro) | intro _) <;> first | assumption | exact rfl | omega | exact Nat.le_of_ble_eq_true rfl | (simp only [inK] at *; omega) | (simp_all [sel] <;> fail) | fail) ?_
    refine rThen ?_
    refine rSeq ?_
    refine rRegC md0 hX rfl rfl rfl (by repeat' first | exact True.intro | exact rfl | apply And.intro | omega | exact Nat.le_of_ble_eq_true rfl) ?_
    refine rThen ?_
    refine rSeq ?_
    refine rSeq ?_
    refine rRegC md0 hX rfl rfl rfl (by repeat' first | exact True.intro | exact rfl | apply And.intro | omega | exact Nat.le_of_ble_eq_true rfl) ?_
    refine rThen ?_
    refine rBlock ?_
    obtain ⟨w1, hl, hT⟩ := sBind hT
    refine rJoinA (fun v1 => v1 = w1) (fun v1 => ⟨[(2, .v (.c (.ptr 1 0 0 0 0 0))), (4, .v (.c (.ptr 3 0 0 0 0 0)))], [(1, .mem true 22 none (.flat [.ints 64 .i64 (List.replicate 64 0)])), (3, .mem true 22 none (.flat [.ints 64 .i64 v1]))], 4⟩) (.exit 0) (fun v1 hv => ?_) (fun hxs10 => ?_)
    · subst hv; clear hl
      refine rInHit ?_
      refine rThen ?_
      refine rSeq ?_
      refine rRegC md0 hX rfl rfl rfl (by repeat' first | exact True.intro | exact rfl | apply And.intro | omega | exact Nat.le_of_ble_eq_true rfl) ?_
      refine rThen ?_
      refine rRet ?_
      obtain rfl := Option.some.inj hT
      exact rEnd0 hX rfl (by repeat' first | exact True.intro | exact rfl | apply And.intro | omega | exact Nat.le_of_ble_eq_true rfl) (by repeat' first | exact True.intro | exact rfl | apply And.intro) rfl rfl rfl rfl rfl
    refine rLoopM (ref14_Forward_b1 N a1 c1) (fun s1 => ⟨[(1, .v (.c (.ptr 0 0 0 0 0 0))), (2, .v (.c (.ptr 1 0 0 0 0 0))), (3, .v (.c (.ptr 2 0 0 0 0 0))), (4, .v (.c (.ptr 3 0 0 0 0 0))), (5, .v (.c (.int .i64 s1.1)))], [(0, .mem true 22 none (.flat [.ints 64 .i64 a1])), (1, .mem true 22 none (.flat [.ints 64 .i64 (List.replicate 64 0)])), (2, .mem true 134 none (.flat [.ints 64 .i64 (c1.getD default)])), (3, .mem true 22 none (.flat [.ints 64 .i64 s1.2]))], 4⟩) hl (To.mk' [] 0 hε rfl (by repeat' first | exact True.intro | exact rfl | apply And.intro) (by repeat' first | exact True.intro | exact rfl | apply And.intro)) (fun s1 zs1 NNs1 hz hnexts1 houts1 => ?_)
    clear hl hT
    have hT := hz; clear hz
    refine rSeq ?_
    refine rSeq ?_
    refine rRegC md0 hX rfl rfl rfl (by repeat' first | exact True.intro | exact rfl | apply And.intro | omega | exact Nat.le_of_ble_eq_true rfl) ?_
    refine rThen ?_
    refine rCond rfl rfl (by repeat' first | exact True.intro | exact rfl | apply And.intro | omega | exact Nat.le_of_ble_eq_true rfl) (fun hc => ?_) (fun hc => ?_)
    · have hT := sT hc hT
      refine rSkip ?_
      refine rThen ?_
      refine rSeq ?_
      refine rBlock ?_
      refine rSeq ?_
      refine rRegC md0 hX rfl rfl rfl (by repeat' first | exact True.intro | exact rfl | apply And.intro | omega | exact Nat.le_of_ble_eq_true rfl) ?_
      refine rThen ?_
      refine rSeq ?_
      refine rSeq ?_
      refine rRegC md0 hX rfl rfl rfl (by repeat' first | exact True.intro | exact rfl | apply And.intro | omega | exact Nat.le_of_ble_eq_true rfl) ?_
      refine rThen ?_
      refine rBlock ?_
      obtain ⟨w2, hl, hT⟩ := sBind hT
      refine rJoinA (fun v2 => v2 = w2) (fun v2 => ⟨[(1, .v (.c (.ptr 0 0 0 0 0 0))), (2, .v (.c (.ptr 1 0 0 0 0 0))), (3, .v (.c (.ptr 2 0 0 0 0 0))), (4, .v (.c (.ptr 3 0 0 0 0 0))), (5, .v (.c (.int .i64 s1.1))), (6, .v (.c (.int .i64 v2.1))), (7, .v (.c (.int .i64 v2.2.1))), (9, .v (.c (.int .i64 s1.1))), (10, .v (.c (.bool (decide (s1.1 < 64))))), (13, .v (.c (.int .i64 v2.2.2.1))), (14, .v (.c (.bool v2.2.2.2)))], [(0, .mem true 22 none (.flat [.ints 64 .i64 a1])), (1, .mem true 22 none (.flat [.ints 64 .i64 (List.replicate 64 0)])), (2, .mem true 134 none (.flat [.ints 64 .i64 (c1.getD default)])), (3, .mem true 22 none (.flat [.ints 64 .i64 s1.2]))], 4⟩) (.exit 2) (fun v2 hv => ?_) (fun hxs20 => ?_)
      · subst hv; clear hl
        refine rInHit ?_
        refine rThen ?_
        let c2 := (ref01_Round N v2.1 15)
        let c3 := (ref01_Clip N (c2.getD default) (-2048) 2047)
        obtain ⟨⟨o1, o2, o3, o4, o5⟩, hT⟩ := sIf hT
        refine rRegC md0 hX rfl rfl rfl (by (repeat' first | exact True.intro | with_reducible assumption | (with_reducible apply And.intro) | intro _) <;> first | assumption | exact rfl | omega | exact Nat.le_of_ble_eq_true rfl | (simp only [inK] at *; omega) | (simp_all [sel] <;> fail) | fail) ?_
        refine rInNormal ?_
        refine rThen ?_
        obtain ⟨o1, hT⟩ := sIf hT
        refine rRegC md0 hX rfl rfl rfl (by (repeat' first | exact True.intro | with_reducible assumption | (with_reducible apply And.intro) | intro _) <;> first | assumption | exact rfl | omega | exact Nat.le_of_ble_eq_true rfl | (simp only [inK] at *; omega) | (simp_all [sel] <;> fail) | fail) ?_
        exact hnexts1 _ (Option.some.inj hT).symm _ (To.mk' [] 0 hε rfl (by repeat' first | exact True.intro | exact rfl | apply And.intro) (by repeat' first | exact True.intro | exact rfl | apply And.intro))
      refine rLoopM (ref14_Forward_b2 N a1 c1 s1) (fun s2 => ⟨[(1, .v (.c (.ptr 0 0 0 0 0 0))), (2, .v (.c (.ptr 1 0 0 0 0 0))), (3, .v (.c (.ptr 2 0 0 0 0 0))), (4, .v (.c (.ptr 3 0 0 0 0 0))), (5, .v (.c (.int .i64 s1.1))), (6, .v (.c (.int .i64 s2.1))), (7, .v (.c (.int .i64 s2.2))), (9, .v (.c (.int .i64 s1.1))), (10, .v (.c (.bool (decide (s1.1 < 64)))))], [(0, .mem true 22 none (.flat [.ints 64 .i64 a1])), (1, .mem true 22 none (.flat [.ints 64 .i64 (List.replicate 64 0)])), (2, .mem true 134 none (.flat [.ints 64 .i64 (c1.getD default)])), (3, .mem true 22 none (.flat [.ints 64 .i64 s1.2]))], 4⟩) hl (To.mk' [] 0 hε rfl (by repeat' first | exact True.intro | exact rfl | apply And.intro) (by repeat' first | exact True.intro | exact rfl | apply And.intro)) (fun s2 zs2 NNs2 hz hnexts2 houts2 => ?_)
      clear hl hT
      have hT := hz; clear hz
      refine rSeq ?_
      refine rSeq ?_
      refine rRegC md0 hX rfl rfl rfl (by repeat' first | exact True.intro | exact rfl | apply And.intro | omega | exact Nat.le_of_ble_eq_true rfl) ?_
      refine rThen ?_
      refine rCond rfl rfl (by repeat' first | exact True.intro | exact rfl | apply And.intro | omega | exact Nat.le_of_ble_eq_true rfl) (fun hc => ?_) (fun hc => ?_)
      · have hT := sT hc hT
        refine rSkip ?_
        refine rThen ?_
        refine rSeq ?_
        refine rBlock ?_
        refine rSeq ?_
        obtain ⟨⟨o1, o2, o3⟩, hT⟩ := sIf hT
        refine rRegC md0 hX rfl rfl rfl (by (repeat' first | exact True.intro | with_reducible assumption | (with_reducible apply And.intro) | intro _) <;> first | assumption | exact rfl | omega | exact Nat.le_of_ble_eq_true rfl | (simp only [inK] at *; omega) | (simp_all [sel] <;> fail) | fail) ?_
        refine rThen ?_
        let c4 := (ref01_Clip N (a1.getD (s2.2).toNat 0) (-2048) 2047)
        obtain ⟨⟨q1, q2, q3, q4, q5, q6, q7, q8, q9, q10, q11, q12, q13, q14, q15, q16, q17, q18⟩, hT⟩ := sIf hT
        refine rJoin ⟨[(1, .v (.c (.ptr 0 0 0 0 0 0))), (2, .v (.c (.ptr 1 0 0 0 0 0))), (3, .v (.c (.ptr 2 0 0 0 0 0))), (4, .v (.c (.ptr 3 0 0 0 0 0))), (5, .v (.c (.int .i64 s1.1))), (6, .v (.c (.int .i64 (bif (decide ((a1.getD (s2.2).toNat 0) ≠ 0)) then (s2.1 + ((((c1.getD default).getD ((s1.1 % 8).toNat * 8 + (s2.2 % 8).toNat) 0) * ((c1.getD default).getD ((s1.1 / 8).toNat * 8 + (s2.2 / 8).toNat) 0)) * (c4.getD default))) else s2.1)))), (7, .v (.c (.int .i64 s2.2))), (9, .v (.c (.int .i64 s1.1))), (10, .v (.c (.bool (decide (s1.1 < 64))))), (13, .v (.c (.int .i64 s2.2))), (14, .v (.c (.bool (decide (s2.2 < 64))))), (17, .v (.c (.int .i64 s2.2))), (18, .v (.c (.ptr 0 0 0 0 1 (s2.2).toNat))), (19, .v (.c (.int .i64 (a1.getD (s2.2).toNat 0)))), (20, .v (.c (.bool (decide ((a1.getD (s2.2).toNat 0) ≠ 0)))))], [(0, .mem true 22 none (.flat [.ints 64 .i64 a1])), (1, .mem true 22 none (.flat [.ints 64 .i64 (List.replicate 64 0)])), (2, .mem true 134 none (.flat [.ints 64 .i64 (c1.getD default)])), (3, .mem true 22 none (.flat [.ints 64 .i64 s1.2]))], 4⟩ ?_ (fun hj => ?_)
        · skip
          let x1 := (bif (decide ((a1.getD (s2.2).toNat 0) ≠ 0)) then (s2.1 + ((((c1.getD default).getD ((s1.1 % 8).toNat * 8 + (s2.2 % 8).toNat) 0) * ((c1.getD default).getD ((s1.1 / 8).toNat * 8 + (s2.2 / 8).toNat) 0)) * (c4.getD default))) else s2.1)
          refine rInNormal ?_
          refine rThen ?_
          obtain ⟨o1, hT⟩ := sIf hT
          refine rRegC md0 hX rfl rfl rfl (by (repeat' first | exact True.intro | with_reducible assumption | (with_reducible apply And.intro) | intro _) <;> first | assumption | exact rfl | omega | exact Nat.le_of_ble_eq_true rfl | (simp only [inK] at *; omega) | (simp_all [sel] <;> fail) | fail) ?_
          exact hnexts2 _ (Option.some.inj hT).symm _ (To.mk' [] 0 hε rfl (by repeat' first | exact True.intro | exact rfl | apply And.intro) (by repeat' first | exact True.intro | exact rfl | apply And.intro))
        · clear hT
          refine rCond rfl rfl (by repeat' first | exact True.intro | exact rfl | apply And.intro | omega | exact Nat.le_of_ble_eq_true rfl) (fun hc => ?_) (fun hc => ?_)
          · skip
            have q1 := q1 hc
            have q2 := q2 hc
            have q3 := q3 hc
            have q4 := q4 hc
            have q5 := q5 hc
            have q6 := q6 hc
            have q7 := q7 hc
            have q8 := q8 hc
            have q9 := q9 hc
            have q10 := q10 hc
            have q11 := q11 hc
            have q12 := q12 hc
            have q13 := q13 hc
            have q14 := q14 hc
            have q15 := q15 hc
            have q16 := q16 hc
            have q17 := q17 hc
            have q18 := q18 hc
            refine rDrawM md0 1 [22] hX mixed rfl rfl rfl rfl rfl (by (repeat' first | exact True.intro | with_reducible assumption | (with_reducible apply And.intro) | intro _) <;> first | assumption | exact rfl | omega | exact Nat.le_of_ble_eq_true rfl | (simp only [inK] at *; omega) | (simp_all [sel] <;> fail) | fail) ?_
            exact rTo (To.mk' [] 0 hε rfl (by (repeat' first | exact True.intro | exact rfl | apply And.intro) <;> (repeat' first | exact rfl | refine Eq.trans ?_ (cTr (by assumption)) | refine Eq.trans ?_ (cFr (by assumption)))) (by (repeat' first | exact True.intro | exact rfl | apply And.intro) <;> (repeat' first | exact rfl | refine Eq.trans ?_ (cTr (by assumption)) | refine Eq.trans ?_ (cFr (by assumption))))) hj
          · skip
            refine rSkip ?_
            exact rTo (To.mk' [] 0 hε rfl (by (repeat' first | exact True.intro | exact rfl | apply And.intro) <;> (repeat' first | exact rfl | refine Eq.trans ?_ (cTr (by assumption)) | refine Eq.trans ?_ (cFr (by assumption)))) (by (repeat' first | exact True.intro | exact rfl | apply And.intro) <;> (repeat' first | exact rfl | refine Eq.trans ?_ (cTr (by assumption)) | refine Eq.trans ?_ (cFr (by assumption))))) hj
      · have hT := sF hc hT
        refine rExit ?_
        refine rThenExit ?_
        refine rThenExit ?_
        exact rTo (To.mk' [] 0 hε rfl (by repeat' first | exact True.intro | exact rfl | apply And.intro) (by repeat' first | exact True.intro | exact rfl | apply And.intro)) (hxs20 _ (houts2 _ (Option.some.inj hT).symm))
    · have hT := sF hc hT
      refine rExit ?_
      refine rThenExit ?_
      refine rThenExit ?_
      exact rTo (To.mk' [] 0 hε rfl (by repeat' first | exact True.intro | exact rfl | apply And.intro) (by repeat' first | exact True.intro | exact rfl | apply And.intro)) (hxs10 _ (houts1 _ (Option.some.inj hT).symm))
  · cases h
def ref12_amount (N : Nat) (a1 : Int) (a2 : Int) : Option Int :=
  bif (decide (a1 = 0)) then
    some 0
  else
    if (0 : Int) ≤ a2 then
      bif (decide ((a2 % 2) = 1)) then
        if inK .i64 ((2 : Int) * a1) ∧ inK .i64 (((2 : Int) * a1) + 1) ∧ inK .i64 (a2 * (((2 : Int) * a1) + 1)) then
          some (a2 * (((2 : Int) * a1) + 1))
        else none
      else
        if inK .i64 ((2 : Int) * a1) ∧ inK .i64 (((2 : Int) * a1) + 1) ∧ inK .i64 (a2 * (((2 : Int) * a1) + 1)) ∧ inK .i64 ((a2 * (((2 : Int) * a1) + 1)) - 1) then
          some ((a2 * (((2 : Int) * a1) + 1)) - 1)
        else none
    else none
def sp_ref12_amount (N : Nat) : X.Spec := fun args lk => match args with
  | [.v (.c (.int .i64 a1)), .v (.c (.int .i64 a2))] => some ⟨(ref12_amount N a1 a2).isSome = true, .v (.c (.int .i64 ((ref12_amount N a1 a2).getD default))), [], []⟩
  | _ => none
set_option maxRecDepth 100000 in
set_option maxHeartbeats 1000000 in
theorem ok_ref12_amount (N : Nat) : FnOK Tryd.prog gt0 112 (sp_ref12_amount N) := by
  refine fnOK_handed Tryd.func112 rfl (by kernel_rfl) tt_ok (ktNil) ?_
  intro args lk r h hp
  unfold sp_ref12_amount at h
  split at h
  · rename_i a1 a2
    cases h
    obtain ⟨x, hx⟩ := Option.isSome_iff_exists.1 hp
    simp only [hx, Option.getD_some]
    refine hand0 rfl rfl (fun w0 M ε0 hX => ?_)
    refine rCount (fun hε => ?_)
    have hT := hx; clear hx hp
    refine rSeq ?_
    refine rRegC md0 hX rfl rfl rfl (by repeat' first | exact True.intro | exact rfl | apply And.intro | omega | exact Nat.le_of_ble_eq_true rfl) ?_
    refine rThen ?_
    refine rSeq ?_
    refine rSeq ?_
    refine rRegC md0 hX rfl rfl rfl (by repeat' first | exact True.intro | exact rfl | apply And.intro | omega | exact Nat.le_of_ble_eq_true rfl) ?_
    refine rThen ?_
    refine rCond rfl rfl (by repeat' first | exact True.intro | exact rfl | apply And.intro | omega | exact Nat.le_of_ble_eq_true rfl) (fun hc => ?_) (fun hc => ?_)
    · have hT := sT hc hT
      refine rSeq ?_
      refine rRegC md0 hX rfl rfl rfl (by repeat' first | exact True.intro | exact rfl | apply And.intro | omega | exact Nat.le_of_ble_eq_true rfl) ?_
      refine rThen ?_
      refine rRet ?_
      refine rThenRet ?_
      obtain rfl := Option.some.inj hT
      exact rEnd0 hX rfl (by repeat' first | exact True.intro | exact rfl | apply And.intro | omega | exact Nat.le_of_ble_eq_true rfl) (by repeat' first | exact True.intro | exact rfl | apply And.intro) rfl rfl rfl rfl rfl
    · have hT := sF hc hT
      refine rSkip ?_
      refine rThen ?_
      refine rSeq ?_
      refine rSeq ?_
      obtain ⟨o1, hT⟩ := sIf hT
      refine rRegC md0 hX rfl rfl rfl (by (repeat' first | exact True.intro | with_reducible assumption | (with_reducible apply And.intro) | intro _) <;> first | assumption | exact rfl | omega | exact Nat.le_of_ble_eq_true rfl | (simp only [inK] at *; omega) | (simp_all [sel] <;> fail) | fail) ?_
      refine rThen ?_
      refine rCond rfl rfl (by repeat' first | exact True.intro | exact rfl | apply And.intro | omega | exact Nat.le_of_ble_eq_true rfl) (fun hc => ?_) (fun hc => ?_)
      · have hT := sT hc hT
        refine rSeq ?_
        obtain ⟨⟨o1, o2, o3⟩, hT⟩ := sIf hT
        refine rRegC md0 hX rfl rfl rfl (by (repeat' first | exact True.intro | with_reducible assumption | (with_reducible apply And.intro) | intro _) <;> first | assumption | exact rfl | omega | exact Nat.le_of_ble_eq_true rfl | (simp only [inK] at *; omega) | (simp_all [sel] <;> fail) | fail) ?_
        refine rThen ?_
        refine rRet ?_
        refine rThenRet ?_
        obtain rfl := Option.some.inj hT
        exact rEnd0 hX rfl (by repeat' first | exact True.intro | exact rfl | apply And.intro | omega | exact Nat.le_of_ble_eq_true rfl) (by repeat' first | exact True.intro | exact rfl | apply And.intro) rfl rfl rfl rfl rfl
      · have hT := sF hc hT
        refine rSkip ?_
        refine rThen ?_
        refine rSeq ?_
        obtain ⟨⟨o1, o2, o3, o4⟩, hT⟩ := sIf hT
        refine rRegC md0 hX rfl rfl rfl (by (repeat' first | exact True.intro | with_reducible assumption | (with_reducible apply And.intro) | intro _) <;> first | assumption | exact rfl | omega | exact Nat.le_of_ble_eq_true rfl | (simp only [inK] at *; omega) | (simp_all [sel] <;> fail) | fail) ?_
        refine rThen ?_
        refine rRet ?_
        obtain rfl := Option.some.inj hT
        exact rEnd0 hX rfl (by repeat' first | exact True.intro | exact rfl | apply And.intro | omega | exact Nat.le_of_ble_eq_true rfl) (by repeat' first | exact True.intro | exact rfl | apply And.intro) rfl rfl rfl rfl rfl
  · cases h
def ref12_Value (N : Nat) (a1 : Int) (a2 : Int) : Option Int :=
  let c1 := (ref01_Clip N a2 1 31)
  if c1.isSome = true then
    let c2 := (ref01_Clip N a1 (-127) 127)
    if c2.isSome = true then
      bif (decide ((c2.getD default) < 0)) then
        let c3 := (ref12_amount N (-(c2.getD default)) (c1.getD default))
        let c4 := (ref01_Clip N (-(c3.getD default)) (-2048) 2047)
        if inK .i64 (-(c2.getD default)) ∧ c3.isSome = true ∧ inK .i64 (-(c3.getD default)) ∧ c4.isSome = true then
          some (c4.getD default)
        else none
      else
        let c5 := (ref12_amount N (c2.getD default) (c1.getD default))
        let c6 := (ref01_Clip N (c5.getD default) (-2048) 2047)
        if c5.isSome = true ∧ c6.isSome = true then
          some (c6.getD default)
        else none
    else none
  else none
def sp_ref12_Value (N : Nat) : X.Spec := fun args lk => match args with
  | [.v (.c (.int .i64 a1)), .v (.c (.int .i64 a2))] => some ⟨(ref12_Value N a1 a2).isSome = true, .v (.c (.int .i64 ((ref12_Value N a1 a2).getD default))), [], []⟩
  | _ => none
set_option maxRecDepth 100000 in
set_option maxHeartbeats 1000000 in
theorem ok_ref12_Value (N : Nat) : FnOK Tryd.prog gt0 56 (sp_ref12_Value N) := by
  refine fnOK_handed Tryd.func56 rfl (by kernel_rfl) tt_ok (ktCons (ok_ref12_amount N) (ktCons (ok_ref01_Clip N) (ktNil))) ?_
  intro args lk r h hp
  unfold sp_ref12_Value at h
  split at h
  · rename_i a1 a2
    cases h
    obtain ⟨x, hx⟩ := Option.isSome_iff_exists.1 hp
    simp only [hx, Option.getD_some]
    refine hand0 rfl rfl (fun w0 M ε0 hX => ?_)
    refine rCount (fun hε => ?_)
    have hT := hx; clear hx hp
    refine rSeq ?_
    refine rRegC md0 hX rfl rfl rfl (by repeat' first | exact True.intro | exact rfl | apply And.intro | omega | exact Nat.le_of_ble_eq_true rfl) ?_
    refine rThen ?_
    refine rSeq ?_
    let c1 := (ref01_Clip N a2 1 31)
    obtain ⟨o1, hT⟩ := sIf hT
    refine rRegC md0 hX rfl rfl rfl (by (repeat' first | exact True.intro | with_reducible assumption | (with_reducible apply And.intro) | intro _) <;> first | assumption | exact rfl | omega | exact Nat.le_of_ble_eq_true rfl | (simp only [inK] at *; omega) | (simp_all [sel] <;> fail) | fail) ?_
    refine rThen ?_
    refine rSeq ?_
    let c2 := (ref01_Clip N a1 (-127) 127)
    obtain ⟨o1, hT⟩ := sIf hT
    refine rRegC md0 hX rfl rfl rfl (by (repeat' first | exact True.intro | with_reducible assumption | (with_reducible apply And.intro) | intro _) <;> first | assumption | exact rfl | omega | exact Nat.le_of_ble_eq_true rfl | (simp only [inK] at *; omega) | (simp_all [sel] <;> fail) | fail) ?_
    refine rThen ?_
    refine rSeq ?_
    refine rSeq ?_
    refine rRegC md0 hX rfl rfl rfl (by repeat' first | exact True.intro | exact rfl | apply And.intro | omega | exact Nat.le_of_ble_eq_true rfl) ?_
    refine rThen ?_
    refine rCond rfl rfl (by repeat' first | exact True.intro | exact rfl | apply And.intro | omega | exact Nat.le_of_ble_eq_true rfl) (fun hc => ?_) (fun hc => ?_)
    · have hT := sT hc hT
      refine rSeq ?_
      let c3 := (ref12_amount N (-(c2.getD default)) (c1.getD default))
      let c4 := (ref01_Clip N (-(c3.getD default)) (-2048) 2047)
      obtain ⟨⟨o1, o2, o3, o4⟩, hT⟩ := sIf hT
      refine rRegC md0 hX rfl rfl rfl (by (repeat' first | exact True.intro | with_reducible assumption | (with_reducible apply And.intro) | intro _) <;> first | assumption | exact rfl | omega | exact Nat.le_of_ble_eq_true rfl | (simp only [inK] at *; omega) | (simp_all [sel] <;> fail) | fail) ?_
      refine rThen ?_
      refine rRet ?_
      refine rThenRet ?_
      obtain rfl := Option.some.inj hT
      exact rEnd0 hX rfl (by repeat' first | exact True.intro | exact rfl | apply And.intro | omega | exact Nat.le_of_ble_eq_true rfl) (by repeat' first | exact True.intro | exact rfl | apply And.intro) rfl rfl rfl rfl rfl
    · have hT := sF hc hT
      refine rSkip ?_
      refine rThen ?_
      refine rSeq ?_
      let c5 := (ref12_amount N (c2.getD default) (c1.getD default))
      let c6 := (ref01_Clip N (c5.getD default) (-2048) 2047)
      obtain ⟨⟨o1, o2⟩, hT⟩ := sIf hT
      refine rRegC md0 hX rfl rfl rfl (by (repeat' first | exact True.intro | with_reducible assumption | (with_reducible apply And.intro) | intro _) <;> first | assumption | exact rfl | omega | exact Nat.le_of_ble_eq_true rfl | (simp only [inK] at *; omega) | (simp_all [sel] <;> fail) | fail) ?_
      refine rThen ?_
      refine rRet ?_
      obtain rfl := Option.some.inj hT
      exact rEnd0 hX rfl (by repeat' first | exact True.intro | exact rfl | apply And.intro | omega | exact Nat.le_of_ble_eq_true rfl) (by repeat' first | exact True.intro | exact rfl | apply And.intro) rfl rfl rfl rfl rfl
  · cases h
def ref13_amount_b1 (N : Nat) (a1 : Int) (a2 : Int) (s1 : Int) : Option (Int ⊕ Int) :=
  if ((decide (s1 < 127)) = true → inK .i64 (s1 + 1)) ∧ ((decide (s1 < 127)) = true → inK .i64 ((s1 + 1) * a2)) then
    bif (bif (decide (s1 < 127)) then (decide (((s1 + 1) * a2) ≤ a1)) else false) then
      if inK .i64 (s1 + 1) then
        some (.inl (s1 + 1))
      else none
    else
      some (.inr s1)
  else none
def ref13_amount (N : Nat) (a1 : Int) (a2 : Int) : Option Int :=
  (iter (ref13_amount_b1 N a1 a2) N 0).bind fun v1 =>
    some v1
def sp_ref13_amount (N : Nat) : X.Spec := fun args lk => match args with
  | [.v (.c (.int .i64 a1)), .v (.c (.int .i64 a2))] => some ⟨(ref13_amount N a1 a2).isSome = true, .v (.c (.int .i64 ((ref13_amount N a1 a2).getD default))), [], []⟩
  | _ => none
set_option maxRecDepth 100000 in
set_option maxHeartbeats 1000000 in
theorem ok_ref13_amount (N : Nat) : FnOK Tryd.prog gt0 142 (sp_ref13_amount N) := by
  refine fnOK_handed Tryd.func142 rfl (by kernel_rfl) tt_ok (ktNil) ?_
  intro args lk r h hp
  unfold sp_ref13_amount at h
  split at h
  · rename_i a1 a2
    cases h
    obtain ⟨x, hx⟩ := Option.isSome_iff_exists.1 hp
    simp only [hx, Option.getD_some]
    refine hand0 rfl rfl (fun w0 M ε0 hX => ?_)
    refine rCount (fun hε => ?_)
    have hT := hx; clear hx hp
    refine rSeq ?_
    refine rRegC md0 hX rfl rfl rfl (by repeat' first | exact True.intro | exact rfl | apply And.intro | omega | exact Nat.le_of_ble_eq_true rfl) ?_
    refine rThen ?_
    refine rSeq ?_
    refine rRegC md0 hX rfl rfl rfl (by repeat' first | exact True.intro | exact rfl | apply And.intro | omega | exact Nat.le_of_ble_eq_true rfl) ?_
    refine rThen ?_
    refine rSeq ?_
    refine rBlock ?_
    obtain ⟨w1, hl, hT⟩ := sBind hT
    refine rJoinA (fun v1 => v1 = w1) (fun v1 => ⟨[(4, .v (.c (.int .i64 0))), (5, .v (.c (.int .i64 v1)))], [], 0⟩) (.exit 0) (fun v1 hv => ?_) (fun hxs10 => ?_)
    · subst hv; clear hl
      refine rInHit ?_
      refine rThen ?_
      refine rSeq ?_
      refine rRegC md0 hX rfl rfl rfl (by repeat' first | exact True.intro | exact rfl | apply And.intro | omega | exact Nat.le_of_ble_eq_true rfl) ?_
      refine rThen ?_
      refine rRet ?_
      obtain rfl := Option.some.inj hT
      exact rEnd0 hX rfl (by repeat' first | exact True.intro | exact rfl | apply And.intro | omega | exact Nat.le_of_ble_eq_true rfl) (by repeat' first | exact True.intro | exact rfl | apply And.intro) rfl rfl rfl rfl rfl
    refine rLoopM (ref13_amount_b1 N a1 a2) (fun s1 => ⟨[(0, .v (.c (.int .i64 a1))), (1, .v (.c (.int .i64 a2))), (4, .v (.c (.int .i64 0))), (5, .v (.c (.int .i64 s1)))], [], 0⟩) hl (To.mk' [] 0 hε rfl (by repeat' first | exact True.intro | exact rfl | apply And.intro) (by repeat' first | exact True.intro | exact rfl | apply And.intro)) (fun s1 zs1 NNs1 hz hnexts1 houts1 => ?_)
    clear hl hT
    have hT := hz; clear hz
    refine rSeq ?_
    refine rSeq ?_
    obtain ⟨⟨o1, o2⟩, hT⟩ := sIf hT
    refine rRegC md0 hX rfl rfl rfl (by (repeat' first | exact True.intro | with_reducible assumption | (with_reducible apply And.intro) | intro _) <;> first | assumption | exact o1 (by assumption) | exact o2 (by assumption) | exact rfl | omega | exact Nat.le_of_ble_eq_true rfl | (simp only [inK] at *; omega) | (simp_all [sel] <;> fail) | fail) ?_
    refine rThen ?_
    refine rCond rfl rfl (by repeat' first | exact True.intro | exact rfl | apply And.intro | omega | exact Nat.le_of_ble_eq_true rfl) (fun hc => ?_) (fun hc => ?_)
    · have hT := sT hc hT
      refine rSkip ?_
      refine rThen ?_
      refine rBlock ?_
      obtain ⟨o1, hT⟩ := sIf hT
      refine rRegC md0 hX rfl rfl rfl (by (repeat' first | exact True.intro | with_reducible assumption | (with_reducible apply And.intro) | intro _) <;> first | assumption | exact rfl | omega | exact Nat.le_of_ble_eq_true rfl | (simp only [inK] at *; omega) | (simp_all [sel] <;> fail) | fail) ?_
      refine rInNormal ?_
      exact hnexts1 _ (Option.some.inj hT).symm _ (To.mk' [] 0 hε rfl (by repeat' first | exact True.intro | exact rfl | apply And.intro) (by repeat' first | exact True.intro | exact rfl | apply And.intro))
    · have hT := sF hc hT
      refine rExit ?_
      refine rThenExit ?_
      refine rThenExit ?_
      exact rTo (To.mk' [] 0 hε rfl (by repeat' first | exact True.intro | exact rfl | apply And.intro) (by repeat' first | exact True.intro | exact rfl | apply And.intro)) (hxs10 _ (houts1 _ (Option.some.inj hT).symm))
  · cases h
def ref13_Level (N : Nat) (a1 : Int) (a2 : Int) (a3 : Bool) : Option Int :=
  let c1 := (ref01_Clip N a2 1 31)
  if c1.isSome = true then
    let c2 := (ref01_Clip N a1 (-2048) 2047)
    if c2.isSome = true then
      if (0 : Int) ≤ (c1.getD default) then
        bif (decide ((c2.getD default) < 0)) then
          let c3 := (ref13_amount N ((-(c2.getD default)) - (bif a3 then 0 else ((c1.getD default) / 2))) ((2 : Int) * (c1.getD default)))
          if inK .i64 (-(c2.getD default)) ∧ inK .i64 ((-(c2.getD default)) - (bif a3 then 0 else ((c1.getD default) / 2))) ∧ inK .i64 ((2 : Int) * (c1.getD default)) ∧ c3.isSome = true ∧ inK .i64 (-(c3.getD default)) then
            some (-(c3.getD default))
          else none
        else
          let c4 := (ref13_amount N ((c2.getD default) - (bif a3 then 0 else ((c1.getD default) / 2))) ((2 : Int) * (c1.getD default)))
          if inK .i64 ((c2.getD default) - (bif a3 then 0 else ((c1.getD default) / 2))) ∧ inK .i64 ((2 : Int) * (c1.getD default)) ∧ c4.isSome = true then
            some (c4.getD default)
          else none
      else none
    else none
  else none
def sp_ref13_Level (N : Nat) : X.Spec := fun args lk => match args with
  | [.v (.c (.int .i64 a1)), .v (.c (.int .i64 a2)), .v (.c (.bool a3))] => some ⟨(ref13_Level N a1 a2 a3).isSome = true, .v (.c (.int .i64 ((ref13_Level N a1 a2 a3).getD default))), [], []⟩
  | _ => none
set_option maxRecDepth 100000 in
set_option maxHeartbeats 1000000 in
theorem ok_ref13_Level (N : Nat) : FnOK Tryd.prog gt0 113 (sp_ref13_Level N) := by
  refine fnOK_handed Tryd.func113 rfl (by kernel_rfl) tt_ok (ktCons (ok_ref13_amount N) (ktCons (ok_ref01_Clip N) (ktNil))) ?_
  intro args lk r h hp
  unfold sp_ref13_Level at h
  split at h
  · rename_i a1 a2 a3
    cases h
    obtain ⟨x, hx⟩ := Option.isSome_iff_exists.1 hp
    simp only [hx, Option.getD_some]
    refine hand0 rfl rfl (fun w0 M ε0 hX => ?_)
    refine rCount (fun hε => ?_)
    have hT := hx; clear hx hp
    refine rSeq ?_
    refine rRegC md0 hX rfl rfl rfl (by repeat' first | exact True.intro | exact rfl | apply And.intro | omega | exact Nat.le_of_ble_eq_true rfl) ?_
    refine rThen ?_
    refine rSeq ?_
    let c1 := (ref01_Clip N a2 1 31)
    obtain ⟨o1, hT⟩ := sIf hT
    refine rRegC md0 hX rfl rfl rfl (by (repeat' first | exact True.intro | with_reducible assumption | (with_reducible apply And.intro) | intro _) <;> first | assumption | exact rfl | omega | exact Nat.le_of_ble_eq_true rfl | (simp only [inK] at *; omega) | (simp_all [sel] <;> fail) | fail) ?_
    refine rThen ?_
    refine rSeq ?_
    let c2 := (ref01_Clip N a1 (-2048) 2047)
    obtain ⟨o1, hT⟩ := sIf hT
    refine rRegC md0 hX rfl rfl rfl (by (repeat' first | exact True.intro | with_reducible assumption | (with_reducible apply And.intro) | intro _) <;> first | assumption | exact rfl | omega | exact Nat.le_of_ble_eq_true rfl | (simp only [inK] at *; omega) | (simp_all [sel] <;> fail) | fail) ?_
    refine rThen ?_
    refine rSeq ?_
    obtain ⟨o1, hT⟩ := sIf hT
    refine rRegC md0 hX rfl rfl rfl (by (repeat' first | exact True.intro | with_reducible assumption | (with_reducible apply And.intro) | intro _) <;> first | assumption | exact rfl | omega | exact Nat.le_of_ble_eq_true rfl | (simp only [inK] at *; omega) | (simp_all [sel] <;> fail) | fail) ?_
    refine rThen ?_
    refine rSeq ?_
    refine rSeq ?_
    refine rRegC md0 hX rfl rfl rfl (by repeat' first | exact True.intro | exact rfl | apply And.intro | omega | exact Nat.le_of_ble_eq_true rfl) ?_
    refine rThen ?_
    refine rJoin ⟨[(6, .v (.c (.int .i64 0))), (7, .v (.c (.int .i64 (c1.getD default)))), (8, .v (.c (.int .i64 (c2.getD default)))), (9, .v (.c (.int .i64 (bif a3 then 0 else ((c1.getD default) / 2)))))], [], 0⟩ ?_ (fun hj => ?_)
    · skip
      refine rThen ?_
      refine rSeq ?_
      refine rSeq ?_
      refine rRegC md0 hX rfl rfl rfl (by repeat' first | exact True.intro | exact rfl | apply And.intro | omega | exact Nat.le_of_ble_eq_true rfl) ?_
      refine rThen ?_
      refine rCond rfl rfl (by repeat' first | exact True.intro | exact rfl | apply And.intro | omega | exact Nat.le_of_ble_eq_true rfl) (fun hc => ?_) (fun hc => ?_)
      · have hT := sT hc hT
        refine rSeq ?_
        let c3 := (ref13_amount N ((-(c2.getD default)) - (bif a3 then 0 else ((c1.getD default) / 2))) ((2 : Int) * (c1.getD default)))
        obtain ⟨⟨o1, o2, o3, o4, o5⟩, hT⟩ := sIf hT
        refine rRegC md0 hX rfl rfl rfl (by (repeat' first | exact True.intro | with_reducible assumption | (with_reducible apply And.intro) | intro _) <;> first | assumption | exact rfl | omega | exact Nat.le_of_ble_eq_true rfl | (simp only [inK] at *; omega) | (simp_all [sel] <;> fail) | fail) ?_
        refine rThen ?_
        refine rRet ?_
        refine rThenRet ?_
        obtain rfl := Option.some.inj hT
        exact rEnd0 hX rfl (by repeat' first | exact True.intro | exact rfl | apply And.intro | omega | exact Nat.le_of_ble_eq_true rfl) (by repeat' first | exact True.intro | exact rfl | apply And.intro) rfl rfl rfl rfl rfl
      · have hT := sF hc hT
        refine rSkip ?_
        refine rThen ?_
        refine rSeq ?_
        let c4 := (ref13_amount N ((c2.getD default) - (bif a3 then 0 else ((c1.getD default) / 2))) ((2 : Int) * (c1.getD default)))
        obtain ⟨⟨o1, o2, o3⟩, hT⟩ := sIf hT
        refine rRegC md0 hX rfl rfl rfl (by (repeat' first | exact True.intro | with_reducible assumption | (with_reducible apply And.intro) | intro _) <;> first | assumption | exact rfl | omega | exact Nat.le_of_ble_eq_true rfl | (simp only [inK] at *; omega) | (simp_all [sel] <;> fail) | fail) ?_
        refine rThen ?_
        refine rRet ?_
        obtain rfl := Option.some.inj hT
        exact rEnd0 hX rfl (by repeat' first | exact True.intro | exact rfl | apply And.intro | omega | exact Nat.le_of_ble_eq_true rfl) (by repeat' first | exact True.intro | exact rfl | apply And.intro) rfl rfl rfl rfl rfl
    · clear hT
      refine rCond rfl rfl (by repeat' first | exact True.intro | exact rfl | apply And.intro | omega | exact Nat.le_of_ble_eq_true rfl) (fun hc => ?_) (fun hc => ?_)
      · skip
        refine rRegC md0 hX rfl rfl rfl (by repeat' first | exact True.intro | exact rfl | apply And.intro | omega | exact Nat.le_of_ble_eq_true rfl) ?_
        exact rTo (To.mk' [] 0 hε rfl (by (repeat' first | exact True.intro | exact rfl | apply And.intro) <;> (repeat' first | exact rfl | refine Eq.trans ?_ (cTr (by assumption)) | refine Eq.trans ?_ (cFr (by assumption)))) (by (repeat' first | exact True.intro | exact rfl | apply And.intro) <;> (repeat' first | exact rfl | refine Eq.trans ?_ (cTr (by assumption)) | refine Eq.trans ?_ (cFr (by assumption))))) hj
      · skip
        refine rSkip ?_
        exact rTo (To.mk' [] 0 hε rfl (by (repeat' first | exact True.intro | exact rfl | apply And.intro) <;> (repeat' first | exact rfl | refine Eq.trans ?_ (cTr (by assumption)) | refine Eq.trans ?_ (cFr (by assumption)))) (by (repeat' first | exact True.intro | exact rfl | apply And.intro) <;> (repeat' first | exact rfl | refine Eq.trans ?_ (cTr (by assumption)) | refine Eq.trans ?_ (cFr (by assumption))))) hj
  · cases h
def ref13_Block_b1 (N : Nat) (a1 : (List Int)) (a2 : Int) (a3 : Bool) (s1 : (Int × (List Int))) : Option ((Int × (List Int)) ⊕ (List Int)) :=
  bif (decide (s1.1 < 64)) then
    joinK (fun v2 =>
      if inK .i64 (s1.1 + 1) then
        some (.inl ((s1.1 + 1), v2))
      else none
    ) fun k1 =>
      bif (bif (decide ((0 : Int) < s1.1)) then true else (!a3)) then
        let c1 := (ref13_Level N (a1.getD (s1.1).toNat 0) a2 a3)
        if (0 : Int) ≤ s1.1 ∧ s1.1 < 64 ∧ (s1.1).toNat < 64 ∧ c1.isSome = true then
          k1 (s1.2.set (s1.1).toNat (c1.getD default))
        else none
      else
        k1 s1.2
  else
    some (.inr s1.2)
def ref13_Block (N : Nat) (a1 : (List Int)) (a2 : Int) (a3 : Bool) : Option (List Int) :=
  (iter (ref13_Block_b1 N a1 a2 a3) N (0, (List.replicate 64 0))).bind fun v1 =>
    some v1
def sp_ref13_Block (N : Nat) : X.Spec := fun args lk => match args with
  | [.v (.agg [.ints 64 .i64 a1]), .v (.c (.int .i64 a2)), .v (.c (.bool a3))] => some ⟨(ref13_Block N a1 a2 a3).isSome = true, .v (.agg [.ints 64 .i64 ((ref13_Block N a1 a2 a3).getD default)]), [], []⟩
  | _ => none
set_option maxRecDepth 100000 in
set_option maxHeartbeats 1000000 in
theorem ok_ref13_Block (N : Nat) : FnOK Tryd.prog gt0 57 (sp_ref13_Block N) := by
  refine fnOK_handed Tryd.func57 rfl (by kernel_rfl) tt_ok (ktCons (ok_ref13_Level N) (ktNil)) ?_
  intro args lk r h hp
  unfold sp_ref13_Block at h
  split at h
  · rename_i a1 a2 a3
    cases h
    obtain ⟨x, hx⟩ := Option.isSome_iff_exists.1 hp
    simp only [hx, Option.getD_some]
    refine hand0 rfl rfl (fun w0 M ε0 hX => ?_)
    refine rCount (fun hε => ?_)
    have hT := hx; clear hx hp
    refine rSeq ?_
    refine rRegC md0 hX rfl rfl rfl (by repeat' first | exact True.intro | exact rfl | apply And.intro | omega | exact Nat.le_of_ble_eq_true rfl) ?_
    refine rThen ?_
    refine rSeq ?_
    refine rRegC md0 hX rfl rfl rfl (by repeat' first | exact True.intro | exact rfl | apply And.intro | omega | exact Nat.le_of_ble_eq_true rfl) ?_
    refine rThen ?_
    refine rSeq ?_
    refine rSeq ?_
    refine rRegC md0 hX rfl rfl rfl (by repeat' first | exact True.intro | exact rfl | apply And.intro | omega | exact Nat.le_of_ble_eq_true rfl) ?_
    refine rThen ?_
    refine rBlock ?_
    obtain ⟨w1, hl, hT⟩ := sBind hT
    refine rJoinA (fun v1 => v1 = w1) (fun v1 => ⟨[(6, .v (.c (.ptr 1 0 0 0 0 0))), (7, .v (.c (.ptr 2 0 0 0 0 0)))], [(1, .mem true 22 none (.flat [.ints 64 .i64 (List.replicate 64 0)])), (2, .mem true 22 none (.flat [.ints 64 .i64 v1]))], 3⟩) (.exit 0) (fun v1 hv => ?_) (fun hxs10 => ?_)
    · subst hv; clear hl
      refine rInHit ?_
      refine rThen ?_
      refine rSeq ?_
      refine rRegC md0 hX rfl rfl rfl (by repeat' first | exact True.intro | exact rfl | apply And.intro | omega | exact Nat.le_of_ble_eq_true rfl) ?_
      refine rThen ?_
      refine rRet ?_
      obtain rfl := Option.some.inj hT
      exact rEnd0 hX rfl (by repeat' first | exact True.intro | exact rfl | apply And.intro | omega | exact Nat.le_of_ble_eq_true rfl) (by repeat' first | exact True.intro | exact rfl | apply And.intro) rfl rfl rfl rfl rfl
    refine rLoopM (ref13_Block_b1 N a1 a2 a3) (fun s1 => ⟨[(1, .v (.c (.int .i64 a2))), (2, .v (.c (.bool a3))), (3, .v (.c (.ptr 0 0 0 0 0 0))), (6, .v (.c (.ptr 1 0 0 0 0 0))), (7, .v (.c (.ptr 2 0 0 0 0 0))), (8, .v (.c (.int .i64 s1.1)))], [(0, .mem true 22 none (.flat [.ints 64 .i64 a1])), (1, .mem true 22 none (.flat [.ints 64 .i64 (List.replicate 64 0)])), (2, .mem true 22 none (.flat [.ints 64 .i64 s1.2]))], 3⟩) hl (To.mk' [] 0 hε rfl (by repeat' first | exact True.intro | exact rfl | apply And.intro) (by repeat' first | exact True.intro | exact rfl | apply And.intro)) (fun s1 zs1 NNs1 hz hnexts1 houts1 => ?_)
    clear hl hT
    have hT := hz; clear hz
    refine rSeq ?_
    refine rSeq ?_
    refine rRegC md0 hX rfl rfl rfl (by repeat' first | exact True.intro | exact rfl | apply And.intro | omega | exact Nat.le_of_ble_eq_true rfl) ?_
    refine rThen ?_
    refine rCond rfl rfl (by repeat' first | exact True.intro | exact rfl | apply And.intro | omega | exact Nat.le_of_ble_eq_true rfl) (fun hc => ?_) (fun hc => ?_)
    · have hT := sT hc hT
      refine rSkip ?_
      refine rThen ?_
      refine rSeq ?_
      refine rBlock ?_
      refine rSeq ?_
      refine rRegC md0 hX rfl rfl rfl (by (repeat' first | exact True.intro | with_reducible assumption | (with_reducible apply And.intro) | intro _) <;> first | assumption | exact rfl | omega | exact Nat.le_of_ble_eq_true rfl | (simp only [inK] at *; omega) | (simp_all [sel] <;> fail) | fail) ?_
      refine rThen ?_
      refine rJoinK hT (fun v2 => ⟨[(1, .v (.c (.int .i64 a2))), (2, .v (.c (.bool a3))), (3, .v (.c (.ptr 0 0 0 0 0 0))), (6, .v (.c (.ptr 1 0 0 0 0 0))), (7, .v (.c (.ptr 2 0 0 0 0 0))), (8, .v (.c (.int .i64 s1.1))), (9, .v (.c (.int .i64 s1.1))), (10, .v (.c (.bool (decide (s1.1 < 64))))), (13, .v (.c (.int .i64 s1.1))), (14, .v (.c (.bool (decide ((0 : Int) < s1.1))))), (15, .v (.c (.bool (decide ((0 : Int) < s1.1))))), (18, .v (.c (.bool (bif (decide ((0 : Int) < s1.1)) then true else (!a3)))))], [(0, .mem true 22 none (.flat [.ints 64 .i64 a1])), (1, .mem true 22 none (.flat [.ints 64 .i64 (List.replicate 64 0)])), (2, .mem true 22 none (.flat [.ints 64 .i64 v2]))], 3⟩) (fun v2 hT => ?_) (fun k1 hjk1 hT => ?_)
      · skip
        refine rInNormal ?_
        refine rThen ?_
        obtain ⟨o1, hT⟩ := sIf hT
        refine rRegC md0 hX rfl rfl rfl (by (repeat' first | exact True.intro | with_reducible assumption | (with_reducible apply And.intro) | intro _) <;> first | assumption | exact rfl | omega | exact Nat.le_of_ble_eq_true rfl | (simp only [inK] at *; omega) | (simp_all [sel] <;> fail) | fail) ?_
        exact hnexts1 _ (Option.some.inj hT).symm _ (To.mk' [] 0 hε rfl (by repeat' first | exact True.intro | exact rfl | apply And.intro) (by repeat' first | exact True.intro | exact rfl | apply And.intro))
      · skip
        refine rCond rfl rfl (by repeat' first | exact True.intro | exact rfl | apply And.intro | omega | exact Nat.le_of_ble_eq_true rfl) (fun hc => ?_) (fun hc => ?_)
        · have hT := sT hc hT
          let c1 := (ref13_Level N (a1.getD (s1.1).toNat 0) a2 a3)
          obtain ⟨⟨o1, o2, o3, o4⟩, hT⟩ := sIf hT
          refine rRegC md0 hX rfl rfl rfl (by (repeat' first | exact True.intro | with_reducible assumption | (with_reducible apply And.intro) | intro _) <;> first | assumption | exact rfl | omega | exact Nat.le_of_ble_eq_true rfl | (simp only [inK] at *; omega) | (simp_all [sel] <;> fail) | fail) ?_
          exact rTo (To.mk' [] 0 hε rfl (by repeat' first | exact True.intro | exact rfl | apply And.intro) (by repeat' first | exact True.intro | exact rfl | apply And.intro)) (hjk1 _ hT)
        · have hT := sF hc hT
          refine rSkip ?_
          exact rTo (To.mk' [] 0 hε rfl (by repeat' first | exact True.intro | exact rfl | apply And.intro) (by repeat' first | exact True.intro | exact rfl | apply And.intro)) (hjk1 _ hT)
    · have hT := sF hc hT
      refine rExit ?_
      refine rThenExit ?_
      refine rThenExit ?_
      exact rTo (To.mk' [] 0 hε rfl (by repeat' first | exact True.intro | exact rfl | apply And.intro) (by repeat' first | exact True.intro | exact rfl | apply And.intro)) (hxs10 _ (houts1 _ (Option.some.inj hT).symm))
  · cases h
def ref35_Block_b1 (N : Nat) (c1 : (Option Int)) (x1 : (List Int)) (s1 : (Int × (List Int) × (List Int))) : Option ((Int × (List Int) × (List Int)) ⊕ ((List Int) × (List Int))) :=
  bif (decide (s1.1 < 64)) then
    let c7 := (ref01_Clip N (s1.2.1.getD (s1.1).toNat 0) (-127) 127)
    if (0 : Int) ≤ s1.1 ∧ s1.1 < 64 ∧ (s1.1).toNat < 64 ∧ c7.isSome = true then
      let c8 := (ref12_Value N ((s1.2.1.set (s1.1).toNat (c7.getD default)).getD (s1.1).toNat 0) (c1.getD default))
      if (0 : Int) ≤ s1.1 ∧ s1.1 < 64 ∧ (s1.1).toNat < 64 ∧ c8.isSome = true then
        let x3 := (((s1.2.2.set (s1.1).toNat (c8.getD default)).getD (s1.1).toNat 0) + (x1.getD (s1.1).toNat 0))
        let x4 := ((s1.2.2.set (s1.1).toNat (c8.getD default)).set (s1.1).toNat (((s1.2.2.set (s1.1).toNat (c8.getD default)).getD (s1.1).toNat 0) + (x1.getD (s1.1).toNat 0)))
        if (0 : Int) ≤ s1.1 ∧ s1.1 < 64 ∧ (s1.1).toNat < 64 ∧ inK .i64 (((s1.2.2.set (s1.1).toNat (c8.getD default)).getD (s1.1).toNat 0) + (x1.getD (s1.1).toNat 0)) then
          if inK .i64 (s1.1 + 1) then
            some (.inl ((s1.1 + 1), (s1.2.1.set (s1.1).toNat (c7.getD default)), x4))
          else none
        else none
      else none
    else none
  else
    some (.inr (s1.2.1, s1.2.2))
def ref35_Block (N : Nat) (a1 : (List Int)) (a2 : (List Int)) (a3 : Int) (a4 : Int) (a5 : Bool) : Option (List Int) :=
  let c1 := (ref01_Clip N a3 1 31)
  if c1.isSome = true then
    let c2 := (ref01_Clip N a4 1 31)
    if c2.isSome = true then
      let c3 := (ref35_nought N a2)
      if ((!a5) = true → c3.isSome = true) then
        let c4 := (ref14_Forward N a2)
        if ((bif (!a5) then (!(c3.getD default)) else false) = true → c4.isSome = true) then
          let x1 := (bif (bif (!a5) then (!(c3.getD default)) else false) then (c4.getD default) else (List.replicate 64 0))
          (iter (ref35_Block_b1 N c1 x1) N (0, a1, (List.replicate 64 0))).bind fun v1 =>
            let c5 := (ref35_nought N a2)
            let x2 := (bif (decide ((c1.getD default) = (c2.getD default))) then (bif a5 then true else (c5.getD default)) else false)
            if (((decide ((c1.getD default) = (c2.getD default))) && (!a5)) = true → c5.isSome = true) ∧ ((decide ((c1.getD default) = (c2.getD default))) = true → (a5 = false → ((decide ((c1.getD default) = (c2.getD default))) && (!a5)) = true)) then
              bif x2 then
                some (bif a5 then (v1.1.set 0 0) else v1.1)
              else
                let c6 := (ref13_Block N v1.2 (c2.getD default) a5)
                if c6.isSome = true then
                  some (c6.getD default)
                else none
            else none
        else none
      else none
    else none
  else none
def sp_ref35_Block (N : Nat) : X.Spec := fun args lk => match args with
  | [.v (.agg [.ints 64 .i64 a1]), .v (.agg [.ints 64 .i64 a2]), .v (.c (.int .i64 a3)), .v (.c (.int .i64 a4)), .v (.c (.bool a5))] => some ⟨(ref35_Block N a1 a2 a3 a4 a5).isSome = true, .v (.agg [.ints 64 .i64 ((ref35_Block N a1 a2 a3 a4 a5).getD default)]), [], []⟩
  | _ => none
set_option maxRecDepth 100000 in
set_option maxHeartbeats 1000000 in
theorem ok_ref35_Block (N : Nat) : FnOK Tryd.prog gt0 14 (sp_ref35_Block N) := by
  refine fnOK_handed Tryd.func14 rfl (by kernel_rfl) tt_ok (ktCons (ok_ref12_Value N) (ktCons (ok_ref13_Block N) (ktCons (ok_ref14_Forward N) (ktCons (ok_ref35_nought N) (ktCons (ok_ref01_Clip N) (ktNil)))))) ?_
  intro args lk r h hp
  unfold sp_ref35_Block at h
  split at h
  · rename_i a1 a2 a3 a4 a5
    cases h
    obtain ⟨x, hx⟩ := Option.isSome_iff_exists.1 hp
    simp only [hx, Option.getD_some]
    refine hand0 rfl rfl (fun w0 M ε0 hX => ?_)
    refine rCount (fun hε => ?_)
    have hT := hx; clear hx hp
    refine rSeq ?_
    refine rRegC md0 hX rfl rfl rfl (by repeat' first | exact True.intro | exact rfl | apply And.intro | omega | exact Nat.le_of_ble_eq_true rfl) ?_
    refine rThen ?_
    refine rSeq ?_
    let c1 := (ref01_Clip N a3 1 31)
    obtain ⟨o1, hT⟩ := sIf hT
    refine rRegC md0 hX rfl rfl rfl (by (repeat' first | exact True.intro | with_reducible assumption | (with_reducible apply And.intro) | intro _) <;> first | assumption | exact rfl | omega | exact Nat.le_of_ble_eq_true rfl | (simp only [inK] at *; omega) | (simp_all [sel] <;> fail) | fail) ?_
    refine rThen ?_
    refine rSeq ?_
    let c2 := (ref01_Clip N a4 1 31)
    obtain ⟨o1, hT⟩ := sIf hT
    refine rRegC md0 hX rfl rfl rfl (by (repeat' first | exact True.intro | with_reducible assumption | (with_reducible apply And.intro) | intro _) <;> first | assumption | exact rfl | omega | exact Nat.le_of_ble_eq_true rfl | (simp only [inK] at *; omega) | (simp_all [sel] <;> fail) | fail) ?_
    refine rThen ?_
    refine rSeq ?_
    refine rRegC md0 hX rfl rfl rfl (by repeat' first | exact True.intro | exact rfl | apply And.intro | omega | exact Nat.le_of_ble_eq_true rfl) ?_
    refine rThen ?_
    refine rSeq ?_
    refine rRegC md0 hX rfl rfl rfl (by repeat' first | exact True.intro | exact rfl | apply And.intro | omega | exact Nat.le_of_ble_eq_true rfl) ?_
    refine rThen ?_
    refine rSeq ?_
    refine rSeq ?_
    let c3 := (ref35_nought N a2)
    obtain ⟨o1, hT⟩ := sIf hT
    refine rRegC md0 hX rfl rfl rfl (by (repeat' first | exact True.intro | with_reducible assumption | (with_reducible apply And.intro) | intro _) <;> first | assumption | exact o1 (by assumption) | exact rfl | omega | exact Nat.le_of_ble_eq_true rfl | (simp only [inK] at *; omega) | (simp_all [sel] <;> fail) | fail) ?_
    refine rThen ?_
    let c4 := (ref14_Forward N a2)
    obtain ⟨q1, hT⟩ := sIf hT
    refine rJoin ⟨[(2, .v (.c (.int .i64 (c1.getD default)))), (3, .v (.c (.int .i64 (c2.getD default)))), (4, .v (.c (.bool a5))), (5, .v (.c (.ptr 0 0 0 0 0 0))), (6, .v (.c (.ptr 1 0 0 0 0 0))), (10, .v (.c (.ptr 2 0 0 0 0 0))), (11, .v (.c (.ptr 3 0 0 0 0 0))), (12, .v (.c (.ptr 4 0 0 0 0 0)))], [(0, .mem true 22 none (.flat [.ints 64 .i64 a1])), (1, .mem true 22 none (.flat [.ints 64 .i64 a2])), (2, .mem true 22 none (.flat [.ints 64 .i64 (List.replicate 64 0)])), (3, .mem true 22 none (.flat [.ints 64 .i64 (List.replicate 64 0)])), (4, .mem true 22 none (.flat [.ints 64 .i64 (bif (bif (!a5) then (!(c3.getD default)) else false) then (c4.getD default) else (List.replicate 64 0))]))], 5⟩ ?_ (fun hj => ?_)
    · skip
      let x1 := (bif (bif (!a5) then (!(c3.getD default)) else false) then (c4.getD default) else (List.replicate 64 0))
      refine rThen ?_
      refine rSeq ?_
      refine rSeq ?_
      refine rRegC md0 hX rfl rfl rfl (by repeat' first | exact True.intro | exact rfl | apply And.intro | omega | exact Nat.le_of_ble_eq_true rfl) ?_
      refine rThen ?_
      refine rBlock ?_
      obtain ⟨w1, hl, hT⟩ := sBind hT
      refine rJoinA (fun v1 => v1 = w1) (fun v1 => ⟨[(2, .v (.c (.int .i64 (c1.getD default)))), (3, .v (.c (.int .i64 (c2.getD default)))), (4, .v (.c (.bool a5))), (5, .v (.c (.ptr 0 0 0 0 0 0))), (6, .v (.c (.ptr 1 0 0 0 0 0))), (10, .v (.c (.ptr 2 0 0 0 0 0))), (11, .v (.c (.ptr 3 0 0 0 0 0)))], [(0, .mem true 22 none (.flat [.ints 64 .i64 v1.1])), (1, .mem true 22 none (.flat [.ints 64 .i64 a2])), (2, .mem true 22 none (.flat [.ints 64 .i64 (List.replicate 64 0)])), (3, .mem true 22 none (.flat [.ints 64 .i64 v1.2]))], 5⟩) (.exit 0) (fun v1 hv => ?_) (fun hxs10 => ?_)
      · subst hv; clear hl
        refine rInHit ?_
        refine rThen ?_
        refine rSeq ?_
        refine rSeq ?_
        refine rRegC md0 hX rfl rfl rfl (by repeat' first | exact True.intro | exact rfl | apply And.intro | omega | exact Nat.le_of_ble_eq_true rfl) ?_
        refine rThen ?_
        refine rJoin ⟨[(2, .v (.c (.int .i64 (c1.getD default)))), (3, .v (.c (.int .i64 (c2.getD default)))), (4, .v (.c (.bool a5))), (5, .v (.c (.ptr 0 0 0 0 0 0))), (6, .v (.c (.ptr 1 0 0 0 0 0))), (10, .v (.c (.ptr 2 0 0 0 0 0))), (11, .v (.c (.ptr 3 0 0 0 0 0)))], [(0, .mem true 22 none (.flat [.ints 64 .i64 (bif a5 then (v1.1.set 0 0) else v1.1)])), (1, .mem true 22 none (.flat [.ints 64 .i64 a2])), (2, .mem true 22 none (.flat [.ints 64 .i64 (List.replicate 64 0)])), (3, .mem true 22 none (.flat [.ints 64 .i64 v1.2]))], 5⟩ ?_ (fun hj => ?_)
        · skip
          refine rThen ?_
          refine rSeq ?_
          refine rSeq ?_
          let c5 := (ref35_nought N a2)
          let x2 := (bif (decide ((c1.getD default) = (c2.getD default))) then (bif a5 then true else (c5.getD default)) else false)
          obtain ⟨⟨o1, o2⟩, hT⟩ := sIf hT
          refine rRegC md0 hX rfl rfl rfl (by (repeat' first | exact True.intro | with_reducible assumption | (with_reducible apply And.intro) | intro _) <;> first | assumption | exact o1 (by assumption) | exact o2 (by assumption) | exact rfl | omega | exact Nat.le_of_ble_eq_true rfl | (simp only [inK] at *; omega) | (simp_all [sel] <;> fail) | fail) ?_
          refine rThen ?_
          refine rCond rfl rfl (by repeat' first | exact True.intro | exact rfl | apply And.intro | omega | exact Nat.le_of_ble_eq_true rfl) (fun hc => ?_) (fun hc => ?_)
          · have hT := sT hc hT
            refine rSeq ?_
            refine rRegC md0 hX rfl rfl rfl (by repeat' first | exact True.intro | exact rfl | apply And.intro | omega | exact Nat.le_of_ble_eq_true rfl) ?_
            refine rThen ?_
            refine rRet ?_
            refine rThenRet ?_
            obtain rfl := Option.some.inj hT
            exact rEnd0 hX rfl (by repeat' first | exact True.intro | exact rfl | apply And.intro | omega | exact Nat.le_of_ble_eq_true rfl) (by repeat' first | exact True.intro | exact rfl | apply And.intro) rfl rfl rfl rfl rfl
          · have hT := sF hc hT
            refine rSkip ?_
            refine rThen ?_
            refine rSeq ?_
            let c6 := (ref13_Block N v1.2 (c2.getD default) a5)
            obtain ⟨o1, hT⟩ := sIf hT
            refine rRegC md0 hX rfl rfl rfl (by (repeat' first | exact True.intro | with_reducible assumption | (with_reducible apply And.intro) | intro _) <;> first | assumption | exact rfl | omega | exact Nat.le_of_ble_eq_true rfl | (simp only [inK] at *; omega) | (simp_all [sel] <;> fail) | fail) ?_
            refine rThen ?_
            refine rRet ?_
            obtain rfl := Option.some.inj hT
            exact rEnd0 hX rfl (by repeat' first | exact True.intro | exact rfl | apply And.intro | omega | exact Nat.le_of_ble_eq_true rfl) (by repeat' first | exact True.intro | exact rfl | apply And.intro) rfl rfl rfl rfl rfl
        · clear hT
          refine rCond rfl rfl (by repeat' first | exact True.intro | exact rfl | apply And.intro | omega | exact Nat.le_of_ble_eq_true rfl) (fun hc => ?_) (fun hc => ?_)
          · skip
            refine rRegC md0 hX rfl rfl rfl (by repeat' first | exact True.intro | exact rfl | apply And.intro | omega | exact Nat.le_of_ble_eq_true rfl) ?_
            exact rTo (To.mk' [] 0 hε rfl (by (repeat' first | exact True.intro | exact rfl | apply And.intro) <;> (repeat' first | exact rfl | refine Eq.trans ?_ (cTr (by assumption)) | refine Eq.trans ?_ (cFr (by assumption)))) (by (repeat' first | exact True.intro | exact rfl | apply And.intro) <;> (repeat' first | exact rfl | refine Eq.trans ?_ (cTr (by assumption)) | refine Eq.trans ?_ (cFr (by assumption))))) hj
          · skip
            refine rSkip ?_
            exact rTo (To.mk' [] 0 hε rfl (by (repeat' first | exact True.intro | exact rfl | apply And.intro) <;> (repeat' first | exact rfl | refine Eq.trans ?_ (cTr (by assumption)) | refine Eq.trans ?_ (cFr (by assumption)))) (by (repeat' first | exact True.intro | exact rfl | apply And.intro) <;> (repeat' first | exact rfl | refine Eq.trans ?_ (cTr (by assumption)) | refine Eq.trans ?_ (cFr (by assumption))))) hj
      refine rLoopM (ref35_Block_b1 N c1 x1) (fun s1 => ⟨[(2, .v (.c (.int .i64 (c1.getD default)))), (3, .v (.c (.int .i64 (c2.getD default)))), (4, .v (.c (.bool a5))), (5, .v (.c (.ptr 0 0 0 0 0 0))), (6, .v (.c (.ptr 1 0 0 0 0 0))), (10, .v (.c (.ptr 2 0 0 0 0 0))), (11, .v (.c (.ptr 3 0 0 0 0 0))), (12, .v (.c (.ptr 4 0 0 0 0 0))), (13, .v (.c (.int .i64 s1.1)))], [(0, .mem true 22 none (.flat [.ints 64 .i64 s1.2.1])), (1, .mem true 22 none (.flat [.ints 64 .i64 a2])), (2, .mem true 22 none (.flat [.ints 64 .i64 (List.replicate 64 0)])), (3, .mem true 22 none (.flat [.ints 64 .i64 s1.2.2])), (4, .mem true 22 none (.flat [.ints 64 .i64 x1]))], 5⟩) hl (To.mk' [] 0 hε rfl (by repeat' first | exact True.intro | exact rfl | apply And.intro) (by repeat' first | exact True.intro | exact rfl | apply And.intro)) (fun s1 zs1 NNs1 hz hnexts1 houts1 => ?_)
      clear hl hT
      have hT := hz; clear hz
      refine rSeq ?_
      refine rSeq ?_
      refine rRegC md0 hX rfl rfl rfl (by repeat' first | exact True.intro | exact rfl | apply And.intro | omega | exact Nat.le_of_ble_eq_true rfl) ?_
      refine rThen ?_
      refine rCond rfl rfl (by repeat' first | exact True.intro | exact rfl | apply And.intro | omega | exact Nat.le_of_ble_eq_true rfl) (fun hc => ?_) (fun hc => ?_)
      · have hT := sT hc hT
        refine rSkip ?_
        refine rThen ?_
        refine rSeq ?_
        refine rBlock ?_
        refine rSeq ?_
        let c7 := (ref01_Clip N (s1.2.1.getD (s1.1).toNat 0) (-127) 127)
        obtain ⟨⟨o1, o2, o3, o4⟩, hT⟩ := sIf hT
        refine rRegC md0 hX rfl rfl rfl (by (repeat' first | exact True.intro | with_reducible assumption | (with_reducible apply And.intro) | intro _) <;> first | assumption | exact rfl | omega | exact Nat.le_of_ble_eq_true rfl | (simp only [inK] at *; omega) | (simp_all [sel] <;> fail) | fail) ?_
        refine rThen ?_
        refine rSeq ?_
        let c8 := (ref12_Value N ((s1.2.1.set (s1.1).toNat (c7.getD default)).getD (s1.1).toNat 0) (c1.getD default))
        obtain ⟨⟨o1, o2, o3, o4⟩, hT⟩ := sIf hT
        refine rRegC md0 hX rfl rfl rfl (by (repeat' first | exact True.intro | with_reducible assumption | (with_reducible apply And.intro) | intro _) <;> first | assumption | exact rfl | omega | exact Nat.le_of_ble_eq_true rfl | (simp only [inK] at *; omega) | (simp_all [sel] <;> fail) | fail) ?_
        refine rThen ?_
        let x3 := (((s1.2.2.set (s1.1).toNat (c8.getD default)).getD (s1.1).toNat 0) + (x1.getD (s1.1).toNat 0))
        let x4 := ((s1.2.2.set (s1.1).toNat (c8.getD default)).set (s1.1).toNat (((s1.2.2.set (s1.1).toNat (c8.getD default)).getD (s1.1).toNat 0) + (x1.getD (s1.1).toNat 0)))
        obtain ⟨⟨o1, o2, o3, o4⟩, hT⟩ := sIf hT
        refine rDrawM md0 1 [9] hX mixed rfl rfl rfl rfl rfl (by (repeat' first | exact True.intro | with_reducible assumption | (with_reducible apply And.intro) | intro _) <;> first | assumption | exact rfl | omega | exact Nat.le_of_ble_eq_true rfl | (simp only [inK] at *; omega) | (simp_all [sel] <;> fail) | fail) ?_
        refine rInNormal ?_
        refine rThen ?_
        obtain ⟨o1, hT⟩ := sIf hT
        refine rRegC md0 hX rfl rfl rfl (by (repeat' first | exact True.intro | with_reducible assumption | (with_reducible apply And.intro) | intro _) <;> first | assumption | exact rfl | omega | exact Nat.le_of_ble_eq_true rfl | (simp only [inK] at *; omega) | (simp_all [sel] <;> fail) | fail) ?_
        exact hnexts1 _ (Option.some.inj hT).symm _ (To.mk' [] 0 hε rfl (by repeat' first | exact True.intro | exact rfl | apply And.intro) (by repeat' first | exact True.intro | exact rfl | apply And.intro))
      · have hT := sF hc hT
        refine rExit ?_
        refine rThenExit ?_
        refine rThenExit ?_
        exact rTo (To.mk' [] 0 hε rfl (by repeat' first | exact True.intro | exact rfl | apply And.intro) (by repeat' first | exact True.intro | exact rfl | apply And.intro)) (hxs10 _ (houts1 _ (Option.some.inj hT).symm))
    · clear hT
      refine rCond rfl rfl (by repeat' first | exact True.intro | exact rfl | apply And.intro | omega | exact Nat.le_of_ble_eq_true rfl) (fun hc => ?_) (fun hc => ?_)
      · skip
        have q1 := q1 hc
        refine rRegC md0 hX rfl rfl rfl (by (repeat' first | exact True.intro | with_reducible assumption | (with_reducible apply And.intro) | intro _) <;> first | assumption | exact rfl | omega | exact Nat.le_of_ble_eq_true rfl | (simp only [inK] at *; omega) | (simp_all [sel] <;> fail) | fail) ?_
        exact rTo (To.mk' [] 0 hε rfl (by (repeat' first | exact True.intro | exact rfl | apply And.intro) <;> (repeat' first | exact rfl | refine Eq.trans ?_ (cTr (by assumption)) | refine Eq.trans ?_ (cFr (by assumption)))) (by (repeat' first | exact True.intro | exact rfl | apply And.intro) <;> (repeat' first | exact rfl | refine Eq.trans ?_ (cTr (by assumption)) | refine Eq.trans ?_ (cFr (by assumption))))) hj
      · skip
        refine rSkip ?_
        exact rTo (To.mk' [] 0 hε rfl (by (repeat' first | exact True.intro | exact rfl | apply And.intro) <;> (repeat' first | exact rfl | refine Eq.trans ?_ (cTr (by assumption)) | refine Eq.trans ?_ (cFr (by assumption)))) (by (repeat' first | exact True.intro | exact rfl | apply And.intro) <;> (repeat' first | exact rfl | refine Eq.trans ?_ (cTr (by assumption)) | refine Eq.trans ?_ (cFr (by assumption))))) hj
  · cases h
def law35_lives_b1 (N : Nat) (s1 : (Int × (List Int))) : Option ((Int × (List Int)) ⊕ (List Int)) :=
  bif (decide (s1.1 < 64)) then
    if (0 : Int) ≤ s1.1 ∧ s1.1 < 64 ∧ (s1.1).toNat < 64 then
      if inK .i64 (s1.1 + 1) then
        some (.inl ((s1.1 + 1), (s1.2.set (s1.1).toNat 10)))
      else none
    else none
  else
    some (.inr s1.2)
def law35_lives (N : Nat) : Option Bool :=
  (iter (law35_lives_b1 N) N (0, (List.replicate 64 0))).bind fun v1 =>
    let c1 := (feed_Block N ((List.replicate 64 0).set 0 3) (List.replicate 64 0) 5 10 false)
    let c2 := (feed_Block N (List.replicate 64 0) v1 1 5 false)
    let x1 := (bif (decide ((c1.getD default) = ((List.replicate 64 0).set 0 1))) then (decide ((c2.getD default) = ((List.replicate 64 0).set 0 7))) else false)
    if c1.isSome = true ∧ ((decide ((c1.getD default) = ((List.replicate 64 0).set 0 1))) = true → c2.isSome = true) then
      some x1
    else none
def sp_law35_lives (N : Nat) : X.Spec := fun args lk => match args with
  | [] => some ⟨(law35_lives N).isSome = true, .v (.c (.bool ((law35_lives N).getD default))), [], []⟩
  | _ => none
set_option maxRecDepth 100000 in
set_option maxHeartbeats 1000000 in
theorem ok_law35_lives (N : Nat) : FnOK Tryd.prog gt0 15 (sp_law35_lives N) := by
  refine fnOK_handed Tryd.func15 rfl (by kernel_rfl) tt_ok (ktCons (ok_feed_Block N) (ktNil)) ?_
  intro args lk r h hp
  unfold sp_law35_lives at h
  split at h
  · skip
    cases h
    obtain ⟨x, hx⟩ := Option.isSome_iff_exists.1 hp
    simp only [hx, Option.getD_some]
    refine hand0 rfl rfl (fun w0 M ε0 hX => ?_)
    refine rCount (fun hε => ?_)
    have hT := hx; clear hx hp
    refine rSeq ?_
    refine rRegC md0 hX rfl rfl rfl (by repeat' first | exact True.intro | exact rfl | apply And.intro | omega | exact Nat.le_of_ble_eq_true rfl) ?_
    refine rThen ?_
    refine rSeq ?_
    refine rRegC md0 hX rfl rfl rfl (by repeat' first | exact True.intro | exact rfl | apply And.intro | omega | exact Nat.le_of_ble_eq_true rfl) ?_
    refine rThen ?_
    refine rSeq ?_
    refine rSeq ?_
    refine rRegC md0 hX rfl rfl rfl (by repeat' first | exact True.intro | exact rfl | apply And.intro | omega | exact Nat.le_of_ble_eq_true rfl) ?_
    refine rThen ?_
    refine rBlock ?_
    obtain ⟨w1, hl, hT⟩ := sBind hT
    refine rJoinA (fun v1 => v1 = w1) (fun v1 => ⟨[(0, .v (.c (.bool false))), (1, .v (.c (.ptr 0 0 0 0 0 0)))], [(0, .mem true 22 none (.flat [.ints 64 .i64 v1]))], 1⟩) (.exit 0) (fun v1 hv => ?_) (fun hxs10 => ?_)
    · subst hv; clear hl
      refine rInHit ?_
      refine rThen ?_
      refine rSeq ?_
      let c1 := (feed_Block N ((List.replicate 64 0).set 0 3) (List.replicate 64 0) 5 10 false)
      let c2 := (feed_Block N (List.replicate 64 0) v1 1 5 false)
      let x1 := (bif (decide ((c1.getD default) = ((List.replicate 64 0).set 0 1))) then (decide ((c2.getD default) = ((List.replicate 64 0).set 0 7))) else false)
      obtain ⟨⟨o1, o2⟩, hT⟩ := sIf hT
      refine rRegC md0 hX rfl rfl rfl (by (repeat' first | exact True.intro | with_reducible assumption | (with_reducible apply And.intro) | intro _) <;> first | assumption | exact o2 (by assumption) | exact rfl | omega | exact Nat.le_of_ble_eq_true rfl | (simp only [inK] at *; omega) | (simp_all [sel] <;> fail) | fail) ?_
      refine rThen ?_
      refine rRet ?_
      obtain rfl := Option.some.inj hT
      exact rEnd0 hX rfl (by repeat' first | exact True.intro | exact rfl | apply And.intro | omega | exact Nat.le_of_ble_eq_true rfl) (by repeat' first | exact True.intro | exact rfl | apply And.intro) rfl rfl rfl rfl rfl
    refine rLoopM (law35_lives_b1 N) (fun s1 => ⟨[(0, .v (.c (.bool false))), (1, .v (.c (.ptr 0 0 0 0 0 0))), (2, .v (.c (.int .i64 s1.1)))], [(0, .mem true 22 none (.flat [.ints 64 .i64 s1.2]))], 1⟩) hl (To.mk' [] 0 hε rfl (by repeat' first | exact True.intro | exact rfl | apply And.intro) (by repeat' first | exact True.intro | exact rfl | apply And.intro)) (fun s1 zs1 NNs1 hz hnexts1 houts1 => ?_)
    clear hl hT
    have hT := hz; clear hz
    refine rSeq ?_
    refine rSeq ?_
    refine rRegC md0 hX rfl rfl rfl (by repeat' first | exact True.intro | exact rfl | apply And.intro | omega | exact Nat.le_of_ble_eq_true rfl) ?_
    refine rThen ?_
    refine rCond rfl rfl (by repeat' first | exact True.intro | exact rfl | apply And.intro | omega | exact Nat.le_of_ble_eq_true rfl) (fun hc => ?_) (fun hc => ?_)
    · have hT := sT hc hT
      refine rSkip ?_
      refine rThen ?_
      refine rSeq ?_
      refine rBlock ?_
      obtain ⟨⟨o1, o2, o3⟩, hT⟩ := sIf hT
      refine rRegC md0 hX rfl rfl rfl (by (repeat' first | exact True.intro | with_reducible assumption | (with_reducible apply And.intro) | intro _) <;> first | assumption | exact rfl | omega | exact Nat.le_of_ble_eq_true rfl | (simp only [inK] at *; omega) | (simp_all [sel] <;> fail) | fail) ?_
      refine rInNormal ?_
      refine rThen ?_
      obtain ⟨o1, hT⟩ := sIf hT
      refine rRegC md0 hX rfl rfl rfl (by (repeat' first | exact True.intro | with_reducible assumption | (with_reducible apply And.intro) | intro _) <;> first | assumption | exact rfl | omega | exact Nat.le_of_ble_eq_true rfl | (simp only [inK] at *; omega) | (simp_all [sel] <;> fail) | fail) ?_
      exact hnexts1 _ (Option.some.inj hT).symm _ (To.mk' [] 0 hε rfl (by repeat' first | exact True.intro | exact rfl | apply And.intro) (by repeat' first | exact True.intro | exact rfl | apply And.intro))
    · have hT := sF hc hT
      refine rExit ?_
      refine rThenExit ?_
      refine rThenExit ?_
      exact rTo (To.mk' [] 0 hε rfl (by repeat' first | exact True.intro | exact rfl | apply And.intro) (by repeat' first | exact True.intro | exact rfl | apply And.intro)) (hxs10 _ (houts1 _ (Option.some.inj hT).symm))
  · cases h
def law35_FeedBlocks (N : Nat) (a1 : (List Int)) (a2 : (List Int)) (a3 : Int) (a4 : Int) (a5 : Bool) : Option Bool :=
  let c1 := (feed_Block N a1 a2 a3 a4 a5)
  let c2 := (ref35_Block N a1 a2 a3 a4 a5)
  let c3 := (law35_lives N)
  if c1.isSome = true ∧ c2.isSome = true ∧ ((decide ((c1.getD default) = (c2.getD default))) = true → c3.isSome = true) then
    some (bif (decide ((c1.getD default) = (c2.getD default))) then (c3.getD default) else false)
  else none
def sp_law35_FeedBlocks (N : Nat) : X.Spec := fun args lk => match args with
  | [.v (.agg [.ints 64 .i64 a1, .ints 64 .i64 a2, .cs [.int .i64 a3, .int .i64 a4, .bool a5]])] => some ⟨(law35_FeedBlocks N a1 a2 a3 a4 a5).isSome = true, .v (.c (.bool ((law35_FeedBlocks N a1 a2 a3 a4 a5).getD default))), [], []⟩
  | _ => none
set_option maxRecDepth 100000 in
set_option maxHeartbeats 1000000 in
theorem ok_law35_FeedBlocks (N : Nat) : FnOK Tryd.prog gt0 3 (sp_law35_FeedBlocks N) := by
  refine fnOK_handed Tryd.func3 rfl (by kernel_rfl) tt_ok (ktCons (ok_law35_lives N) (ktCons (ok_ref35_Block N) (ktCons (ok_feed_Block N) (ktNil)))) ?_
  intro args lk r h hp
  unfold sp_law35_FeedBlocks at h
  split at h
  · rename_i a1 a2 a3 a4 a5
    cases h
    obtain ⟨x, hx⟩ := Option.isSome_iff_exists.1 hp
    simp only [hx, Option.getD_some]
    refine hand0 rfl rfl (fun w0 M ε0 hX => ?_)
    refine rCount (fun hε => ?_)
    have hT := hx; clear hx hp
    refine rSeq ?_
    refine rRegC md0 hX rfl rfl rfl (by repeat' first | exact True.intro | exact rfl | apply And.intro | omega | exact Nat.le_of_ble_eq_true rfl) ?_
    refine rThen ?_
    refine rSeq ?_
    let c1 := (feed_Block N a1 a2 a3 a4 a5)
    let c2 := (ref35_Block N a1 a2 a3 a4 a5)
    let c3 := (law35_lives N)
    obtain ⟨⟨o1, o2, o3⟩, hT⟩ := sIf hT
    refine rDrawM md0 0 [] hX mixed rfl rfl rfl rfl rfl (by (repeat' first | exact True.intro | with_reducible assumption | (with_reducible apply And.intro) | intro _) <;> first | assumption | exact o3 (by assumption) | exact rfl | omega | exact Nat.le_of_ble_eq_true rfl | (simp only [inK] at *; omega) | (simp_all [sel] <;> fail) | fail) ?_
    refine rThen ?_
    refine rRet ?_
    obtain rfl := Option.some.inj hT
    exact rEnd0 hX rfl (by repeat' first | exact True.intro | exact rfl | apply And.intro | omega | exact Nat.le_of_ble_eq_true rfl) (by repeat' first | exact True.intro | exact rfl | apply And.intro) rfl rfl rfl rfl rfl
  · cases h
def law35_FeedLess_b1 (N : Nat) (a3 : Bool) (v1 : (List Int)) (c2 : (Option (List Int))) (s2 : Int) : Option (Int ⊕ (Unit ⊕ Unit)) :=
  bif (decide (s2 < 64)) then
    let x1 := (max ((bif a3 then (v1.set 0 0) else v1).getD (s2).toNat 0) (-((bif a3 then (v1.set 0 0) else v1).getD (s2).toNat 0)))
    let x2 := (decide ((max ((bif a3 then (v1.set 0 0) else v1).getD (s2).toNat 0) (-((bif a3 then (v1.set 0 0) else v1).getD (s2).toNat 0))) < (max ((c2.getD default).getD (s2).toNat 0) (-((c2.getD default).getD (s2).toNat 0)))))
    let x3 := (!(decide ((max ((bif a3 then (v1.set 0 0) else v1).getD (s2).toNat 0) (-((bif a3 then (v1.set 0 0) else v1).getD (s2).toNat 0))) < (max ((c2.getD default).getD (s2).toNat 0) (-((c2.getD default).getD (s2).toNat 0))))))
    let x4 := ((!(decide ((max ((bif a3 then (v1.set 0 0) else v1).getD (s2).toNat 0) (-((bif a3 then (v1.set 0 0) else v1).getD (s2).toNat 0))) < (max ((c2.getD default).getD (s2).toNat 0) (-((c2.getD default).getD (s2).toNat 0)))))) && (decide (((bif a3 then (v1.set 0 0) else v1).getD (s2).toNat 0) = 0)))
    let x5 := (bif (decide (((bif a3 then (v1.set 0 0) else v1).getD (s2).toNat 0) = 0)) then (decide (((c2.getD default).getD (s2).toNat 0) ≠ 0)) else false)
    let x6 := (bif (decide ((max ((bif a3 then (v1.set 0 0) else v1).getD (s2).toNat 0) (-((bif a3 then (v1.set 0 0) else v1).getD (s2).toNat 0))) < (max ((c2.getD default).getD (s2).toNat 0) (-((c2.getD default).getD (s2).toNat 0))))) then true else (bif (decide (((bif a3 then (v1.set 0 0) else v1).getD (s2).toNat 0) = 0)) then (decide (((c2.getD default).getD (s2).toNat 0) ≠ 0)) else false))
    if (0 : Int) ≤ s2 ∧ s2 < 64 ∧ (s2).toNat < 64 ∧ inK .i64 (-((c2.getD default).getD (s2).toNat 0)) ∧ inK .i64 (-((bif a3 then (v1.set 0 0) else v1).getD (s2).toNat 0)) ∧ ((!(decide ((max ((bif a3 then (v1.set 0 0) else v1).getD (s2).toNat 0) (-((bif a3 then (v1.set 0 0) else v1).getD (s2).toNat 0))) < (max ((c2.getD default).getD (s2).toNat 0) (-((c2.getD default).getD (s2).toNat 0)))))) = true → (0 : Int) ≤ s2) ∧ ((!(decide ((max ((bif a3 then (v1.set 0 0) else v1).getD (s2).toNat 0) (-((bif a3 then (v1.set 0 0) else v1).getD (s2).toNat 0))) < (max ((c2.getD default).getD (s2).toNat 0) (-((c2.getD default).getD (s2).toNat 0)))))) = true → s2 < 64) ∧ ((!(decide ((max ((bif a3 then (v1.set 0 0) else v1).getD (s2).toNat 0) (-((bif a3 then (v1.set 0 0) else v1).getD (s2).toNat 0))) < (max ((c2.getD default).getD (s2).toNat 0) (-((c2.getD default).getD (s2).toNat 0)))))) = true → (s2).toNat < 64) ∧ (((!(decide ((max ((bif a3 then (v1.set 0 0) else v1).getD (s2).toNat 0) (-((bif a3 then (v1.set 0 0) else v1).getD (s2).toNat 0))) < (max ((c2.getD default).getD (s2).toNat 0) (-((c2.getD default).getD (s2).toNat 0)))))) && (decide (((bif a3 then (v1.set 0 0) else v1).getD (s2).toNat 0) = 0))) = true → (0 : Int) ≤ s2) ∧ (((!(decide ((max ((bif a3 then (v1.set 0 0) else v1).getD (s2).toNat 0) (-((bif a3 then (v1.set 0 0) else v1).getD (s2).toNat 0))) < (max ((c2.getD default).getD (s2).toNat 0) (-((c2.getD default).getD (s2).toNat 0)))))) && (decide (((bif a3 then (v1.set 0 0) else v1).getD (s2).toNat 0) = 0))) = true → s2 < 64) ∧ (((!(decide ((max ((bif a3 then (v1.set 0 0) else v1).getD (s2).toNat 0) (-((bif a3 then (v1.set 0 0) else v1).getD (s2).toNat 0))) < (max ((c2.getD default).getD (s2).toNat 0) (-((c2.getD default).getD (s2).toNat 0)))))) && (decide (((bif a3 then (v1.set 0 0) else v1).getD (s2).toNat 0) = 0))) = true → (s2).toNat < 64) ∧ ((!(decide ((max ((bif a3 then (v1.set 0 0) else v1).getD (s2).toNat 0) (-((bif a3 then (v1.set 0 0) else v1).getD (s2).toNat 0))) < (max ((c2.getD default).getD (s2).toNat 0) (-((c2.getD default).getD (s2).toNat 0)))))) = true → ((decide (((bif a3 then (v1.set 0 0) else v1).getD (s2).toNat 0) = 0)) = true → ((!(decide ((max ((bif a3 then (v1.set 0 0) else v1).getD (s2).toNat 0) (-((bif a3 then (v1.set 0 0) else v1).getD (s2).toNat 0))) < (max ((c2.getD default).getD (s2).toNat 0) (-((c2.getD default).getD (s2).toNat 0)))))) && (decide (((bif a3 then (v1.set 0 0) else v1).getD (s2).toNat 0) = 0))) = true)) then
      bif x6 then
        some (.inr (Sum.inl ()))
      else
        if inK .i64 (s2 + 1) then
          some (.inl (s2 + 1))
        else none
    else none
  else
    some (.inr (Sum.inr ()))
def law35_FeedLess_b2 (N : Nat) (s1 : (Int × (List Int))) : Option ((Int × (List Int)) ⊕ (List Int)) :=
  bif (decide (s1.1 < 64)) then
    if (0 : Int) ≤ s1.1 ∧ s1.1 < 64 ∧ (s1.1).toNat < 64 then
      if inK .i64 (s1.1 + 1) then
        some (.inl ((s1.1 + 1), (s1.2.set (s1.1).toNat (min (max (s1.2.getD (s1.1).toNat 0) ((-127) : Int)) (127 : Int)))))
      else none
    else none
  else
    some (.inr s1.2)
def law35_FeedLess (N : Nat) (a1 : (List Int)) (a2 : (List Int)) (a3 : Bool) : Option Bool :=
  if inK .i64 (a2.getD 0 0) ∧ (0 : Int) ≤ (a2.getD 0 0) ∧ inK .i64 ((1 : Int) + ((a2.getD 0 0) % 31)) ∧ inK .i64 (a2.getD 1 0) ∧ (0 : Int) ≤ (a2.getD 1 0) ∧ inK .i64 ((1 : Int) + ((a2.getD 1 0) % 31)) then
    (iter (law35_FeedLess_b2 N) N (0, a1)).bind fun v1 =>
      let c1 := (feed_Block N (bif a3 then (v1.set 0 0) else v1) (List.replicate 64 0) ((1 : Int) + ((a2.getD 0 0) % 31)) ((1 : Int) + ((a2.getD 0 0) % 31)) a3)
      if c1.isSome = true then
        bif (!(decide ((c1.getD default) = (bif a3 then (v1.set 0 0) else v1)))) then
          some false
        else
          let c2 := (feed_Block N (bif a3 then (v1.set 0 0) else v1) (List.replicate 64 0) (min ((1 : Int) + ((a2.getD 0 0) % 31)) ((1 : Int) + ((a2.getD 1 0) % 31))) (max ((1 : Int) + ((a2.getD 0 0) % 31)) ((1 : Int) + ((a2.getD 1 0) % 31))) a3)
          if c2.isSome = true then
            (iter (law35_FeedLess_b1 N a3 v1 c2) N 0).bind fun w2 =>
              (Sum.elim (fun v2 =>
                some false
              )
                (fun v3 =>
                  let c3 := (law35_lives N)
                  if c3.isSome = true then
                    some (c3.getD default)
                  else none
                )
              ) w2
          else none
      else none
  else none
def sp_law35_FeedLess (N : Nat) : X.Spec := fun args lk => match args with
  | [.v (.agg [.ints 64 .i64 a1]), .v (.agg [.ints 2 .u8 a2]), .v (.c (.bool a3))] => some ⟨(law35_FeedLess N a1 a2 a3).isSome = true, .v (.c (.bool ((law35_FeedLess N a1 a2 a3).getD default))), [], []⟩
  | _ => none
set_option maxRecDepth 100000 in
set_option maxHeartbeats 1000000 in
theorem ok_law35_FeedLess (N : Nat) : FnOK Tryd.prog gt0 4 (sp_law35_FeedLess N) := by
  refine fnOK_handed Tryd.func4 rfl (by kernel_rfl) tt_ok (ktCons (ok_law35_lives N) (ktCons (ok_feed_Block N) (ktNil))) ?_
  intro args lk r h hp
  unfold sp_law35_FeedLess at h
  split at h
  · rename_i a1 a2 a3
    cases h
    obtain ⟨x, hx⟩ := Option.isSome_iff_exists.1 hp
    simp only [hx, Option.getD_some]
    refine hand0 rfl rfl (fun w0 M ε0 hX => ?_)
    refine rCount (fun hε => ?_)
    have hT := hx; clear hx hp
    refine rSeq ?_
    refine rRegC md0 hX rfl rfl rfl (by repeat' first | exact True.intro | exact rfl | apply And.intro | omega | exact Nat.le_of_ble_eq_true rfl) ?_
    refine rThen ?_
    refine rSeq ?_
    obtain ⟨⟨o1, o2, o3, o4, o5, o6⟩, hT⟩ := sIf hT
    refine rDrawM md0 0 [] hX mixed rfl rfl rfl rfl rfl (by (repeat' first | exact True.intro | with_reducible assumption | (with_reducible apply And.intro) | intro _) <;> first | assumption | exact rfl | omega | exact Nat.le_of_ble_eq_true rfl | (simp only [inK] at *; omega) | (simp_all [sel] <;> fail) | fail) ?_
    refine rThen ?_
    refine rSeq ?_
    refine rSeq ?_
    refine rRegC md0 hX rfl rfl rfl (by repeat' first | exact True.intro | exact rfl | apply And.intro | omega | exact Nat.le_of_ble_eq_true rfl) ?_
    refine rThen ?_
    refine rBlock ?_
    obtain ⟨w1, hl, hT⟩ := sBind hT
    refine rJoinA (fun v1 => v1 = w1) (fun v1 => ⟨[(2, .v (.c (.bool a3))), (3, .v (.c (.ptr 0 0 0 0 0 0))), (6, .v (.c (.bool false))), (7, .v (.c (.int .i64 ((1 : Int) + ((a2.getD 0 0) % 31))))), (8, .v (.c (.int .i64 ((1 : Int) + ((a2.getD 1 0) % 31)))))], [(0, .mem true 22 none (.flat [.ints 64 .i64 v1]))], 2⟩) (.exit 0) (fun v1 hv => ?_) (fun hxs10 => ?_)
    · subst hv; clear hl
      refine rInHit ?_
      refine rThen ?_
      refine rSeq ?_
      refine rSeq ?_
      refine rRegC md0 hX rfl rfl rfl (by repeat' first | exact True.intro | exact rfl | apply And.intro | omega | exact Nat.le_of_ble_eq_true rfl) ?_
      refine rThen ?_
      refine rJoin ⟨[(2, .v (.c (.bool a3))), (3, .v (.c (.ptr 0 0 0 0 0 0))), (6, .v (.c (.bool false))), (7, .v (.c (.int .i64 ((1 : Int) + ((a2.getD 0 0) % 31))))), (8, .v (.c (.int .i64 ((1 : Int) + ((a2.getD 1 0) % 31)))))], [(0, .mem true 22 none (.flat [.ints 64 .i64 (bif a3 then (v1.set 0 0) else v1)]))], 2⟩ ?_ (fun hj => ?_)
      · skip
        refine rThen ?_
        refine rSeq ?_
        refine rSeq ?_
        let c1 := (feed_Block N (bif a3 then (v1.set 0 0) else v1) (List.replicate 64 0) ((1 : Int) + ((a2.getD 0 0) % 31)) ((1 : Int) + ((a2.getD 0 0) % 31)) a3)
        obtain ⟨o1, hT⟩ := sIf hT
        refine rDrawM md0 0 [] hX mixed rfl rfl rfl rfl rfl (by (repeat' first | exact True.intro | with_reducible assumption | (with_reducible apply And.intro) | intro _) <;> first | assumption | exact rfl | omega | exact Nat.le_of_ble_eq_true rfl | (simp only [inK] at *; omega) | (simp_all [sel] <;> fail) | fail) ?_
        refine rThen ?_
        refine rCond rfl rfl (by repeat' first | exact True.intro | exact rfl | apply And.intro | omega | exact Nat.le_of_ble_eq_true rfl) (fun hc => ?_) (fun hc => ?_)
        · have hT := sT hc hT
          refine rSeq ?_
          refine rRegC md0 hX rfl rfl rfl (by repeat' first | exact True.intro | exact rfl | apply And.intro | omega | exact Nat.le_of_ble_eq_true rfl) ?_
          refine rThen ?_
          refine rRet ?_
          refine rThenRet ?_
          obtain rfl := Option.some.inj hT
          exact rEnd0 hX rfl (by repeat' first | exact True.intro | exact rfl | apply And.intro | omega | exact Nat.le_of_ble_eq_true rfl) (by repeat' first | exact True.intro | exact rfl | apply And.intro) rfl rfl rfl rfl rfl
        · have hT := sF hc hT
          refine rSkip ?_
          refine rThen ?_
          refine rSeq ?_
          let c2 := (feed_Block N (bif a3 then (v1.set 0 0) else v1) (List.replicate 64 0) (min ((1 : Int) + ((a2.getD 0 0) % 31)) ((1 : Int) + ((a2.getD 1 0) % 31))) (max ((1 : Int) + ((a2.getD 0 0) % 31)) ((1 : Int) + ((a2.getD 1 0) % 31))) a3)
          obtain ⟨o1, hT⟩ := sIf hT
          refine rRegC md0 hX rfl rfl rfl (by (repeat' first | exact True.intro | with_reducible assumption | (with_reducible apply And.intro) | intro _) <;> first | assumption | exact rfl | omega | exact Nat.le_of_ble_eq_true rfl | (simp only [inK] at *; omega) | (simp_all [sel] <;> fail) | fail) ?_
          refine rThen ?_
          refine rSeq ?_
          refine rSeq ?_
          refine rRegC md0 hX rfl rfl rfl (by repeat' first | exact True.intro | exact rfl | apply And.intro | omega | exact Nat.le_of_ble_eq_true rfl) ?_
          refine rThen ?_
          refine rBlock ?_
          obtain ⟨w2, hl, hT⟩ := sBind hT
          refine rJoinA (fun v2 => (Sum.inl v2) = w2) (fun v2 => ⟨[(6, .v (.c (.bool false)))], [], 3⟩) .ret (fun v2 hv => ?_) (fun hxs20 => ?_)
          · subst hv; clear hl; replace hT := (sElimL hT)
            refine rInRet ?_
            refine rThenRet ?_
            obtain rfl := Option.some.inj hT
            exact rEnd0 hX rfl (by repeat' first | exact True.intro | exact rfl | apply And.intro | omega | exact Nat.le_of_ble_eq_true rfl) (by repeat' first | exact True.intro | exact rfl | apply And.intro) rfl rfl rfl rfl rfl
          refine rJoinA (fun v3 => (Sum.inr v3) = w2) (fun v3 => ⟨[(6, .v (.c (.bool false)))], [], 3⟩) (.exit 2) (fun v3 hv => ?_) (fun hxs21 => ?_)
          · subst hv; clear hl; replace hT := (sElimR hT)
            refine rInHit ?_
            refine rThen ?_
            refine rSeq ?_
            let c3 := (law35_lives N)
            obtain ⟨o1, hT⟩ := sIf hT
            refine rRegC md0 hX rfl rfl rfl (by (repeat' first | exact True.intro | with_reducible assumption | (with_reducible apply And.intro) | intro _) <;> first | assumption | exact rfl | omega | exact Nat.le_of_ble_eq_true rfl | (simp only [inK] at *; omega) | (simp_all [sel] <;> fail) | fail) ?_
            refine rThen ?_
            refine rRet ?_
            obtain rfl := Option.some.inj hT
            exact rEnd0 hX rfl (by repeat' first | exact True.intro | exact rfl | apply And.intro | omega | exact Nat.le_of_ble_eq_true rfl) (by repeat' first | exact True.intro | exact rfl | apply And.intro) rfl rfl rfl rfl rfl
          refine rLoopM (law35_FeedLess_b1 N a3 v1 c2) (fun s2 => ⟨[(3, .v (.c (.ptr 0 0 0 0 0 0))), (6, .v (.c (.bool false))), (10, .v (.c (.ptr 2 0 0 0 0 0))), (11, .v (.c (.int .i64 s2)))], [(0, .mem true 22 none (.flat [.ints 64 .i64 (bif a3 then (v1.set 0 0) else v1)])), (2, .mem true 22 none (.flat [.ints 64 .i64 (c2.getD default)]))], 3⟩) hl (To.mk' [] 0 hε rfl (by repeat' first | exact True.intro | exact rfl | apply And.intro) (by repeat' first | exact True.intro | exact rfl | apply And.intro)) (fun s2 zs2 NNs2 hz hnexts2 houts2 => ?_)
          clear hl hT
          have hT := hz; clear hz
          refine rSeq ?_
          refine rSeq ?_
          refine rRegC md0 hX rfl rfl rfl (by repeat' first | exact True.intro | exact rfl | apply And.intro | omega | exact Nat.le_of_ble_eq_true rfl) ?_
          refine rThen ?_
          refine rCond rfl rfl (by repeat' first | exact True.intro | exact rfl | apply And.intro | omega | exact Nat.le_of_ble_eq_true rfl) (fun hc => ?_) (fun hc => ?_)
          · have hT := sT hc hT
            refine rSkip ?_
            refine rThen ?_
            refine rSeq ?_
            refine rBlock ?_
            refine rSeq ?_
            let x1 := (max ((bif a3 then (v1.set 0 0) else v1).getD (s2).toNat 0) (-((bif a3 then (v1.set 0 0) else v1).getD (s2).toNat 0)))
            let x2 := (decide ((max ((bif a3 then (v1.set 0 0) else v1).getD (s2).toNat 0) (-((bif a3 then (v1.set 0 0) else v1).getD (s2).toNat 0))) < (max ((c2.getD default).getD (s2).toNat 0) (-((c2.getD default).getD (s2).toNat 0)))))
            let x3 := (!(decide ((max ((bif a3 then (v1.set 0 0) else v1).getD (s2).toNat 0) (-((bif a3 then (v1.set 0 0) else v1).getD (s2).toNat 0))) < (max ((c2.getD default).getD (s2).toNat 0) (-((c2.getD default).getD (s2).toNat 0))))))
            let x4 := ((!(decide ((max ((bif a3 then (v1.set 0 0) else v1).getD (s2).toNat 0) (-((bif a3 then (v1.set 0 0) else v1).getD (s2).toNat 0))) < (max ((c2.getD default).getD (s2).toNat 0) (-((c2.getD default).getD (s2).toNat 0)))))) && (decide (((bif a3 then (v1.set 0 0) else v1).getD (s2).toNat 0) = 0)))
            let x5 := (bif (decide (((bif a3 then (v1.set 0 0) else v1).getD (s2).toNat 0) = 0)) then (decide (((c2.getD default).getD (s2).toNat 0) ≠ 0)) else false)
            let x6 := (bif (decide ((max ((bif a3 then (v1.set 0 0) else v1).getD (s2).toNat 0) (-((bif a3 then (v1.set 0 0) else v1).getD (s2).toNat 0))) < (max ((c2.getD default).getD (s2).toNat 0) (-((c2.getD default).getD (s2).toNat 0))))) then true else (bif (decide (((bif a3 then (v1.set 0 0) else v1).getD (s2).toNat 0) = 0)) then (decide (((c2.getD default).getD (s2).toNat 0) ≠ 0)) else false))
            obtain ⟨⟨o1, o2, o3, o4, o5, o6, o7, o8, o9, o10, o11, o12⟩, hT⟩ := sIf hT
            refine rDrawM md0 0 [] hX mixed rfl rfl rfl rfl rfl (by (repeat' first | exact True.intro | with_reducible assumption | (with_reducible apply And.intro) | intro _) <;> first | assumption | exact o6 (by assumption) | exact o7 (by assumption) | exact o8 (by assumption) | exact o9 (by assumption) | exact o10 (by assumption) | exact o11 (by assumption) | exact o12 (by assumption) | exact rfl | omega | exact Nat.le_of_ble_eq_true rfl | (simp only [inK] at *; omega) | (simp_all [sel] <;> fail) | fail) ?_
            refine rThen ?_
            refine rCond rfl rfl (by repeat' first | exact True.intro | exact rfl | apply And.intro | omega | exact Nat.le_of_ble_eq_true rfl) (fun hc => ?_) (fun hc => ?_)
            · have hT := sT hc hT
              refine rSeq ?_
              refine rRegC md0 hX rfl rfl rfl (by repeat' first | exact True.intro | exact rfl | apply And.intro | omega | exact Nat.le_of_ble_eq_true rfl) ?_
              refine rThen ?_
              refine rRet ?_
              refine rInRet ?_
              refine rThenRet ?_
              refine rThenRet ?_
              exact rTo (To.mk' [] 0 hε rfl (by repeat' first | exact True.intro | exact rfl | apply And.intro) (by repeat' first | exact True.intro | exact rfl | apply And.intro)) (hxs20 _ (houts2 _ (Option.some.inj hT).symm))
            · have hT := sF hc hT
              refine rSkip ?_
              refine rInNormal ?_
              refine rThen ?_
              obtain ⟨o1, hT⟩ := sIf hT
              refine rRegC md0 hX rfl rfl rfl (by (repeat' first | exact True.intro | with_reducible assumption | (with_reducible apply And.intro) | intro _) <;> first | assumption | exact rfl | omega | exact Nat.le_of_ble_eq_true rfl | (simp only [inK] at *; omega) | (simp_all [sel] <;> fail) | fail) ?_
              exact hnexts2 _ (Option.some.inj hT).symm _ (To.mk' [] 0 hε rfl (by repeat' first | exact True.intro | exact rfl | apply And.intro) (by repeat' first | exact True.intro | exact rfl | apply And.intro))
          · have hT := sF hc hT
            refine rExit ?_
            refine rThenExit ?_
            refine rThenExit ?_
            exact rTo (To.mk' [] 0 hε rfl (by repeat' first | exact True.intro | exact rfl | apply And.intro) (by repeat' first | exact True.intro | exact rfl | apply And.intro)) (hxs21 _ (houts2 _ (Option.some.inj hT).symm))
      · clear hT
        refine rCond rfl rfl (by repeat' first | exact True.intro | exact rfl | apply And.intro | omega | exact Nat.le_of_ble_eq_true rfl) (fun hc => ?_) (fun hc => ?_)
        · skip
          refine rRegC md0 hX rfl rfl rfl (by repeat' first | exact True.intro | exact rfl | apply And.intro | omega | exact Nat.le_of_ble_eq_true rfl) ?_
          exact rTo (To.mk' [] 0 hε rfl (by (repeat' first | exact True.intro | exact rfl | apply And.intro) <;> (repeat' first | exact rfl | refine Eq.trans ?_ (cTr (by assumption)) | refine Eq.trans ?_ (cFr (by assumption)))) (by (repeat' first | exact True.intro | exact rfl | apply And.intro) <;> (repeat' first | exact rfl | refine Eq.trans ?_ (cTr (by assumption)) | refine Eq.trans ?_ (cFr (by assumption))))) hj
        · skip
          refine rSkip ?_
          exact rTo (To.mk' [] 0 hε rfl (by (repeat' first | exact True.intro | exact rfl | apply And.intro) <;> (repeat' first | exact rfl | refine Eq.trans ?_ (cTr (by assumption)) | refine Eq.trans ?_ (cFr (by assumption)))) (by (repeat' first | exact True.intro | exact rfl | apply And.intro) <;> (repeat' first | exact rfl | refine Eq.trans ?_ (cTr (by assumption)) | refine Eq.trans ?_ (cFr (by assumption))))) hj
    refine rLoopM (law35_FeedLess_b2 N) (fun s1 => ⟨[(2, .v (.c (.bool a3))), (3, .v (.c (.ptr 0 0 0 0 0 0))), (6, .v (.c (.bool false))), (7, .v (.c (.int .i64 ((1 : Int) + ((a2.getD 0 0) % 31))))), (8, .v (.c (.int .i64 ((1 : Int) + ((a2.getD 1 0) % 31))))), (9, .v (.c (.int .i64 s1.1)))], [(0, .mem true 22 none (.flat [.ints 64 .i64 s1.2]))], 2⟩) hl (To.mk' [] 0 hε rfl (by repeat' first | exact True.intro | exact rfl | apply And.intro) (by repeat' first | exact True.intro | exact rfl | apply And.intro)) (fun s1 zs1 NNs1 hz hnexts1 houts1 => ?_)
    clear hl hT
    have hT := hz; clear hz
    refine rSeq ?_
    refine rSeq ?_
    refine rRegC md0 hX rfl rfl rfl (by repeat' first | exact True.intro | exact rfl | apply And.intro | omega | exact Nat.le_of_ble_eq_true rfl) ?_
    refine rThen ?_
    refine rCond rfl rfl (by repeat' first | exact True.intro | exact rfl | apply And.intro | omega | exact Nat.le_of_ble_eq_true rfl) (fun hc => ?_) (fun hc => ?_)
    · have hT := sT hc hT
      refine rSkip ?_
      refine rThen ?_
      refine rSeq ?_
      refine rBlock ?_
      obtain ⟨⟨o1, o2, o3⟩, hT⟩ := sIf hT
      refine rRegC md0 hX rfl rfl rfl (by (repeat' first | exact True.intro | with_reducible assumption | (with_reducible apply And.intro) | intro _) <;> first | assumption | exact rfl | omega | exact Nat.le_of_ble_eq_true rfl | (simp only [inK] at *; omega) | (simp_all [sel] <;> fail) | fail) ?_
      refine rInNormal ?_
      refine rThen ?_
      obtain ⟨o1, hT⟩ := sIf hT
      refine rRegC md0 hX rfl rfl rfl (by (repeat' first | exact True.intro | with_reducible assumption | (with_reducible apply And.intro) | intro _) <;> first | assumption | exact rfl | omega | exact Nat.le_of_ble_eq_true rfl | (simp only [inK] at *; omega) | (simp_all [sel] <;> fail) | fail) ?_
      exact hnexts1 _ (Option.some.inj hT).symm _ (To.mk' [] 0 hε rfl (by repeat' first | exact True.intro | exact rfl | apply And.intro) (by repeat' first | exact True.intro | exact rfl | apply And.intro))
    · have hT := sF hc hT
      refine rExit ?_
      refine rThenExit ?_
      refine rThenExit ?_
      exact rTo (To.mk' [] 0 hε rfl (by repeat' first | exact True.intro | exact rfl | apply And.intro) (by repeat' first | exact True.intro | exact rfl | apply And.intro)) (hxs10 _ (houts1 _ (Option.some.inj hT).symm))
  · cases h

end Go.Proofs.YtkfaebbbjahcpaaDoor
