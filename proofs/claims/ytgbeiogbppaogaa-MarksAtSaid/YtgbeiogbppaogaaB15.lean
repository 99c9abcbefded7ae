/- Laws of marks. -/
import Derived.Test.YtgbeiogbppaogaaB14
set_option linter.unusedVariables false
set_option linter.unusedSimpArgs false
namespace Go.Proofs.Ytgbeiogbppaogaa
open Go.X

set_option maxRecDepth 100000 in
set_option maxHeartbeats 4000000 in
theorem okLives04 : FnOK Try.prog gt0 38 (spTrue) := by
  refine fnOK_handed Try.func38 rfl (by kernel_rfl) tt_ok (ktCons okMAt (ktCons okZeros (ktNil))) ?_
  intro args lk r h hp
  unfold spTrue at h
  split at h
  · skip
    cases h
    refine hand0 rfl rfl (fun w0 M ε0 hX => ?_)
    have e1 : mkV (tb ⟨#[0, 0, 128]⟩) 0 = 0 := by decide +kernel
    have e2 : mkE (tb ⟨#[0, 0, 128]⟩) 0 = 0 := by decide +kernel
    have e3 : mkE (tb ⟨#[0, 0, 128]⟩) 8 = 2 := by decide +kernel
    have e4 : zeroN (tb ⟨#[0, 0, 128]⟩) 0 = 16 := by decide +kernel
    all_goals repeat' first
      | with_reducible refine rSeq ?_
      | with_reducible refine rThen ?_
      | with_reducible refine rBlock ?_
      | with_reducible refine rThenRet ?_
      | with_reducible refine rThenExit ?_
      | with_reducible refine rInRet ?_
      | with_reducible refine rInNormal ?_
      | with_reducible refine rInHit ?_
      | with_reducible refine rInMiss rfl ?_
      | with_reducible refine rRet ?_
      | with_reducible refine rExit ?_
      | with_reducible refine rSkip ?_
      | with_reducible refine rLabel ?_
      | with_reducible refine rScope ?_
      | with_reducible refine rNoGotoRet ?_
      | with_reducible refine rNoGotoNormal ?_
      | (with_reducible show SW _ (Code.region _ _ false) _ _ _); refine rRegC md0 hX rfl rfl rfl (by first | (first | exact True.intro | ((repeat' first | refine And.intro ?_ ?_ | intro _) <;> first | exact True.intro | (with_reducible exact rfl) | (with_reducible assumption) | omega | (simp only [sel, inK, segsOf, widthL, S0.width, List.cons_append, List.nil_append, List.length_cons, List.length_nil, Int.one_mul, implies_true, imp_self, btL, blL, bsL, ne_eq] <;> omega) | (simp only [sel, inK, segsOf, widthL, S0.width, List.cons_append, List.nil_append, List.length_cons, List.length_nil, Int.one_mul, implies_true, imp_self, btL, blL, bsL, ne_eq] at *; omega) | (simp only [sel, bsL, ne_eq] at *; simp_all <;> fail) | (simp [sel, segsOf, List.cons_append, List.nil_append, widthL, S0.width] <;> fail) | (simp only [ByteArray.size, List.size_toArray, List.length_cons, List.length_nil] <;> omega))) | fail) ?_
      | (with_reducible show SW _ (Code.region _ _ true) _ _ _); refine rDrawC md0 hX mixed rfl rfl rfl rfl (by first | (first | exact True.intro | ((repeat' first | refine And.intro ?_ ?_ | intro _) <;> first | exact True.intro | (with_reducible exact rfl) | (with_reducible assumption) | omega | (simp only [sel, inK, segsOf, widthL, S0.width, List.cons_append, List.nil_append, List.length_cons, List.length_nil, Int.one_mul, implies_true, imp_self, btL, blL, bsL, ne_eq] <;> omega) | (simp only [sel, inK, segsOf, widthL, S0.width, List.cons_append, List.nil_append, List.length_cons, List.length_nil, Int.one_mul, implies_true, imp_self, btL, blL, bsL, ne_eq] at *; omega) | (simp only [sel, bsL, ne_eq] at *; simp_all <;> fail) | (simp [sel, segsOf, List.cons_append, List.nil_append, widthL, S0.width] <;> fail) | (simp only [ByteArray.size, List.size_toArray, List.length_cons, List.length_nil] <;> omega))) | fail) ?_
      | (with_reducible show SW _ (Code.region _ _ true) _ _ _); refine rDrawSC md0 hX mixed rfl rfl rfl rfl rfl (by first | (first | exact True.intro | ((repeat' first | refine And.intro ?_ ?_ | intro _) <;> first | exact True.intro | (with_reducible exact rfl) | (with_reducible assumption) | omega | (simp only [sel, inK, segsOf, widthL, S0.width, List.cons_append, List.nil_append, List.length_cons, List.length_nil, Int.one_mul, implies_true, imp_self, btL, blL, bsL, ne_eq] <;> omega) | (simp only [sel, inK, segsOf, widthL, S0.width, List.cons_append, List.nil_append, List.length_cons, List.length_nil, Int.one_mul, implies_true, imp_self, btL, blL, bsL, ne_eq] at *; omega) | (simp only [sel, bsL, ne_eq] at *; simp_all <;> fail) | (simp [sel, segsOf, List.cons_append, List.nil_append, widthL, S0.width] <;> fail) | (simp only [ByteArray.size, List.size_toArray, List.length_cons, List.length_nil] <;> omega))) | fail) ?_
      | (with_reducible show SW _ (Code.cond _ _ _) _ _ _); (refine rCond rfl rfl (by first | (first | exact True.intro | ((repeat' first | refine And.intro ?_ ?_ | intro _) <;> first | exact True.intro | (with_reducible exact rfl) | (with_reducible assumption) | omega | (simp only [sel, inK, segsOf, widthL, S0.width, List.cons_append, List.nil_append, List.length_cons, List.length_nil, Int.one_mul, implies_true, imp_self, btL, blL, bsL, ne_eq] <;> omega) | (simp only [sel, inK, segsOf, widthL, S0.width, List.cons_append, List.nil_append, List.length_cons, List.length_nil, Int.one_mul, implies_true, imp_self, btL, blL, bsL, ne_eq] at *; omega) | (simp only [sel, bsL, ne_eq] at *; simp_all <;> fail) | (simp [sel, segsOf, List.cons_append, List.nil_append, widthL, S0.width] <;> fail) | (simp only [ByteArray.size, List.size_toArray, List.length_cons, List.length_nil] <;> omega))) | fail) (fun h => ?_) (fun h => ?_) <;> (try (exact absurd h (by decide))) <;> (try simp only [blL, bsL, ne_eq] at h) <;> (try (exact absurd ‹_› ‹_›)))
      | (with_reducible show SQ _ (Post _ _ _ _ _ _ _) .normal _ _); with_reducible refine rNormal ?_
      | (with_reducible show SQ _ (Post _ _ _ _ _ _ _) .ret _ _); refine rDone hX rfl (by first | (first | exact True.intro | ((repeat' first | refine And.intro ?_ ?_ | intro _) <;> first | exact True.intro | (with_reducible exact rfl) | (with_reducible assumption) | omega | (simp only [sel, inK, segsOf, widthL, S0.width, List.cons_append, List.nil_append, List.length_cons, List.length_nil, Int.one_mul, implies_true, imp_self, btL, blL, bsL, ne_eq] <;> omega) | (simp only [sel, inK, segsOf, widthL, S0.width, List.cons_append, List.nil_append, List.length_cons, List.length_nil, Int.one_mul, implies_true, imp_self, btL, blL, bsL, ne_eq] at *; omega) | (simp only [sel, bsL, ne_eq] at *; simp_all <;> fail) | (simp [sel, segsOf, List.cons_append, List.nil_append, widthL, S0.width] <;> fail) | (simp only [ByteArray.size, List.size_toArray, List.length_cons, List.length_nil] <;> omega))) | fail) (EnvLe.refl _) (by first | (refine congrArg bo (Eq.symm ?_); simp [e1, e2, e3, e4]) | fail) rfl rfl rfl (by first | (intro i e h; cases h; done) | (intro i e h; rw [look_cons] at h; split at h <;> cases h <;> rfl) | fail)
  · cases h
def spLawSI : X.Spec := fun args _ => match args with
  | [.v (.c (.str s)), .v (.c (.int .i64 p))] => some ⟨True, bo true, [], []⟩
  | _ => none
theorem nx_none {bits : List Bool} {p : Int} (h : nxB bits p = false) : nxV bits p = 0 := by
  unfold nxB at h
  unfold nxV
  have h := of_decide_eq_false h
  split
  · rename_i h1
    unfold mkV
    rw [if_neg (fun h2 => h ⟨h1.1, h1.2.1, h1.2.2, h2⟩)]
  · rfl
set_option maxRecDepth 100000 in
set_option maxHeartbeats 4000000 in
theorem okLawFinds : FnOK Try.prog gt0 8 (spLawSI) := by
  refine fnOK_handed Try.func8 rfl (by kernel_rfl) tt_ok (ktCons okLives04 (ktCons okFind (ktCons okRShow (ktCons okFindR (ktNil))))) ?_
  intro args lk r h hp
  unfold spLawSI at h
  split at h
  · rename_i s p
    cases h
    refine hand0 rfl rfl (fun w0 M ε0 hX => ?_)
    have htl := tb_length s
    have hrs := rowT_size (unpack (bl s))
    have hun := unpack_length (bl s)
    have hbl := bl_length s
    have htb : unpack (bl s) = tb s := rfl
    have hpr := plain_rowT (unpack (bl s))
    all_goals repeat' first
      | with_reducible refine rSeq ?_
      | with_reducible refine rThen ?_
      | with_reducible refine rBlock ?_
      | with_reducible refine rThenRet ?_
      | with_reducible refine rThenExit ?_
      | with_reducible refine rInRet ?_
      | with_reducible refine rInNormal ?_
      | with_reducible refine rInHit ?_
      | with_reducible refine rInMiss rfl ?_
      | with_reducible refine rRet ?_
      | with_reducible refine rExit ?_
      | with_reducible refine rSkip ?_
      | with_reducible refine rLabel ?_
      | with_reducible refine rScope ?_
      | with_reducible refine rNoGotoRet ?_
      | with_reducible refine rNoGotoNormal ?_
      | (with_reducible show SW _ (Code.region _ _ false) _ _ _); refine rRegC md0 hX rfl rfl rfl (by first | (first | exact True.intro | exact hpr | ((repeat' first | refine And.intro ?_ ?_ | intro _) <;> first | exact True.intro | exact hpr | (with_reducible exact rfl) | (with_reducible assumption) | omega | (simp only [rowT_size, sel, inK, segsOf, widthL, S0.width, List.cons_append, List.nil_append, List.length_cons, List.length_nil, Int.one_mul, implies_true, imp_self, btL, blL, bsL, ne_eq] <;> omega) | (simp only [rowT_size, sel, inK, segsOf, widthL, S0.width, List.cons_append, List.nil_append, List.length_cons, List.length_nil, Int.one_mul, implies_true, imp_self, btL, blL, bsL, ne_eq] at *; omega) | (simp only [sel, rowT_size, bsL, ne_eq] at *; simp_all <;> fail) | (simp [sel, segsOf, List.cons_append, List.nil_append, widthL, S0.width] <;> fail) | (simp only [ByteArray.size, List.size_toArray, List.length_cons, List.length_nil] <;> omega))) | fail) ?_
      | (with_reducible show SW _ (Code.region _ _ true) _ _ _); refine rDrawC md0 hX mixed rfl rfl rfl rfl (by first | (first | exact True.intro | exact hpr | ((repeat' first | refine And.intro ?_ ?_ | intro _) <;> first | exact True.intro | exact hpr | (with_reducible exact rfl) | (with_reducible assumption) | omega | (simp only [rowT_size, sel, inK, segsOf, widthL, S0.width, List.cons_append, List.nil_append, List.length_cons, List.length_nil, Int.one_mul, implies_true, imp_self, btL, blL, bsL, ne_eq] <;> omega) | (simp only [rowT_size, sel, inK, segsOf, widthL, S0.width, List.cons_append, List.nil_append, List.length_cons, List.length_nil, Int.one_mul, implies_true, imp_self, btL, blL, bsL, ne_eq] at *; omega) | (simp only [sel, rowT_size, bsL, ne_eq] at *; simp_all <;> fail) | (simp [sel, segsOf, List.cons_append, List.nil_append, widthL, S0.width] <;> fail) | (simp only [ByteArray.size, List.size_toArray, List.length_cons, List.length_nil] <;> omega))) | fail) ?_
      | (with_reducible show SW _ (Code.region _ _ true) _ _ _); refine rDrawSC md0 hX mixed rfl rfl rfl rfl rfl (by first | (first | exact True.intro | exact hpr | ((repeat' first | refine And.intro ?_ ?_ | intro _) <;> first | exact True.intro | exact hpr | (with_reducible exact rfl) | (with_reducible assumption) | omega | (simp only [rowT_size, sel, inK, segsOf, widthL, S0.width, List.cons_append, List.nil_append, List.length_cons, List.length_nil, Int.one_mul, implies_true, imp_self, btL, blL, bsL, ne_eq] <;> omega) | (simp only [rowT_size, sel, inK, segsOf, widthL, S0.width, List.cons_append, List.nil_append, List.length_cons, List.length_nil, Int.one_mul, implies_true, imp_self, btL, blL, bsL, ne_eq] at *; omega) | (simp only [sel, rowT_size, bsL, ne_eq] at *; simp_all <;> fail) | (simp [sel, segsOf, List.cons_append, List.nil_append, widthL, S0.width] <;> fail) | (simp only [ByteArray.size, List.size_toArray, List.length_cons, List.length_nil] <;> omega))) | fail) ?_
      | (with_reducible show SW _ (Code.cond _ _ _) _ _ _); (refine rCond rfl rfl (by first | (first | exact True.intro | exact hpr | ((repeat' first | refine And.intro ?_ ?_ | intro _) <;> first | exact True.intro | exact hpr | (with_reducible exact rfl) | (with_reducible assumption) | omega | (simp only [rowT_size, sel, inK, segsOf, widthL, S0.width, List.cons_append, List.nil_append, List.length_cons, List.length_nil, Int.one_mul, implies_true, imp_self, btL, blL, bsL, ne_eq] <;> omega) | (simp only [rowT_size, sel, inK, segsOf, widthL, S0.width, List.cons_append, List.nil_append, List.length_cons, List.length_nil, Int.one_mul, implies_true, imp_self, btL, blL, bsL, ne_eq] at *; omega) | (simp only [sel, rowT_size, bsL, ne_eq] at *; simp_all <;> fail) | (simp [sel, segsOf, List.cons_append, List.nil_append, widthL, S0.width] <;> fail) | (simp only [ByteArray.size, List.size_toArray, List.length_cons, List.length_nil] <;> omega))) | fail) (fun h => ?_) (fun h => ?_) <;> (try (exact absurd h (by decide))) <;> (try simp only [bits_rowT, Decidable.not_not, decide_true, decide_false, cond_true, cond_false, Bool.not_true, Bool.not_false, beq_self_eq_true, bne_self_eq_false, eq_self, not_true_eq_false, Bool.not_not, blL, bsL, ne_eq] at h) <;> (try (exact absurd ‹_› ‹_›)) <;> (try (exfalso; omega)))
      | (with_reducible show SQ _ (Post _ _ _ _ _ _ _) .normal _ _); with_reducible refine rNormal ?_
      | (with_reducible show SQ _ (Post _ _ _ _ _ _ _) .ret _ _); refine rDone hX rfl (by first | (first | exact True.intro | exact hpr | ((repeat' first | refine And.intro ?_ ?_ | intro _) <;> first | exact True.intro | exact hpr | (with_reducible exact rfl) | (with_reducible assumption) | omega | (simp only [rowT_size, sel, inK, segsOf, widthL, S0.width, List.cons_append, List.nil_append, List.length_cons, List.length_nil, Int.one_mul, implies_true, imp_self, btL, blL, bsL, ne_eq] <;> omega) | (simp only [rowT_size, sel, inK, segsOf, widthL, S0.width, List.cons_append, List.nil_append, List.length_cons, List.length_nil, Int.one_mul, implies_true, imp_self, btL, blL, bsL, ne_eq] at *; omega) | (simp only [sel, rowT_size, bsL, ne_eq] at *; simp_all <;> fail) | (simp [sel, segsOf, List.cons_append, List.nil_append, widthL, S0.width] <;> fail) | (simp only [ByteArray.size, List.size_toArray, List.length_cons, List.length_nil] <;> omega))) | fail) (EnvLe.refl _) (by first | (first | rfl | (refine congrArg bo (Eq.symm ?_); simp [bits_rowT, tb])) | fail) rfl rfl rfl (by first | (intro i e h; cases h; done) | (intro i e h; rw [look_cons] at h; split at h <;> cases h <;> rfl) | fail)
  · cases h
set_option maxRecDepth 100000 in
set_option maxHeartbeats 4000000 in
theorem okLawAt : FnOK Try.prog gt0 10 (spLawSI) := by
  refine fnOK_handed Try.func10 rfl (by kernel_rfl) tt_ok (ktCons okLives04 (ktCons okMAt (ktCons okRShow (ktCons okMAtR (ktCons okMNext (ktCons okMNextR (ktCons okZeros (ktCons okZerosR (ktNil))))))))) ?_
  intro args lk r h hp
  unfold spLawSI at h
  split at h
  · rename_i s p
    cases h
    refine hand0 rfl rfl (fun w0 M ε0 hX => ?_)
    have htl := tb_length s
    have hrs := rowT_size (unpack (bl s))
    have hun := unpack_length (bl s)
    have hbl := bl_length s
    have htb : unpack (bl s) = tb s := rfl
    have hpr := plain_rowT (unpack (bl s))
    all_goals repeat' first
      | with_reducible refine rSeq ?_
      | with_reducible refine rThen ?_
      | with_reducible refine rBlock ?_
      | with_reducible refine rThenRet ?_
      | with_reducible refine rThenExit ?_
      | with_reducible refine rInRet ?_
      | with_reducible refine rInNormal ?_
      | with_reducible refine rInHit ?_
      | with_reducible refine rInMiss rfl ?_
      | with_reducible refine rRet ?_
      | with_reducible refine rExit ?_
      | with_reducible refine rSkip ?_
      | with_reducible refine rLabel ?_
      | with_reducible refine rScope ?_
      | with_reducible refine rNoGotoRet ?_
      | with_reducible refine rNoGotoNormal ?_
      | (with_reducible show SW _ (Code.region _ _ false) _ _ _); refine rRegC md0 hX rfl rfl rfl (by first | (first | exact True.intro | exact hpr | ((repeat' first | refine And.intro ?_ ?_ | intro _) <;> first | exact True.intro | exact hpr | (with_reducible exact rfl) | (with_reducible assumption) | omega | (simp only [rowT_size, sel, inK, segsOf, widthL, S0.width, List.cons_append, List.nil_append, List.length_cons, List.length_nil, Int.one_mul, implies_true, imp_self, btL, blL, bsL, ne_eq] <;> omega) | (simp only [rowT_size, sel, inK, segsOf, widthL, S0.width, List.cons_append, List.nil_append, List.length_cons, List.length_nil, Int.one_mul, implies_true, imp_self, btL, blL, bsL, ne_eq] at *; omega) | (simp only [sel, rowT_size, bsL, ne_eq] at *; simp_all <;> fail) | (simp [sel, segsOf, List.cons_append, List.nil_append, widthL, S0.width] <;> fail) | (simp only [ByteArray.size, List.size_toArray, List.length_cons, List.length_nil] <;> omega))) | fail) ?_
      | (with_reducible show SW _ (Code.region _ _ true) _ _ _); refine rDrawC md0 hX mixed rfl rfl rfl rfl (by first | (first | exact True.intro | exact hpr | ((repeat' first | refine And.intro ?_ ?_ | intro _) <;> first | exact True.intro | exact hpr | (with_reducible exact rfl) | (with_reducible assumption) | omega | (simp only [rowT_size, sel, inK, segsOf, widthL, S0.width, List.cons_append, List.nil_append, List.length_cons, List.length_nil, Int.one_mul, implies_true, imp_self, btL, blL, bsL, ne_eq] <;> omega) | (simp only [rowT_size, sel, inK, segsOf, widthL, S0.width, List.cons_append, List.nil_append, List.length_cons, List.length_nil, Int.one_mul, implies_true, imp_self, btL, blL, bsL, ne_eq] at *; omega) | (simp only [sel, rowT_size, bsL, ne_eq] at *; simp_all <;> fail) | (simp [sel, segsOf, List.cons_append, List.nil_append, widthL, S0.width] <;> fail) | (simp only [ByteArray.size, List.size_toArray, List.length_cons, List.length_nil] <;> omega))) | fail) ?_
      | (with_reducible show SW _ (Code.region _ _ true) _ _ _); refine rDrawSC md0 hX mixed rfl rfl rfl rfl rfl (by first | (first | exact True.intro | exact hpr | ((repeat' first | refine And.intro ?_ ?_ | intro _) <;> first | exact True.intro | exact hpr | (with_reducible exact rfl) | (with_reducible assumption) | omega | (simp only [rowT_size, sel, inK, segsOf, widthL, S0.width, List.cons_append, List.nil_append, List.length_cons, List.length_nil, Int.one_mul, implies_true, imp_self, btL, blL, bsL, ne_eq] <;> omega) | (simp only [rowT_size, sel, inK, segsOf, widthL, S0.width, List.cons_append, List.nil_append, List.length_cons, List.length_nil, Int.one_mul, implies_true, imp_self, btL, blL, bsL, ne_eq] at *; omega) | (simp only [sel, rowT_size, bsL, ne_eq] at *; simp_all <;> fail) | (simp [sel, segsOf, List.cons_append, List.nil_append, widthL, S0.width] <;> fail) | (simp only [ByteArray.size, List.size_toArray, List.length_cons, List.length_nil] <;> omega))) | fail) ?_
      | (with_reducible show SW _ (Code.cond _ _ _) _ _ _); (refine rCond rfl rfl (by first | (first | exact True.intro | exact hpr | ((repeat' first | refine And.intro ?_ ?_ | intro _) <;> first | exact True.intro | exact hpr | (with_reducible exact rfl) | (with_reducible assumption) | omega | (simp only [rowT_size, sel, inK, segsOf, widthL, S0.width, List.cons_append, List.nil_append, List.length_cons, List.length_nil, Int.one_mul, implies_true, imp_self, btL, blL, bsL, ne_eq] <;> omega) | (simp only [rowT_size, sel, inK, segsOf, widthL, S0.width, List.cons_append, List.nil_append, List.length_cons, List.length_nil, Int.one_mul, implies_true, imp_self, btL, blL, bsL, ne_eq] at *; omega) | (simp only [sel, rowT_size, bsL, ne_eq] at *; simp_all <;> fail) | (simp [sel, segsOf, List.cons_append, List.nil_append, widthL, S0.width] <;> fail) | (simp only [ByteArray.size, List.size_toArray, List.length_cons, List.length_nil] <;> omega))) | fail) (fun h => ?_) (fun h => ?_) <;> (try (exact absurd h (by decide))) <;> (try simp only [bits_rowT, Decidable.not_not, decide_true, decide_false, cond_true, cond_false, Bool.not_true, Bool.not_false, beq_self_eq_true, bne_self_eq_false, eq_self, not_true_eq_false, Bool.not_not, htb, blL, bsL, ne_eq] at h) <;> (try (exact absurd ‹_› ‹_›)) <;> (try (exfalso; omega)))
      | (with_reducible show SQ _ (Post _ _ _ _ _ _ _) .normal _ _); with_reducible refine rNormal ?_
      | (with_reducible show SQ _ (Post _ _ _ _ _ _ _) .ret _ _); refine rDone hX rfl (by first | (first | exact True.intro | exact hpr | ((repeat' first | refine And.intro ?_ ?_ | intro _) <;> first | exact True.intro | exact hpr | (with_reducible exact rfl) | (with_reducible assumption) | omega | (simp only [rowT_size, sel, inK, segsOf, widthL, S0.width, List.cons_append, List.nil_append, List.length_cons, List.length_nil, Int.one_mul, implies_true, imp_self, btL, blL, bsL, ne_eq] <;> omega) | (simp only [rowT_size, sel, inK, segsOf, widthL, S0.width, List.cons_append, List.nil_append, List.length_cons, List.length_nil, Int.one_mul, implies_true, imp_self, btL, blL, bsL, ne_eq] at *; omega) | (simp only [sel, rowT_size, bsL, ne_eq] at *; simp_all <;> fail) | (simp [sel, segsOf, List.cons_append, List.nil_append, widthL, S0.width] <;> fail) | (simp only [ByteArray.size, List.size_toArray, List.length_cons, List.length_nil] <;> omega))) | fail) (EnvLe.refl _) (by first | (first | rfl | (refine congrArg bo (Eq.symm ?_); simp [bits_rowT, tb]; done) | (exfalso; have hnn := nx_none (bits := tb s) (p := p); cases hb : nxB (tb s) p <;> simp_all <;> fail)) | fail) rfl rfl rfl (by first | (intro i e h; cases h; done) | (intro i e h; rw [look_cons] at h; split at h <;> cases h <;> rfl) | fail)
  · cases h
theorem back_next (A : List Bool) (n : Int) (h0 : 0 ≤ n) (h1 : n ≤ 31) :
    nxB (A ++ (List.replicate (padN A.length) false ++ digits (32 + n) 22) ++ List.replicate ((8 - (A ++ (List.replicate (padN A.length) false ++ digits (32 + n) 22)).length % 8) % 8) false) A.length = true ∧
    nxV (A ++ (List.replicate (padN A.length) false ++ digits (32 + n) 22) ++ List.replicate ((8 - (A ++ (List.replicate (padN A.length) false ++ digits (32 + n) 22)).length % 8) % 8) false) A.length = n := by
  generalize (8 - (A ++ (List.replicate (padN A.length) false ++ digits (32 + n) 22)).length % 8) % 8 = q
  have hpd : padI (A.length : Int) = (padN A.length : Nat) := by unfold padI padN; omega
  have hT : ∀ T, T = A ++ (List.replicate (padN A.length) false ++ digits (32 + n) 22) ++ List.replicate q false → nxB T A.length = true ∧ nxV T A.length = n := by
    intro T hT
    have hlen : T.length = A.length + padN A.length + 22 + q := by subst hT; simp [digits_length]; omega
    have hz : numB ((T.drop ((A.length : Nat) : Int).toNat).take (padI (A.length : Int)).toNat) = 0 := by
      rw [hpd, Int.toNat_natCast, Int.toNat_natCast, hT, List.append_assoc, List.drop_left' rfl, List.append_assoc, List.take_left' (by simp)]
      exact numB_zeros _
    have hr : rfE' T A.length = 0 := by unfold rfE'; rw [if_pos hz]
    have hN : mkN T (A.length + padI (A.length : Int)) = 32 + n := by
      unfold mkN
      rw [hpd, show ((A.length : Int) + (padN A.length : Nat)).toNat = A.length + padN A.length by omega, ← List.drop_drop, hT, List.append_assoc, List.drop_left' rfl, List.append_assoc, List.drop_left' (by simp), List.take_left' (digits_length _ _)]
      exact numB_digits _ _ (by omega) (by have : (2 : Int) ^ 22 = 4194304 := by decide
                                           omega)
    obtain ⟨n1, n2⟩ := nx_in (bits := T) (p := A.length) (by omega) (by omega) hr
    rcases mk_cases T (A.length + padI (A.length : Int)) with ⟨g1, _⟩ | ⟨g1, g2, g3, _⟩ | ⟨g1, g2, g3, _⟩ | ⟨g1, g2, g3, g4, g5⟩
    · omega
    · omega
    · omega
    · exact ⟨by rw [n2, decide_eq_true g4], by rw [n1]; omega⟩
  exact hT _ rfl
set_option maxRecDepth 100000 in
set_option maxHeartbeats 4000000 in
theorem okLawMBack : FnOK Try.prog gt0 11 (spLawSI) := by
  refine fnOK_handed Try.func11 rfl (by kernel_rfl) tt_ok (ktCons okLives04 (ktCons okNew (ktCons okAdd (ktCons (lenR okLen) (ktCons okMPut (ktCons (textR okText) (ktCons okMNext (ktNil)))))))) ?_
  intro args lk r h hp
  unfold spLawSI at h
  split at h
  · rename_i s n
    cases h
    refine hand0 rfl rfl (fun w0 M ε0 hX => ?_)
    have hal := addD_length s
    have hpd := padN_in (addD s).length
    rcases mp_cases (addD s).length n with ⟨m1, m2, m3⟩ | ⟨m1, m2, m3, m4⟩
    · skip
      all_goals repeat' first
        | with_reducible refine rSeq ?_
        | with_reducible refine rThen ?_
        | with_reducible refine rBlock ?_
        | with_reducible refine rThenRet ?_
        | with_reducible refine rThenExit ?_
        | with_reducible refine rInRet ?_
        | with_reducible refine rInNormal ?_
        | with_reducible refine rInHit ?_
        | with_reducible refine rInMiss rfl ?_
        | with_reducible refine rRet ?_
        | with_reducible refine rExit ?_
        | with_reducible refine rSkip ?_
        | with_reducible refine rLabel ?_
        | with_reducible refine rScope ?_
        | with_reducible refine rNoGotoRet ?_
        | with_reducible refine rNoGotoNormal ?_
        | (with_reducible show SW _ (Code.region _ _ false) _ _ _); refine rRegC md0 hX rfl rfl rfl (by first | (first | exact True.intro | ((repeat' first | refine And.intro ?_ ?_ | intro _) <;> first | exact True.intro | (with_reducible exact rfl) | (with_reducible assumption) | omega | (simp only [List.nil_append, m3, List.append_nil, bytesOf_size, packB_length, List.length_append, List.length_replicate, digits_length, sel, inK, segsOf, widthL, S0.width, List.cons_append, List.nil_append, List.length_cons, List.length_nil, Int.one_mul, implies_true, imp_self, btL, blL, bsL, ne_eq] <;> omega) | (simp only [List.nil_append, m3, List.append_nil, bytesOf_size, packB_length, List.length_append, List.length_replicate, digits_length, sel, inK, segsOf, widthL, S0.width, List.cons_append, List.nil_append, List.length_cons, List.length_nil, Int.one_mul, implies_true, imp_self, btL, blL, bsL, ne_eq] at *; omega) | (simp only [sel, List.nil_append, m3, List.append_nil, bytesOf_size, packB_length, List.length_append, List.length_replicate, digits_length, bsL, ne_eq] at *; simp_all <;> fail) | (simp [sel, segsOf, List.cons_append, List.nil_append, widthL, S0.width] <;> fail) | (simp only [ByteArray.size, List.size_toArray, List.length_cons, List.length_nil] <;> omega))) | fail) ?_
        | (with_reducible show SW _ (Code.region _ _ true) _ _ _); refine rDrawC md0 hX mixed rfl rfl rfl rfl (by first | (first | exact True.intro | ((repeat' first | refine And.intro ?_ ?_ | intro _) <;> first | exact True.intro | (with_reducible exact rfl) | (with_reducible assumption) | omega | (simp only [List.nil_append, m3, List.append_nil, bytesOf_size, packB_length, List.length_append, List.length_replicate, digits_length, sel, inK, segsOf, widthL, S0.width, List.cons_append, List.nil_append, List.length_cons, List.length_nil, Int.one_mul, implies_true, imp_self, btL, blL, bsL, ne_eq] <;> omega) | (simp only [List.nil_append, m3, List.append_nil, bytesOf_size, packB_length, List.length_append, List.length_replicate, digits_length, sel, inK, segsOf, widthL, S0.width, List.cons_append, List.nil_append, List.length_cons, List.length_nil, Int.one_mul, implies_true, imp_self, btL, blL, bsL, ne_eq] at *; omega) | (simp only [sel, List.nil_append, m3, List.append_nil, bytesOf_size, packB_length, List.length_append, List.length_replicate, digits_length, bsL, ne_eq] at *; simp_all <;> fail) | (simp [sel, segsOf, List.cons_append, List.nil_append, widthL, S0.width] <;> fail) | (simp only [ByteArray.size, List.size_toArray, List.length_cons, List.length_nil] <;> omega))) | fail) ?_
        | (with_reducible show SW _ (Code.region _ _ true) _ _ _); refine rDrawSC md0 hX mixed rfl rfl rfl rfl rfl (by first | (first | exact True.intro | ((repeat' first | refine And.intro ?_ ?_ | intro _) <;> first | exact True.intro | (with_reducible exact rfl) | (with_reducible assumption) | omega | (simp only [List.nil_append, m3, List.append_nil, bytesOf_size, packB_length, List.length_append, List.length_replicate, digits_length, sel, inK, segsOf, widthL, S0.width, List.cons_append, List.nil_append, List.length_cons, List.length_nil, Int.one_mul, implies_true, imp_self, btL, blL, bsL, ne_eq] <;> omega) | (simp only [List.nil_append, m3, List.append_nil, bytesOf_size, packB_length, List.length_append, List.length_replicate, digits_length, sel, inK, segsOf, widthL, S0.width, List.cons_append, List.nil_append, List.length_cons, List.length_nil, Int.one_mul, implies_true, imp_self, btL, blL, bsL, ne_eq] at *; omega) | (simp only [sel, List.nil_append, m3, List.append_nil, bytesOf_size, packB_length, List.length_append, List.length_replicate, digits_length, bsL, ne_eq] at *; simp_all <;> fail) | (simp [sel, segsOf, List.cons_append, List.nil_append, widthL, S0.width] <;> fail) | (simp only [ByteArray.size, List.size_toArray, List.length_cons, List.length_nil] <;> omega))) | fail) ?_
        | (with_reducible show SW _ (Code.cond _ _ _) _ _ _); (refine rCond rfl rfl (by first | (first | exact True.intro | ((repeat' first | refine And.intro ?_ ?_ | intro _) <;> first | exact True.intro | (with_reducible exact rfl) | (with_reducible assumption) | omega | (simp only [List.nil_append, m3, List.append_nil, bytesOf_size, packB_length, List.length_append, List.length_replicate, digits_length, sel, inK, segsOf, widthL, S0.width, List.cons_append, List.nil_append, List.length_cons, List.length_nil, Int.one_mul, implies_true, imp_self, btL, blL, bsL, ne_eq] <;> omega) | (simp only [List.nil_append, m3, List.append_nil, bytesOf_size, packB_length, List.length_append, List.length_replicate, digits_length, sel, inK, segsOf, widthL, S0.width, List.cons_append, List.nil_append, List.length_cons, List.length_nil, Int.one_mul, implies_true, imp_self, btL, blL, bsL, ne_eq] at *; omega) | (simp only [sel, List.nil_append, m3, List.append_nil, bytesOf_size, packB_length, List.length_append, List.length_replicate, digits_length, bsL, ne_eq] at *; simp_all <;> fail) | (simp [sel, segsOf, List.cons_append, List.nil_append, widthL, S0.width] <;> fail) | (simp only [ByteArray.size, List.size_toArray, List.length_cons, List.length_nil] <;> omega))) | fail) (fun h => ?_) (fun h => ?_) <;> (try (exact absurd h (by decide))) <;> (try simp only [Decidable.not_not, blL, bsL, ne_eq] at h) <;> (try (exact absurd ‹_› ‹_›)) <;> (try (exfalso; omega)))
        | (with_reducible show SQ _ (Post _ _ _ _ _ _ _) .normal _ _); with_reducible refine rNormal ?_
        | (with_reducible show SQ _ (Post _ _ _ _ _ _ _) .ret _ _); refine rDone hX rfl (by first | (first | exact True.intro | ((repeat' first | refine And.intro ?_ ?_ | intro _) <;> first | exact True.intro | (with_reducible exact rfl) | (with_reducible assumption) | omega | (simp only [List.nil_append, m3, List.append_nil, bytesOf_size, packB_length, List.length_append, List.length_replicate, digits_length, sel, inK, segsOf, widthL, S0.width, List.cons_append, List.nil_append, List.length_cons, List.length_nil, Int.one_mul, implies_true, imp_self, btL, blL, bsL, ne_eq] <;> omega) | (simp only [List.nil_append, m3, List.append_nil, bytesOf_size, packB_length, List.length_append, List.length_replicate, digits_length, sel, inK, segsOf, widthL, S0.width, List.cons_append, List.nil_append, List.length_cons, List.length_nil, Int.one_mul, implies_true, imp_self, btL, blL, bsL, ne_eq] at *; omega) | (simp only [sel, List.nil_append, m3, List.append_nil, bytesOf_size, packB_length, List.length_append, List.length_replicate, digits_length, bsL, ne_eq] at *; simp_all <;> fail) | (simp [sel, segsOf, List.cons_append, List.nil_append, widthL, S0.width] <;> fail) | (simp only [ByteArray.size, List.size_toArray, List.length_cons, List.length_nil] <;> omega))) | fail) (EnvLe.refl _) (by first | (first | rfl | (refine congrArg bo (Eq.symm ?_); simp [m2, m3])) | fail) rfl rfl rfl (by first | (intro i e h; cases h; done) | (intro i e h; rw [look_cons] at h; split at h <;> cases h <;> rfl) | fail)
    · obtain ⟨bk1, bk2⟩ := back_next (addD s) n m1 m2
      all_goals repeat' first
        | with_reducible refine rSeq ?_
        | with_reducible refine rThen ?_
        | with_reducible refine rBlock ?_
        | with_reducible refine rThenRet ?_
        | with_reducible refine rThenExit ?_
        | with_reducible refine rInRet ?_
        | with_reducible refine rInNormal ?_
        | with_reducible refine rInHit ?_
        | with_reducible refine rInMiss rfl ?_
        | with_reducible refine rRet ?_
        | with_reducible refine rExit ?_
        | with_reducible refine rSkip ?_
        | with_reducible refine rLabel ?_
        | with_reducible refine rScope ?_
        | with_reducible refine rNoGotoRet ?_
        | with_reducible refine rNoGotoNormal ?_
        | (with_reducible show SW _ (Code.region _ _ false) _ _ _); refine rRegC md0 hX rfl rfl rfl (by first | (first | exact True.intro | ((repeat' first | refine And.intro ?_ ?_ | intro _) <;> first | exact True.intro | (with_reducible exact rfl) | (with_reducible assumption) | omega | (simp only [List.nil_append, m4, List.append_nil, bytesOf_size, packB_length, List.length_append, List.length_replicate, digits_length, sel, inK, segsOf, widthL, S0.width, List.cons_append, List.nil_append, List.length_cons, List.length_nil, Int.one_mul, implies_true, imp_self, btL, blL, bsL, ne_eq] <;> omega) | (simp only [List.nil_append, m4, List.append_nil, bytesOf_size, packB_length, List.length_append, List.length_replicate, digits_length, sel, inK, segsOf, widthL, S0.width, List.cons_append, List.nil_append, List.length_cons, List.length_nil, Int.one_mul, implies_true, imp_self, btL, blL, bsL, ne_eq] at *; omega) | (simp only [sel, List.nil_append, m4, List.append_nil, bytesOf_size, packB_length, List.length_append, List.length_replicate, digits_length, bsL, ne_eq] at *; simp_all <;> fail) | (simp [sel, segsOf, List.cons_append, List.nil_append, widthL, S0.width] <;> fail) | (simp only [ByteArray.size, List.size_toArray, List.length_cons, List.length_nil] <;> omega))) | fail) ?_
        | (with_reducible show SW _ (Code.region _ _ true) _ _ _); refine rDrawC md0 hX mixed rfl rfl rfl rfl (by first | (first | exact True.intro | ((repeat' first | refine And.intro ?_ ?_ | intro _) <;> first | exact True.intro | (with_reducible exact rfl) | (with_reducible assumption) | omega | (simp only [List.nil_append, m4, List.append_nil, bytesOf_size, packB_length, List.length_append, List.length_replicate, digits_length, sel, inK, segsOf, widthL, S0.width, List.cons_append, List.nil_append, List.length_cons, List.length_nil, Int.one_mul, implies_true, imp_self, btL, blL, bsL, ne_eq] <;> omega) | (simp only [List.nil_append, m4, List.append_nil, bytesOf_size, packB_length, List.length_append, List.length_replicate, digits_length, sel, inK, segsOf, widthL, S0.width, List.cons_append, List.nil_append, List.length_cons, List.length_nil, Int.one_mul, implies_true, imp_self, btL, blL, bsL, ne_eq] at *; omega) | (simp only [sel, List.nil_append, m4, List.append_nil, bytesOf_size, packB_length, List.length_append, List.length_replicate, digits_length, bsL, ne_eq] at *; simp_all <;> fail) | (simp [sel, segsOf, List.cons_append, List.nil_append, widthL, S0.width] <;> fail) | (simp only [ByteArray.size, List.size_toArray, List.length_cons, List.length_nil] <;> omega))) | fail) ?_
        | (with_reducible show SW _ (Code.region _ _ true) _ _ _); refine rDrawSC md0 hX mixed rfl rfl rfl rfl rfl (by first | (first | exact True.intro | ((repeat' first | refine And.intro ?_ ?_ | intro _) <;> first | exact True.intro | (with_reducible exact rfl) | (with_reducible assumption) | omega | (simp only [List.nil_append, m4, List.append_nil, bytesOf_size, packB_length, List.length_append, List.length_replicate, digits_length, sel, inK, segsOf, widthL, S0.width, List.cons_append, List.nil_append, List.length_cons, List.length_nil, Int.one_mul, implies_true, imp_self, btL, blL, bsL, ne_eq] <;> omega) | (simp only [List.nil_append, m4, List.append_nil, bytesOf_size, packB_length, List.length_append, List.length_replicate, digits_length, sel, inK, segsOf, widthL, S0.width, List.cons_append, List.nil_append, List.length_cons, List.length_nil, Int.one_mul, implies_true, imp_self, btL, blL, bsL, ne_eq] at *; omega) | (simp only [sel, List.nil_append, m4, List.append_nil, bytesOf_size, packB_length, List.length_append, List.length_replicate, digits_length, bsL, ne_eq] at *; simp_all <;> fail) | (simp [sel, segsOf, List.cons_append, List.nil_append, widthL, S0.width] <;> fail) | (simp only [ByteArray.size, List.size_toArray, List.length_cons, List.length_nil] <;> omega))) | fail) ?_
        | (with_reducible show SW _ (Code.cond _ _ _) _ _ _); (refine rCond rfl rfl (by first | (first | exact True.intro | ((repeat' first | refine And.intro ?_ ?_ | intro _) <;> first | exact True.intro | (with_reducible exact rfl) | (with_reducible assumption) | omega | (simp only [List.nil_append, m4, List.append_nil, bytesOf_size, packB_length, List.length_append, List.length_replicate, digits_length, sel, inK, segsOf, widthL, S0.width, List.cons_append, List.nil_append, List.length_cons, List.length_nil, Int.one_mul, implies_true, imp_self, btL, blL, bsL, ne_eq] <;> omega) | (simp only [List.nil_append, m4, List.append_nil, bytesOf_size, packB_length, List.length_append, List.length_replicate, digits_length, sel, inK, segsOf, widthL, S0.width, List.cons_append, List.nil_append, List.length_cons, List.length_nil, Int.one_mul, implies_true, imp_self, btL, blL, bsL, ne_eq] at *; omega) | (simp only [sel, List.nil_append, m4, List.append_nil, bytesOf_size, packB_length, List.length_append, List.length_replicate, digits_length, bsL, ne_eq] at *; simp_all <;> fail) | (simp [sel, segsOf, List.cons_append, List.nil_append, widthL, S0.width] <;> fail) | (simp only [ByteArray.size, List.size_toArray, List.length_cons, List.length_nil] <;> omega))) | fail) (fun h => ?_) (fun h => ?_) <;> (try (exact absurd h (by decide))) <;> (try simp only [Decidable.not_not, blL, bsL, ne_eq] at h) <;> (try (exact absurd ‹_› ‹_›)) <;> (try (exfalso; omega)))
        | (with_reducible show SQ _ (Post _ _ _ _ _ _ _) .normal _ _); with_reducible refine rNormal ?_
        | (with_reducible show SQ _ (Post _ _ _ _ _ _ _) .ret _ _); refine rDone hX rfl (by first | (first | exact True.intro | ((repeat' first | refine And.intro ?_ ?_ | intro _) <;> first | exact True.intro | (with_reducible exact rfl) | (with_reducible assumption) | omega | (simp only [List.nil_append, m4, List.append_nil, bytesOf_size, packB_length, List.length_append, List.length_replicate, digits_length, sel, inK, segsOf, widthL, S0.width, List.cons_append, List.nil_append, List.length_cons, List.length_nil, Int.one_mul, implies_true, imp_self, btL, blL, bsL, ne_eq] <;> omega) | (simp only [List.nil_append, m4, List.append_nil, bytesOf_size, packB_length, List.length_append, List.length_replicate, digits_length, sel, inK, segsOf, widthL, S0.width, List.cons_append, List.nil_append, List.length_cons, List.length_nil, Int.one_mul, implies_true, imp_self, btL, blL, bsL, ne_eq] at *; omega) | (simp only [sel, List.nil_append, m4, List.append_nil, bytesOf_size, packB_length, List.length_append, List.length_replicate, digits_length, bsL, ne_eq] at *; simp_all <;> fail) | (simp [sel, segsOf, List.cons_append, List.nil_append, widthL, S0.width] <;> fail) | (simp only [ByteArray.size, List.size_toArray, List.length_cons, List.length_nil] <;> omega))) | fail) (EnvLe.refl _) (by first | (first | rfl | (exfalso; omega) | (refine congrArg bo (Eq.symm ?_); simp only [m3, m4, List.nil_append, tb_pack]; simp only [bk1, bk2]; simp only [List.length_append, List.length_replicate, digits_length]; simp; omega)) | fail) rfl rfl rfl (by first | (intro i e h; cases h; done) | (intro i e h; rw [look_cons] at h; split at h <;> cases h <;> rfl) | fail)
  · cases h

end Go.Proofs.Ytgbeiogbppaogaa
