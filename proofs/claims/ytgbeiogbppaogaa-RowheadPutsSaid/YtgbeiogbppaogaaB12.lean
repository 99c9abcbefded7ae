/- Marks. -/
import Derived.Test.YtgbeiogbppaogaaB11
set_option linter.unusedVariables false
set_option linter.unusedSimpArgs false
namespace Go.Proofs.Ytgbeiogbppaogaa
open Go.X

theorem rd0 {s : ByteArray} (h : s.size + 64 ≤ 1099511627776) : rdOK s 0 := ⟨by omega, by omega, h⟩
theorem rdP {s : ByteArray} {p : Int} (h : s.size + 64 ≤ 1099511627776) (h0 : 0 ≤ p) (h1 : p ≤ 8 * s.size) : rdOK s p := ⟨h0, h1, h⟩
theorem skA_ok {s : ByteArray} {p : Int} (h0 : 0 ≤ p) (h1 : p ≤ 8 * s.size) (q : Int) : skA s q p = p := by unfold skA; rw [if_neg (by omega)]
theorem skE_cases (s : ByteArray) (p : Int) : ((p < 0 ∨ 8 * (s.size : Int) < p) ∧ skE s p = 1) ∨ (0 ≤ p ∧ p ≤ 8 * s.size ∧ skE s p = 0) := by
  unfold skE
  by_cases h : p < 0 ∨ 8 * (s.size : Int) < p
  · rw [if_pos h]; exact .inl ⟨h, rfl⟩
  · rw [if_neg h]; exact .inr ⟨by omega, by omega, rfl⟩
theorem sk_cases (s : ByteArray) (p : Int) : ((p < 0 ∨ 8 * (s.size : Int) < p) ∧ skE s p = 1 ∧ skA s 0 p = 0) ∨ (0 ≤ p ∧ p ≤ 8 * s.size ∧ skE s p = 0 ∧ skA s 0 p = p) := by
  unfold skE skA
  by_cases h : p < 0 ∨ 8 * (s.size : Int) < p
  · rw [if_pos h, if_pos h]; exact .inl ⟨h, rfl, rfl⟩
  · rw [if_neg h, if_neg h]; exact .inr ⟨by omega, by omega, rfl, rfl⟩
theorem peek22 (s : ByteArray) (p : Int) (h0 : 0 ≤ p) (h1 : p ≤ 8 * s.size) : (8 * (s.size : Int) - p < 22 ∧ peekE s p 22 = 2 ∧ peekV s p 22 = 0) ∨ (22 ≤ 8 * (s.size : Int) - p ∧ peekE s p 22 = 0 ∧ peekV s p 22 = mkN (tb s) p) := by
  rcases peekE_cases s p 22 with ⟨h, _⟩ | ⟨_, _, h2, h3, h4⟩ | ⟨_, _, h2, h3, h4⟩
  · omega
  · exact .inl ⟨h2, h3, h4⟩
  · exact .inr ⟨h2, h3, h4⟩
set_option maxRecDepth 100000 in
set_option maxHeartbeats 4000000 in
theorem okMAt : FnOK Try.prog gt0 44 (spMAt) := by
  refine fnOK_handed Try.func44 rfl (by kernel_rfl) tt_ok (ktCons okRNew (ktCons okSeek (ktCons okTake (ktNil)))) ?_
  intro args lk r h hp
  unfold spMAt at h
  split at h
  · rename_i s p
    cases h
    refine hand0 rfl rfl (fun w0 M ε0 hX => ?_)
    have hp : s.size + 64 ≤ 1099511627776 := hp
    have htl := tb_length s
    have hk := mkN_in (tb s) p
    have hmc := mk_cases (tb s) p
    have hpk := fun h0 h1 => peek22 s p h0 h1
    rcases sk_cases s p with ⟨hs0, hs1, hsk⟩ | ⟨hs0, hs1, hs2, hsk⟩
    all_goals repeat' first
      | with_reducible refine rSeq ?_
      | with_reducible refine rThen ?_
      | with_reducible refine rBlock ?_
      | with_reducible refine rThenRet ?_
      | with_reducible refine rThenExit ?_
      | with_reducible refine rInRet ?_
      | with_reducible refine rInNormal ?_
      | with_reducible refine rInHit ?_
      | with_reducible refine rInMiss rfl ?_
      | with_reducible refine rRet ?_
      | with_reducible refine rExit ?_
      | with_reducible refine rSkip ?_
      | with_reducible refine rLabel ?_
      | with_reducible refine rScope ?_
      | with_reducible refine rNoGotoRet ?_
      | with_reducible refine rNoGotoNormal ?_
      | (with_reducible show SW _ (Code.region _ _ false) _ _ _); refine rRegC md0 hX rfl rfl rfl (by first | (first | exact True.intro | exact rd0 hp | (rw [hsk]; exact rdP hp (by omega) (by omega)) | ((repeat' first | refine And.intro ?_ ?_ | intro _) <;> first | exact True.intro | exact rd0 hp | (rw [hsk]; exact rdP hp (by omega) (by omega)) | (with_reducible exact rfl) | (with_reducible assumption) | omega | (rw [hsk]; omega) | (simp only [sel, inK, segsOf, widthL, S0.width, List.cons_append, List.nil_append, List.length_cons, List.length_nil, Int.one_mul, implies_true, imp_self, btL, blL, bsL, ne_eq] <;> omega) | (simp only [sel, inK, segsOf, widthL, S0.width, List.cons_append, List.nil_append, List.length_cons, List.length_nil, Int.one_mul, implies_true, imp_self, btL, blL, bsL, ne_eq] at *; omega) | (simp only [sel, bsL, ne_eq] at *; simp_all <;> fail) | (simp [sel, segsOf, List.cons_append, List.nil_append, widthL, S0.width] <;> fail) | (simp only [ByteArray.size, List.size_toArray, List.length_cons, List.length_nil] <;> omega))) | fail) ?_
      | (with_reducible show SW _ (Code.region _ _ true) _ _ _); refine rDrawC md0 hX mixed rfl rfl rfl rfl (by first | (first | exact True.intro | exact rd0 hp | (rw [hsk]; exact rdP hp (by omega) (by omega)) | ((repeat' first | refine And.intro ?_ ?_ | intro _) <;> first | exact True.intro | exact rd0 hp | (rw [hsk]; exact rdP hp (by omega) (by omega)) | (with_reducible exact rfl) | (with_reducible assumption) | omega | (rw [hsk]; omega) | (simp only [sel, inK, segsOf, widthL, S0.width, List.cons_append, List.nil_append, List.length_cons, List.length_nil, Int.one_mul, implies_true, imp_self, btL, blL, bsL, ne_eq] <;> omega) | (simp only [sel, inK, segsOf, widthL, S0.width, List.cons_append, List.nil_append, List.length_cons, List.length_nil, Int.one_mul, implies_true, imp_self, btL, blL, bsL, ne_eq] at *; omega) | (simp only [sel, bsL, ne_eq] at *; simp_all <;> fail) | (simp [sel, segsOf, List.cons_append, List.nil_append, widthL, S0.width] <;> fail) | (simp only [ByteArray.size, List.size_toArray, List.length_cons, List.length_nil] <;> omega))) | fail) ?_
      | (with_reducible show SW _ (Code.region _ _ true) _ _ _); refine rDrawSC md0 hX mixed rfl rfl rfl rfl rfl (by first | (first | exact True.intro | exact rd0 hp | (rw [hsk]; exact rdP hp (by omega) (by omega)) | ((repeat' first | refine And.intro ?_ ?_ | intro _) <;> first | exact True.intro | exact rd0 hp | (rw [hsk]; exact rdP hp (by omega) (by omega)) | (with_reducible exact rfl) | (with_reducible assumption) | omega | (rw [hsk]; omega) | (simp only [sel, inK, segsOf, widthL, S0.width, List.cons_append, List.nil_append, List.length_cons, List.length_nil, Int.one_mul, implies_true, imp_self, btL, blL, bsL, ne_eq] <;> omega) | (simp only [sel, inK, segsOf, widthL, S0.width, List.cons_append, List.nil_append, List.length_cons, List.length_nil, Int.one_mul, implies_true, imp_self, btL, blL, bsL, ne_eq] at *; omega) | (simp only [sel, bsL, ne_eq] at *; simp_all <;> fail) | (simp [sel, segsOf, List.cons_append, List.nil_append, widthL, S0.width] <;> fail) | (simp only [ByteArray.size, List.size_toArray, List.length_cons, List.length_nil] <;> omega))) | fail) ?_
      | (with_reducible show SW _ (Code.cond _ _ _) _ _ _); (refine rCond rfl rfl (by first | (first | exact True.intro | exact rd0 hp | (rw [hsk]; exact rdP hp (by omega) (by omega)) | ((repeat' first | refine And.intro ?_ ?_ | intro _) <;> first | exact True.intro | exact rd0 hp | (rw [hsk]; exact rdP hp (by omega) (by omega)) | (with_reducible exact rfl) | (with_reducible assumption) | omega | (rw [hsk]; omega) | (simp only [sel, inK, segsOf, widthL, S0.width, List.cons_append, List.nil_append, List.length_cons, List.length_nil, Int.one_mul, implies_true, imp_self, btL, blL, bsL, ne_eq] <;> omega) | (simp only [sel, inK, segsOf, widthL, S0.width, List.cons_append, List.nil_append, List.length_cons, List.length_nil, Int.one_mul, implies_true, imp_self, btL, blL, bsL, ne_eq] at *; omega) | (simp only [sel, bsL, ne_eq] at *; simp_all <;> fail) | (simp [sel, segsOf, List.cons_append, List.nil_append, widthL, S0.width] <;> fail) | (simp only [ByteArray.size, List.size_toArray, List.length_cons, List.length_nil] <;> omega))) | fail) (fun h => ?_) (fun h => ?_) <;> (try (exact absurd h (by decide))) <;> (try simp only [hsk, Decidable.not_not, show Int.toNat 5 = 5 from rfl, blL, bsL, ne_eq] at h) <;> (try (exact absurd ‹_› ‹_›)) <;> (try (exfalso; omega)))
      | (with_reducible show SQ _ (Post _ _ _ _ _ _ _) .normal _ _); with_reducible refine rNormal ?_
      | (with_reducible show SQ _ (Post _ _ _ _ _ _ _) .ret _ _); refine rDone hX rfl (by first | (first | exact True.intro | exact rd0 hp | (rw [hsk]; exact rdP hp (by omega) (by omega)) | ((repeat' first | refine And.intro ?_ ?_ | intro _) <;> first | exact True.intro | exact rd0 hp | (rw [hsk]; exact rdP hp (by omega) (by omega)) | (with_reducible exact rfl) | (with_reducible assumption) | omega | (rw [hsk]; omega) | (simp only [sel, inK, segsOf, widthL, S0.width, List.cons_append, List.nil_append, List.length_cons, List.length_nil, Int.one_mul, implies_true, imp_self, btL, blL, bsL, ne_eq] <;> omega) | (simp only [sel, inK, segsOf, widthL, S0.width, List.cons_append, List.nil_append, List.length_cons, List.length_nil, Int.one_mul, implies_true, imp_self, btL, blL, bsL, ne_eq] at *; omega) | (simp only [sel, bsL, ne_eq] at *; simp_all <;> fail) | (simp [sel, segsOf, List.cons_append, List.nil_append, widthL, S0.width] <;> fail) | (simp only [ByteArray.size, List.size_toArray, List.length_cons, List.length_nil] <;> omega))) | fail) (EnvLe.refl _) (by first | ((try rw [hsk]); rcases hmc with ⟨g1, g2, g3⟩ | ⟨g1, g2, g3, g4, g5⟩ | ⟨g1, g2, g3, g4, g5⟩ | ⟨g1, g2, g3, g4, g5⟩ <;> first | (exfalso; omega) | (refine tup2_eq ?_ ?_ <;> first | omega | (rw [g5, and_31 _ (by omega)]; omega))) | fail) rfl rfl rfl (by first | (intro i e h; cases h; done) | (intro i e h; rw [look_cons] at h; split at h <;> cases h <;> rfl) | fail)
  · cases h
theorem peek1 (s : ByteArray) (q : Int) (h0 : 0 ≤ q) (h1 : q ≤ 8 * s.size) : (q = 8 * (s.size : Int) ∧ peekE s q 1 = 2 ∧ peekV s q 1 = 0 ∧ takeAt s q 1 = q) ∨ (q < 8 * (s.size : Int) ∧ peekE s q 1 = 0 ∧ peekV s q 1 = ((tb s).getD q.toNat false).toInt ∧ takeAt s q 1 = q + 1) := by
  unfold takeAt
  rcases peekE_cases s q 1 with ⟨h, _⟩ | ⟨_, _, h2, h3, h4⟩ | ⟨_, _, h2, h3, h4⟩
  · omega
  · rw [if_neg (by omega)]; exact .inl ⟨by omega, h3, h4, rfl⟩
  · rw [if_pos h3]
    refine .inr ⟨by omega, h3, ?_, rfl⟩
    have hl : 0 < ((tb s).drop q.toNat).length := by rw [List.length_drop, tb_length]; omega
    rw [h4, show (1 : Int).toNat = 0 + 1 from rfl, numB_one _ _ hl, drop_getD]
    simp [numB]
theorem bool01 (b : Bool) : (b = false ∧ b.toInt = 0) ∨ (b = true ∧ b.toInt = 1) := by cases b <;> simp [Bool.toInt]
theorem zeroN_in {bits : List Bool} {p : Int} (h0 : 0 ≤ p) (h1 : p ≤ bits.length) : zeroN bits p = ((bits.drop p.toNat).takeWhile fun b => !b).length := by unfold zeroN; rw [if_neg (by omega)]
theorem zeroN_out {bits : List Bool} {p : Int} (h0 : p < 0 ∨ (bits.length : Int) < p) : zeroN bits p = 0 := by unfold zeroN; rw [if_pos h0]
set_option maxRecDepth 100000 in
set_option maxHeartbeats 4000000 in
theorem okZeros : FnOK Try.prog gt0 48 (spZeros) := by
  refine fnOK_handed Try.func48 rfl (by kernel_rfl) tt_ok (ktCons okRNew (ktCons okSeek (ktCons okTake (ktNil)))) ?_
  intro args lk r h hp
  unfold spZeros at h
  split at h
  · rename_i s p
    cases h
    refine hand0 rfl rfl (fun w0 M ε0 hX => ?_)
    have hp : s.size + 64 ≤ 1099511627776 := hp
    have htl := tb_length s
    rcases sk_cases s p with ⟨hs0, hs1, hsk⟩ | ⟨hs0, hs1, hs2, hsk⟩
    · skip
      all_goals repeat' first
        | with_reducible refine rSeq ?_
        | with_reducible refine rThen ?_
        | with_reducible refine rBlock ?_
        | with_reducible refine rThenRet ?_
        | with_reducible refine rThenExit ?_
        | with_reducible refine rInRet ?_
        | with_reducible refine rInNormal ?_
        | with_reducible refine rInHit ?_
        | with_reducible refine rInMiss rfl ?_
        | with_reducible refine rRet ?_
        | with_reducible refine rExit ?_
        | with_reducible refine rSkip ?_
        | with_reducible refine rLabel ?_
        | with_reducible refine rScope ?_
        | with_reducible refine rNoGotoRet ?_
        | with_reducible refine rNoGotoNormal ?_
        | (with_reducible show SW _ (Code.region _ _ false) _ _ _); refine rRegC md0 hX rfl rfl rfl (by first | (first | exact True.intro | exact rd0 hp | (rw [hsk]; exact rdP hp (by omega) (by omega)) | ((repeat' first | refine And.intro ?_ ?_ | intro _) <;> first | exact True.intro | exact rd0 hp | (rw [hsk]; exact rdP hp (by omega) (by omega)) | (with_reducible exact rfl) | (with_reducible assumption) | omega | (rw [hsk]; omega) | (simp only [sel, inK, segsOf, widthL, S0.width, List.cons_append, List.nil_append, List.length_cons, List.length_nil, Int.one_mul, implies_true, imp_self, btL, blL, bsL, ne_eq] <;> omega) | (simp only [sel, inK, segsOf, widthL, S0.width, List.cons_append, List.nil_append, List.length_cons, List.length_nil, Int.one_mul, implies_true, imp_self, btL, blL, bsL, ne_eq] at *; omega) | (simp only [sel, bsL, ne_eq] at *; simp_all <;> fail) | (simp [sel, segsOf, List.cons_append, List.nil_append, widthL, S0.width] <;> fail) | (simp only [ByteArray.size, List.size_toArray, List.length_cons, List.length_nil] <;> omega))) | fail) ?_
        | (with_reducible show SW _ (Code.region _ _ true) _ _ _); refine rDrawC md0 hX mixed rfl rfl rfl rfl (by first | (first | exact True.intro | exact rd0 hp | (rw [hsk]; exact rdP hp (by omega) (by omega)) | ((repeat' first | refine And.intro ?_ ?_ | intro _) <;> first | exact True.intro | exact rd0 hp | (rw [hsk]; exact rdP hp (by omega) (by omega)) | (with_reducible exact rfl) | (with_reducible assumption) | omega | (rw [hsk]; omega) | (simp only [sel, inK, segsOf, widthL, S0.width, List.cons_append, List.nil_append, List.length_cons, List.length_nil, Int.one_mul, implies_true, imp_self, btL, blL, bsL, ne_eq] <;> omega) | (simp only [sel, inK, segsOf, widthL, S0.width, List.cons_append, List.nil_append, List.length_cons, List.length_nil, Int.one_mul, implies_true, imp_self, btL, blL, bsL, ne_eq] at *; omega) | (simp only [sel, bsL, ne_eq] at *; simp_all <;> fail) | (simp [sel, segsOf, List.cons_append, List.nil_append, widthL, S0.width] <;> fail) | (simp only [ByteArray.size, List.size_toArray, List.length_cons, List.length_nil] <;> omega))) | fail) ?_
        | (with_reducible show SW _ (Code.region _ _ true) _ _ _); refine rDrawSC md0 hX mixed rfl rfl rfl rfl rfl (by first | (first | exact True.intro | exact rd0 hp | (rw [hsk]; exact rdP hp (by omega) (by omega)) | ((repeat' first | refine And.intro ?_ ?_ | intro _) <;> first | exact True.intro | exact rd0 hp | (rw [hsk]; exact rdP hp (by omega) (by omega)) | (with_reducible exact rfl) | (with_reducible assumption) | omega | (rw [hsk]; omega) | (simp only [sel, inK, segsOf, widthL, S0.width, List.cons_append, List.nil_append, List.length_cons, List.length_nil, Int.one_mul, implies_true, imp_self, btL, blL, bsL, ne_eq] <;> omega) | (simp only [sel, inK, segsOf, widthL, S0.width, List.cons_append, List.nil_append, List.length_cons, List.length_nil, Int.one_mul, implies_true, imp_self, btL, blL, bsL, ne_eq] at *; omega) | (simp only [sel, bsL, ne_eq] at *; simp_all <;> fail) | (simp [sel, segsOf, List.cons_append, List.nil_append, widthL, S0.width] <;> fail) | (simp only [ByteArray.size, List.size_toArray, List.length_cons, List.length_nil] <;> omega))) | fail) ?_
        | (with_reducible show SW _ (Code.cond _ _ _) _ _ _); (refine rCond rfl rfl (by first | (first | exact True.intro | exact rd0 hp | (rw [hsk]; exact rdP hp (by omega) (by omega)) | ((repeat' first | refine And.intro ?_ ?_ | intro _) <;> first | exact True.intro | exact rd0 hp | (rw [hsk]; exact rdP hp (by omega) (by omega)) | (with_reducible exact rfl) | (with_reducible assumption) | omega | (rw [hsk]; omega) | (simp only [sel, inK, segsOf, widthL, S0.width, List.cons_append, List.nil_append, List.length_cons, List.length_nil, Int.one_mul, implies_true, imp_self, btL, blL, bsL, ne_eq] <;> omega) | (simp only [sel, inK, segsOf, widthL, S0.width, List.cons_append, List.nil_append, List.length_cons, List.length_nil, Int.one_mul, implies_true, imp_self, btL, blL, bsL, ne_eq] at *; omega) | (simp only [sel, bsL, ne_eq] at *; simp_all <;> fail) | (simp [sel, segsOf, List.cons_append, List.nil_append, widthL, S0.width] <;> fail) | (simp only [ByteArray.size, List.size_toArray, List.length_cons, List.length_nil] <;> omega))) | fail) (fun h => ?_) (fun h => ?_) <;> (try (exact absurd h (by decide))) <;> (try simp only [hsk, Decidable.not_not, blL, bsL, ne_eq] at h) <;> (try (exact absurd ‹_› ‹_›)) <;> (try (exfalso; omega)))
        | (with_reducible show SQ _ (Post _ _ _ _ _ _ _) .normal _ _); with_reducible refine rNormal ?_
        | (with_reducible show SQ _ (Post _ _ _ _ _ _ _) .ret _ _); refine rDone hX rfl (by first | (first | exact True.intro | exact rd0 hp | (rw [hsk]; exact rdP hp (by omega) (by omega)) | ((repeat' first | refine And.intro ?_ ?_ | intro _) <;> first | exact True.intro | exact rd0 hp | (rw [hsk]; exact rdP hp (by omega) (by omega)) | (with_reducible exact rfl) | (with_reducible assumption) | omega | (rw [hsk]; omega) | (simp only [sel, inK, segsOf, widthL, S0.width, List.cons_append, List.nil_append, List.length_cons, List.length_nil, Int.one_mul, implies_true, imp_self, btL, blL, bsL, ne_eq] <;> omega) | (simp only [sel, inK, segsOf, widthL, S0.width, List.cons_append, List.nil_append, List.length_cons, List.length_nil, Int.one_mul, implies_true, imp_self, btL, blL, bsL, ne_eq] at *; omega) | (simp only [sel, bsL, ne_eq] at *; simp_all <;> fail) | (simp [sel, segsOf, List.cons_append, List.nil_append, widthL, S0.width] <;> fail) | (simp only [ByteArray.size, List.size_toArray, List.length_cons, List.length_nil] <;> omega))) | fail) (EnvLe.refl _) (by first | (first | (refine congrArg i64 ?_; rw [zeroN_out (by omega)]; rfl) | (refine congrArg i64 ?_; rw [zeroN_in (by omega) (by omega)]; rcases hpk with hq | hq <;> first | (rw [zero_end hz (by omega)]; done) | (rw [zero_hit hz (by omega) (by rw [drop_getD, show p.toNat + n = (p + (n : Int)).toNat by omega]; rcases hb01 with ⟨_, h2⟩ | ⟨h2, _⟩ <;> first | (exfalso; omega) | exact h2)]; done))) | fail) rfl rfl rfl (by first | (intro i e h; cases h; done) | (intro i e h; rw [look_cons] at h; split at h <;> cases h <;> rfl) | fail)
    · skip
      all_goals repeat' first
        | with_reducible refine rSeq ?_
        | with_reducible refine rThen ?_
        | with_reducible refine rBlock ?_
        | with_reducible refine rThenRet ?_
        | with_reducible refine rThenExit ?_
        | with_reducible refine rInRet ?_
        | with_reducible refine rInNormal ?_
        | with_reducible refine rInHit ?_
        | with_reducible refine rInMiss rfl ?_
        | with_reducible refine rRet ?_
        | with_reducible refine rExit ?_
        | with_reducible refine rSkip ?_
        | with_reducible refine rLabel ?_
        | with_reducible refine rScope ?_
        | with_reducible refine rNoGotoRet ?_
        | with_reducible refine rNoGotoNormal ?_
        | (with_reducible show SW _ (Code.region _ _ false) _ _ _); refine rRegC md0 hX rfl rfl rfl (by first | (first | exact True.intro | exact rd0 hp | (rw [hsk]; exact rdP hp (by omega) (by omega)) | ((repeat' first | refine And.intro ?_ ?_ | intro _) <;> first | exact True.intro | exact rd0 hp | (rw [hsk]; exact rdP hp (by omega) (by omega)) | (with_reducible exact rfl) | (with_reducible assumption) | omega | (rw [hsk]; omega) | (simp only [sel, inK, segsOf, widthL, S0.width, List.cons_append, List.nil_append, List.length_cons, List.length_nil, Int.one_mul, implies_true, imp_self, btL, blL, bsL, ne_eq] <;> omega) | (simp only [sel, inK, segsOf, widthL, S0.width, List.cons_append, List.nil_append, List.length_cons, List.length_nil, Int.one_mul, implies_true, imp_self, btL, blL, bsL, ne_eq] at *; omega) | (simp only [sel, bsL, ne_eq] at *; simp_all <;> fail) | (simp [sel, segsOf, List.cons_append, List.nil_append, widthL, S0.width] <;> fail) | (simp only [ByteArray.size, List.size_toArray, List.length_cons, List.length_nil] <;> omega))) | fail) ?_
        | (with_reducible show SW _ (Code.region _ _ true) _ _ _); refine rDrawC md0 hX mixed rfl rfl rfl rfl (by first | (first | exact True.intro | exact rd0 hp | (rw [hsk]; exact rdP hp (by omega) (by omega)) | ((repeat' first | refine And.intro ?_ ?_ | intro _) <;> first | exact True.intro | exact rd0 hp | (rw [hsk]; exact rdP hp (by omega) (by omega)) | (with_reducible exact rfl) | (with_reducible assumption) | omega | (rw [hsk]; omega) | (simp only [sel, inK, segsOf, widthL, S0.width, List.cons_append, List.nil_append, List.length_cons, List.length_nil, Int.one_mul, implies_true, imp_self, btL, blL, bsL, ne_eq] <;> omega) | (simp only [sel, inK, segsOf, widthL, S0.width, List.cons_append, List.nil_append, List.length_cons, List.length_nil, Int.one_mul, implies_true, imp_self, btL, blL, bsL, ne_eq] at *; omega) | (simp only [sel, bsL, ne_eq] at *; simp_all <;> fail) | (simp [sel, segsOf, List.cons_append, List.nil_append, widthL, S0.width] <;> fail) | (simp only [ByteArray.size, List.size_toArray, List.length_cons, List.length_nil] <;> omega))) | fail) ?_
        | (with_reducible show SW _ (Code.region _ _ true) _ _ _); refine rDrawSC md0 hX mixed rfl rfl rfl rfl rfl (by first | (first | exact True.intro | exact rd0 hp | (rw [hsk]; exact rdP hp (by omega) (by omega)) | ((repeat' first | refine And.intro ?_ ?_ | intro _) <;> first | exact True.intro | exact rd0 hp | (rw [hsk]; exact rdP hp (by omega) (by omega)) | (with_reducible exact rfl) | (with_reducible assumption) | omega | (rw [hsk]; omega) | (simp only [sel, inK, segsOf, widthL, S0.width, List.cons_append, List.nil_append, List.length_cons, List.length_nil, Int.one_mul, implies_true, imp_self, btL, blL, bsL, ne_eq] <;> omega) | (simp only [sel, inK, segsOf, widthL, S0.width, List.cons_append, List.nil_append, List.length_cons, List.length_nil, Int.one_mul, implies_true, imp_self, btL, blL, bsL, ne_eq] at *; omega) | (simp only [sel, bsL, ne_eq] at *; simp_all <;> fail) | (simp [sel, segsOf, List.cons_append, List.nil_append, widthL, S0.width] <;> fail) | (simp only [ByteArray.size, List.size_toArray, List.length_cons, List.length_nil] <;> omega))) | fail) ?_
        | (with_reducible show SW _ (Code.cond _ _ _) _ _ _); (refine rCond rfl rfl (by first | (first | exact True.intro | exact rd0 hp | (rw [hsk]; exact rdP hp (by omega) (by omega)) | ((repeat' first | refine And.intro ?_ ?_ | intro _) <;> first | exact True.intro | exact rd0 hp | (rw [hsk]; exact rdP hp (by omega) (by omega)) | (with_reducible exact rfl) | (with_reducible assumption) | omega | (rw [hsk]; omega) | (simp only [sel, inK, segsOf, widthL, S0.width, List.cons_append, List.nil_append, List.length_cons, List.length_nil, Int.one_mul, implies_true, imp_self, btL, blL, bsL, ne_eq] <;> omega) | (simp only [sel, inK, segsOf, widthL, S0.width, List.cons_append, List.nil_append, List.length_cons, List.length_nil, Int.one_mul, implies_true, imp_self, btL, blL, bsL, ne_eq] at *; omega) | (simp only [sel, bsL, ne_eq] at *; simp_all <;> fail) | (simp [sel, segsOf, List.cons_append, List.nil_append, widthL, S0.width] <;> fail) | (simp only [ByteArray.size, List.size_toArray, List.length_cons, List.length_nil] <;> omega))) | fail) (fun h => ?_) (fun h => ?_) <;> (try (exact absurd h (by decide))) <;> (try simp only [hsk, Decidable.not_not, blL, bsL, ne_eq] at h) <;> (try (exact absurd ‹_› ‹_›)) <;> (try (exfalso; omega)))
        | (with_reducible show SQ _ (Post _ _ _ _ _ _ _) .normal _ _); with_reducible refine rNormal ?_
        | (with_reducible show SQ _ (Post _ _ _ _ _ _ _) .ret _ _); refine rDone hX rfl (by first | (first | exact True.intro | exact rd0 hp | (rw [hsk]; exact rdP hp (by omega) (by omega)) | ((repeat' first | refine And.intro ?_ ?_ | intro _) <;> first | exact True.intro | exact rd0 hp | (rw [hsk]; exact rdP hp (by omega) (by omega)) | (with_reducible exact rfl) | (with_reducible assumption) | omega | (rw [hsk]; omega) | (simp only [sel, inK, segsOf, widthL, S0.width, List.cons_append, List.nil_append, List.length_cons, List.length_nil, Int.one_mul, implies_true, imp_self, btL, blL, bsL, ne_eq] <;> omega) | (simp only [sel, inK, segsOf, widthL, S0.width, List.cons_append, List.nil_append, List.length_cons, List.length_nil, Int.one_mul, implies_true, imp_self, btL, blL, bsL, ne_eq] at *; omega) | (simp only [sel, bsL, ne_eq] at *; simp_all <;> fail) | (simp [sel, segsOf, List.cons_append, List.nil_append, widthL, S0.width] <;> fail) | (simp only [ByteArray.size, List.size_toArray, List.length_cons, List.length_nil] <;> omega))) | fail) (EnvLe.refl _) (by first | (first | (refine congrArg i64 ?_; rw [zeroN_out (by omega)]; rfl) | (refine congrArg i64 ?_; rw [zeroN_in (by omega) (by omega)]; rcases hpk with hq | hq <;> first | (rw [zero_end hz (by omega)]; done) | (rw [zero_hit hz (by omega) (by rw [drop_getD, show p.toNat + n = (p + (n : Int)).toNat by omega]; rcases hb01 with ⟨_, h2⟩ | ⟨h2, _⟩ <;> first | (exfalso; omega) | exact h2)]; done))) | fail) rfl rfl rfl (by first | (intro i e h; cases h; done) | (intro i e h; rw [look_cons] at h; split at h <;> cases h <;> rfl) | fail)
      refine rLoop0 (fun n : {n : Nat // p + (n : Int) ≤ 8 * (s.size : Int) ∧ numB (((tb s).drop p.toNat).take n) = 0} => ⟨[(5, pt 0), (6, i64 (n.1 : Int))], [(0, rdE true 41 s (p + (n.1 : Int)))], 1⟩) (fun n => 8 * s.size - n.1) ⟨0, by omega, rfl⟩ (by (refine Le.mk ?_ ?_ rfl <;> (repeat' first | exact RLe.nil | refine RLe.cons rfl ?_ ?_ | exact BLe.nil | refine BLe.cons rfl ?_ ?_) <;> (first | exact Ele.eq (congrArg (rdE true 41 s) (by rw [hsk]; simp)) | exact SVle.refl _ | exact Ele.refl _ | exact SVle.int (by first | omega | (dsimp only; omega) | fail) | exact SVle.bool (by rfl) | exact SVle.ints (by rfl) | exact Ele.mem (Ble.ints (by rfl))))) ?_
      rintro ⟨n, hn, hz⟩
      change SW _ _ _ _ ⟨[(5, pt 0), (6, i64 (n : Int))], [(0, rdE true 41 s (p + (n : Int)))], 1⟩
      have hpk := peek1 s (p + (n : Int)) (by omega) hn
      have hb01 := bool01 ((tb s).getD (p + (n : Int)).toNat false)
      have hon := numB_one ((tb s).drop p.toNat) n
      rw [drop_getD, show p.toNat + n = (p + (n : Int)).toNat by omega] at hon
      have hdl : ((tb s).drop p.toNat).length = 8 * s.size - p.toNat := by rw [List.length_drop, htl]
      all_goals repeat' first
        | (with_reducible show SQ _ (Exit.then (Again _ _ _ _ _) _) .normal _ _); refine rAgain0 ⟨n + 1, by push_cast; omega, by rw [hon (by omega), hz]; rcases hb01 with ⟨_, h2⟩ | ⟨_, h2⟩ <;> first | (rw [h2]; rfl) | (exfalso; omega)⟩ (by first | (first | omega | (dsimp only; omega) | fail) | fail) (by first | (refine Le.mk ?_ ?_ rfl <;> (repeat' first | exact RLe.nil | refine RLe.cons rfl ?_ ?_ | exact BLe.nil | refine BLe.cons rfl ?_ ?_) <;> (first | exact Ele.eq (congrArg (rdE true 41 s) (by (try dsimp only); push_cast; omega)) | exact SVle.refl _ | exact Ele.refl _ | exact SVle.int (by first | omega | (dsimp only; omega) | fail) | exact SVle.bool (by rfl) | exact SVle.ints (by rfl) | exact Ele.mem (Ble.ints (by rfl)))) | fail)
        | with_reducible refine rSeq ?_
        | with_reducible refine rThen ?_
        | with_reducible refine rBlock ?_
        | with_reducible refine rThenRet ?_
        | with_reducible refine rThenExit ?_
        | with_reducible refine rInRet ?_
        | with_reducible refine rInNormal ?_
        | with_reducible refine rInHit ?_
        | with_reducible refine rInMiss rfl ?_
        | with_reducible refine rRet ?_
        | with_reducible refine rExit ?_
        | with_reducible refine rSkip ?_
        | with_reducible refine rLabel ?_
        | with_reducible refine rScope ?_
        | with_reducible refine rNoGotoRet ?_
        | with_reducible refine rNoGotoNormal ?_
        | (with_reducible show SW _ (Code.region _ _ false) _ _ _); refine rRegC md0 hX rfl rfl rfl (by first | (first | exact True.intro | exact rdP hp (by omega) (by omega) | exact rd0 hp | (rw [hsk]; exact rdP hp (by omega) (by omega)) | ((repeat' first | refine And.intro ?_ ?_ | intro _) <;> first | exact True.intro | exact rdP hp (by omega) (by omega) | exact rd0 hp | (rw [hsk]; exact rdP hp (by omega) (by omega)) | (with_reducible exact rfl) | (with_reducible assumption) | omega | (rw [hsk]; omega) | (simp only [sel, inK, segsOf, widthL, S0.width, List.cons_append, List.nil_append, List.length_cons, List.length_nil, Int.one_mul, implies_true, imp_self, btL, blL, bsL, ne_eq] <;> omega) | (simp only [sel, inK, segsOf, widthL, S0.width, List.cons_append, List.nil_append, List.length_cons, List.length_nil, Int.one_mul, implies_true, imp_self, btL, blL, bsL, ne_eq] at *; omega) | (simp only [sel, bsL, ne_eq] at *; simp_all <;> fail) | (simp [sel, segsOf, List.cons_append, List.nil_append, widthL, S0.width] <;> fail) | (simp only [ByteArray.size, List.size_toArray, List.length_cons, List.length_nil] <;> omega))) | fail) ?_
        | (with_reducible show SW _ (Code.region _ _ true) _ _ _); refine rDrawC md0 hX mixed rfl rfl rfl rfl (by first | (first | exact True.intro | exact rdP hp (by omega) (by omega) | exact rd0 hp | (rw [hsk]; exact rdP hp (by omega) (by omega)) | ((repeat' first | refine And.intro ?_ ?_ | intro _) <;> first | exact True.intro | exact rdP hp (by omega) (by omega) | exact rd0 hp | (rw [hsk]; exact rdP hp (by omega) (by omega)) | (with_reducible exact rfl) | (with_reducible assumption) | omega | (rw [hsk]; omega) | (simp only [sel, inK, segsOf, widthL, S0.width, List.cons_append, List.nil_append, List.length_cons, List.length_nil, Int.one_mul, implies_true, imp_self, btL, blL, bsL, ne_eq] <;> omega) | (simp only [sel, inK, segsOf, widthL, S0.width, List.cons_append, List.nil_append, List.length_cons, List.length_nil, Int.one_mul, implies_true, imp_self, btL, blL, bsL, ne_eq] at *; omega) | (simp only [sel, bsL, ne_eq] at *; simp_all <;> fail) | (simp [sel, segsOf, List.cons_append, List.nil_append, widthL, S0.width] <;> fail) | (simp only [ByteArray.size, List.size_toArray, List.length_cons, List.length_nil] <;> omega))) | fail) ?_
        | (with_reducible show SW _ (Code.region _ _ true) _ _ _); refine rDrawSC md0 hX mixed rfl rfl rfl rfl rfl (by first | (first | exact True.intro | exact rdP hp (by omega) (by omega) | exact rd0 hp | (rw [hsk]; exact rdP hp (by omega) (by omega)) | ((repeat' first | refine And.intro ?_ ?_ | intro _) <;> first | exact True.intro | exact rdP hp (by omega) (by omega) | exact rd0 hp | (rw [hsk]; exact rdP hp (by omega) (by omega)) | (with_reducible exact rfl) | (with_reducible assumption) | omega | (rw [hsk]; omega) | (simp only [sel, inK, segsOf, widthL, S0.width, List.cons_append, List.nil_append, List.length_cons, List.length_nil, Int.one_mul, implies_true, imp_self, btL, blL, bsL, ne_eq] <;> omega) | (simp only [sel, inK, segsOf, widthL, S0.width, List.cons_append, List.nil_append, List.length_cons, List.length_nil, Int.one_mul, implies_true, imp_self, btL, blL, bsL, ne_eq] at *; omega) | (simp only [sel, bsL, ne_eq] at *; simp_all <;> fail) | (simp [sel, segsOf, List.cons_append, List.nil_append, widthL, S0.width] <;> fail) | (simp only [ByteArray.size, List.size_toArray, List.length_cons, List.length_nil] <;> omega))) | fail) ?_
        | (with_reducible show SW _ (Code.cond _ _ _) _ _ _); (refine rCond rfl rfl (by first | (first | exact True.intro | exact rdP hp (by omega) (by omega) | exact rd0 hp | (rw [hsk]; exact rdP hp (by omega) (by omega)) | ((repeat' first | refine And.intro ?_ ?_ | intro _) <;> first | exact True.intro | exact rdP hp (by omega) (by omega) | exact rd0 hp | (rw [hsk]; exact rdP hp (by omega) (by omega)) | (with_reducible exact rfl) | (with_reducible assumption) | omega | (rw [hsk]; omega) | (simp only [sel, inK, segsOf, widthL, S0.width, List.cons_append, List.nil_append, List.length_cons, List.length_nil, Int.one_mul, implies_true, imp_self, btL, blL, bsL, ne_eq] <;> omega) | (simp only [sel, inK, segsOf, widthL, S0.width, List.cons_append, List.nil_append, List.length_cons, List.length_nil, Int.one_mul, implies_true, imp_self, btL, blL, bsL, ne_eq] at *; omega) | (simp only [sel, bsL, ne_eq] at *; simp_all <;> fail) | (simp [sel, segsOf, List.cons_append, List.nil_append, widthL, S0.width] <;> fail) | (simp only [ByteArray.size, List.size_toArray, List.length_cons, List.length_nil] <;> omega))) | fail) (fun h => ?_) (fun h => ?_) <;> (try (exact absurd h (by decide))) <;> (try simp only [Decidable.not_not, blL, bsL, ne_eq] at h) <;> (try (exact absurd ‹_› ‹_›)) <;> (try (exfalso; omega)))
        | (with_reducible show SQ _ (Post _ _ _ _ _ _ _) .normal _ _); with_reducible refine rNormal ?_
        | (with_reducible show SQ _ (Post _ _ _ _ _ _ _) .ret _ _); refine rDone hX rfl (by first | (first | exact True.intro | exact rdP hp (by omega) (by omega) | exact rd0 hp | (rw [hsk]; exact rdP hp (by omega) (by omega)) | ((repeat' first | refine And.intro ?_ ?_ | intro _) <;> first | exact True.intro | exact rdP hp (by omega) (by omega) | exact rd0 hp | (rw [hsk]; exact rdP hp (by omega) (by omega)) | (with_reducible exact rfl) | (with_reducible assumption) | omega | (rw [hsk]; omega) | (simp only [sel, inK, segsOf, widthL, S0.width, List.cons_append, List.nil_append, List.length_cons, List.length_nil, Int.one_mul, implies_true, imp_self, btL, blL, bsL, ne_eq] <;> omega) | (simp only [sel, inK, segsOf, widthL, S0.width, List.cons_append, List.nil_append, List.length_cons, List.length_nil, Int.one_mul, implies_true, imp_self, btL, blL, bsL, ne_eq] at *; omega) | (simp only [sel, bsL, ne_eq] at *; simp_all <;> fail) | (simp [sel, segsOf, List.cons_append, List.nil_append, widthL, S0.width] <;> fail) | (simp only [ByteArray.size, List.size_toArray, List.length_cons, List.length_nil] <;> omega))) | fail) (EnvLe.refl _) (by first | (first | (refine congrArg i64 ?_; rw [zeroN_out (by omega)]; rfl) | (refine congrArg i64 ?_; rw [zeroN_in (by omega) (by omega)]; rcases hpk with hq | hq <;> first | (rw [zero_end hz (by omega)]; done) | (rw [zero_hit hz (by omega) (by rw [drop_getD, show p.toNat + n = (p + (n : Int)).toNat by omega]; rcases hb01 with ⟨_, h2⟩ | ⟨h2, _⟩ <;> first | (exfalso; omega) | exact h2)]; done))) | fail) rfl rfl rfl (by first | (intro i e h; cases h; done) | (intro i e h; rw [look_cons] at h; split at h <;> cases h <;> rfl) | fail)
  · cases h
theorem nx_out {bits : List Bool} {p : Int} (h : ¬ (0 ≤ p ∧ p ≤ bits.length ∧ rfE' bits p = 0)) : nxV bits p = 0 ∧ nxB bits p = false := by
  unfold nxV nxB
  rw [if_neg h]
  exact ⟨rfl, decide_eq_false fun ⟨a, b, c, d⟩ => h ⟨a, b, c⟩⟩
theorem nx_in {bits : List Bool} {p : Int} (h0 : 0 ≤ p) (h1 : p ≤ bits.length) (h2 : rfE' bits p = 0) : nxV bits p = mkV bits (p + padI p) ∧ nxB bits p = decide (mkE bits (p + padI p) = 0) := by
  unfold nxV nxB
  rw [if_pos ⟨h0, h1, h2⟩]
  refine ⟨rfl, decide_eq_decide.2 ⟨fun h => h.2.2.2, fun h => ⟨h0, h1, h2, h⟩⟩⟩
theorem rf_cases (s : ByteArray) (p : Int) : (rfE s p = 0 ∧ rfV s p = padI p) ∨ (rfE s p = 5 ∧ rfV s p = 0) := by
  unfold rfE rfV; split
  · exact .inl ⟨rfl, rfl⟩
  · exact .inr ⟨rfl, rfl⟩
set_option maxRecDepth 100000 in
set_option maxHeartbeats 4000000 in
theorem okMNext : FnOK Try.prog gt0 46 (spMNext) := by
  refine fnOK_handed Try.func46 rfl (by kernel_rfl) tt_ok (ktCons okRNew (ktCons okSeek (ktCons okRFill (ktCons okAt (ktCons okMAt (ktNil)))))) ?_
  intro args lk r h hp
  unfold spMNext at h
  split at h
  · rename_i s p
    cases h
    refine hand0 rfl rfl (fun w0 M ε0 hX => ?_)
    have hp : s.size + 64 ≤ 1099511627776 := hp
    have htl := tb_length s
    rcases sk_cases s p with ⟨hs0, hs1, hsk⟩ | ⟨hs0, hs1, hs2, hsk⟩
    · skip
      all_goals repeat' first
        | with_reducible refine rSeq ?_
        | with_reducible refine rThen ?_
        | with_reducible refine rBlock ?_
        | with_reducible refine rThenRet ?_
        | with_reducible refine rThenExit ?_
        | with_reducible refine rInRet ?_
        | with_reducible refine rInNormal ?_
        | with_reducible refine rInHit ?_
        | with_reducible refine rInMiss rfl ?_
        | with_reducible refine rRet ?_
        | with_reducible refine rExit ?_
        | with_reducible refine rSkip ?_
        | with_reducible refine rLabel ?_
        | with_reducible refine rScope ?_
        | with_reducible refine rNoGotoRet ?_
        | with_reducible refine rNoGotoNormal ?_
        | (with_reducible show SW _ (Code.region _ _ false) _ _ _); refine rRegC md0 hX rfl rfl rfl (by first | (first | exact True.intro | exact rd0 hp | (rw [hsk]; exact rdP hp (by omega) (by omega)) | ((repeat' first | refine And.intro ?_ ?_ | intro _) <;> first | exact True.intro | exact rd0 hp | (rw [hsk]; exact rdP hp (by omega) (by omega)) | (with_reducible exact rfl) | (with_reducible assumption) | omega | (rw [hsk]; omega) | (simp only [sel, inK, segsOf, widthL, S0.width, List.cons_append, List.nil_append, List.length_cons, List.length_nil, Int.one_mul, implies_true, imp_self, btL, blL, bsL, ne_eq] <;> omega) | (simp only [sel, inK, segsOf, widthL, S0.width, List.cons_append, List.nil_append, List.length_cons, List.length_nil, Int.one_mul, implies_true, imp_self, btL, blL, bsL, ne_eq] at *; omega) | (simp only [sel, bsL, ne_eq] at *; simp_all <;> fail) | (simp [sel, segsOf, List.cons_append, List.nil_append, widthL, S0.width] <;> fail) | (simp only [ByteArray.size, List.size_toArray, List.length_cons, List.length_nil] <;> omega))) | fail) ?_
        | (with_reducible show SW _ (Code.region _ _ true) _ _ _); refine rDrawC md0 hX mixed rfl rfl rfl rfl (by first | (first | exact True.intro | exact rd0 hp | (rw [hsk]; exact rdP hp (by omega) (by omega)) | ((repeat' first | refine And.intro ?_ ?_ | intro _) <;> first | exact True.intro | exact rd0 hp | (rw [hsk]; exact rdP hp (by omega) (by omega)) | (with_reducible exact rfl) | (with_reducible assumption) | omega | (rw [hsk]; omega) | (simp only [sel, inK, segsOf, widthL, S0.width, List.cons_append, List.nil_append, List.length_cons, List.length_nil, Int.one_mul, implies_true, imp_self, btL, blL, bsL, ne_eq] <;> omega) | (simp only [sel, inK, segsOf, widthL, S0.width, List.cons_append, List.nil_append, List.length_cons, List.length_nil, Int.one_mul, implies_true, imp_self, btL, blL, bsL, ne_eq] at *; omega) | (simp only [sel, bsL, ne_eq] at *; simp_all <;> fail) | (simp [sel, segsOf, List.cons_append, List.nil_append, widthL, S0.width] <;> fail) | (simp only [ByteArray.size, List.size_toArray, List.length_cons, List.length_nil] <;> omega))) | fail) ?_
        | (with_reducible show SW _ (Code.region _ _ true) _ _ _); refine rDrawSC md0 hX mixed rfl rfl rfl rfl rfl (by first | (first | exact True.intro | exact rd0 hp | (rw [hsk]; exact rdP hp (by omega) (by omega)) | ((repeat' first | refine And.intro ?_ ?_ | intro _) <;> first | exact True.intro | exact rd0 hp | (rw [hsk]; exact rdP hp (by omega) (by omega)) | (with_reducible exact rfl) | (with_reducible assumption) | omega | (rw [hsk]; omega) | (simp only [sel, inK, segsOf, widthL, S0.width, List.cons_append, List.nil_append, List.length_cons, List.length_nil, Int.one_mul, implies_true, imp_self, btL, blL, bsL, ne_eq] <;> omega) | (simp only [sel, inK, segsOf, widthL, S0.width, List.cons_append, List.nil_append, List.length_cons, List.length_nil, Int.one_mul, implies_true, imp_self, btL, blL, bsL, ne_eq] at *; omega) | (simp only [sel, bsL, ne_eq] at *; simp_all <;> fail) | (simp [sel, segsOf, List.cons_append, List.nil_append, widthL, S0.width] <;> fail) | (simp only [ByteArray.size, List.size_toArray, List.length_cons, List.length_nil] <;> omega))) | fail) ?_
        | (with_reducible show SW _ (Code.cond _ _ _) _ _ _); (refine rCond rfl rfl (by first | (first | exact True.intro | exact rd0 hp | (rw [hsk]; exact rdP hp (by omega) (by omega)) | ((repeat' first | refine And.intro ?_ ?_ | intro _) <;> first | exact True.intro | exact rd0 hp | (rw [hsk]; exact rdP hp (by omega) (by omega)) | (with_reducible exact rfl) | (with_reducible assumption) | omega | (rw [hsk]; omega) | (simp only [sel, inK, segsOf, widthL, S0.width, List.cons_append, List.nil_append, List.length_cons, List.length_nil, Int.one_mul, implies_true, imp_self, btL, blL, bsL, ne_eq] <;> omega) | (simp only [sel, inK, segsOf, widthL, S0.width, List.cons_append, List.nil_append, List.length_cons, List.length_nil, Int.one_mul, implies_true, imp_self, btL, blL, bsL, ne_eq] at *; omega) | (simp only [sel, bsL, ne_eq] at *; simp_all <;> fail) | (simp [sel, segsOf, List.cons_append, List.nil_append, widthL, S0.width] <;> fail) | (simp only [ByteArray.size, List.size_toArray, List.length_cons, List.length_nil] <;> omega))) | fail) (fun h => ?_) (fun h => ?_) <;> (try (exact absurd h (by decide))) <;> (try simp only [hsk, Decidable.not_not, blL, bsL, ne_eq] at h) <;> (try (exact absurd ‹_› ‹_›)) <;> (try (exfalso; omega)))
        | (with_reducible show SQ _ (Post _ _ _ _ _ _ _) .normal _ _); with_reducible refine rNormal ?_
        | (with_reducible show SQ _ (Post _ _ _ _ _ _ _) .ret _ _); refine rDone hX rfl (by first | (first | exact True.intro | exact rd0 hp | (rw [hsk]; exact rdP hp (by omega) (by omega)) | ((repeat' first | refine And.intro ?_ ?_ | intro _) <;> first | exact True.intro | exact rd0 hp | (rw [hsk]; exact rdP hp (by omega) (by omega)) | (with_reducible exact rfl) | (with_reducible assumption) | omega | (rw [hsk]; omega) | (simp only [sel, inK, segsOf, widthL, S0.width, List.cons_append, List.nil_append, List.length_cons, List.length_nil, Int.one_mul, implies_true, imp_self, btL, blL, bsL, ne_eq] <;> omega) | (simp only [sel, inK, segsOf, widthL, S0.width, List.cons_append, List.nil_append, List.length_cons, List.length_nil, Int.one_mul, implies_true, imp_self, btL, blL, bsL, ne_eq] at *; omega) | (simp only [sel, bsL, ne_eq] at *; simp_all <;> fail) | (simp [sel, segsOf, List.cons_append, List.nil_append, widthL, S0.width] <;> fail) | (simp only [ByteArray.size, List.size_toArray, List.length_cons, List.length_nil] <;> omega))) | fail) (EnvLe.refl _) (by first | (obtain ⟨n1, n2⟩ := nx_out (bits := tb s) (p := p) (by omega); exact tupB_eq n1 n2) | fail) rfl rfl rfl (by first | (intro i e h; cases h; done) | (intro i e h; rw [look_cons] at h; split at h <;> cases h <;> rfl) | fail)
    · have hok := rdP hp hs0 hs1
      have hrc := rf_cases s p
      have hpi := padI_in hok
      all_goals repeat' first
        | with_reducible refine rSeq ?_
        | with_reducible refine rThen ?_
        | with_reducible refine rBlock ?_
        | with_reducible refine rThenRet ?_
        | with_reducible refine rThenExit ?_
        | with_reducible refine rInRet ?_
        | with_reducible refine rInNormal ?_
        | with_reducible refine rInHit ?_
        | with_reducible refine rInMiss rfl ?_
        | with_reducible refine rRet ?_
        | with_reducible refine rExit ?_
        | with_reducible refine rSkip ?_
        | with_reducible refine rLabel ?_
        | with_reducible refine rScope ?_
        | with_reducible refine rNoGotoRet ?_
        | with_reducible refine rNoGotoNormal ?_
        | (with_reducible show SW _ (Code.region _ _ false) _ _ _); refine rRegC md0 hX rfl rfl rfl (by first | (first | exact True.intro | exact hok | exact rf_ok hok | (rw [hsk]; exact hok) | (rw [hsk]; exact rf_ok hok) | exact rd0 hp | (rw [hsk]; exact rdP hp (by omega) (by omega)) | ((repeat' first | refine And.intro ?_ ?_ | intro _) <;> first | exact True.intro | exact hok | exact rf_ok hok | (rw [hsk]; exact hok) | (rw [hsk]; exact rf_ok hok) | exact rd0 hp | (rw [hsk]; exact rdP hp (by omega) (by omega)) | (with_reducible exact rfl) | (with_reducible assumption) | omega | (rw [hsk]; omega) | (simp only [sel, inK, segsOf, widthL, S0.width, List.cons_append, List.nil_append, List.length_cons, List.length_nil, Int.one_mul, implies_true, imp_self, btL, blL, bsL, ne_eq] <;> omega) | (simp only [sel, inK, segsOf, widthL, S0.width, List.cons_append, List.nil_append, List.length_cons, List.length_nil, Int.one_mul, implies_true, imp_self, btL, blL, bsL, ne_eq] at *; omega) | (simp only [sel, bsL, ne_eq] at *; simp_all <;> fail) | (simp [sel, segsOf, List.cons_append, List.nil_append, widthL, S0.width] <;> fail) | (simp only [ByteArray.size, List.size_toArray, List.length_cons, List.length_nil] <;> omega))) | fail) ?_
        | (with_reducible show SW _ (Code.region _ _ true) _ _ _); refine rDrawC md0 hX mixed rfl rfl rfl rfl (by first | (first | exact True.intro | exact hok | exact rf_ok hok | (rw [hsk]; exact hok) | (rw [hsk]; exact rf_ok hok) | exact rd0 hp | (rw [hsk]; exact rdP hp (by omega) (by omega)) | ((repeat' first | refine And.intro ?_ ?_ | intro _) <;> first | exact True.intro | exact hok | exact rf_ok hok | (rw [hsk]; exact hok) | (rw [hsk]; exact rf_ok hok) | exact rd0 hp | (rw [hsk]; exact rdP hp (by omega) (by omega)) | (with_reducible exact rfl) | (with_reducible assumption) | omega | (rw [hsk]; omega) | (simp only [sel, inK, segsOf, widthL, S0.width, List.cons_append, List.nil_append, List.length_cons, List.length_nil, Int.one_mul, implies_true, imp_self, btL, blL, bsL, ne_eq] <;> omega) | (simp only [sel, inK, segsOf, widthL, S0.width, List.cons_append, List.nil_append, List.length_cons, List.length_nil, Int.one_mul, implies_true, imp_self, btL, blL, bsL, ne_eq] at *; omega) | (simp only [sel, bsL, ne_eq] at *; simp_all <;> fail) | (simp [sel, segsOf, List.cons_append, List.nil_append, widthL, S0.width] <;> fail) | (simp only [ByteArray.size, List.size_toArray, List.length_cons, List.length_nil] <;> omega))) | fail) ?_
        | (with_reducible show SW _ (Code.region _ _ true) _ _ _); refine rDrawSC md0 hX mixed rfl rfl rfl rfl rfl (by first | (first | exact True.intro | exact hok | exact rf_ok hok | (rw [hsk]; exact hok) | (rw [hsk]; exact rf_ok hok) | exact rd0 hp | (rw [hsk]; exact rdP hp (by omega) (by omega)) | ((repeat' first | refine And.intro ?_ ?_ | intro _) <;> first | exact True.intro | exact hok | exact rf_ok hok | (rw [hsk]; exact hok) | (rw [hsk]; exact rf_ok hok) | exact rd0 hp | (rw [hsk]; exact rdP hp (by omega) (by omega)) | (with_reducible exact rfl) | (with_reducible assumption) | omega | (rw [hsk]; omega) | (simp only [sel, inK, segsOf, widthL, S0.width, List.cons_append, List.nil_append, List.length_cons, List.length_nil, Int.one_mul, implies_true, imp_self, btL, blL, bsL, ne_eq] <;> omega) | (simp only [sel, inK, segsOf, widthL, S0.width, List.cons_append, List.nil_append, List.length_cons, List.length_nil, Int.one_mul, implies_true, imp_self, btL, blL, bsL, ne_eq] at *; omega) | (simp only [sel, bsL, ne_eq] at *; simp_all <;> fail) | (simp [sel, segsOf, List.cons_append, List.nil_append, widthL, S0.width] <;> fail) | (simp only [ByteArray.size, List.size_toArray, List.length_cons, List.length_nil] <;> omega))) | fail) ?_
        | (with_reducible show SW _ (Code.cond _ _ _) _ _ _); (refine rCond rfl rfl (by first | (first | exact True.intro | exact hok | exact rf_ok hok | (rw [hsk]; exact hok) | (rw [hsk]; exact rf_ok hok) | exact rd0 hp | (rw [hsk]; exact rdP hp (by omega) (by omega)) | ((repeat' first | refine And.intro ?_ ?_ | intro _) <;> first | exact True.intro | exact hok | exact rf_ok hok | (rw [hsk]; exact hok) | (rw [hsk]; exact rf_ok hok) | exact rd0 hp | (rw [hsk]; exact rdP hp (by omega) (by omega)) | (with_reducible exact rfl) | (with_reducible assumption) | omega | (rw [hsk]; omega) | (simp only [sel, inK, segsOf, widthL, S0.width, List.cons_append, List.nil_append, List.length_cons, List.length_nil, Int.one_mul, implies_true, imp_self, btL, blL, bsL, ne_eq] <;> omega) | (simp only [sel, inK, segsOf, widthL, S0.width, List.cons_append, List.nil_append, List.length_cons, List.length_nil, Int.one_mul, implies_true, imp_self, btL, blL, bsL, ne_eq] at *; omega) | (simp only [sel, bsL, ne_eq] at *; simp_all <;> fail) | (simp [sel, segsOf, List.cons_append, List.nil_append, widthL, S0.width] <;> fail) | (simp only [ByteArray.size, List.size_toArray, List.length_cons, List.length_nil] <;> omega))) | fail) (fun h => ?_) (fun h => ?_) <;> (try (exact absurd h (by decide))) <;> (try simp only [hsk, Decidable.not_not, blL, bsL, ne_eq] at h) <;> (try (exact absurd ‹_› ‹_›)) <;> (try (exfalso; omega)))
        | (with_reducible show SQ _ (Post _ _ _ _ _ _ _) .normal _ _); with_reducible refine rNormal ?_
        | (with_reducible show SQ _ (Post _ _ _ _ _ _ _) .ret _ _); refine rDone hX rfl (by first | (first | exact True.intro | exact hok | exact rf_ok hok | (rw [hsk]; exact hok) | (rw [hsk]; exact rf_ok hok) | exact rd0 hp | (rw [hsk]; exact rdP hp (by omega) (by omega)) | ((repeat' first | refine And.intro ?_ ?_ | intro _) <;> first | exact True.intro | exact hok | exact rf_ok hok | (rw [hsk]; exact hok) | (rw [hsk]; exact rf_ok hok) | exact rd0 hp | (rw [hsk]; exact rdP hp (by omega) (by omega)) | (with_reducible exact rfl) | (with_reducible assumption) | omega | (rw [hsk]; omega) | (simp only [sel, inK, segsOf, widthL, S0.width, List.cons_append, List.nil_append, List.length_cons, List.length_nil, Int.one_mul, implies_true, imp_self, btL, blL, bsL, ne_eq] <;> omega) | (simp only [sel, inK, segsOf, widthL, S0.width, List.cons_append, List.nil_append, List.length_cons, List.length_nil, Int.one_mul, implies_true, imp_self, btL, blL, bsL, ne_eq] at *; omega) | (simp only [sel, bsL, ne_eq] at *; simp_all <;> fail) | (simp [sel, segsOf, List.cons_append, List.nil_append, widthL, S0.width] <;> fail) | (simp only [ByteArray.size, List.size_toArray, List.length_cons, List.length_nil] <;> omega))) | fail) (EnvLe.refl _) (by first | (first | (obtain ⟨n1, n2⟩ := nx_out (bits := tb s) (p := p) (by rintro ⟨a1, a2, a3⟩; first | omega | (rw [← rfE_eq hok] at a3; omega)); exact tupB_eq n1 n2) | (obtain ⟨n1, n2⟩ := nx_in (bits := tb s) (p := p) (by omega) (by omega) (by rw [← rfE_eq hok]; omega); refine tupB_eq ?_ ?_ <;> first | (rw [n1, show padI p = rfV s p by omega, hsk]) | (rw [n2, show padI p = rfV s p by omega, hsk]))) | fail) rfl rfl rfl (by first | (intro i e h; cases h; done) | (intro i e h; rw [look_cons] at h; split at h <;> cases h <;> rfl) | fail)
  · cases h

end Go.Proofs.Ytgbeiogbppaogaa
