/- The document's readers. -/
import Derived.Test.YtgbeiogbppaogaaB9
set_option linter.unusedVariables false
set_option linter.unusedSimpArgs false
namespace Go.Proofs.Ytgbeiogbppaogaa
open Go.X

theorem ext_bits (s : ByteArray) (a b : Nat) : bitsT (bl (s.extract a b)) = ((bitsT (bl s)).drop a).take (b - a) := by
  rw [bl_extract]; simp [bitsT, List.map_take, List.map_drop]
theorem ext_plain {s : ByteArray} (h : plainL (bl s) = true) (a b : Nat) : plainL (bl (s.extract a b)) = true := by
  rw [bl_extract]
  unfold plainL at *
  rw [List.all_eq_true] at *
  exact fun x hx => h x (List.mem_of_mem_drop (List.mem_of_mem_take hx))
theorem ext_size (s : ByteArray) (a b : Nat) : (s.extract a b).size ≤ b - a := by
  rw [← bl_length, bl_extract, List.length_take]; omega
set_option maxRecDepth 100000 in
set_option maxHeartbeats 4000000 in
theorem okRTake : FnOK Try.prog gt0 18 (spRTake) := by
  refine fnOK_handed Try.func18 rfl (by kernel_rfl) tt_ok (ktCons okNumber (ktNil)) ?_
  intro args lk r h hp
  unfold spRTake at h
  split at h
  · rename_i s p n
    cases h
    refine hand0 rfl rfl (fun w0 M ε0 hX => ?_)
    obtain ⟨hpl, hs, hp0, hp1⟩ : plainL (bl s) = true ∧ s.size ≤ 8796093022208 ∧ 0 ≤ p ∧ p ≤ s.size := hp
    have hbl := bl_length s
    have hbt := bitsT_length (bl s)
    all_goals repeat' first
      | with_reducible refine rSeq ?_
      | with_reducible refine rThen ?_
      | with_reducible refine rBlock ?_
      | with_reducible refine rThenRet ?_
      | with_reducible refine rThenExit ?_
      | with_reducible refine rInRet ?_
      | with_reducible refine rInNormal ?_
      | with_reducible refine rInHit ?_
      | with_reducible refine rInMiss rfl ?_
      | with_reducible refine rRet ?_
      | with_reducible refine rExit ?_
      | with_reducible refine rSkip ?_
      | with_reducible refine rLabel ?_
      | with_reducible refine rScope ?_
      | with_reducible refine rNoGotoRet ?_
      | with_reducible refine rNoGotoNormal ?_
      | (with_reducible show SW _ (Code.region _ _ false) _ _ _); refine rRegC md0 hX rfl rfl rfl (by first | (first | exact True.intro | exact ext_plain hpl _ _ | (refine Nat.le_trans (ext_size _ _ _) ?_; omega) | ((repeat' first | refine And.intro ?_ ?_ | intro _) <;> first | exact True.intro | exact ext_plain hpl _ _ | (refine Nat.le_trans (ext_size _ _ _) ?_; omega) | (with_reducible exact rfl) | (with_reducible assumption) | omega | (simp only [rowT_size, bytesOf_size, bl_rowT, plainL_txt, List.length_take, List.length_drop, sel, inK, segsOf, widthL, S0.width, List.cons_append, List.nil_append, List.length_cons, List.length_nil, Int.one_mul, implies_true, imp_self, btL, blL, bsL, ne_eq] <;> omega) | (simp only [rowT_size, bytesOf_size, bl_rowT, plainL_txt, List.length_take, List.length_drop, sel, inK, segsOf, widthL, S0.width, List.cons_append, List.nil_append, List.length_cons, List.length_nil, Int.one_mul, implies_true, imp_self, btL, blL, bsL, ne_eq] at *; omega) | (simp only [sel, rowT_size, bytesOf_size, bl_rowT, plainL_txt, List.length_take, List.length_drop, bsL, ne_eq] at *; simp_all <;> fail) | (simp [sel, segsOf, List.cons_append, List.nil_append, widthL, S0.width] <;> fail) | (simp only [ByteArray.size, List.size_toArray, List.length_cons, List.length_nil] <;> omega))) | fail) ?_
      | (with_reducible show SW _ (Code.region _ _ true) _ _ _); refine rDrawC md0 hX mixed rfl rfl rfl rfl (by first | (first | exact True.intro | exact ext_plain hpl _ _ | (refine Nat.le_trans (ext_size _ _ _) ?_; omega) | ((repeat' first | refine And.intro ?_ ?_ | intro _) <;> first | exact True.intro | exact ext_plain hpl _ _ | (refine Nat.le_trans (ext_size _ _ _) ?_; omega) | (with_reducible exact rfl) | (with_reducible assumption) | omega | (simp only [rowT_size, bytesOf_size, bl_rowT, plainL_txt, List.length_take, List.length_drop, sel, inK, segsOf, widthL, S0.width, List.cons_append, List.nil_append, List.length_cons, List.length_nil, Int.one_mul, implies_true, imp_self, btL, blL, bsL, ne_eq] <;> omega) | (simp only [rowT_size, bytesOf_size, bl_rowT, plainL_txt, List.length_take, List.length_drop, sel, inK, segsOf, widthL, S0.width, List.cons_append, List.nil_append, List.length_cons, List.length_nil, Int.one_mul, implies_true, imp_self, btL, blL, bsL, ne_eq] at *; omega) | (simp only [sel, rowT_size, bytesOf_size, bl_rowT, plainL_txt, List.length_take, List.length_drop, bsL, ne_eq] at *; simp_all <;> fail) | (simp [sel, segsOf, List.cons_append, List.nil_append, widthL, S0.width] <;> fail) | (simp only [ByteArray.size, List.size_toArray, List.length_cons, List.length_nil] <;> omega))) | fail) ?_
      | (with_reducible show SW _ (Code.region _ _ true) _ _ _); refine rDrawSC md0 hX mixed rfl rfl rfl rfl rfl (by first | (first | exact True.intro | exact ext_plain hpl _ _ | (refine Nat.le_trans (ext_size _ _ _) ?_; omega) | ((repeat' first | refine And.intro ?_ ?_ | intro _) <;> first | exact True.intro | exact ext_plain hpl _ _ | (refine Nat.le_trans (ext_size _ _ _) ?_; omega) | (with_reducible exact rfl) | (with_reducible assumption) | omega | (simp only [rowT_size, bytesOf_size, bl_rowT, plainL_txt, List.length_take, List.length_drop, sel, inK, segsOf, widthL, S0.width, List.cons_append, List.nil_append, List.length_cons, List.length_nil, Int.one_mul, implies_true, imp_self, btL, blL, bsL, ne_eq] <;> omega) | (simp only [rowT_size, bytesOf_size, bl_rowT, plainL_txt, List.length_take, List.length_drop, sel, inK, segsOf, widthL, S0.width, List.cons_append, List.nil_append, List.length_cons, List.length_nil, Int.one_mul, implies_true, imp_self, btL, blL, bsL, ne_eq] at *; omega) | (simp only [sel, rowT_size, bytesOf_size, bl_rowT, plainL_txt, List.length_take, List.length_drop, bsL, ne_eq] at *; simp_all <;> fail) | (simp [sel, segsOf, List.cons_append, List.nil_append, widthL, S0.width] <;> fail) | (simp only [ByteArray.size, List.size_toArray, List.length_cons, List.length_nil] <;> omega))) | fail) ?_
      | (with_reducible show SW _ (Code.cond _ _ _) _ _ _); (refine rCond rfl rfl (by first | (first | exact True.intro | exact ext_plain hpl _ _ | (refine Nat.le_trans (ext_size _ _ _) ?_; omega) | ((repeat' first | refine And.intro ?_ ?_ | intro _) <;> first | exact True.intro | exact ext_plain hpl _ _ | (refine Nat.le_trans (ext_size _ _ _) ?_; omega) | (with_reducible exact rfl) | (with_reducible assumption) | omega | (simp only [rowT_size, bytesOf_size, bl_rowT, plainL_txt, List.length_take, List.length_drop, sel, inK, segsOf, widthL, S0.width, List.cons_append, List.nil_append, List.length_cons, List.length_nil, Int.one_mul, implies_true, imp_self, btL, blL, bsL, ne_eq] <;> omega) | (simp only [rowT_size, bytesOf_size, bl_rowT, plainL_txt, List.length_take, List.length_drop, sel, inK, segsOf, widthL, S0.width, List.cons_append, List.nil_append, List.length_cons, List.length_nil, Int.one_mul, implies_true, imp_self, btL, blL, bsL, ne_eq] at *; omega) | (simp only [sel, rowT_size, bytesOf_size, bl_rowT, plainL_txt, List.length_take, List.length_drop, bsL, ne_eq] at *; simp_all <;> fail) | (simp [sel, segsOf, List.cons_append, List.nil_append, widthL, S0.width] <;> fail) | (simp only [ByteArray.size, List.size_toArray, List.length_cons, List.length_nil] <;> omega))) | fail) (fun h => ?_) (fun h => ?_) <;> (try (exact absurd h (by decide))) <;> (try simp only [blL, bsL, ne_eq] at h) <;> (try (exact absurd ‹_› ‹_›)) <;> (try (exfalso; omega)))
      | (with_reducible show SQ _ (Post _ _ _ _ _ _ _) .normal _ _); with_reducible refine rNormal ?_
      | (with_reducible show SQ _ (Post _ _ _ _ _ _ _) .ret _ _); refine rDone hX rfl (by first | (first | exact True.intro | exact ext_plain hpl _ _ | (refine Nat.le_trans (ext_size _ _ _) ?_; omega) | ((repeat' first | refine And.intro ?_ ?_ | intro _) <;> first | exact True.intro | exact ext_plain hpl _ _ | (refine Nat.le_trans (ext_size _ _ _) ?_; omega) | (with_reducible exact rfl) | (with_reducible assumption) | omega | (simp only [rowT_size, bytesOf_size, bl_rowT, plainL_txt, List.length_take, List.length_drop, sel, inK, segsOf, widthL, S0.width, List.cons_append, List.nil_append, List.length_cons, List.length_nil, Int.one_mul, implies_true, imp_self, btL, blL, bsL, ne_eq] <;> omega) | (simp only [rowT_size, bytesOf_size, bl_rowT, plainL_txt, List.length_take, List.length_drop, sel, inK, segsOf, widthL, S0.width, List.cons_append, List.nil_append, List.length_cons, List.length_nil, Int.one_mul, implies_true, imp_self, btL, blL, bsL, ne_eq] at *; omega) | (simp only [sel, rowT_size, bytesOf_size, bl_rowT, plainL_txt, List.length_take, List.length_drop, bsL, ne_eq] at *; simp_all <;> fail) | (simp [sel, segsOf, List.cons_append, List.nil_append, widthL, S0.width] <;> fail) | (simp only [ByteArray.size, List.size_toArray, List.length_cons, List.length_nil] <;> omega))) | fail) (EnvLe.refl _) (by first | (rcases rt_cases (bitsT (bl s)) s.size p n with ⟨g1, g2, g3⟩ | ⟨g1, g2, g3, g4, g5⟩ | ⟨g1, g2, g3, g4, g5⟩ <;> first | (exfalso; omega) | (refine tup2_eq ?_ ?_ <;> first | omega | (rw [g5, ext_bits]; congr 3; omega))) | fail) rfl rfl rfl (by first | (intro i e h; cases h; done) | (intro i e h; rw [look_cons] at h; split at h <;> cases h <;> rfl) | fail)
  · cases h
set_option maxRecDepth 100000 in
set_option maxHeartbeats 4000000 in
theorem okRFillR : FnOK Try.prog gt0 20 (spRFillR) := by
  refine fnOK_handed Try.func20 rfl (by kernel_rfl) tt_ok (ktNil) ?_
  intro args lk r h hp
  unfold spRFillR at h
  split at h
  · rename_i s p
    cases h
    refine hand0 rfl rfl (fun w0 M ε0 hX => ?_)
    obtain ⟨hpl, hs, h8, hp0, hp1⟩ : plainL (bl s) = true ∧ s.size ≤ 8796093022208 ∧ s.size % 8 = 0 ∧ 0 ≤ p ∧ p ≤ s.size := hp
    have hbl := bl_length s
    have hbt := bitsT_length (bl s)
    have hpd : padI p = (8 - p % 8) % 8 := rfl
    all_goals repeat' first
      | with_reducible refine rSeq ?_
      | with_reducible refine rThen ?_
      | with_reducible refine rBlock ?_
      | with_reducible refine rThenRet ?_
      | with_reducible refine rThenExit ?_
      | with_reducible refine rInRet ?_
      | with_reducible refine rInNormal ?_
      | with_reducible refine rInHit ?_
      | with_reducible refine rInMiss rfl ?_
      | with_reducible refine rRet ?_
      | with_reducible refine rExit ?_
      | with_reducible refine rSkip ?_
      | with_reducible refine rLabel ?_
      | with_reducible refine rScope ?_
      | with_reducible refine rNoGotoRet ?_
      | with_reducible refine rNoGotoNormal ?_
      | (with_reducible show SW _ (Code.region _ _ false) _ _ _); refine rRegC md0 hX rfl rfl rfl (by first | (first | exact True.intro | ((repeat' first | refine And.intro ?_ ?_ | intro _) <;> first | exact True.intro | (with_reducible exact rfl) | (with_reducible assumption) | omega | (simp only [sel, inK, segsOf, widthL, S0.width, List.cons_append, List.nil_append, List.length_cons, List.length_nil, Int.one_mul, implies_true, imp_self, btL, blL, bsL, ne_eq] <;> omega) | (simp only [sel, inK, segsOf, widthL, S0.width, List.cons_append, List.nil_append, List.length_cons, List.length_nil, Int.one_mul, implies_true, imp_self, btL, blL, bsL, ne_eq] at *; omega) | (simp only [sel, bsL, ne_eq] at *; simp_all <;> fail) | (simp [sel, segsOf, List.cons_append, List.nil_append, widthL, S0.width] <;> fail) | (simp only [ByteArray.size, List.size_toArray, List.length_cons, List.length_nil] <;> omega))) | fail) ?_
      | (with_reducible show SW _ (Code.region _ _ true) _ _ _); refine rDrawC md0 hX mixed rfl rfl rfl rfl (by first | (first | exact True.intro | ((repeat' first | refine And.intro ?_ ?_ | intro _) <;> first | exact True.intro | (with_reducible exact rfl) | (with_reducible assumption) | omega | (simp only [sel, inK, segsOf, widthL, S0.width, List.cons_append, List.nil_append, List.length_cons, List.length_nil, Int.one_mul, implies_true, imp_self, btL, blL, bsL, ne_eq] <;> omega) | (simp only [sel, inK, segsOf, widthL, S0.width, List.cons_append, List.nil_append, List.length_cons, List.length_nil, Int.one_mul, implies_true, imp_self, btL, blL, bsL, ne_eq] at *; omega) | (simp only [sel, bsL, ne_eq] at *; simp_all <;> fail) | (simp [sel, segsOf, List.cons_append, List.nil_append, widthL, S0.width] <;> fail) | (simp only [ByteArray.size, List.size_toArray, List.length_cons, List.length_nil] <;> omega))) | fail) ?_
      | (with_reducible show SW _ (Code.region _ _ true) _ _ _); refine rDrawSC md0 hX mixed rfl rfl rfl rfl rfl (by first | (first | exact True.intro | ((repeat' first | refine And.intro ?_ ?_ | intro _) <;> first | exact True.intro | (with_reducible exact rfl) | (with_reducible assumption) | omega | (simp only [sel, inK, segsOf, widthL, S0.width, List.cons_append, List.nil_append, List.length_cons, List.length_nil, Int.one_mul, implies_true, imp_self, btL, blL, bsL, ne_eq] <;> omega) | (simp only [sel, inK, segsOf, widthL, S0.width, List.cons_append, List.nil_append, List.length_cons, List.length_nil, Int.one_mul, implies_true, imp_self, btL, blL, bsL, ne_eq] at *; omega) | (simp only [sel, bsL, ne_eq] at *; simp_all <;> fail) | (simp [sel, segsOf, List.cons_append, List.nil_append, widthL, S0.width] <;> fail) | (simp only [ByteArray.size, List.size_toArray, List.length_cons, List.length_nil] <;> omega))) | fail) ?_
      | (with_reducible show SW _ (Code.cond _ _ _) _ _ _); (refine rCond rfl rfl (by first | (first | exact True.intro | ((repeat' first | refine And.intro ?_ ?_ | intro _) <;> first | exact True.intro | (with_reducible exact rfl) | (with_reducible assumption) | omega | (simp only [sel, inK, segsOf, widthL, S0.width, List.cons_append, List.nil_append, List.length_cons, List.length_nil, Int.one_mul, implies_true, imp_self, btL, blL, bsL, ne_eq] <;> omega) | (simp only [sel, inK, segsOf, widthL, S0.width, List.cons_append, List.nil_append, List.length_cons, List.length_nil, Int.one_mul, implies_true, imp_self, btL, blL, bsL, ne_eq] at *; omega) | (simp only [sel, bsL, ne_eq] at *; simp_all <;> fail) | (simp [sel, segsOf, List.cons_append, List.nil_append, widthL, S0.width] <;> fail) | (simp only [ByteArray.size, List.size_toArray, List.length_cons, List.length_nil] <;> omega))) | fail) (fun h => ?_) (fun h => ?_) <;> (try (exact absurd h (by decide))) <;> (try simp only [blL, bsL, ne_eq] at h) <;> (try (exact absurd ‹_› ‹_›)) <;> (try (exfalso; omega)))
      | (with_reducible show SQ _ (Post _ _ _ _ _ _ _) .normal _ _); with_reducible refine rNormal ?_
    refine rLoop0 (fun i : {i : Nat // (i : Int) ≤ padI p ∧ numB (((bitsT (bl s)).drop p.toNat).take i) = 0} => ⟨[(0, st s), (1, i64 p), (6, i64 (i.1 : Int))], [], 0⟩) (fun i => 8 - i.1) ⟨0, by omega, rfl⟩ (by (refine Le.mk ?_ ?_ rfl <;> (repeat' first | exact RLe.nil | refine RLe.cons rfl ?_ ?_ | exact BLe.nil | refine BLe.cons rfl ?_ ?_) <;> (first  | exact SVle.refl _ | exact Ele.refl _ | exact SVle.int (by first | omega | (dsimp only; omega) | fail) | exact SVle.bool (by rfl) | exact SVle.ints (by rfl) | exact Ele.mem (Ble.ints (by rfl))))) ?_
    rintro ⟨i, hi, hz⟩
    change SW _ _ _ _ ⟨[(0, st s), (1, i64 p), (6, i64 (i : Int))], [], 0⟩
    have hbb := fun h => byte_bit hpl (i := (p + (i : Int)).toNat) h
    have hon := numB_one ((bitsT (bl s)).drop p.toNat) i
    have hbad := fun h1 h2 => numB_bad (l := (bitsT (bl s)).drop p.toNat) (i := i) (m := (padI p).toNat) h1 h2
    rw [drop_getD, show p.toNat + i = (p + (i : Int)).toNat by omega] at hon hbad
    have hdl : ((bitsT (bl s)).drop p.toNat).length = s.size - p.toNat := by rw [List.length_drop, hbt, hbl]
    all_goals repeat' first
      | (with_reducible show SQ _ (Exit.then (Again _ _ _ _ _) _) .normal _ _); refine rAgain0 ⟨i + 1, by omega, by rcases hbb (by omega) with ⟨h1, h2⟩ | ⟨h1, h2⟩ <;> first | (exfalso; omega) | (rw [hon (by omega), hz, h2]; rfl)⟩ (by first | (first | omega | (dsimp only; omega) | fail) | fail) (by first | (refine Le.mk ?_ ?_ rfl <;> (repeat' first | exact RLe.nil | refine RLe.cons rfl ?_ ?_ | exact BLe.nil | refine BLe.cons rfl ?_ ?_) <;> (first  | exact SVle.refl _ | exact Ele.refl _ | exact SVle.int (by first | omega | (dsimp only; omega) | fail) | exact SVle.bool (by rfl) | exact SVle.ints (by rfl) | exact Ele.mem (Ble.ints (by rfl)))) | fail)
      | with_reducible refine rSeq ?_
      | with_reducible refine rThen ?_
      | with_reducible refine rBlock ?_
      | with_reducible refine rThenRet ?_
      | with_reducible refine rThenExit ?_
      | with_reducible refine rInRet ?_
      | with_reducible refine rInNormal ?_
      | with_reducible refine rInHit ?_
      | with_reducible refine rInMiss rfl ?_
      | with_reducible refine rRet ?_
      | with_reducible refine rExit ?_
      | with_reducible refine rSkip ?_
      | with_reducible refine rLabel ?_
      | with_reducible refine rScope ?_
      | with_reducible refine rNoGotoRet ?_
      | with_reducible refine rNoGotoNormal ?_
      | (with_reducible show SW _ (Code.region _ _ false) _ _ _); refine rRegC md0 hX rfl rfl rfl (by first | (first | exact True.intro | ((repeat' first | refine And.intro ?_ ?_ | intro _) <;> first | exact True.intro | (with_reducible exact rfl) | (with_reducible assumption) | omega | (simp only [sel, inK, segsOf, widthL, S0.width, List.cons_append, List.nil_append, List.length_cons, List.length_nil, Int.one_mul, implies_true, imp_self, btL, blL, bsL, ne_eq] <;> omega) | (simp only [sel, inK, segsOf, widthL, S0.width, List.cons_append, List.nil_append, List.length_cons, List.length_nil, Int.one_mul, implies_true, imp_self, btL, blL, bsL, ne_eq] at *; omega) | (simp only [sel, bsL, ne_eq] at *; simp_all <;> fail) | (simp [sel, segsOf, List.cons_append, List.nil_append, widthL, S0.width] <;> fail) | (simp only [ByteArray.size, List.size_toArray, List.length_cons, List.length_nil] <;> omega))) | fail) ?_
      | (with_reducible show SW _ (Code.region _ _ true) _ _ _); refine rDrawC md0 hX mixed rfl rfl rfl rfl (by first | (first | exact True.intro | ((repeat' first | refine And.intro ?_ ?_ | intro _) <;> first | exact True.intro | (with_reducible exact rfl) | (with_reducible assumption) | omega | (simp only [sel, inK, segsOf, widthL, S0.width, List.cons_append, List.nil_append, List.length_cons, List.length_nil, Int.one_mul, implies_true, imp_self, btL, blL, bsL, ne_eq] <;> omega) | (simp only [sel, inK, segsOf, widthL, S0.width, List.cons_append, List.nil_append, List.length_cons, List.length_nil, Int.one_mul, implies_true, imp_self, btL, blL, bsL, ne_eq] at *; omega) | (simp only [sel, bsL, ne_eq] at *; simp_all <;> fail) | (simp [sel, segsOf, List.cons_append, List.nil_append, widthL, S0.width] <;> fail) | (simp only [ByteArray.size, List.size_toArray, List.length_cons, List.length_nil] <;> omega))) | fail) ?_
      | (with_reducible show SW _ (Code.region _ _ true) _ _ _); refine rDrawSC md0 hX mixed rfl rfl rfl rfl rfl (by first | (first | exact True.intro | ((repeat' first | refine And.intro ?_ ?_ | intro _) <;> first | exact True.intro | (with_reducible exact rfl) | (with_reducible assumption) | omega | (simp only [sel, inK, segsOf, widthL, S0.width, List.cons_append, List.nil_append, List.length_cons, List.length_nil, Int.one_mul, implies_true, imp_self, btL, blL, bsL, ne_eq] <;> omega) | (simp only [sel, inK, segsOf, widthL, S0.width, List.cons_append, List.nil_append, List.length_cons, List.length_nil, Int.one_mul, implies_true, imp_self, btL, blL, bsL, ne_eq] at *; omega) | (simp only [sel, bsL, ne_eq] at *; simp_all <;> fail) | (simp [sel, segsOf, List.cons_append, List.nil_append, widthL, S0.width] <;> fail) | (simp only [ByteArray.size, List.size_toArray, List.length_cons, List.length_nil] <;> omega))) | fail) ?_
      | (with_reducible show SW _ (Code.cond _ _ _) _ _ _); (refine rCond rfl rfl (by first | (first | exact True.intro | ((repeat' first | refine And.intro ?_ ?_ | intro _) <;> first | exact True.intro | (with_reducible exact rfl) | (with_reducible assumption) | omega | (simp only [sel, inK, segsOf, widthL, S0.width, List.cons_append, List.nil_append, List.length_cons, List.length_nil, Int.one_mul, implies_true, imp_self, btL, blL, bsL, ne_eq] <;> omega) | (simp only [sel, inK, segsOf, widthL, S0.width, List.cons_append, List.nil_append, List.length_cons, List.length_nil, Int.one_mul, implies_true, imp_self, btL, blL, bsL, ne_eq] at *; omega) | (simp only [sel, bsL, ne_eq] at *; simp_all <;> fail) | (simp [sel, segsOf, List.cons_append, List.nil_append, widthL, S0.width] <;> fail) | (simp only [ByteArray.size, List.size_toArray, List.length_cons, List.length_nil] <;> omega))) | fail) (fun h => ?_) (fun h => ?_) <;> (try (exact absurd h (by decide))) <;> (try simp only [Decidable.not_not, blL, bsL, ne_eq] at h) <;> (try (exact absurd ‹_› ‹_›)) <;> (try (exfalso; omega)))
      | (with_reducible show SQ _ (Post _ _ _ _ _ _ _) .normal _ _); with_reducible refine rNormal ?_
      | (with_reducible show SQ _ (Post _ _ _ _ _ _ _) .ret _ _); refine rDone hX rfl (by first | (first | exact True.intro | ((repeat' first | refine And.intro ?_ ?_ | intro _) <;> first | exact True.intro | (with_reducible exact rfl) | (with_reducible assumption) | omega | (simp only [sel, inK, segsOf, widthL, S0.width, List.cons_append, List.nil_append, List.length_cons, List.length_nil, Int.one_mul, implies_true, imp_self, btL, blL, bsL, ne_eq] <;> omega) | (simp only [sel, inK, segsOf, widthL, S0.width, List.cons_append, List.nil_append, List.length_cons, List.length_nil, Int.one_mul, implies_true, imp_self, btL, blL, bsL, ne_eq] at *; omega) | (simp only [sel, bsL, ne_eq] at *; simp_all <;> fail) | (simp [sel, segsOf, List.cons_append, List.nil_append, widthL, S0.width] <;> fail) | (simp only [ByteArray.size, List.size_toArray, List.length_cons, List.length_nil] <;> omega))) | fail) (EnvLe.refl _) (by first | (first | (have hb := hbad (by omega) (by omega) (by rcases hbb (by omega) with ⟨h1, _⟩ | ⟨_, h1⟩ <;> first | (exfalso; omega) | exact h1); refine tup2_eq ?_ ?_ <;> ((first | unfold rfV' | unfold rfE'); rw [if_neg hb])) | (have e : (padI p).toNat = i := (by omega); refine tup2_eq ?_ ?_ <;> ((first | unfold rfV' | unfold rfE'); rw [e, if_pos hz] <;> omega))) | fail) rfl rfl rfl (by first | (intro i e h; cases h; done) | (intro i e h; rw [look_cons] at h; split at h <;> cases h <;> rfl) | fail)
  · cases h

end Go.Proofs.Ytgbeiogbppaogaa
