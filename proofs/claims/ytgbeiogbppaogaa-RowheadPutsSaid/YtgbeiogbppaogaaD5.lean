/- The document's rows of heads. -/
import Derived.Test.YtgbeiogbppaogaaD1
set_option linter.unusedVariables false
set_option linter.unusedSimpArgs false
namespace Go.Proofs.Ytgbeiogbppaogaa
open Go.X

theorem digits_mark (n : Int) (h0 : 0 ≤ n) (h1 : n ≤ 31) : digits 1 17 ++ digits n 5 = digits (32 + n) 22 := by
  have e : numB (digits 1 17 ++ digits n 5) = 32 + n := by
    rw [numB_append, digits_length, numB_digits 1 17 (by decide) (by decide), numB_digits n 5 h0 (by show n < 32; omega)]
    show 1 * 32 + n = 32 + n
    omega
  have := digits_numB (digits 1 17 ++ digits n 5)
  rw [e, List.length_append, digits_length, digits_length] at this
  exact this.symm
def hpG (m : Nat) (n i q : Int) : List Bool := List.replicate m false ++ digits (32 + n) 22 ++ digits i 2 ++ digits q 5
theorem hpG_len (m : Nat) (n i q : Int) : (hpG m n i q).length = m + 29 := by unfold hpG; simp [digits_length]
def spMRow : X.Spec := fun args _ => match args with
  | [.v (.c (.int .i64 n))] => some ⟨0 ≤ n ∧ n ≤ 31, st (rowT (digits (32 + n) 22)), [], []⟩
  | _ => none
def spHRow : X.Spec := fun args _ => match args with
  | [.v (.c (.int .i64 a)), .v (.c (.int .i64 n)), .v (.c (.int .i64 i)), .v (.c (.int .i64 q))] => some ⟨(0 ≤ a ∧ a ≤ 1099511627776) ∧ (0 ≤ n ∧ n ≤ 31) ∧ 0 ≤ i ∧ 0 ≤ q, st (rowT (hpG (padI a).toNat n i q)), [], []⟩
  | _ => none
theorem c17 : (ByteArray.mk #[48, 48, 48, 48, 48, 48, 48, 48, 48, 48, 48, 48, 48, 48, 48, 48, 49]) = rowT (digits 1 17) := by decide +kernel
theorem c1 : ByteArray.mk #[48] = rowT [false] := by decide +kernel
set_option maxRecDepth 100000 in
set_option maxHeartbeats 4000000 in
theorem okMRow : FnOK Try.prog gt0 61 (spMRow) := by
  refine fnOK_handed Try.func61 rfl (by kernel_rfl) tt_ok (ktCons okRRow (ktNil)) ?_
  intro args lk r h hp
  unfold spMRow at h
  split at h
  · rename_i n
    cases h
    refine hand0 rfl rfl (fun w0 M ε0 hX => ?_)
    have hp : 0 ≤ n ∧ n ≤ 31 := hp
    all_goals repeat' first
      | with_reducible refine rSeq ?_
      | with_reducible refine rThen ?_
      | with_reducible refine rBlock ?_
      | with_reducible refine rThenRet ?_
      | with_reducible refine rThenExit ?_
      | with_reducible refine rInRet ?_
      | with_reducible refine rInNormal ?_
      | with_reducible refine rInHit ?_
      | with_reducible refine rInMiss rfl ?_
      | with_reducible refine rRet ?_
      | with_reducible refine rExit ?_
      | with_reducible refine rSkip ?_
      | with_reducible refine rLabel ?_
      | with_reducible refine rScope ?_
      | with_reducible refine rNoGotoRet ?_
      | with_reducible refine rNoGotoNormal ?_
      | (with_reducible show SW _ (Code.region _ _ false) _ _ _); refine rRegC md0 hX rfl rfl rfl (by first | (first | exact True.intro | ((repeat' first | refine And.intro ?_ ?_ | intro _) <;> first | exact True.intro | (with_reducible exact rfl) | (with_reducible assumption) | omega | (simp only [rowT_size, digits_length, List.length_append, List.length_replicate, c17, c1, ByteArray.size_append, sel, inK, segsOf, widthL, S0.width, List.cons_append, List.nil_append, List.length_cons, List.length_nil, Int.one_mul, implies_true, imp_self, btL, blL, bsL, ne_eq] <;> omega) | (simp only [rowT_size, digits_length, List.length_append, List.length_replicate, c17, c1, ByteArray.size_append, sel, inK, segsOf, widthL, S0.width, List.cons_append, List.nil_append, List.length_cons, List.length_nil, Int.one_mul, implies_true, imp_self, btL, blL, bsL, ne_eq] at *; omega) | (simp only [sel, rowT_size, digits_length, List.length_append, List.length_replicate, c17, c1, ByteArray.size_append, bsL, ne_eq] at *; simp_all <;> fail) | (simp [sel, segsOf, List.cons_append, List.nil_append, widthL, S0.width] <;> fail) | (simp only [ByteArray.size, List.size_toArray, List.length_cons, List.length_nil] <;> omega))) | fail) ?_
      | (with_reducible show SW _ (Code.region _ _ true) _ _ _); refine rDrawC md0 hX mixed rfl rfl rfl rfl (by first | (first | exact True.intro | ((repeat' first | refine And.intro ?_ ?_ | intro _) <;> first | exact True.intro | (with_reducible exact rfl) | (with_reducible assumption) | omega | (simp only [rowT_size, digits_length, List.length_append, List.length_replicate, c17, c1, ByteArray.size_append, sel, inK, segsOf, widthL, S0.width, List.cons_append, List.nil_append, List.length_cons, List.length_nil, Int.one_mul, implies_true, imp_self, btL, blL, bsL, ne_eq] <;> omega) | (simp only [rowT_size, digits_length, List.length_append, List.length_replicate, c17, c1, ByteArray.size_append, sel, inK, segsOf, widthL, S0.width, List.cons_append, List.nil_append, List.length_cons, List.length_nil, Int.one_mul, implies_true, imp_self, btL, blL, bsL, ne_eq] at *; omega) | (simp only [sel, rowT_size, digits_length, List.length_append, List.length_replicate, c17, c1, ByteArray.size_append, bsL, ne_eq] at *; simp_all <;> fail) | (simp [sel, segsOf, List.cons_append, List.nil_append, widthL, S0.width] <;> fail) | (simp only [ByteArray.size, List.size_toArray, List.length_cons, List.length_nil] <;> omega))) | fail) ?_
      | (with_reducible show SW _ (Code.region _ _ true) _ _ _); refine rDrawSC md0 hX mixed rfl rfl rfl rfl rfl (by first | (first | exact True.intro | ((repeat' first | refine And.intro ?_ ?_ | intro _) <;> first | exact True.intro | (with_reducible exact rfl) | (with_reducible assumption) | omega | (simp only [rowT_size, digits_length, List.length_append, List.length_replicate, c17, c1, ByteArray.size_append, sel, inK, segsOf, widthL, S0.width, List.cons_append, List.nil_append, List.length_cons, List.length_nil, Int.one_mul, implies_true, imp_self, btL, blL, bsL, ne_eq] <;> omega) | (simp only [rowT_size, digits_length, List.length_append, List.length_replicate, c17, c1, ByteArray.size_append, sel, inK, segsOf, widthL, S0.width, List.cons_append, List.nil_append, List.length_cons, List.length_nil, Int.one_mul, implies_true, imp_self, btL, blL, bsL, ne_eq] at *; omega) | (simp only [sel, rowT_size, digits_length, List.length_append, List.length_replicate, c17, c1, ByteArray.size_append, bsL, ne_eq] at *; simp_all <;> fail) | (simp [sel, segsOf, List.cons_append, List.nil_append, widthL, S0.width] <;> fail) | (simp only [ByteArray.size, List.size_toArray, List.length_cons, List.length_nil] <;> omega))) | fail) ?_
      | (with_reducible show SW _ (Code.cond _ _ _) _ _ _); (refine rCond rfl rfl (by first | (first | exact True.intro | ((repeat' first | refine And.intro ?_ ?_ | intro _) <;> first | exact True.intro | (with_reducible exact rfl) | (with_reducible assumption) | omega | (simp only [rowT_size, digits_length, List.length_append, List.length_replicate, c17, c1, ByteArray.size_append, sel, inK, segsOf, widthL, S0.width, List.cons_append, List.nil_append, List.length_cons, List.length_nil, Int.one_mul, implies_true, imp_self, btL, blL, bsL, ne_eq] <;> omega) | (simp only [rowT_size, digits_length, List.length_append, List.length_replicate, c17, c1, ByteArray.size_append, sel, inK, segsOf, widthL, S0.width, List.cons_append, List.nil_append, List.length_cons, List.length_nil, Int.one_mul, implies_true, imp_self, btL, blL, bsL, ne_eq] at *; omega) | (simp only [sel, rowT_size, digits_length, List.length_append, List.length_replicate, c17, c1, ByteArray.size_append, bsL, ne_eq] at *; simp_all <;> fail) | (simp [sel, segsOf, List.cons_append, List.nil_append, widthL, S0.width] <;> fail) | (simp only [ByteArray.size, List.size_toArray, List.length_cons, List.length_nil] <;> omega))) | fail) (fun h => ?_) (fun h => ?_) <;> (try (exact absurd h (by decide))) <;> (try simp only [blL, bsL, ne_eq] at h) <;> (try (exact absurd ‹_› ‹_›)) <;> (try (exfalso; omega)))
      | (with_reducible show SQ _ (Post _ _ _ _ _ _ _) .normal _ _); with_reducible refine rNormal ?_
      | (with_reducible show SQ _ (Post _ _ _ _ _ _ _) .ret _ _); refine rDone hX rfl (by first | (first | exact True.intro | ((repeat' first | refine And.intro ?_ ?_ | intro _) <;> first | exact True.intro | (with_reducible exact rfl) | (with_reducible assumption) | omega | (simp only [rowT_size, digits_length, List.length_append, List.length_replicate, c17, c1, ByteArray.size_append, sel, inK, segsOf, widthL, S0.width, List.cons_append, List.nil_append, List.length_cons, List.length_nil, Int.one_mul, implies_true, imp_self, btL, blL, bsL, ne_eq] <;> omega) | (simp only [rowT_size, digits_length, List.length_append, List.length_replicate, c17, c1, ByteArray.size_append, sel, inK, segsOf, widthL, S0.width, List.cons_append, List.nil_append, List.length_cons, List.length_nil, Int.one_mul, implies_true, imp_self, btL, blL, bsL, ne_eq] at *; omega) | (simp only [sel, rowT_size, digits_length, List.length_append, List.length_replicate, c17, c1, ByteArray.size_append, bsL, ne_eq] at *; simp_all <;> fail) | (simp [sel, segsOf, List.cons_append, List.nil_append, widthL, S0.width] <;> fail) | (simp only [ByteArray.size, List.size_toArray, List.length_cons, List.length_nil] <;> omega))) | fail) (EnvLe.refl _) (by first | (refine congrArg st ?_; rw [c17, rowT_append]; exact congrArg rowT (digits_mark n hp.1 hp.2).symm) | fail) rfl rfl rfl (by first | (intro i e h; cases h; done) | (intro i e h; rw [look_cons] at h; split at h <;> cases h <;> rfl) | fail)
  · cases h
set_option maxRecDepth 100000 in
set_option maxHeartbeats 4000000 in
theorem okHRow : FnOK Try.prog gt0 55 (spHRow) := by
  refine fnOK_handed Try.func55 rfl (by kernel_rfl) tt_ok (ktCons okMRow (ktCons okRRow (ktNil))) ?_
  intro args lk r h hp
  unfold spHRow at h
  split at h
  · rename_i a n i q
    cases h
    refine hand0 rfl rfl (fun w0 M ε0 hX => ?_)
    obtain ⟨ha, hn, hi, hq⟩ : (0 ≤ a ∧ a ≤ 1099511627776) ∧ (0 ≤ n ∧ n ≤ 31) ∧ 0 ≤ i ∧ 0 ≤ q := hp
    have hpd : padI a = (8 - a % 8) % 8 := rfl
    all_goals repeat' first
      | with_reducible refine rSeq ?_
      | with_reducible refine rThen ?_
      | with_reducible refine rBlock ?_
      | with_reducible refine rThenRet ?_
      | with_reducible refine rThenExit ?_
      | with_reducible refine rInRet ?_
      | with_reducible refine rInNormal ?_
      | with_reducible refine rInHit ?_
      | with_reducible refine rInMiss rfl ?_
      | with_reducible refine rRet ?_
      | with_reducible refine rExit ?_
      | with_reducible refine rSkip ?_
      | with_reducible refine rLabel ?_
      | with_reducible refine rScope ?_
      | with_reducible refine rNoGotoRet ?_
      | with_reducible refine rNoGotoNormal ?_
      | (with_reducible show SW _ (Code.region _ _ false) _ _ _); refine rRegC md0 hX rfl rfl rfl (by first | (first | exact True.intro | ((repeat' first | refine And.intro ?_ ?_ | intro _) <;> first | exact True.intro | (with_reducible exact rfl) | (with_reducible assumption) | omega | (simp only [rowT_size, digits_length, List.length_append, List.length_replicate, c17, c1, ByteArray.size_append, sel, inK, segsOf, widthL, S0.width, List.cons_append, List.nil_append, List.length_cons, List.length_nil, Int.one_mul, implies_true, imp_self, btL, blL, bsL, ne_eq] <;> omega) | (simp only [rowT_size, digits_length, List.length_append, List.length_replicate, c17, c1, ByteArray.size_append, sel, inK, segsOf, widthL, S0.width, List.cons_append, List.nil_append, List.length_cons, List.length_nil, Int.one_mul, implies_true, imp_self, btL, blL, bsL, ne_eq] at *; omega) | (simp only [sel, rowT_size, digits_length, List.length_append, List.length_replicate, c17, c1, ByteArray.size_append, bsL, ne_eq] at *; simp_all <;> fail) | (simp [sel, segsOf, List.cons_append, List.nil_append, widthL, S0.width] <;> fail) | (simp only [ByteArray.size, List.size_toArray, List.length_cons, List.length_nil] <;> omega))) | fail) ?_
      | (with_reducible show SW _ (Code.region _ _ true) _ _ _); refine rDrawC md0 hX mixed rfl rfl rfl rfl (by first | (first | exact True.intro | ((repeat' first | refine And.intro ?_ ?_ | intro _) <;> first | exact True.intro | (with_reducible exact rfl) | (with_reducible assumption) | omega | (simp only [rowT_size, digits_length, List.length_append, List.length_replicate, c17, c1, ByteArray.size_append, sel, inK, segsOf, widthL, S0.width, List.cons_append, List.nil_append, List.length_cons, List.length_nil, Int.one_mul, implies_true, imp_self, btL, blL, bsL, ne_eq] <;> omega) | (simp only [rowT_size, digits_length, List.length_append, List.length_replicate, c17, c1, ByteArray.size_append, sel, inK, segsOf, widthL, S0.width, List.cons_append, List.nil_append, List.length_cons, List.length_nil, Int.one_mul, implies_true, imp_self, btL, blL, bsL, ne_eq] at *; omega) | (simp only [sel, rowT_size, digits_length, List.length_append, List.length_replicate, c17, c1, ByteArray.size_append, bsL, ne_eq] at *; simp_all <;> fail) | (simp [sel, segsOf, List.cons_append, List.nil_append, widthL, S0.width] <;> fail) | (simp only [ByteArray.size, List.size_toArray, List.length_cons, List.length_nil] <;> omega))) | fail) ?_
      | (with_reducible show SW _ (Code.region _ _ true) _ _ _); refine rDrawSC md0 hX mixed rfl rfl rfl rfl rfl (by first | (first | exact True.intro | ((repeat' first | refine And.intro ?_ ?_ | intro _) <;> first | exact True.intro | (with_reducible exact rfl) | (with_reducible assumption) | omega | (simp only [rowT_size, digits_length, List.length_append, List.length_replicate, c17, c1, ByteArray.size_append, sel, inK, segsOf, widthL, S0.width, List.cons_append, List.nil_append, List.length_cons, List.length_nil, Int.one_mul, implies_true, imp_self, btL, blL, bsL, ne_eq] <;> omega) | (simp only [rowT_size, digits_length, List.length_append, List.length_replicate, c17, c1, ByteArray.size_append, sel, inK, segsOf, widthL, S0.width, List.cons_append, List.nil_append, List.length_cons, List.length_nil, Int.one_mul, implies_true, imp_self, btL, blL, bsL, ne_eq] at *; omega) | (simp only [sel, rowT_size, digits_length, List.length_append, List.length_replicate, c17, c1, ByteArray.size_append, bsL, ne_eq] at *; simp_all <;> fail) | (simp [sel, segsOf, List.cons_append, List.nil_append, widthL, S0.width] <;> fail) | (simp only [ByteArray.size, List.size_toArray, List.length_cons, List.length_nil] <;> omega))) | fail) ?_
      | (with_reducible show SW _ (Code.cond _ _ _) _ _ _); (refine rCond rfl rfl (by first | (first | exact True.intro | ((repeat' first | refine And.intro ?_ ?_ | intro _) <;> first | exact True.intro | (with_reducible exact rfl) | (with_reducible assumption) | omega | (simp only [rowT_size, digits_length, List.length_append, List.length_replicate, c17, c1, ByteArray.size_append, sel, inK, segsOf, widthL, S0.width, List.cons_append, List.nil_append, List.length_cons, List.length_nil, Int.one_mul, implies_true, imp_self, btL, blL, bsL, ne_eq] <;> omega) | (simp only [rowT_size, digits_length, List.length_append, List.length_replicate, c17, c1, ByteArray.size_append, sel, inK, segsOf, widthL, S0.width, List.cons_append, List.nil_append, List.length_cons, List.length_nil, Int.one_mul, implies_true, imp_self, btL, blL, bsL, ne_eq] at *; omega) | (simp only [sel, rowT_size, digits_length, List.length_append, List.length_replicate, c17, c1, ByteArray.size_append, bsL, ne_eq] at *; simp_all <;> fail) | (simp [sel, segsOf, List.cons_append, List.nil_append, widthL, S0.width] <;> fail) | (simp only [ByteArray.size, List.size_toArray, List.length_cons, List.length_nil] <;> omega))) | fail) (fun h => ?_) (fun h => ?_) <;> (try (exact absurd h (by decide))) <;> (try simp only [blL, bsL, ne_eq] at h) <;> (try (exact absurd ‹_› ‹_›)) <;> (try (exfalso; omega)))
      | (with_reducible show SQ _ (Post _ _ _ _ _ _ _) .normal _ _); with_reducible refine rNormal ?_
    refine rLoop0 (fun j : {j : Nat // (j : Int) ≤ padI a} => ⟨[(0, i64 a), (1, i64 n), (2, i64 i), (3, i64 q), (9, st (rowT (List.replicate j.1 false)))], [], 0⟩) (fun j => 8 - j.1) ⟨0, by omega⟩ (by (refine Le.mk ?_ ?_ rfl <;> (repeat' first | exact RLe.nil | refine RLe.cons rfl ?_ ?_ | exact BLe.nil | refine BLe.cons rfl ?_ ?_) <;> (first  | exact SVle.refl _ | exact Ele.refl _ | exact SVle.int (by first | omega | (dsimp only; omega) | fail) | exact SVle.bool (by rfl) | exact SVle.ints (by rfl) | exact Ele.mem (Ble.ints (by rfl))))) ?_
    rintro ⟨j, hj⟩
    change SW _ _ _ _ ⟨[(0, i64 a), (1, i64 n), (2, i64 i), (3, i64 q), (9, st (rowT (List.replicate j false)))], [], 0⟩
    have hrs : (rowT (List.replicate j false)).size = j := by rw [rowT_size, List.length_replicate]
    all_goals repeat' first
      | (with_reducible show SQ _ (Exit.then (Again _ _ _ _ _) _) .normal _ _); refine rAgain0 ⟨j + 1, by omega⟩ (by first | (first | omega | (dsimp only; omega) | fail) | fail) (by first | (refine Le.mk ?_ ?_ rfl <;> (repeat' first | exact RLe.nil | refine RLe.cons rfl ?_ ?_ | exact BLe.nil | refine BLe.cons rfl ?_ ?_) <;> (first | exact SVle.str (by (try dsimp only); rw [c1, rowT_append]; exact congrArg rowT (List.replicate_succ' ).symm) | exact SVle.refl _ | exact Ele.refl _ | exact SVle.int (by first | omega | (dsimp only; omega) | fail) | exact SVle.bool (by rfl) | exact SVle.ints (by rfl) | exact Ele.mem (Ble.ints (by rfl)))) | fail)
      | with_reducible refine rSeq ?_
      | with_reducible refine rThen ?_
      | with_reducible refine rBlock ?_
      | with_reducible refine rThenRet ?_
      | with_reducible refine rThenExit ?_
      | with_reducible refine rInRet ?_
      | with_reducible refine rInNormal ?_
      | with_reducible refine rInHit ?_
      | with_reducible refine rInMiss rfl ?_
      | with_reducible refine rRet ?_
      | with_reducible refine rExit ?_
      | with_reducible refine rSkip ?_
      | with_reducible refine rLabel ?_
      | with_reducible refine rScope ?_
      | with_reducible refine rNoGotoRet ?_
      | with_reducible refine rNoGotoNormal ?_
      | (with_reducible show SW _ (Code.region _ _ false) _ _ _); refine rRegC md0 hX rfl rfl rfl (by first | (first | exact True.intro | ((repeat' first | refine And.intro ?_ ?_ | intro _) <;> first | exact True.intro | (with_reducible exact rfl) | (with_reducible assumption) | omega | (simp only [rowT_size, digits_length, List.length_append, List.length_replicate, c17, c1, ByteArray.size_append, sel, inK, segsOf, widthL, S0.width, List.cons_append, List.nil_append, List.length_cons, List.length_nil, Int.one_mul, implies_true, imp_self, btL, blL, bsL, ne_eq] <;> omega) | (simp only [rowT_size, digits_length, List.length_append, List.length_replicate, c17, c1, ByteArray.size_append, sel, inK, segsOf, widthL, S0.width, List.cons_append, List.nil_append, List.length_cons, List.length_nil, Int.one_mul, implies_true, imp_self, btL, blL, bsL, ne_eq] at *; omega) | (simp only [sel, rowT_size, digits_length, List.length_append, List.length_replicate, c17, c1, ByteArray.size_append, bsL, ne_eq] at *; simp_all <;> fail) | (simp [sel, segsOf, List.cons_append, List.nil_append, widthL, S0.width] <;> fail) | (simp only [ByteArray.size, List.size_toArray, List.length_cons, List.length_nil] <;> omega))) | fail) ?_
      | (with_reducible show SW _ (Code.region _ _ true) _ _ _); refine rDrawC md0 hX mixed rfl rfl rfl rfl (by first | (first | exact True.intro | ((repeat' first | refine And.intro ?_ ?_ | intro _) <;> first | exact True.intro | (with_reducible exact rfl) | (with_reducible assumption) | omega | (simp only [rowT_size, digits_length, List.length_append, List.length_replicate, c17, c1, ByteArray.size_append, sel, inK, segsOf, widthL, S0.width, List.cons_append, List.nil_append, List.length_cons, List.length_nil, Int.one_mul, implies_true, imp_self, btL, blL, bsL, ne_eq] <;> omega) | (simp only [rowT_size, digits_length, List.length_append, List.length_replicate, c17, c1, ByteArray.size_append, sel, inK, segsOf, widthL, S0.width, List.cons_append, List.nil_append, List.length_cons, List.length_nil, Int.one_mul, implies_true, imp_self, btL, blL, bsL, ne_eq] at *; omega) | (simp only [sel, rowT_size, digits_length, List.length_append, List.length_replicate, c17, c1, ByteArray.size_append, bsL, ne_eq] at *; simp_all <;> fail) | (simp [sel, segsOf, List.cons_append, List.nil_append, widthL, S0.width] <;> fail) | (simp only [ByteArray.size, List.size_toArray, List.length_cons, List.length_nil] <;> omega))) | fail) ?_
      | (with_reducible show SW _ (Code.region _ _ true) _ _ _); refine rDrawSC md0 hX mixed rfl rfl rfl rfl rfl (by first | (first | exact True.intro | ((repeat' first | refine And.intro ?_ ?_ | intro _) <;> first | exact True.intro | (with_reducible exact rfl) | (with_reducible assumption) | omega | (simp only [rowT_size, digits_length, List.length_append, List.length_replicate, c17, c1, ByteArray.size_append, sel, inK, segsOf, widthL, S0.width, List.cons_append, List.nil_append, List.length_cons, List.length_nil, Int.one_mul, implies_true, imp_self, btL, blL, bsL, ne_eq] <;> omega) | (simp only [rowT_size, digits_length, List.length_append, List.length_replicate, c17, c1, ByteArray.size_append, sel, inK, segsOf, widthL, S0.width, List.cons_append, List.nil_append, List.length_cons, List.length_nil, Int.one_mul, implies_true, imp_self, btL, blL, bsL, ne_eq] at *; omega) | (simp only [sel, rowT_size, digits_length, List.length_append, List.length_replicate, c17, c1, ByteArray.size_append, bsL, ne_eq] at *; simp_all <;> fail) | (simp [sel, segsOf, List.cons_append, List.nil_append, widthL, S0.width] <;> fail) | (simp only [ByteArray.size, List.size_toArray, List.length_cons, List.length_nil] <;> omega))) | fail) ?_
      | (with_reducible show SW _ (Code.cond _ _ _) _ _ _); (refine rCond rfl rfl (by first | (first | exact True.intro | ((repeat' first | refine And.intro ?_ ?_ | intro _) <;> first | exact True.intro | (with_reducible exact rfl) | (with_reducible assumption) | omega | (simp only [rowT_size, digits_length, List.length_append, List.length_replicate, c17, c1, ByteArray.size_append, sel, inK, segsOf, widthL, S0.width, List.cons_append, List.nil_append, List.length_cons, List.length_nil, Int.one_mul, implies_true, imp_self, btL, blL, bsL, ne_eq] <;> omega) | (simp only [rowT_size, digits_length, List.length_append, List.length_replicate, c17, c1, ByteArray.size_append, sel, inK, segsOf, widthL, S0.width, List.cons_append, List.nil_append, List.length_cons, List.length_nil, Int.one_mul, implies_true, imp_self, btL, blL, bsL, ne_eq] at *; omega) | (simp only [sel, rowT_size, digits_length, List.length_append, List.length_replicate, c17, c1, ByteArray.size_append, bsL, ne_eq] at *; simp_all <;> fail) | (simp [sel, segsOf, List.cons_append, List.nil_append, widthL, S0.width] <;> fail) | (simp only [ByteArray.size, List.size_toArray, List.length_cons, List.length_nil] <;> omega))) | fail) (fun h => ?_) (fun h => ?_) <;> (try (exact absurd h (by decide))) <;> (try simp only [hrs, Decidable.not_not, blL, bsL, ne_eq] at h) <;> (try (exact absurd ‹_› ‹_›)) <;> (try (exfalso; omega)))
      | (with_reducible show SQ _ (Post _ _ _ _ _ _ _) .normal _ _); with_reducible refine rNormal ?_
      | (with_reducible show SQ _ (Post _ _ _ _ _ _ _) .ret _ _); refine rDone hX rfl (by first | (first | exact True.intro | ((repeat' first | refine And.intro ?_ ?_ | intro _) <;> first | exact True.intro | (with_reducible exact rfl) | (with_reducible assumption) | omega | (simp only [rowT_size, digits_length, List.length_append, List.length_replicate, c17, c1, ByteArray.size_append, sel, inK, segsOf, widthL, S0.width, List.cons_append, List.nil_append, List.length_cons, List.length_nil, Int.one_mul, implies_true, imp_self, btL, blL, bsL, ne_eq] <;> omega) | (simp only [rowT_size, digits_length, List.length_append, List.length_replicate, c17, c1, ByteArray.size_append, sel, inK, segsOf, widthL, S0.width, List.cons_append, List.nil_append, List.length_cons, List.length_nil, Int.one_mul, implies_true, imp_self, btL, blL, bsL, ne_eq] at *; omega) | (simp only [sel, rowT_size, digits_length, List.length_append, List.length_replicate, c17, c1, ByteArray.size_append, bsL, ne_eq] at *; simp_all <;> fail) | (simp [sel, segsOf, List.cons_append, List.nil_append, widthL, S0.width] <;> fail) | (simp only [ByteArray.size, List.size_toArray, List.length_cons, List.length_nil] <;> omega))) | fail) (EnvLe.refl _) (by first | (refine congrArg st ?_; rw [rowT_append, rowT_append, rowT_append, show j = (padI a).toNat by omega]; rfl) | fail) rfl rfl rfl (by first | (intro i e h; cases h; done) | (intro i e h; rw [look_cons] at h; split at h <;> cases h <;> rfl) | fail)
  · cases h

end Go.Proofs.Ytgbeiogbppaogaa
