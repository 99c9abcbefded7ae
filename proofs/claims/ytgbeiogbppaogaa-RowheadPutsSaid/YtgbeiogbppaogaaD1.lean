/- Heads of rows. -/
import Derived.Test.YtgbeiogbppaogaaB14
set_option linter.unusedVariables false
set_option linter.unusedSimpArgs false
namespace Go.Proofs.Ytgbeiogbppaogaa
open Go.X

abbrev tup3 (a b c : Int) : SV := .tup [.c (.int .i64 a), .c (.int .i64 b), .c (.int .i64 c)]
abbrev tup4 (a b c d : Int) : SV := .tup [.c (.int .i64 a), .c (.int .i64 b), .c (.int .i64 c), .c (.int .i64 d)]
theorem tup3_eq {a b c a' b' c' : Int} (h : a = a') (h2 : b = b') (h3 : c = c') : tup3 a b c = .tup [.c (.int .i64 a'), .c (.int .i64 b'), .c (.int .i64 c')] := by rw [h, h2, h3]
theorem tup4_eq {a b c d a' b' c' d' : Int} (h : a = a') (h2 : b = b') (h3 : c = c') (h4 : d = d') : tup4 a b c d = .tup [.c (.int .i64 a'), .c (.int .i64 b'), .c (.int .i64 c'), .c (.int .i64 d')] := by rw [h, h2, h3, h4]
def rhP (p : Int) : Int := p + padI p + 22
def rhW (bits : List Bool) (p : Int) : Int := numB ((bits.drop (rhP p).toNat).take 7)
def rhE (bits : List Bool) (p n : Int) : Int := if nxB bits p = false then 4 else if ¬ nxV bits p = n then 10 else if (bits.length : Int) - rhP p < 7 then 2 else if rhW bits p % 32 = 0 then 9 else 0
def rhI (bits : List Bool) (p n : Int) : Int := if rhE bits p n = 0 then rhW bits p / 32 else 0
def rhQ (bits : List Bool) (p n : Int) : Int := if rhE bits p n = 0 then rhW bits p % 32 else 0
def rhA (bits : List Bool) (p n : Int) : Int := if rhE bits p n = 0 then rhP p + 7 else p
def r0I (bits : List Bool) (p n : Int) : Int := if rhE bits p n = 0 ∨ rhE bits p n = 9 then rhW bits p / 32 else 0
def r0A (bits : List Bool) (p n : Int) : Int := if rhE bits p n = 4 ∨ rhE bits p n = 10 then p else if rhE bits p n = 2 then rhP p else rhP p + 7
theorem rhW_in (bits : List Bool) (p : Int) : 0 ≤ rhW bits p ∧ rhW bits p < 128 := by
  unfold rhW
  have h := numB_in ((bits.drop (rhP p).toNat).take 7)
  have h1 : ((bits.drop (rhP p).toNat).take 7).length ≤ 7 := by rw [List.length_take]; omega
  have h2 : 2 ^ ((bits.drop (rhP p).toNat).take 7).length ≤ 2 ^ 7 := Nat.pow_le_pow_right (by omega) h1
  have h3 : (2 : Int) ^ ((bits.drop (rhP p).toNat).take 7).length = ((2 ^ ((bits.drop (rhP p).toNat).take 7).length : Nat) : Int) := by simp
  rw [h3] at h
  omega
theorem nx_yes {bits : List Bool} {p : Int} (h : nxB bits p = true) : 0 ≤ p ∧ p ≤ bits.length ∧ rfE' bits p = 0 ∧ 22 ≤ (bits.length : Int) - (p + padI p) := by
  unfold nxB at h
  obtain ⟨h0, h1, h2, h3⟩ := of_decide_eq_true h
  refine ⟨h0, h1, h2, ?_⟩
  rcases mk_cases bits (p + padI p) with ⟨g1, g2, _⟩ | ⟨g1, g2, g3, g4, _⟩ | ⟨g1, g2, g3, g4, _⟩ | ⟨g1, g2, g3, g4, g5⟩ <;> omega
theorem rh_cases (s : ByteArray) (p n : Int) (hok : rdOK s p) :
    (nxB (tb s) p = false ∧ rhE (tb s) p n = 4) ∨ (nxB (tb s) p = true ∧ ¬ nxV (tb s) p = n ∧ rhE (tb s) p n = 10) ∨
    (nxB (tb s) p = true ∧ nxV (tb s) p = n ∧ peekE s (takeAt s (p + rfV s p) 22) 7 = 2 ∧ peekV s (takeAt s (p + rfV s p) 22) 7 = 0 ∧ takeAt s (takeAt s (p + rfV s p) 22) 7 = rhP p ∧ rhE (tb s) p n = 2) ∨
    (nxB (tb s) p = true ∧ nxV (tb s) p = n ∧ peekE s (takeAt s (p + rfV s p) 22) 7 = 0 ∧ peekV s (takeAt s (p + rfV s p) 22) 7 = rhW (tb s) p ∧ takeAt s (takeAt s (p + rfV s p) 22) 7 = rhP p + 7 ∧ rhW (tb s) p % 32 = 0 ∧ rhE (tb s) p n = 9) ∨
    (nxB (tb s) p = true ∧ nxV (tb s) p = n ∧ peekE s (takeAt s (p + rfV s p) 22) 7 = 0 ∧ peekV s (takeAt s (p + rfV s p) 22) 7 = rhW (tb s) p ∧ takeAt s (takeAt s (p + rfV s p) 22) 7 = rhP p + 7 ∧ ¬ rhW (tb s) p % 32 = 0 ∧ rhE (tb s) p n = 0) := by
  have htl := tb_length s
  have hpi := padI_in hok
  by_cases hb : nxB (tb s) p = true
  · obtain ⟨h0, h1, h2, h3⟩ := nx_yes hb
    by_cases hv : nxV (tb s) p = n
    · have hrf : rfV s p = padI p := by
        rw [← rfE_eq hok] at h2
        rcases rf_cases s p with ⟨_, h⟩ | ⟨h, _⟩ <;> omega
      have hq : takeAt s (p + rfV s p) 22 = rhP p := by
        rw [hrf]; unfold takeAt rhP
        rcases peekE_cases s (p + padI p) 22 with ⟨h, _⟩ | ⟨_, _, h, _⟩ | ⟨_, _, _, h, _⟩
        · omega
        · omega
        · rw [if_pos h]
      rw [hq]
      have hb' : ¬ nxB (tb s) p = false := by rw [hb]; simp
      have hv' : ¬ ¬ nxV (tb s) p = n := fun h => h hv
      have hE : rhE (tb s) p n = if ((tb s).length : Int) - rhP p < 7 then 2 else if rhW (tb s) p % 32 = 0 then 9 else 0 := by
        unfold rhE; rw [if_neg hb', if_neg hv']
      rw [hE]
      right; right
      rcases peekE_cases s (rhP p) 7 with ⟨h, _⟩ | ⟨_, _, g1, g2, g3⟩ | ⟨_, _, g1, g2, g3⟩
      · omega
      · refine .inl ⟨hb, hv, g2, g3, ?_, if_pos (by omega)⟩
        unfold takeAt; rw [if_neg (by omega)]
      · have ht : takeAt s (rhP p) 7 = rhP p + 7 := by unfold takeAt; rw [if_pos g2]
        have hl : ¬ ((tb s).length : Int) - rhP p < 7 := by omega
        rw [if_neg hl]
        by_cases h0 : rhW (tb s) p % 32 = 0
        · exact .inr (.inl ⟨hb, hv, g2, g3, ht, h0, if_pos h0⟩)
        · exact .inr (.inr ⟨hb, hv, g2, g3, ht, h0, if_neg h0⟩)
    · exact .inr (.inl ⟨hb, hv, by unfold rhE; rw [if_neg (by rw [hb]; simp), if_pos hv]⟩)
  · have hb : nxB (tb s) p = false := by simpa using hb
    exact .inl ⟨hb, by unfold rhE; rw [if_pos hb]⟩
theorem r0_ok {s : ByteArray} {p n : Int} (hok : rdOK s p) : rdOK s (r0A (tb s) p n) := by
  unfold r0A
  have h1 := takeAt_ok (n := 7) (takeAt_ok (n := 22) (rf_ok hok))
  rcases rh_cases s p n hok with ⟨_, e⟩ | ⟨_, _, e⟩ | ⟨_, _, _, _, t, e⟩ | ⟨_, _, _, _, t, _, e⟩ | ⟨_, _, _, _, t, _, e⟩ <;> rw [e] <;> simp <;> first | exact hok | (rw [← t]; exact h1)
theorem skA_in {s : ByteArray} {q p : Int} (h : rdOK s p) : skA s q p = p := by
  unfold skA; unfold rdOK at h; rw [if_neg (by omega)]
def spRh0 : X.Spec := fun args lk => match args with
  | [.v (.c (.ptr id 0 0 0 0 0)), .v (.c (.int .i64 n))] => match lk id with
    | some (.mem true ty none (.flat [.cs [.str s, .int .i64 p]])) => some ⟨rdOK s p, tup3 (r0I (tb s) p n) (rhQ (tb s) p n) (rhE (tb s) p n), [], [(id, rdE true ty s (r0A (tb s) p n))]⟩
    | _ => none
  | _ => none
def spRh : X.Spec := fun args lk => match args with
  | [.v (.c (.val (.pointer none))), .v (.c (.int .i64 n))] => some ⟨True, tup3 0 0 1, [], []⟩
  | [.v (.c (.ptr id 0 0 0 0 0)), .v (.c (.int .i64 n))] => match lk id with
    | some (.mem true ty none (.flat [.cs [.str s, .int .i64 p]])) => some ⟨rdOK s p, tup3 (rhI (tb s) p n) (rhQ (tb s) p n) (rhE (tb s) p n), [], [(id, rdE true ty s (rhA (tb s) p n))]⟩
    | _ => none
  | _ => none
def spRhR : X.Spec := fun args _ => match args with
  | [.v (.c (.str s)), .v (.c (.int .i64 p)), .v (.c (.int .i64 n))] => some ⟨plainL (bl s) = true ∧ s.size ≤ 8796093022208 ∧ s.size % 8 = 0 ∧ 0 ≤ p ∧ p ≤ s.size, tup4 (rhI (bitsT (bl s)) p n) (rhQ (bitsT (bl s)) p n) (rhA (bitsT (bl s)) p n) (rhE (bitsT (bl s)) p n), [], []⟩
  | _ => none
set_option maxRecDepth 100000 in
set_option maxHeartbeats 4000000 in
theorem okRh0 : FnOK Try.prog gt0 60 (spRh0) := by
  refine fnOK_handed Try.func60 rfl (by kernel_rfl) tt_ok (ktCons okRText (ktCons okAt (ktCons okMNext (ktCons okRFill (ktCons okTake (ktNil)))))) ?_
  intro args lk r h hp
  unfold spRh0 at h
  split at h
  · rename_i id n
    split at h
    · rename_i ty s p hl
      cases h
      obtain ⟨hp0, hp1, hp2⟩ : 0 ≤ p ∧ p ≤ 8 * s.size ∧ s.size + 64 ≤ 1099511627776 := hp
      have hok : rdOK s p := ⟨hp0, hp1, hp2⟩
      have k1 := rf_ok hok
      have k2 := takeAt_ok (n := 22) k1
      have k3 := r0_ok (n := n) hok
      unfold rdOK at k1 k2 k3
      refine hand1 (e := rdE true ty s p) [pt 0, i64 n] rfl rfl rfl hl (.inl rfl) (by first | exact rfl | exact True.intro | exact fun i hi => rfl) (fun w0 M ε0 hX => ?_)
      have hw := rhW_in (tb s) p
      rcases rh_cases s p n hok with ⟨c1, c9⟩ | ⟨c1, c2, c9⟩ | ⟨c1, c2, c3, c4, c5, c9⟩ | ⟨c1, c2, c3, c4, c5, c6, c9⟩ | ⟨c1, c2, c3, c4, c5, c6, c9⟩
      · skip
        all_goals repeat' first
          | with_reducible refine rSeq ?_
          | with_reducible refine rThen ?_
          | with_reducible refine rBlock ?_
          | with_reducible refine rThenRet ?_
          | with_reducible refine rThenExit ?_
          | with_reducible refine rInRet ?_
          | with_reducible refine rInNormal ?_
          | with_reducible refine rInHit ?_
          | with_reducible refine rInMiss rfl ?_
          | with_reducible refine rRet ?_
          | with_reducible refine rExit ?_
          | with_reducible refine rSkip ?_
          | with_reducible refine rLabel ?_
          | with_reducible refine rScope ?_
          | with_reducible refine rNoGotoRet ?_
          | with_reducible refine rNoGotoNormal ?_
          | (with_reducible show SW _ (Code.region _ _ false) _ _ _); refine rRegC md0 hX rfl rfl rfl (by first | (first | exact True.intro | exact hok | exact rf_ok hok | exact takeAt_ok (rf_ok hok) | exact r0_ok hok | ((repeat' first | refine And.intro ?_ ?_ | intro _) <;> first | exact True.intro | exact hok | exact rf_ok hok | exact takeAt_ok (rf_ok hok) | exact r0_ok hok | (with_reducible exact rfl) | (with_reducible assumption) | omega | (rw [c4]; omega) | (simp only [sel, inK, segsOf, widthL, S0.width, List.cons_append, List.nil_append, List.length_cons, List.length_nil, Int.one_mul, implies_true, imp_self, btL, blL, bsL, ne_eq] <;> omega) | (simp only [sel, inK, segsOf, widthL, S0.width, List.cons_append, List.nil_append, List.length_cons, List.length_nil, Int.one_mul, implies_true, imp_self, btL, blL, bsL, ne_eq] at *; omega) | (simp only [sel, bsL, ne_eq] at *; simp_all <;> fail) | (simp [sel, segsOf, List.cons_append, List.nil_append, widthL, S0.width] <;> fail) | (simp only [ByteArray.size, List.size_toArray, List.length_cons, List.length_nil] <;> omega))) | fail) ?_
          | (with_reducible show SW _ (Code.region _ _ true) _ _ _); refine rDrawC md0 hX mixed rfl rfl rfl rfl (by first | (first | exact True.intro | exact hok | exact rf_ok hok | exact takeAt_ok (rf_ok hok) | exact r0_ok hok | ((repeat' first | refine And.intro ?_ ?_ | intro _) <;> first | exact True.intro | exact hok | exact rf_ok hok | exact takeAt_ok (rf_ok hok) | exact r0_ok hok | (with_reducible exact rfl) | (with_reducible assumption) | omega | (rw [c4]; omega) | (simp only [sel, inK, segsOf, widthL, S0.width, List.cons_append, List.nil_append, List.length_cons, List.length_nil, Int.one_mul, implies_true, imp_self, btL, blL, bsL, ne_eq] <;> omega) | (simp only [sel, inK, segsOf, widthL, S0.width, List.cons_append, List.nil_append, List.length_cons, List.length_nil, Int.one_mul, implies_true, imp_self, btL, blL, bsL, ne_eq] at *; omega) | (simp only [sel, bsL, ne_eq] at *; simp_all <;> fail) | (simp [sel, segsOf, List.cons_append, List.nil_append, widthL, S0.width] <;> fail) | (simp only [ByteArray.size, List.size_toArray, List.length_cons, List.length_nil] <;> omega))) | fail) ?_
          | (with_reducible show SW _ (Code.region _ _ true) _ _ _); refine rDrawSC md0 hX mixed rfl rfl rfl rfl rfl (by first | (first | exact True.intro | exact hok | exact rf_ok hok | exact takeAt_ok (rf_ok hok) | exact r0_ok hok | ((repeat' first | refine And.intro ?_ ?_ | intro _) <;> first | exact True.intro | exact hok | exact rf_ok hok | exact takeAt_ok (rf_ok hok) | exact r0_ok hok | (with_reducible exact rfl) | (with_reducible assumption) | omega | (rw [c4]; omega) | (simp only [sel, inK, segsOf, widthL, S0.width, List.cons_append, List.nil_append, List.length_cons, List.length_nil, Int.one_mul, implies_true, imp_self, btL, blL, bsL, ne_eq] <;> omega) | (simp only [sel, inK, segsOf, widthL, S0.width, List.cons_append, List.nil_append, List.length_cons, List.length_nil, Int.one_mul, implies_true, imp_self, btL, blL, bsL, ne_eq] at *; omega) | (simp only [sel, bsL, ne_eq] at *; simp_all <;> fail) | (simp [sel, segsOf, List.cons_append, List.nil_append, widthL, S0.width] <;> fail) | (simp only [ByteArray.size, List.size_toArray, List.length_cons, List.length_nil] <;> omega))) | fail) ?_
          | (with_reducible show SW _ (Code.cond _ _ _) _ _ _); (refine rCond rfl rfl (by first | (first | exact True.intro | exact hok | exact rf_ok hok | exact takeAt_ok (rf_ok hok) | exact r0_ok hok | ((repeat' first | refine And.intro ?_ ?_ | intro _) <;> first | exact True.intro | exact hok | exact rf_ok hok | exact takeAt_ok (rf_ok hok) | exact r0_ok hok | (with_reducible exact rfl) | (with_reducible assumption) | omega | (rw [c4]; omega) | (simp only [sel, inK, segsOf, widthL, S0.width, List.cons_append, List.nil_append, List.length_cons, List.length_nil, Int.one_mul, implies_true, imp_self, btL, blL, bsL, ne_eq] <;> omega) | (simp only [sel, inK, segsOf, widthL, S0.width, List.cons_append, List.nil_append, List.length_cons, List.length_nil, Int.one_mul, implies_true, imp_self, btL, blL, bsL, ne_eq] at *; omega) | (simp only [sel, bsL, ne_eq] at *; simp_all <;> fail) | (simp [sel, segsOf, List.cons_append, List.nil_append, widthL, S0.width] <;> fail) | (simp only [ByteArray.size, List.size_toArray, List.length_cons, List.length_nil] <;> omega))) | fail) (fun h => ?_) (fun h => ?_) <;> (try (exact absurd h (by decide))) <;> (try simp only [c1, Bool.not_true, Bool.not_false, Decidable.not_not, blL, bsL, ne_eq] at h) <;> (try (exact absurd ‹_› ‹_›)) <;> (try (exfalso; omega)))
          | (with_reducible show SQ _ (Post _ _ _ _ _ _ _) .normal _ _); with_reducible refine rNormal ?_
          | (with_reducible show SQ _ (Post _ _ _ _ _ _ _) .ret _ _); refine rDoneUp hX rfl (by first | (first | exact True.intro | exact hok | exact rf_ok hok | exact takeAt_ok (rf_ok hok) | exact r0_ok hok | ((repeat' first | refine And.intro ?_ ?_ | intro _) <;> first | exact True.intro | exact hok | exact rf_ok hok | exact takeAt_ok (rf_ok hok) | exact r0_ok hok | (with_reducible exact rfl) | (with_reducible assumption) | omega | (rw [c4]; omega) | (simp only [sel, inK, segsOf, widthL, S0.width, List.cons_append, List.nil_append, List.length_cons, List.length_nil, Int.one_mul, implies_true, imp_self, btL, blL, bsL, ne_eq] <;> omega) | (simp only [sel, inK, segsOf, widthL, S0.width, List.cons_append, List.nil_append, List.length_cons, List.length_nil, Int.one_mul, implies_true, imp_self, btL, blL, bsL, ne_eq] at *; omega) | (simp only [sel, bsL, ne_eq] at *; simp_all <;> fail) | (simp [sel, segsOf, List.cons_append, List.nil_append, widthL, S0.width] <;> fail) | (simp only [ByteArray.size, List.size_toArray, List.length_cons, List.length_nil] <;> omega))) | fail) (EnvLe.refl _) (by first | (refine tup3_eq ?_ ?_ ?_ <;> first | (rw [c9]; done) | (rw [c9, c3]; done) | (unfold r0I; rw [c9]; simp; done) | (unfold rhQ; rw [c9]; simp; done) | (unfold r0I; rw [c9, c4]; simp; done) | (unfold rhQ; rw [c9, c4, and_31 _ (by omega)]; simp; omega) | (unfold rhQ; rw [c9, c4, and_31 _ (by omega)]; simp; done) | (unfold rhQ; rw [c9, c4]; simp; done)) | fail) rfl rfl rfl rfl rfl (by first | exact rfl | trivial | fail) (by first | exact rfl | exact up_rd (by (try dsimp only); unfold r0A; rw [c9]; simp) | fail)
      · skip
        all_goals repeat' first
          | with_reducible refine rSeq ?_
          | with_reducible refine rThen ?_
          | with_reducible refine rBlock ?_
          | with_reducible refine rThenRet ?_
          | with_reducible refine rThenExit ?_
          | with_reducible refine rInRet ?_
          | with_reducible refine rInNormal ?_
          | with_reducible refine rInHit ?_
          | with_reducible refine rInMiss rfl ?_
          | with_reducible refine rRet ?_
          | with_reducible refine rExit ?_
          | with_reducible refine rSkip ?_
          | with_reducible refine rLabel ?_
          | with_reducible refine rScope ?_
          | with_reducible refine rNoGotoRet ?_
          | with_reducible refine rNoGotoNormal ?_
          | (with_reducible show SW _ (Code.region _ _ false) _ _ _); refine rRegC md0 hX rfl rfl rfl (by first | (first | exact True.intro | exact hok | exact rf_ok hok | exact takeAt_ok (rf_ok hok) | exact r0_ok hok | ((repeat' first | refine And.intro ?_ ?_ | intro _) <;> first | exact True.intro | exact hok | exact rf_ok hok | exact takeAt_ok (rf_ok hok) | exact r0_ok hok | (with_reducible exact rfl) | (with_reducible assumption) | omega | (rw [c4]; omega) | (simp only [sel, inK, segsOf, widthL, S0.width, List.cons_append, List.nil_append, List.length_cons, List.length_nil, Int.one_mul, implies_true, imp_self, btL, blL, bsL, ne_eq] <;> omega) | (simp only [sel, inK, segsOf, widthL, S0.width, List.cons_append, List.nil_append, List.length_cons, List.length_nil, Int.one_mul, implies_true, imp_self, btL, blL, bsL, ne_eq] at *; omega) | (simp only [sel, bsL, ne_eq] at *; simp_all <;> fail) | (simp [sel, segsOf, List.cons_append, List.nil_append, widthL, S0.width] <;> fail) | (simp only [ByteArray.size, List.size_toArray, List.length_cons, List.length_nil] <;> omega))) | fail) ?_
          | (with_reducible show SW _ (Code.region _ _ true) _ _ _); refine rDrawC md0 hX mixed rfl rfl rfl rfl (by first | (first | exact True.intro | exact hok | exact rf_ok hok | exact takeAt_ok (rf_ok hok) | exact r0_ok hok | ((repeat' first | refine And.intro ?_ ?_ | intro _) <;> first | exact True.intro | exact hok | exact rf_ok hok | exact takeAt_ok (rf_ok hok) | exact r0_ok hok | (with_reducible exact rfl) | (with_reducible assumption) | omega | (rw [c4]; omega) | (simp only [sel, inK, segsOf, widthL, S0.width, List.cons_append, List.nil_append, List.length_cons, List.length_nil, Int.one_mul, implies_true, imp_self, btL, blL, bsL, ne_eq] <;> omega) | (simp only [sel, inK, segsOf, widthL, S0.width, List.cons_append, List.nil_append, List.length_cons, List.length_nil, Int.one_mul, implies_true, imp_self, btL, blL, bsL, ne_eq] at *; omega) | (simp only [sel, bsL, ne_eq] at *; simp_all <;> fail) | (simp [sel, segsOf, List.cons_append, List.nil_append, widthL, S0.width] <;> fail) | (simp only [ByteArray.size, List.size_toArray, List.length_cons, List.length_nil] <;> omega))) | fail) ?_
          | (with_reducible show SW _ (Code.region _ _ true) _ _ _); refine rDrawSC md0 hX mixed rfl rfl rfl rfl rfl (by first | (first | exact True.intro | exact hok | exact rf_ok hok | exact takeAt_ok (rf_ok hok) | exact r0_ok hok | ((repeat' first | refine And.intro ?_ ?_ | intro _) <;> first | exact True.intro | exact hok | exact rf_ok hok | exact takeAt_ok (rf_ok hok) | exact r0_ok hok | (with_reducible exact rfl) | (with_reducible assumption) | omega | (rw [c4]; omega) | (simp only [sel, inK, segsOf, widthL, S0.width, List.cons_append, List.nil_append, List.length_cons, List.length_nil, Int.one_mul, implies_true, imp_self, btL, blL, bsL, ne_eq] <;> omega) | (simp only [sel, inK, segsOf, widthL, S0.width, List.cons_append, List.nil_append, List.length_cons, List.length_nil, Int.one_mul, implies_true, imp_self, btL, blL, bsL, ne_eq] at *; omega) | (simp only [sel, bsL, ne_eq] at *; simp_all <;> fail) | (simp [sel, segsOf, List.cons_append, List.nil_append, widthL, S0.width] <;> fail) | (simp only [ByteArray.size, List.size_toArray, List.length_cons, List.length_nil] <;> omega))) | fail) ?_
          | (with_reducible show SW _ (Code.cond _ _ _) _ _ _); (refine rCond rfl rfl (by first | (first | exact True.intro | exact hok | exact rf_ok hok | exact takeAt_ok (rf_ok hok) | exact r0_ok hok | ((repeat' first | refine And.intro ?_ ?_ | intro _) <;> first | exact True.intro | exact hok | exact rf_ok hok | exact takeAt_ok (rf_ok hok) | exact r0_ok hok | (with_reducible exact rfl) | (with_reducible assumption) | omega | (rw [c4]; omega) | (simp only [sel, inK, segsOf, widthL, S0.width, List.cons_append, List.nil_append, List.length_cons, List.length_nil, Int.one_mul, implies_true, imp_self, btL, blL, bsL, ne_eq] <;> omega) | (simp only [sel, inK, segsOf, widthL, S0.width, List.cons_append, List.nil_append, List.length_cons, List.length_nil, Int.one_mul, implies_true, imp_self, btL, blL, bsL, ne_eq] at *; omega) | (simp only [sel, bsL, ne_eq] at *; simp_all <;> fail) | (simp [sel, segsOf, List.cons_append, List.nil_append, widthL, S0.width] <;> fail) | (simp only [ByteArray.size, List.size_toArray, List.length_cons, List.length_nil] <;> omega))) | fail) (fun h => ?_) (fun h => ?_) <;> (try (exact absurd h (by decide))) <;> (try simp only [c1, Bool.not_true, Bool.not_false, Decidable.not_not, c2, blL, bsL, ne_eq] at h) <;> (try (exact absurd ‹_› ‹_›)) <;> (try (exfalso; omega)))
          | (with_reducible show SQ _ (Post _ _ _ _ _ _ _) .normal _ _); with_reducible refine rNormal ?_
          | (with_reducible show SQ _ (Post _ _ _ _ _ _ _) .ret _ _); refine rDoneUp hX rfl (by first | (first | exact True.intro | exact hok | exact rf_ok hok | exact takeAt_ok (rf_ok hok) | exact r0_ok hok | ((repeat' first | refine And.intro ?_ ?_ | intro _) <;> first | exact True.intro | exact hok | exact rf_ok hok | exact takeAt_ok (rf_ok hok) | exact r0_ok hok | (with_reducible exact rfl) | (with_reducible assumption) | omega | (rw [c4]; omega) | (simp only [sel, inK, segsOf, widthL, S0.width, List.cons_append, List.nil_append, List.length_cons, List.length_nil, Int.one_mul, implies_true, imp_self, btL, blL, bsL, ne_eq] <;> omega) | (simp only [sel, inK, segsOf, widthL, S0.width, List.cons_append, List.nil_append, List.length_cons, List.length_nil, Int.one_mul, implies_true, imp_self, btL, blL, bsL, ne_eq] at *; omega) | (simp only [sel, bsL, ne_eq] at *; simp_all <;> fail) | (simp [sel, segsOf, List.cons_append, List.nil_append, widthL, S0.width] <;> fail) | (simp only [ByteArray.size, List.size_toArray, List.length_cons, List.length_nil] <;> omega))) | fail) (EnvLe.refl _) (by first | (refine tup3_eq ?_ ?_ ?_ <;> first | (rw [c9]; done) | (rw [c9, c3]; done) | (unfold r0I; rw [c9]; simp; done) | (unfold rhQ; rw [c9]; simp; done) | (unfold r0I; rw [c9, c4]; simp; done) | (unfold rhQ; rw [c9, c4, and_31 _ (by omega)]; simp; omega) | (unfold rhQ; rw [c9, c4, and_31 _ (by omega)]; simp; done) | (unfold rhQ; rw [c9, c4]; simp; done)) | fail) rfl rfl rfl rfl rfl (by first | exact rfl | trivial | fail) (by first | exact rfl | exact up_rd (by (try dsimp only); unfold r0A; rw [c9]; simp) | fail)
      · skip
        all_goals repeat' first
          | with_reducible refine rSeq ?_
          | with_reducible refine rThen ?_
          | with_reducible refine rBlock ?_
          | with_reducible refine rThenRet ?_
          | with_reducible refine rThenExit ?_
          | with_reducible refine rInRet ?_
          | with_reducible refine rInNormal ?_
          | with_reducible refine rInHit ?_
          | with_reducible refine rInMiss rfl ?_
          | with_reducible refine rRet ?_
          | with_reducible refine rExit ?_
          | with_reducible refine rSkip ?_
          | with_reducible refine rLabel ?_
          | with_reducible refine rScope ?_
          | with_reducible refine rNoGotoRet ?_
          | with_reducible refine rNoGotoNormal ?_
          | (with_reducible show SW _ (Code.region _ _ false) _ _ _); refine rRegC md0 hX rfl rfl rfl (by first | (first | exact True.intro | exact hok | exact rf_ok hok | exact takeAt_ok (rf_ok hok) | exact r0_ok hok | ((repeat' first | refine And.intro ?_ ?_ | intro _) <;> first | exact True.intro | exact hok | exact rf_ok hok | exact takeAt_ok (rf_ok hok) | exact r0_ok hok | (with_reducible exact rfl) | (with_reducible assumption) | omega | (rw [c4]; omega) | (simp only [sel, inK, segsOf, widthL, S0.width, List.cons_append, List.nil_append, List.length_cons, List.length_nil, Int.one_mul, implies_true, imp_self, btL, blL, bsL, ne_eq] <;> omega) | (simp only [sel, inK, segsOf, widthL, S0.width, List.cons_append, List.nil_append, List.length_cons, List.length_nil, Int.one_mul, implies_true, imp_self, btL, blL, bsL, ne_eq] at *; omega) | (simp only [sel, bsL, ne_eq] at *; simp_all <;> fail) | (simp [sel, segsOf, List.cons_append, List.nil_append, widthL, S0.width] <;> fail) | (simp only [ByteArray.size, List.size_toArray, List.length_cons, List.length_nil] <;> omega))) | fail) ?_
          | (with_reducible show SW _ (Code.region _ _ true) _ _ _); refine rDrawC md0 hX mixed rfl rfl rfl rfl (by first | (first | exact True.intro | exact hok | exact rf_ok hok | exact takeAt_ok (rf_ok hok) | exact r0_ok hok | ((repeat' first | refine And.intro ?_ ?_ | intro _) <;> first | exact True.intro | exact hok | exact rf_ok hok | exact takeAt_ok (rf_ok hok) | exact r0_ok hok | (with_reducible exact rfl) | (with_reducible assumption) | omega | (rw [c4]; omega) | (simp only [sel, inK, segsOf, widthL, S0.width, List.cons_append, List.nil_append, List.length_cons, List.length_nil, Int.one_mul, implies_true, imp_self, btL, blL, bsL, ne_eq] <;> omega) | (simp only [sel, inK, segsOf, widthL, S0.width, List.cons_append, List.nil_append, List.length_cons, List.length_nil, Int.one_mul, implies_true, imp_self, btL, blL, bsL, ne_eq] at *; omega) | (simp only [sel, bsL, ne_eq] at *; simp_all <;> fail) | (simp [sel, segsOf, List.cons_append, List.nil_append, widthL, S0.width] <;> fail) | (simp only [ByteArray.size, List.size_toArray, List.length_cons, List.length_nil] <;> omega))) | fail) ?_
          | (with_reducible show SW _ (Code.region _ _ true) _ _ _); refine rDrawSC md0 hX mixed rfl rfl rfl rfl rfl (by first | (first | exact True.intro | exact hok | exact rf_ok hok | exact takeAt_ok (rf_ok hok) | exact r0_ok hok | ((repeat' first | refine And.intro ?_ ?_ | intro _) <;> first | exact True.intro | exact hok | exact rf_ok hok | exact takeAt_ok (rf_ok hok) | exact r0_ok hok | (with_reducible exact rfl) | (with_reducible assumption) | omega | (rw [c4]; omega) | (simp only [sel, inK, segsOf, widthL, S0.width, List.cons_append, List.nil_append, List.length_cons, List.length_nil, Int.one_mul, implies_true, imp_self, btL, blL, bsL, ne_eq] <;> omega) | (simp only [sel, inK, segsOf, widthL, S0.width, List.cons_append, List.nil_append, List.length_cons, List.length_nil, Int.one_mul, implies_true, imp_self, btL, blL, bsL, ne_eq] at *; omega) | (simp only [sel, bsL, ne_eq] at *; simp_all <;> fail) | (simp [sel, segsOf, List.cons_append, List.nil_append, widthL, S0.width] <;> fail) | (simp only [ByteArray.size, List.size_toArray, List.length_cons, List.length_nil] <;> omega))) | fail) ?_
          | (with_reducible show SW _ (Code.cond _ _ _) _ _ _); (refine rCond rfl rfl (by first | (first | exact True.intro | exact hok | exact rf_ok hok | exact takeAt_ok (rf_ok hok) | exact r0_ok hok | ((repeat' first | refine And.intro ?_ ?_ | intro _) <;> first | exact True.intro | exact hok | exact rf_ok hok | exact takeAt_ok (rf_ok hok) | exact r0_ok hok | (with_reducible exact rfl) | (with_reducible assumption) | omega | (rw [c4]; omega) | (simp only [sel, inK, segsOf, widthL, S0.width, List.cons_append, List.nil_append, List.length_cons, List.length_nil, Int.one_mul, implies_true, imp_self, btL, blL, bsL, ne_eq] <;> omega) | (simp only [sel, inK, segsOf, widthL, S0.width, List.cons_append, List.nil_append, List.length_cons, List.length_nil, Int.one_mul, implies_true, imp_self, btL, blL, bsL, ne_eq] at *; omega) | (simp only [sel, bsL, ne_eq] at *; simp_all <;> fail) | (simp [sel, segsOf, List.cons_append, List.nil_append, widthL, S0.width] <;> fail) | (simp only [ByteArray.size, List.size_toArray, List.length_cons, List.length_nil] <;> omega))) | fail) (fun h => ?_) (fun h => ?_) <;> (try (exact absurd h (by decide))) <;> (try simp only [c1, Bool.not_true, Bool.not_false, Decidable.not_not, c2, c3, c4, and_31 _ hw.1, blL, bsL, ne_eq] at h) <;> (try (exact absurd ‹_› ‹_›)) <;> (try (exfalso; omega)))
          | (with_reducible show SQ _ (Post _ _ _ _ _ _ _) .normal _ _); with_reducible refine rNormal ?_
          | (with_reducible show SQ _ (Post _ _ _ _ _ _ _) .ret _ _); refine rDoneUp hX rfl (by first | (first | exact True.intro | exact hok | exact rf_ok hok | exact takeAt_ok (rf_ok hok) | exact r0_ok hok | ((repeat' first | refine And.intro ?_ ?_ | intro _) <;> first | exact True.intro | exact hok | exact rf_ok hok | exact takeAt_ok (rf_ok hok) | exact r0_ok hok | (with_reducible exact rfl) | (with_reducible assumption) | omega | (rw [c4]; omega) | (simp only [sel, inK, segsOf, widthL, S0.width, List.cons_append, List.nil_append, List.length_cons, List.length_nil, Int.one_mul, implies_true, imp_self, btL, blL, bsL, ne_eq] <;> omega) | (simp only [sel, inK, segsOf, widthL, S0.width, List.cons_append, List.nil_append, List.length_cons, List.length_nil, Int.one_mul, implies_true, imp_self, btL, blL, bsL, ne_eq] at *; omega) | (simp only [sel, bsL, ne_eq] at *; simp_all <;> fail) | (simp [sel, segsOf, List.cons_append, List.nil_append, widthL, S0.width] <;> fail) | (simp only [ByteArray.size, List.size_toArray, List.length_cons, List.length_nil] <;> omega))) | fail) (EnvLe.refl _) (by first | (refine tup3_eq ?_ ?_ ?_ <;> first | (rw [c9]; done) | (rw [c9, c3]; done) | (unfold r0I; rw [c9]; simp; done) | (unfold rhQ; rw [c9]; simp; done) | (unfold r0I; rw [c9, c4]; simp; done) | (unfold rhQ; rw [c9, c4, and_31 _ (by omega)]; simp; omega) | (unfold rhQ; rw [c9, c4, and_31 _ (by omega)]; simp; done) | (unfold rhQ; rw [c9, c4]; simp; done)) | fail) rfl rfl rfl rfl rfl (by first | exact rfl | trivial | fail) (by first | exact rfl | exact up_rd (by (try dsimp only); unfold r0A; rw [c9]; simp [c5]) | fail)
      · skip
        all_goals repeat' first
          | with_reducible refine rSeq ?_
          | with_reducible refine rThen ?_
          | with_reducible refine rBlock ?_
          | with_reducible refine rThenRet ?_
          | with_reducible refine rThenExit ?_
          | with_reducible refine rInRet ?_
          | with_reducible refine rInNormal ?_
          | with_reducible refine rInHit ?_
          | with_reducible refine rInMiss rfl ?_
          | with_reducible refine rRet ?_
          | with_reducible refine rExit ?_
          | with_reducible refine rSkip ?_
          | with_reducible refine rLabel ?_
          | with_reducible refine rScope ?_
          | with_reducible refine rNoGotoRet ?_
          | with_reducible refine rNoGotoNormal ?_
          | (with_reducible show SW _ (Code.region _ _ false) _ _ _); refine rRegC md0 hX rfl rfl rfl (by first | (first | exact True.intro | exact hok | exact rf_ok hok | exact takeAt_ok (rf_ok hok) | exact r0_ok hok | ((repeat' first | refine And.intro ?_ ?_ | intro _) <;> first | exact True.intro | exact hok | exact rf_ok hok | exact takeAt_ok (rf_ok hok) | exact r0_ok hok | (with_reducible exact rfl) | (with_reducible assumption) | omega | (rw [c4]; omega) | (simp only [sel, inK, segsOf, widthL, S0.width, List.cons_append, List.nil_append, List.length_cons, List.length_nil, Int.one_mul, implies_true, imp_self, btL, blL, bsL, ne_eq] <;> omega) | (simp only [sel, inK, segsOf, widthL, S0.width, List.cons_append, List.nil_append, List.length_cons, List.length_nil, Int.one_mul, implies_true, imp_self, btL, blL, bsL, ne_eq] at *; omega) | (simp only [sel, bsL, ne_eq] at *; simp_all <;> fail) | (simp [sel, segsOf, List.cons_append, List.nil_append, widthL, S0.width] <;> fail) | (simp only [ByteArray.size, List.size_toArray, List.length_cons, List.length_nil] <;> omega))) | fail) ?_
          | (with_reducible show SW _ (Code.region _ _ true) _ _ _); refine rDrawC md0 hX mixed rfl rfl rfl rfl (by first | (first | exact True.intro | exact hok | exact rf_ok hok | exact takeAt_ok (rf_ok hok) | exact r0_ok hok | ((repeat' first | refine And.intro ?_ ?_ | intro _) <;> first | exact True.intro | exact hok | exact rf_ok hok | exact takeAt_ok (rf_ok hok) | exact r0_ok hok | (with_reducible exact rfl) | (with_reducible assumption) | omega | (rw [c4]; omega) | (simp only [sel, inK, segsOf, widthL, S0.width, List.cons_append, List.nil_append, List.length_cons, List.length_nil, Int.one_mul, implies_true, imp_self, btL, blL, bsL, ne_eq] <;> omega) | (simp only [sel, inK, segsOf, widthL, S0.width, List.cons_append, List.nil_append, List.length_cons, List.length_nil, Int.one_mul, implies_true, imp_self, btL, blL, bsL, ne_eq] at *; omega) | (simp only [sel, bsL, ne_eq] at *; simp_all <;> fail) | (simp [sel, segsOf, List.cons_append, List.nil_append, widthL, S0.width] <;> fail) | (simp only [ByteArray.size, List.size_toArray, List.length_cons, List.length_nil] <;> omega))) | fail) ?_
          | (with_reducible show SW _ (Code.region _ _ true) _ _ _); refine rDrawSC md0 hX mixed rfl rfl rfl rfl rfl (by first | (first | exact True.intro | exact hok | exact rf_ok hok | exact takeAt_ok (rf_ok hok) | exact r0_ok hok | ((repeat' first | refine And.intro ?_ ?_ | intro _) <;> first | exact True.intro | exact hok | exact rf_ok hok | exact takeAt_ok (rf_ok hok) | exact r0_ok hok | (with_reducible exact rfl) | (with_reducible assumption) | omega | (rw [c4]; omega) | (simp only [sel, inK, segsOf, widthL, S0.width, List.cons_append, List.nil_append, List.length_cons, List.length_nil, Int.one_mul, implies_true, imp_self, btL, blL, bsL, ne_eq] <;> omega) | (simp only [sel, inK, segsOf, widthL, S0.width, List.cons_append, List.nil_append, List.length_cons, List.length_nil, Int.one_mul, implies_true, imp_self, btL, blL, bsL, ne_eq] at *; omega) | (simp only [sel, bsL, ne_eq] at *; simp_all <;> fail) | (simp [sel, segsOf, List.cons_append, List.nil_append, widthL, S0.width] <;> fail) | (simp only [ByteArray.size, List.size_toArray, List.length_cons, List.length_nil] <;> omega))) | fail) ?_
          | (with_reducible show SW _ (Code.cond _ _ _) _ _ _); (refine rCond rfl rfl (by first | (first | exact True.intro | exact hok | exact rf_ok hok | exact takeAt_ok (rf_ok hok) | exact r0_ok hok | ((repeat' first | refine And.intro ?_ ?_ | intro _) <;> first | exact True.intro | exact hok | exact rf_ok hok | exact takeAt_ok (rf_ok hok) | exact r0_ok hok | (with_reducible exact rfl) | (with_reducible assumption) | omega | (rw [c4]; omega) | (simp only [sel, inK, segsOf, widthL, S0.width, List.cons_append, List.nil_append, List.length_cons, List.length_nil, Int.one_mul, implies_true, imp_self, btL, blL, bsL, ne_eq] <;> omega) | (simp only [sel, inK, segsOf, widthL, S0.width, List.cons_append, List.nil_append, List.length_cons, List.length_nil, Int.one_mul, implies_true, imp_self, btL, blL, bsL, ne_eq] at *; omega) | (simp only [sel, bsL, ne_eq] at *; simp_all <;> fail) | (simp [sel, segsOf, List.cons_append, List.nil_append, widthL, S0.width] <;> fail) | (simp only [ByteArray.size, List.size_toArray, List.length_cons, List.length_nil] <;> omega))) | fail) (fun h => ?_) (fun h => ?_) <;> (try (exact absurd h (by decide))) <;> (try simp only [c1, Bool.not_true, Bool.not_false, Decidable.not_not, c2, c3, c4, and_31 _ hw.1, blL, bsL, ne_eq] at h) <;> (try (exact absurd ‹_› ‹_›)) <;> (try (exfalso; omega)))
          | (with_reducible show SQ _ (Post _ _ _ _ _ _ _) .normal _ _); with_reducible refine rNormal ?_
          | (with_reducible show SQ _ (Post _ _ _ _ _ _ _) .ret _ _); refine rDoneUp hX rfl (by first | (first | exact True.intro | exact hok | exact rf_ok hok | exact takeAt_ok (rf_ok hok) | exact r0_ok hok | ((repeat' first | refine And.intro ?_ ?_ | intro _) <;> first | exact True.intro | exact hok | exact rf_ok hok | exact takeAt_ok (rf_ok hok) | exact r0_ok hok | (with_reducible exact rfl) | (with_reducible assumption) | omega | (rw [c4]; omega) | (simp only [sel, inK, segsOf, widthL, S0.width, List.cons_append, List.nil_append, List.length_cons, List.length_nil, Int.one_mul, implies_true, imp_self, btL, blL, bsL, ne_eq] <;> omega) | (simp only [sel, inK, segsOf, widthL, S0.width, List.cons_append, List.nil_append, List.length_cons, List.length_nil, Int.one_mul, implies_true, imp_self, btL, blL, bsL, ne_eq] at *; omega) | (simp only [sel, bsL, ne_eq] at *; simp_all <;> fail) | (simp [sel, segsOf, List.cons_append, List.nil_append, widthL, S0.width] <;> fail) | (simp only [ByteArray.size, List.size_toArray, List.length_cons, List.length_nil] <;> omega))) | fail) (EnvLe.refl _) (by first | (refine tup3_eq ?_ ?_ ?_ <;> first | (rw [c9]; done) | (rw [c9, c3]; done) | (unfold r0I; rw [c9]; simp; done) | (unfold rhQ; rw [c9]; simp; done) | (unfold r0I; rw [c9, c4]; simp; done) | (unfold rhQ; rw [c9, c4, and_31 _ (by omega)]; simp; omega) | (unfold rhQ; rw [c9, c4, and_31 _ (by omega)]; simp; done) | (unfold rhQ; rw [c9, c4]; simp; done)) | fail) rfl rfl rfl rfl rfl (by first | exact rfl | trivial | fail) (by first | exact rfl | exact up_rd (by (try dsimp only); unfold r0A; rw [c9]; simp [c5]) | fail)
      · skip
        all_goals repeat' first
          | with_reducible refine rSeq ?_
          | with_reducible refine rThen ?_
          | with_reducible refine rBlock ?_
          | with_reducible refine rThenRet ?_
          | with_reducible refine rThenExit ?_
          | with_reducible refine rInRet ?_
          | with_reducible refine rInNormal ?_
          | with_reducible refine rInHit ?_
          | with_reducible refine rInMiss rfl ?_
          | with_reducible refine rRet ?_
          | with_reducible refine rExit ?_
          | with_reducible refine rSkip ?_
          | with_reducible refine rLabel ?_
          | with_reducible refine rScope ?_
          | with_reducible refine rNoGotoRet ?_
          | with_reducible refine rNoGotoNormal ?_
          | (with_reducible show SW _ (Code.region _ _ false) _ _ _); refine rRegC md0 hX rfl rfl rfl (by first | (first | exact True.intro | exact hok | exact rf_ok hok | exact takeAt_ok (rf_ok hok) | exact r0_ok hok | ((repeat' first | refine And.intro ?_ ?_ | intro _) <;> first | exact True.intro | exact hok | exact rf_ok hok | exact takeAt_ok (rf_ok hok) | exact r0_ok hok | (with_reducible exact rfl) | (with_reducible assumption) | omega | (rw [c4]; omega) | (simp only [sel, inK, segsOf, widthL, S0.width, List.cons_append, List.nil_append, List.length_cons, List.length_nil, Int.one_mul, implies_true, imp_self, btL, blL, bsL, ne_eq] <;> omega) | (simp only [sel, inK, segsOf, widthL, S0.width, List.cons_append, List.nil_append, List.length_cons, List.length_nil, Int.one_mul, implies_true, imp_self, btL, blL, bsL, ne_eq] at *; omega) | (simp only [sel, bsL, ne_eq] at *; simp_all <;> fail) | (simp [sel, segsOf, List.cons_append, List.nil_append, widthL, S0.width] <;> fail) | (simp only [ByteArray.size, List.size_toArray, List.length_cons, List.length_nil] <;> omega))) | fail) ?_
          | (with_reducible show SW _ (Code.region _ _ true) _ _ _); refine rDrawC md0 hX mixed rfl rfl rfl rfl (by first | (first | exact True.intro | exact hok | exact rf_ok hok | exact takeAt_ok (rf_ok hok) | exact r0_ok hok | ((repeat' first | refine And.intro ?_ ?_ | intro _) <;> first | exact True.intro | exact hok | exact rf_ok hok | exact takeAt_ok (rf_ok hok) | exact r0_ok hok | (with_reducible exact rfl) | (with_reducible assumption) | omega | (rw [c4]; omega) | (simp only [sel, inK, segsOf, widthL, S0.width, List.cons_append, List.nil_append, List.length_cons, List.length_nil, Int.one_mul, implies_true, imp_self, btL, blL, bsL, ne_eq] <;> omega) | (simp only [sel, inK, segsOf, widthL, S0.width, List.cons_append, List.nil_append, List.length_cons, List.length_nil, Int.one_mul, implies_true, imp_self, btL, blL, bsL, ne_eq] at *; omega) | (simp only [sel, bsL, ne_eq] at *; simp_all <;> fail) | (simp [sel, segsOf, List.cons_append, List.nil_append, widthL, S0.width] <;> fail) | (simp only [ByteArray.size, List.size_toArray, List.length_cons, List.length_nil] <;> omega))) | fail) ?_
          | (with_reducible show SW _ (Code.region _ _ true) _ _ _); refine rDrawSC md0 hX mixed rfl rfl rfl rfl rfl (by first | (first | exact True.intro | exact hok | exact rf_ok hok | exact takeAt_ok (rf_ok hok) | exact r0_ok hok | ((repeat' first | refine And.intro ?_ ?_ | intro _) <;> first | exact True.intro | exact hok | exact rf_ok hok | exact takeAt_ok (rf_ok hok) | exact r0_ok hok | (with_reducible exact rfl) | (with_reducible assumption) | omega | (rw [c4]; omega) | (simp only [sel, inK, segsOf, widthL, S0.width, List.cons_append, List.nil_append, List.length_cons, List.length_nil, Int.one_mul, implies_true, imp_self, btL, blL, bsL, ne_eq] <;> omega) | (simp only [sel, inK, segsOf, widthL, S0.width, List.cons_append, List.nil_append, List.length_cons, List.length_nil, Int.one_mul, implies_true, imp_self, btL, blL, bsL, ne_eq] at *; omega) | (simp only [sel, bsL, ne_eq] at *; simp_all <;> fail) | (simp [sel, segsOf, List.cons_append, List.nil_append, widthL, S0.width] <;> fail) | (simp only [ByteArray.size, List.size_toArray, List.length_cons, List.length_nil] <;> omega))) | fail) ?_
          | (with_reducible show SW _ (Code.cond _ _ _) _ _ _); (refine rCond rfl rfl (by first | (first | exact True.intro | exact hok | exact rf_ok hok | exact takeAt_ok (rf_ok hok) | exact r0_ok hok | ((repeat' first | refine And.intro ?_ ?_ | intro _) <;> first | exact True.intro | exact hok | exact rf_ok hok | exact takeAt_ok (rf_ok hok) | exact r0_ok hok | (with_reducible exact rfl) | (with_reducible assumption) | omega | (rw [c4]; omega) | (simp only [sel, inK, segsOf, widthL, S0.width, List.cons_append, List.nil_append, List.length_cons, List.length_nil, Int.one_mul, implies_true, imp_self, btL, blL, bsL, ne_eq] <;> omega) | (simp only [sel, inK, segsOf, widthL, S0.width, List.cons_append, List.nil_append, List.length_cons, List.length_nil, Int.one_mul, implies_true, imp_self, btL, blL, bsL, ne_eq] at *; omega) | (simp only [sel, bsL, ne_eq] at *; simp_all <;> fail) | (simp [sel, segsOf, List.cons_append, List.nil_append, widthL, S0.width] <;> fail) | (simp only [ByteArray.size, List.size_toArray, List.length_cons, List.length_nil] <;> omega))) | fail) (fun h => ?_) (fun h => ?_) <;> (try (exact absurd h (by decide))) <;> (try simp only [c1, Bool.not_true, Bool.not_false, Decidable.not_not, c2, c3, c4, and_31 _ hw.1, blL, bsL, ne_eq] at h) <;> (try (exact absurd ‹_› ‹_›)) <;> (try (exfalso; omega)))
          | (with_reducible show SQ _ (Post _ _ _ _ _ _ _) .normal _ _); with_reducible refine rNormal ?_
          | (with_reducible show SQ _ (Post _ _ _ _ _ _ _) .ret _ _); refine rDoneUp hX rfl (by first | (first | exact True.intro | exact hok | exact rf_ok hok | exact takeAt_ok (rf_ok hok) | exact r0_ok hok | ((repeat' first | refine And.intro ?_ ?_ | intro _) <;> first | exact True.intro | exact hok | exact rf_ok hok | exact takeAt_ok (rf_ok hok) | exact r0_ok hok | (with_reducible exact rfl) | (with_reducible assumption) | omega | (rw [c4]; omega) | (simp only [sel, inK, segsOf, widthL, S0.width, List.cons_append, List.nil_append, List.length_cons, List.length_nil, Int.one_mul, implies_true, imp_self, btL, blL, bsL, ne_eq] <;> omega) | (simp only [sel, inK, segsOf, widthL, S0.width, List.cons_append, List.nil_append, List.length_cons, List.length_nil, Int.one_mul, implies_true, imp_self, btL, blL, bsL, ne_eq] at *; omega) | (simp only [sel, bsL, ne_eq] at *; simp_all <;> fail) | (simp [sel, segsOf, List.cons_append, List.nil_append, widthL, S0.width] <;> fail) | (simp only [ByteArray.size, List.size_toArray, List.length_cons, List.length_nil] <;> omega))) | fail) (EnvLe.refl _) (by first | (refine tup3_eq ?_ ?_ ?_ <;> first | (rw [c9]; done) | (rw [c9, c3]; done) | (unfold r0I; rw [c9]; simp; done) | (unfold rhQ; rw [c9]; simp; done) | (unfold r0I; rw [c9, c4]; simp; done) | (unfold rhQ; rw [c9, c4, and_31 _ (by omega)]; simp; omega) | (unfold rhQ; rw [c9, c4, and_31 _ (by omega)]; simp; done) | (unfold rhQ; rw [c9, c4]; simp; done)) | fail) rfl rfl rfl rfl rfl (by first | exact rfl | trivial | fail) (by first | exact rfl | exact up_rd (by (try dsimp only); unfold r0A; rw [c9]; simp [c5]) | fail)
    · cases h
  · cases h
set_option maxRecDepth 100000 in
set_option maxHeartbeats 4000000 in
theorem okRh : FnOK Try.prog gt0 52 (spRh) := by
  refine fnOK_handed Try.func52 rfl (by kernel_rfl) tt_ok (ktCons okAt (ktCons okRh0 (ktCons okSeek (ktNil)))) ?_
  intro args lk r h hp
  unfold spRh at h
  split at h
  · rename_i n
    cases h
    refine hand0 rfl rfl (fun w0 M ε0 hX => ?_)
    all_goals repeat' first
      | with_reducible refine rSeq ?_
      | with_reducible refine rThen ?_
      | with_reducible refine rBlock ?_
      | with_reducible refine rThenRet ?_
      | with_reducible refine rThenExit ?_
      | with_reducible refine rInRet ?_
      | with_reducible refine rInNormal ?_
      | with_reducible refine rInHit ?_
      | with_reducible refine rInMiss rfl ?_
      | with_reducible refine rRet ?_
      | with_reducible refine rExit ?_
      | with_reducible refine rSkip ?_
      | with_reducible refine rLabel ?_
      | with_reducible refine rScope ?_
      | with_reducible refine rNoGotoRet ?_
      | with_reducible refine rNoGotoNormal ?_
      | (with_reducible show SW _ (Code.region _ _ false) _ _ _); refine rRegC md0 hX rfl rfl rfl (by first | (first | exact True.intro | ((repeat' first | refine And.intro ?_ ?_ | intro _) <;> first | exact True.intro | (with_reducible exact rfl) | (with_reducible assumption) | omega | (simp only [sel, inK, segsOf, widthL, S0.width, List.cons_append, List.nil_append, List.length_cons, List.length_nil, Int.one_mul, implies_true, imp_self, btL, blL, bsL, ne_eq] <;> omega) | (simp only [sel, inK, segsOf, widthL, S0.width, List.cons_append, List.nil_append, List.length_cons, List.length_nil, Int.one_mul, implies_true, imp_self, btL, blL, bsL, ne_eq] at *; omega) | (simp only [sel, bsL, ne_eq] at *; simp_all <;> fail) | (simp [sel, segsOf, List.cons_append, List.nil_append, widthL, S0.width] <;> fail) | (simp only [ByteArray.size, List.size_toArray, List.length_cons, List.length_nil] <;> omega))) | fail) ?_
      | (with_reducible show SW _ (Code.region _ _ true) _ _ _); refine rDrawC md0 hX mixed rfl rfl rfl rfl (by first | (first | exact True.intro | ((repeat' first | refine And.intro ?_ ?_ | intro _) <;> first | exact True.intro | (with_reducible exact rfl) | (with_reducible assumption) | omega | (simp only [sel, inK, segsOf, widthL, S0.width, List.cons_append, List.nil_append, List.length_cons, List.length_nil, Int.one_mul, implies_true, imp_self, btL, blL, bsL, ne_eq] <;> omega) | (simp only [sel, inK, segsOf, widthL, S0.width, List.cons_append, List.nil_append, List.length_cons, List.length_nil, Int.one_mul, implies_true, imp_self, btL, blL, bsL, ne_eq] at *; omega) | (simp only [sel, bsL, ne_eq] at *; simp_all <;> fail) | (simp [sel, segsOf, List.cons_append, List.nil_append, widthL, S0.width] <;> fail) | (simp only [ByteArray.size, List.size_toArray, List.length_cons, List.length_nil] <;> omega))) | fail) ?_
      | (with_reducible show SW _ (Code.region _ _ true) _ _ _); refine rDrawSC md0 hX mixed rfl rfl rfl rfl rfl (by first | (first | exact True.intro | ((repeat' first | refine And.intro ?_ ?_ | intro _) <;> first | exact True.intro | (with_reducible exact rfl) | (with_reducible assumption) | omega | (simp only [sel, inK, segsOf, widthL, S0.width, List.cons_append, List.nil_append, List.length_cons, List.length_nil, Int.one_mul, implies_true, imp_self, btL, blL, bsL, ne_eq] <;> omega) | (simp only [sel, inK, segsOf, widthL, S0.width, List.cons_append, List.nil_append, List.length_cons, List.length_nil, Int.one_mul, implies_true, imp_self, btL, blL, bsL, ne_eq] at *; omega) | (simp only [sel, bsL, ne_eq] at *; simp_all <;> fail) | (simp [sel, segsOf, List.cons_append, List.nil_append, widthL, S0.width] <;> fail) | (simp only [ByteArray.size, List.size_toArray, List.length_cons, List.length_nil] <;> omega))) | fail) ?_
      | (with_reducible show SW _ (Code.cond _ _ _) _ _ _); (refine rCond rfl rfl (by first | (first | exact True.intro | ((repeat' first | refine And.intro ?_ ?_ | intro _) <;> first | exact True.intro | (with_reducible exact rfl) | (with_reducible assumption) | omega | (simp only [sel, inK, segsOf, widthL, S0.width, List.cons_append, List.nil_append, List.length_cons, List.length_nil, Int.one_mul, implies_true, imp_self, btL, blL, bsL, ne_eq] <;> omega) | (simp only [sel, inK, segsOf, widthL, S0.width, List.cons_append, List.nil_append, List.length_cons, List.length_nil, Int.one_mul, implies_true, imp_self, btL, blL, bsL, ne_eq] at *; omega) | (simp only [sel, bsL, ne_eq] at *; simp_all <;> fail) | (simp [sel, segsOf, List.cons_append, List.nil_append, widthL, S0.width] <;> fail) | (simp only [ByteArray.size, List.size_toArray, List.length_cons, List.length_nil] <;> omega))) | fail) (fun h => ?_) (fun h => ?_) <;> (try (exact absurd h (by decide))) <;> (try simp only [blL, bsL, ne_eq] at h) <;> (try (exact absurd ‹_› ‹_›)) <;> (try (exfalso; omega)))
      | (with_reducible show SQ _ (Post _ _ _ _ _ _ _) .normal _ _); with_reducible refine rNormal ?_
      | (with_reducible show SQ _ (Post _ _ _ _ _ _ _) .ret _ _); refine rDone hX rfl (by first | (first | exact True.intro | ((repeat' first | refine And.intro ?_ ?_ | intro _) <;> first | exact True.intro | (with_reducible exact rfl) | (with_reducible assumption) | omega | (simp only [sel, inK, segsOf, widthL, S0.width, List.cons_append, List.nil_append, List.length_cons, List.length_nil, Int.one_mul, implies_true, imp_self, btL, blL, bsL, ne_eq] <;> omega) | (simp only [sel, inK, segsOf, widthL, S0.width, List.cons_append, List.nil_append, List.length_cons, List.length_nil, Int.one_mul, implies_true, imp_self, btL, blL, bsL, ne_eq] at *; omega) | (simp only [sel, bsL, ne_eq] at *; simp_all <;> fail) | (simp [sel, segsOf, List.cons_append, List.nil_append, widthL, S0.width] <;> fail) | (simp only [ByteArray.size, List.size_toArray, List.length_cons, List.length_nil] <;> omega))) | fail) (EnvLe.refl _) (by first | (rfl) | fail) rfl rfl rfl (by first | (intro i e h; cases h; done) | (intro i e h; rw [look_cons] at h; split at h <;> cases h <;> rfl) | fail)
  · rename_i id n
    split at h
    · rename_i ty s p hl
      cases h
      obtain ⟨hp0, hp1, hp2⟩ : 0 ≤ p ∧ p ≤ 8 * s.size ∧ s.size + 64 ≤ 1099511627776 := hp
      have hok : rdOK s p := ⟨hp0, hp1, hp2⟩
      have k1 := rf_ok hok
      have k2 := takeAt_ok (n := 22) k1
      have k3 := r0_ok (n := n) hok
      unfold rdOK at k1 k2 k3
      refine hand1 (e := rdE true ty s p) [pt 0, i64 n] rfl rfl rfl hl (.inl rfl) (by first | exact rfl | exact True.intro | exact fun i hi => rfl) (fun w0 M ε0 hX => ?_)
      by_cases hE : rhE (tb s) p n = 0
      · skip
        all_goals repeat' first
          | with_reducible refine rSeq ?_
          | with_reducible refine rThen ?_
          | with_reducible refine rBlock ?_
          | with_reducible refine rThenRet ?_
          | with_reducible refine rThenExit ?_
          | with_reducible refine rInRet ?_
          | with_reducible refine rInNormal ?_
          | with_reducible refine rInHit ?_
          | with_reducible refine rInMiss rfl ?_
          | with_reducible refine rRet ?_
          | with_reducible refine rExit ?_
          | with_reducible refine rSkip ?_
          | with_reducible refine rLabel ?_
          | with_reducible refine rScope ?_
          | with_reducible refine rNoGotoRet ?_
          | with_reducible refine rNoGotoNormal ?_
          | (with_reducible show SW _ (Code.region _ _ false) _ _ _); refine rRegC md0 hX rfl rfl rfl (by first | (first | exact True.intro | exact hok | exact rf_ok hok | exact takeAt_ok (rf_ok hok) | exact r0_ok hok | ((repeat' first | refine And.intro ?_ ?_ | intro _) <;> first | exact True.intro | exact hok | exact rf_ok hok | exact takeAt_ok (rf_ok hok) | exact r0_ok hok | (with_reducible exact rfl) | (with_reducible assumption) | omega | (rw [c4]; omega) | (simp only [sel, inK, segsOf, widthL, S0.width, List.cons_append, List.nil_append, List.length_cons, List.length_nil, Int.one_mul, implies_true, imp_self, btL, blL, bsL, ne_eq] <;> omega) | (simp only [sel, inK, segsOf, widthL, S0.width, List.cons_append, List.nil_append, List.length_cons, List.length_nil, Int.one_mul, implies_true, imp_self, btL, blL, bsL, ne_eq] at *; omega) | (simp only [sel, bsL, ne_eq] at *; simp_all <;> fail) | (simp [sel, segsOf, List.cons_append, List.nil_append, widthL, S0.width] <;> fail) | (simp only [ByteArray.size, List.size_toArray, List.length_cons, List.length_nil] <;> omega))) | fail) ?_
          | (with_reducible show SW _ (Code.region _ _ true) _ _ _); refine rDrawC md0 hX mixed rfl rfl rfl rfl (by first | (first | exact True.intro | exact hok | exact rf_ok hok | exact takeAt_ok (rf_ok hok) | exact r0_ok hok | ((repeat' first | refine And.intro ?_ ?_ | intro _) <;> first | exact True.intro | exact hok | exact rf_ok hok | exact takeAt_ok (rf_ok hok) | exact r0_ok hok | (with_reducible exact rfl) | (with_reducible assumption) | omega | (rw [c4]; omega) | (simp only [sel, inK, segsOf, widthL, S0.width, List.cons_append, List.nil_append, List.length_cons, List.length_nil, Int.one_mul, implies_true, imp_self, btL, blL, bsL, ne_eq] <;> omega) | (simp only [sel, inK, segsOf, widthL, S0.width, List.cons_append, List.nil_append, List.length_cons, List.length_nil, Int.one_mul, implies_true, imp_self, btL, blL, bsL, ne_eq] at *; omega) | (simp only [sel, bsL, ne_eq] at *; simp_all <;> fail) | (simp [sel, segsOf, List.cons_append, List.nil_append, widthL, S0.width] <;> fail) | (simp only [ByteArray.size, List.size_toArray, List.length_cons, List.length_nil] <;> omega))) | fail) ?_
          | (with_reducible show SW _ (Code.region _ _ true) _ _ _); refine rDrawSC md0 hX mixed rfl rfl rfl rfl rfl (by first | (first | exact True.intro | exact hok | exact rf_ok hok | exact takeAt_ok (rf_ok hok) | exact r0_ok hok | ((repeat' first | refine And.intro ?_ ?_ | intro _) <;> first | exact True.intro | exact hok | exact rf_ok hok | exact takeAt_ok (rf_ok hok) | exact r0_ok hok | (with_reducible exact rfl) | (with_reducible assumption) | omega | (rw [c4]; omega) | (simp only [sel, inK, segsOf, widthL, S0.width, List.cons_append, List.nil_append, List.length_cons, List.length_nil, Int.one_mul, implies_true, imp_self, btL, blL, bsL, ne_eq] <;> omega) | (simp only [sel, inK, segsOf, widthL, S0.width, List.cons_append, List.nil_append, List.length_cons, List.length_nil, Int.one_mul, implies_true, imp_self, btL, blL, bsL, ne_eq] at *; omega) | (simp only [sel, bsL, ne_eq] at *; simp_all <;> fail) | (simp [sel, segsOf, List.cons_append, List.nil_append, widthL, S0.width] <;> fail) | (simp only [ByteArray.size, List.size_toArray, List.length_cons, List.length_nil] <;> omega))) | fail) ?_
          | (with_reducible show SW _ (Code.cond _ _ _) _ _ _); (refine rCond rfl rfl (by first | (first | exact True.intro | exact hok | exact rf_ok hok | exact takeAt_ok (rf_ok hok) | exact r0_ok hok | ((repeat' first | refine And.intro ?_ ?_ | intro _) <;> first | exact True.intro | exact hok | exact rf_ok hok | exact takeAt_ok (rf_ok hok) | exact r0_ok hok | (with_reducible exact rfl) | (with_reducible assumption) | omega | (rw [c4]; omega) | (simp only [sel, inK, segsOf, widthL, S0.width, List.cons_append, List.nil_append, List.length_cons, List.length_nil, Int.one_mul, implies_true, imp_self, btL, blL, bsL, ne_eq] <;> omega) | (simp only [sel, inK, segsOf, widthL, S0.width, List.cons_append, List.nil_append, List.length_cons, List.length_nil, Int.one_mul, implies_true, imp_self, btL, blL, bsL, ne_eq] at *; omega) | (simp only [sel, bsL, ne_eq] at *; simp_all <;> fail) | (simp [sel, segsOf, List.cons_append, List.nil_append, widthL, S0.width] <;> fail) | (simp only [ByteArray.size, List.size_toArray, List.length_cons, List.length_nil] <;> omega))) | fail) (fun h => ?_) (fun h => ?_) <;> (try (exact absurd h (by decide))) <;> (try simp only [hE, Decidable.not_not, blL, bsL, ne_eq] at h) <;> (try (exact absurd ‹_› ‹_›)) <;> (try (exfalso; omega)))
          | (with_reducible show SQ _ (Post _ _ _ _ _ _ _) .normal _ _); with_reducible refine rNormal ?_
          | (with_reducible show SQ _ (Post _ _ _ _ _ _ _) .ret _ _); refine rDoneUp hX rfl (by first | (first | exact True.intro | exact hok | exact rf_ok hok | exact takeAt_ok (rf_ok hok) | exact r0_ok hok | ((repeat' first | refine And.intro ?_ ?_ | intro _) <;> first | exact True.intro | exact hok | exact rf_ok hok | exact takeAt_ok (rf_ok hok) | exact r0_ok hok | (with_reducible exact rfl) | (with_reducible assumption) | omega | (rw [c4]; omega) | (simp only [sel, inK, segsOf, widthL, S0.width, List.cons_append, List.nil_append, List.length_cons, List.length_nil, Int.one_mul, implies_true, imp_self, btL, blL, bsL, ne_eq] <;> omega) | (simp only [sel, inK, segsOf, widthL, S0.width, List.cons_append, List.nil_append, List.length_cons, List.length_nil, Int.one_mul, implies_true, imp_self, btL, blL, bsL, ne_eq] at *; omega) | (simp only [sel, bsL, ne_eq] at *; simp_all <;> fail) | (simp [sel, segsOf, List.cons_append, List.nil_append, widthL, S0.width] <;> fail) | (simp only [ByteArray.size, List.size_toArray, List.length_cons, List.length_nil] <;> omega))) | fail) (EnvLe.refl _) (by first | (refine tup3_eq ?_ ?_ ?_ <;> first | exact hE | rfl | (unfold rhI r0I; rw [hE]; simp; done)) | fail) rfl rfl rfl rfl rfl (by first | exact rfl | trivial | fail) (by first | exact rfl | exact up_rd (by (try dsimp only); unfold rhA; rw [if_pos hE]; unfold r0A; rw [hE]; simp) | fail)
      · have hsk := fun q => skA_in (q := q) hok
        all_goals repeat' first
          | with_reducible refine rSeq ?_
          | with_reducible refine rThen ?_
          | with_reducible refine rBlock ?_
          | with_reducible refine rThenRet ?_
          | with_reducible refine rThenExit ?_
          | with_reducible refine rInRet ?_
          | with_reducible refine rInNormal ?_
          | with_reducible refine rInHit ?_
          | with_reducible refine rInMiss rfl ?_
          | with_reducible refine rRet ?_
          | with_reducible refine rExit ?_
          | with_reducible refine rSkip ?_
          | with_reducible refine rLabel ?_
          | with_reducible refine rScope ?_
          | with_reducible refine rNoGotoRet ?_
          | with_reducible refine rNoGotoNormal ?_
          | (with_reducible show SW _ (Code.region _ _ false) _ _ _); refine rRegC md0 hX rfl rfl rfl (by first | (first | exact True.intro | exact hok | exact rf_ok hok | exact takeAt_ok (rf_ok hok) | exact r0_ok hok | ((repeat' first | refine And.intro ?_ ?_ | intro _) <;> first | exact True.intro | exact hok | exact rf_ok hok | exact takeAt_ok (rf_ok hok) | exact r0_ok hok | (with_reducible exact rfl) | (with_reducible assumption) | omega | (rw [c4]; omega) | (simp only [sel, inK, segsOf, widthL, S0.width, List.cons_append, List.nil_append, List.length_cons, List.length_nil, Int.one_mul, implies_true, imp_self, btL, blL, bsL, ne_eq] <;> omega) | (simp only [sel, inK, segsOf, widthL, S0.width, List.cons_append, List.nil_append, List.length_cons, List.length_nil, Int.one_mul, implies_true, imp_self, btL, blL, bsL, ne_eq] at *; omega) | (simp only [sel, bsL, ne_eq] at *; simp_all <;> fail) | (simp [sel, segsOf, List.cons_append, List.nil_append, widthL, S0.width] <;> fail) | (simp only [ByteArray.size, List.size_toArray, List.length_cons, List.length_nil] <;> omega))) | fail) ?_
          | (with_reducible show SW _ (Code.region _ _ true) _ _ _); refine rDrawC md0 hX mixed rfl rfl rfl rfl (by first | (first | exact True.intro | exact hok | exact rf_ok hok | exact takeAt_ok (rf_ok hok) | exact r0_ok hok | ((repeat' first | refine And.intro ?_ ?_ | intro _) <;> first | exact True.intro | exact hok | exact rf_ok hok | exact takeAt_ok (rf_ok hok) | exact r0_ok hok | (with_reducible exact rfl) | (with_reducible assumption) | omega | (rw [c4]; omega) | (simp only [sel, inK, segsOf, widthL, S0.width, List.cons_append, List.nil_append, List.length_cons, List.length_nil, Int.one_mul, implies_true, imp_self, btL, blL, bsL, ne_eq] <;> omega) | (simp only [sel, inK, segsOf, widthL, S0.width, List.cons_append, List.nil_append, List.length_cons, List.length_nil, Int.one_mul, implies_true, imp_self, btL, blL, bsL, ne_eq] at *; omega) | (simp only [sel, bsL, ne_eq] at *; simp_all <;> fail) | (simp [sel, segsOf, List.cons_append, List.nil_append, widthL, S0.width] <;> fail) | (simp only [ByteArray.size, List.size_toArray, List.length_cons, List.length_nil] <;> omega))) | fail) ?_
          | (with_reducible show SW _ (Code.region _ _ true) _ _ _); refine rDrawSC md0 hX mixed rfl rfl rfl rfl rfl (by first | (first | exact True.intro | exact hok | exact rf_ok hok | exact takeAt_ok (rf_ok hok) | exact r0_ok hok | ((repeat' first | refine And.intro ?_ ?_ | intro _) <;> first | exact True.intro | exact hok | exact rf_ok hok | exact takeAt_ok (rf_ok hok) | exact r0_ok hok | (with_reducible exact rfl) | (with_reducible assumption) | omega | (rw [c4]; omega) | (simp only [sel, inK, segsOf, widthL, S0.width, List.cons_append, List.nil_append, List.length_cons, List.length_nil, Int.one_mul, implies_true, imp_self, btL, blL, bsL, ne_eq] <;> omega) | (simp only [sel, inK, segsOf, widthL, S0.width, List.cons_append, List.nil_append, List.length_cons, List.length_nil, Int.one_mul, implies_true, imp_self, btL, blL, bsL, ne_eq] at *; omega) | (simp only [sel, bsL, ne_eq] at *; simp_all <;> fail) | (simp [sel, segsOf, List.cons_append, List.nil_append, widthL, S0.width] <;> fail) | (simp only [ByteArray.size, List.size_toArray, List.length_cons, List.length_nil] <;> omega))) | fail) ?_
          | (with_reducible show SW _ (Code.cond _ _ _) _ _ _); (refine rCond rfl rfl (by first | (first | exact True.intro | exact hok | exact rf_ok hok | exact takeAt_ok (rf_ok hok) | exact r0_ok hok | ((repeat' first | refine And.intro ?_ ?_ | intro _) <;> first | exact True.intro | exact hok | exact rf_ok hok | exact takeAt_ok (rf_ok hok) | exact r0_ok hok | (with_reducible exact rfl) | (with_reducible assumption) | omega | (rw [c4]; omega) | (simp only [sel, inK, segsOf, widthL, S0.width, List.cons_append, List.nil_append, List.length_cons, List.length_nil, Int.one_mul, implies_true, imp_self, btL, blL, bsL, ne_eq] <;> omega) | (simp only [sel, inK, segsOf, widthL, S0.width, List.cons_append, List.nil_append, List.length_cons, List.length_nil, Int.one_mul, implies_true, imp_self, btL, blL, bsL, ne_eq] at *; omega) | (simp only [sel, bsL, ne_eq] at *; simp_all <;> fail) | (simp [sel, segsOf, List.cons_append, List.nil_append, widthL, S0.width] <;> fail) | (simp only [ByteArray.size, List.size_toArray, List.length_cons, List.length_nil] <;> omega))) | fail) (fun h => ?_) (fun h => ?_) <;> (try (exact absurd h (by decide))) <;> (try simp only [hE, blL, bsL, ne_eq] at h) <;> (try (exact absurd ‹_› ‹_›)) <;> (try (exfalso; omega)))
          | (with_reducible show SQ _ (Post _ _ _ _ _ _ _) .normal _ _); with_reducible refine rNormal ?_
          | (with_reducible show SQ _ (Post _ _ _ _ _ _ _) .ret _ _); refine rDoneUp hX rfl (by first | (first | exact True.intro | exact hok | exact rf_ok hok | exact takeAt_ok (rf_ok hok) | exact r0_ok hok | ((repeat' first | refine And.intro ?_ ?_ | intro _) <;> first | exact True.intro | exact hok | exact rf_ok hok | exact takeAt_ok (rf_ok hok) | exact r0_ok hok | (with_reducible exact rfl) | (with_reducible assumption) | omega | (rw [c4]; omega) | (simp only [sel, inK, segsOf, widthL, S0.width, List.cons_append, List.nil_append, List.length_cons, List.length_nil, Int.one_mul, implies_true, imp_self, btL, blL, bsL, ne_eq] <;> omega) | (simp only [sel, inK, segsOf, widthL, S0.width, List.cons_append, List.nil_append, List.length_cons, List.length_nil, Int.one_mul, implies_true, imp_self, btL, blL, bsL, ne_eq] at *; omega) | (simp only [sel, bsL, ne_eq] at *; simp_all <;> fail) | (simp [sel, segsOf, List.cons_append, List.nil_append, widthL, S0.width] <;> fail) | (simp only [ByteArray.size, List.size_toArray, List.length_cons, List.length_nil] <;> omega))) | fail) (EnvLe.refl _) (by first | (refine tup3_eq ?_ ?_ ?_ <;> first | rfl | (unfold rhI; rw [if_neg hE]) | (unfold rhQ; rw [if_neg hE])) | fail) rfl rfl rfl rfl rfl (by first | exact rfl | trivial | fail) (by first | exact rfl | exact up_rd (by (try dsimp only); unfold rhA; rw [if_neg hE, hsk]) | fail)
    · cases h
  · cases h

end Go.Proofs.Ytgbeiogbppaogaa
