/- Heads of rows put. -/
import Derived.Test.YtgbeiogbppaogaaD1
set_option linter.unusedVariables false
set_option linter.unusedSimpArgs false
namespace Go.Proofs.Ytgbeiogbppaogaa
open Go.X

def hpBad (n i q : Int) : Prop := n < 1 ∨ 17 < n ∨ i < 0 ∨ 3 < i ∨ q < 1 ∨ 31 < q
instance (n i q : Int) : Decidable (hpBad n i q) := by unfold hpBad; exact inferInstance
def hpE (n i q : Int) : Int := if hpBad n i q then 12 else 0
def hpD (l : Nat) (n i q : Int) : List Bool := if hpBad n i q then [] else List.replicate (padN l) false ++ digits (32 + n) 22 ++ digits i 2 ++ digits q 5
theorem hp_cases (l : Nat) (n i q : Int) : (hpBad n i q ∧ hpE n i q = 12 ∧ hpD l n i q = []) ∨ ((1 ≤ n ∧ n ≤ 17 ∧ 0 ≤ i ∧ i ≤ 3 ∧ 1 ≤ q ∧ q ≤ 31) ∧ hpE n i q = 0 ∧ hpD l n i q = List.replicate (padN l) false ++ digits (32 + n) 22 ++ digits i 2 ++ digits q 5) := by
  unfold hpE hpD
  by_cases h : hpBad n i q
  · rw [if_pos h, if_pos h]; exact .inl ⟨h, rfl, rfl⟩
  · rw [if_neg h, if_neg h]; exact .inr ⟨by unfold hpBad at h; omega, rfl, rfl⟩
theorem put_small (v n : Int) (N : Nat) (hn : n = N) (hN : N ≤ 5) (h0 : 0 ≤ v) (h1 : v < 2 ^ N) : putE v n = 0 ∧ putD v n = digits v N := by
  subst hn
  rcases put_cases v N with ⟨a, _, _, d⟩ | ⟨_, b, _⟩
  · exact ⟨a, by rw [d]; rfl⟩
  · rw [Int.toNat_natCast] at b; omega
def spHPut (ku : Nat) : X.Spec := fun args lk => match args with
  | [.v (.c (.val (.pointer none))), .v (.c (.int .i64 n)), .v (.c (.int .i64 i)), .v (.c (.int .i64 q))] => some ⟨True, i64 1, [], []⟩
  | [.v (.c (.ptr id 0 0 0 0 0)), .v (.c (.int .i64 n)), .v (.c (.int .i64 i)), .v (.c (.int .i64 q))] => match lk id with
    | some (.obj k bits) => some ⟨k = ku ∧ bits.length + 256 ≤ 1099511627776, i64 (hpE n i q), [], [(id, .obj k (bits ++ hpD bits.length n i q))]⟩
    | _ => none
  | _ => none
def spLawSII : X.Spec := fun args _ => match args with
  | [.v (.c (.str s)), .v (.c (.int .i64 p)), .v (.c (.int .i64 n))] => some ⟨True, bo true, [], []⟩
  | _ => none
set_option maxRecDepth 100000 in
set_option maxHeartbeats 4000000 in
theorem okHPut : FnOK Try.prog gt0 54 (spHPut 5) := by
  refine fnOK_handed Try.func54 rfl (by kernel_rfl) tt_ok (ktCons okMPut (ktCons okPut (ktNil))) ?_
  intro args lk r h hp
  unfold spHPut at h
  split at h
  · rename_i n i q
    cases h
    refine hand0 rfl rfl (fun w0 M ε0 hX => ?_)
    all_goals repeat' first
      | with_reducible refine rSeq ?_
      | with_reducible refine rThen ?_
      | with_reducible refine rBlock ?_
      | with_reducible refine rThenRet ?_
      | with_reducible refine rThenExit ?_
      | with_reducible refine rInRet ?_
      | with_reducible refine rInNormal ?_
      | with_reducible refine rInHit ?_
      | with_reducible refine rInMiss rfl ?_
      | with_reducible refine rRet ?_
      | with_reducible refine rExit ?_
      | with_reducible refine rSkip ?_
      | with_reducible refine rLabel ?_
      | with_reducible refine rScope ?_
      | with_reducible refine rNoGotoRet ?_
      | with_reducible refine rNoGotoNormal ?_
      | (with_reducible show SW _ (Code.region _ _ false) _ _ _); refine rRegC md0 hX rfl rfl rfl (by first | (first | exact True.intro | ((repeat' first | refine And.intro ?_ ?_ | intro _) <;> first | exact True.intro | (with_reducible exact rfl) | (with_reducible assumption) | omega | (simp only [sel, inK, segsOf, widthL, S0.width, List.cons_append, List.nil_append, List.length_cons, List.length_nil, Int.one_mul, implies_true, imp_self, btL, blL, bsL, ne_eq] <;> omega) | (simp only [sel, inK, segsOf, widthL, S0.width, List.cons_append, List.nil_append, List.length_cons, List.length_nil, Int.one_mul, implies_true, imp_self, btL, blL, bsL, ne_eq] at *; omega) | (simp only [sel, bsL, ne_eq] at *; simp_all <;> fail) | (simp [sel, segsOf, List.cons_append, List.nil_append, widthL, S0.width] <;> fail) | (simp only [ByteArray.size, List.size_toArray, List.length_cons, List.length_nil] <;> omega))) | fail) ?_
      | (with_reducible show SW _ (Code.region _ _ true) _ _ _); refine rDrawC md0 hX mixed rfl rfl rfl rfl (by first | (first | exact True.intro | ((repeat' first | refine And.intro ?_ ?_ | intro _) <;> first | exact True.intro | (with_reducible exact rfl) | (with_reducible assumption) | omega | (simp only [sel, inK, segsOf, widthL, S0.width, List.cons_append, List.nil_append, List.length_cons, List.length_nil, Int.one_mul, implies_true, imp_self, btL, blL, bsL, ne_eq] <;> omega) | (simp only [sel, inK, segsOf, widthL, S0.width, List.cons_append, List.nil_append, List.length_cons, List.length_nil, Int.one_mul, implies_true, imp_self, btL, blL, bsL, ne_eq] at *; omega) | (simp only [sel, bsL, ne_eq] at *; simp_all <;> fail) | (simp [sel, segsOf, List.cons_append, List.nil_append, widthL, S0.width] <;> fail) | (simp only [ByteArray.size, List.size_toArray, List.length_cons, List.length_nil] <;> omega))) | fail) ?_
      | (with_reducible show SW _ (Code.region _ _ true) _ _ _); refine rDrawSC md0 hX mixed rfl rfl rfl rfl rfl (by first | (first | exact True.intro | ((repeat' first | refine And.intro ?_ ?_ | intro _) <;> first | exact True.intro | (with_reducible exact rfl) | (with_reducible assumption) | omega | (simp only [sel, inK, segsOf, widthL, S0.width, List.cons_append, List.nil_append, List.length_cons, List.length_nil, Int.one_mul, implies_true, imp_self, btL, blL, bsL, ne_eq] <;> omega) | (simp only [sel, inK, segsOf, widthL, S0.width, List.cons_append, List.nil_append, List.length_cons, List.length_nil, Int.one_mul, implies_true, imp_self, btL, blL, bsL, ne_eq] at *; omega) | (simp only [sel, bsL, ne_eq] at *; simp_all <;> fail) | (simp [sel, segsOf, List.cons_append, List.nil_append, widthL, S0.width] <;> fail) | (simp only [ByteArray.size, List.size_toArray, List.length_cons, List.length_nil] <;> omega))) | fail) ?_
      | (with_reducible show SW _ (Code.cond _ _ _) _ _ _); (refine rCond rfl rfl (by first | (first | exact True.intro | ((repeat' first | refine And.intro ?_ ?_ | intro _) <;> first | exact True.intro | (with_reducible exact rfl) | (with_reducible assumption) | omega | (simp only [sel, inK, segsOf, widthL, S0.width, List.cons_append, List.nil_append, List.length_cons, List.length_nil, Int.one_mul, implies_true, imp_self, btL, blL, bsL, ne_eq] <;> omega) | (simp only [sel, inK, segsOf, widthL, S0.width, List.cons_append, List.nil_append, List.length_cons, List.length_nil, Int.one_mul, implies_true, imp_self, btL, blL, bsL, ne_eq] at *; omega) | (simp only [sel, bsL, ne_eq] at *; simp_all <;> fail) | (simp [sel, segsOf, List.cons_append, List.nil_append, widthL, S0.width] <;> fail) | (simp only [ByteArray.size, List.size_toArray, List.length_cons, List.length_nil] <;> omega))) | fail) (fun h => ?_) (fun h => ?_) <;> (try (exact absurd h (by decide))) <;> (try simp only [blL, bsL, ne_eq] at h) <;> (try (exact absurd ‹_› ‹_›)) <;> (try (exfalso; omega)))
      | (with_reducible show SQ _ (Post _ _ _ _ _ _ _) .normal _ _); with_reducible refine rNormal ?_
      | (with_reducible show SQ _ (Post _ _ _ _ _ _ _) .ret _ _); refine rDone hX rfl (by first | (first | exact True.intro | ((repeat' first | refine And.intro ?_ ?_ | intro _) <;> first | exact True.intro | (with_reducible exact rfl) | (with_reducible assumption) | omega | (simp only [sel, inK, segsOf, widthL, S0.width, List.cons_append, List.nil_append, List.length_cons, List.length_nil, Int.one_mul, implies_true, imp_self, btL, blL, bsL, ne_eq] <;> omega) | (simp only [sel, inK, segsOf, widthL, S0.width, List.cons_append, List.nil_append, List.length_cons, List.length_nil, Int.one_mul, implies_true, imp_self, btL, blL, bsL, ne_eq] at *; omega) | (simp only [sel, bsL, ne_eq] at *; simp_all <;> fail) | (simp [sel, segsOf, List.cons_append, List.nil_append, widthL, S0.width] <;> fail) | (simp only [ByteArray.size, List.size_toArray, List.length_cons, List.length_nil] <;> omega))) | fail) (EnvLe.refl _) (by first | (rfl) | fail) rfl rfl rfl (by first | (intro i e h; cases h; done) | (intro i e h; rw [look_cons] at h; split at h <;> cases h <;> rfl) | fail)
  · rename_i id n i q
    split at h
    · rename_i k bits hl
      cases h
      obtain ⟨rfl, hp⟩ : k = 5 ∧ bits.length + 256 ≤ 1099511627776 := hp
      have hpd := padN_in bits.length
      refine hand1 (e := .obj 5 bits) [pt 0, i64 n, i64 i, i64 q] rfl rfl rfl hl (.inl rfl) (by first | exact rfl | exact True.intro | exact fun i hi => rfl) (fun w0 M ε0 hX => ?_)
      rcases hp_cases bits.length n i q with ⟨h0, h1, h2⟩ | ⟨h0, h1, h2⟩
      · unfold hpBad at h0
        all_goals repeat' first
          | with_reducible refine rSeq ?_
          | with_reducible refine rThen ?_
          | with_reducible refine rBlock ?_
          | with_reducible refine rThenRet ?_
          | with_reducible refine rThenExit ?_
          | with_reducible refine rInRet ?_
          | with_reducible refine rInNormal ?_
          | with_reducible refine rInHit ?_
          | with_reducible refine rInMiss rfl ?_
          | with_reducible refine rRet ?_
          | with_reducible refine rExit ?_
          | with_reducible refine rSkip ?_
          | with_reducible refine rLabel ?_
          | with_reducible refine rScope ?_
          | with_reducible refine rNoGotoRet ?_
          | with_reducible refine rNoGotoNormal ?_
          | (with_reducible show SW _ (Code.region _ _ false) _ _ _); refine rRegC md0 hX rfl rfl rfl (by first | (first | exact True.intro | ((repeat' first | refine And.intro ?_ ?_ | intro _) <;> first | exact True.intro | (with_reducible exact rfl) | (with_reducible assumption) | omega | (rw [m4, List.length_append, List.length_replicate, digits_length]; omega) | (simp only [List.length_append, List.length_replicate, digits_length, sel, inK, segsOf, widthL, S0.width, List.cons_append, List.nil_append, List.length_cons, List.length_nil, Int.one_mul, implies_true, imp_self, btL, blL, bsL, ne_eq] <;> omega) | (simp only [List.length_append, List.length_replicate, digits_length, sel, inK, segsOf, widthL, S0.width, List.cons_append, List.nil_append, List.length_cons, List.length_nil, Int.one_mul, implies_true, imp_self, btL, blL, bsL, ne_eq] at *; omega) | (simp only [sel, List.length_append, List.length_replicate, digits_length, bsL, ne_eq] at *; simp_all <;> fail) | (simp [sel, segsOf, List.cons_append, List.nil_append, widthL, S0.width] <;> fail) | (simp only [ByteArray.size, List.size_toArray, List.length_cons, List.length_nil] <;> omega))) | fail) ?_
          | (with_reducible show SW _ (Code.region _ _ true) _ _ _); refine rDrawC md0 hX mixed rfl rfl rfl rfl (by first | (first | exact True.intro | ((repeat' first | refine And.intro ?_ ?_ | intro _) <;> first | exact True.intro | (with_reducible exact rfl) | (with_reducible assumption) | omega | (rw [m4, List.length_append, List.length_replicate, digits_length]; omega) | (simp only [List.length_append, List.length_replicate, digits_length, sel, inK, segsOf, widthL, S0.width, List.cons_append, List.nil_append, List.length_cons, List.length_nil, Int.one_mul, implies_true, imp_self, btL, blL, bsL, ne_eq] <;> omega) | (simp only [List.length_append, List.length_replicate, digits_length, sel, inK, segsOf, widthL, S0.width, List.cons_append, List.nil_append, List.length_cons, List.length_nil, Int.one_mul, implies_true, imp_self, btL, blL, bsL, ne_eq] at *; omega) | (simp only [sel, List.length_append, List.length_replicate, digits_length, bsL, ne_eq] at *; simp_all <;> fail) | (simp [sel, segsOf, List.cons_append, List.nil_append, widthL, S0.width] <;> fail) | (simp only [ByteArray.size, List.size_toArray, List.length_cons, List.length_nil] <;> omega))) | fail) ?_
          | (with_reducible show SW _ (Code.region _ _ true) _ _ _); refine rDrawSC md0 hX mixed rfl rfl rfl rfl rfl (by first | (first | exact True.intro | ((repeat' first | refine And.intro ?_ ?_ | intro _) <;> first | exact True.intro | (with_reducible exact rfl) | (with_reducible assumption) | omega | (rw [m4, List.length_append, List.length_replicate, digits_length]; omega) | (simp only [List.length_append, List.length_replicate, digits_length, sel, inK, segsOf, widthL, S0.width, List.cons_append, List.nil_append, List.length_cons, List.length_nil, Int.one_mul, implies_true, imp_self, btL, blL, bsL, ne_eq] <;> omega) | (simp only [List.length_append, List.length_replicate, digits_length, sel, inK, segsOf, widthL, S0.width, List.cons_append, List.nil_append, List.length_cons, List.length_nil, Int.one_mul, implies_true, imp_self, btL, blL, bsL, ne_eq] at *; omega) | (simp only [sel, List.length_append, List.length_replicate, digits_length, bsL, ne_eq] at *; simp_all <;> fail) | (simp [sel, segsOf, List.cons_append, List.nil_append, widthL, S0.width] <;> fail) | (simp only [ByteArray.size, List.size_toArray, List.length_cons, List.length_nil] <;> omega))) | fail) ?_
          | (with_reducible show SW _ (Code.cond _ _ _) _ _ _); (refine rCond rfl rfl (by first | (first | exact True.intro | ((repeat' first | refine And.intro ?_ ?_ | intro _) <;> first | exact True.intro | (with_reducible exact rfl) | (with_reducible assumption) | omega | (rw [m4, List.length_append, List.length_replicate, digits_length]; omega) | (simp only [List.length_append, List.length_replicate, digits_length, sel, inK, segsOf, widthL, S0.width, List.cons_append, List.nil_append, List.length_cons, List.length_nil, Int.one_mul, implies_true, imp_self, btL, blL, bsL, ne_eq] <;> omega) | (simp only [List.length_append, List.length_replicate, digits_length, sel, inK, segsOf, widthL, S0.width, List.cons_append, List.nil_append, List.length_cons, List.length_nil, Int.one_mul, implies_true, imp_self, btL, blL, bsL, ne_eq] at *; omega) | (simp only [sel, List.length_append, List.length_replicate, digits_length, bsL, ne_eq] at *; simp_all <;> fail) | (simp [sel, segsOf, List.cons_append, List.nil_append, widthL, S0.width] <;> fail) | (simp only [ByteArray.size, List.size_toArray, List.length_cons, List.length_nil] <;> omega))) | fail) (fun h => ?_) (fun h => ?_) <;> (try (exact absurd h (by decide))) <;> (try simp only [blL, bsL, ne_eq] at h) <;> (try (exact absurd ‹_› ‹_›)) <;> (try (exfalso; omega)))
          | (with_reducible show SQ _ (Post _ _ _ _ _ _ _) .normal _ _); with_reducible refine rNormal ?_
          | (with_reducible show SQ _ (Post _ _ _ _ _ _ _) .ret _ _); refine rDoneUp hX rfl (by first | (first | exact True.intro | ((repeat' first | refine And.intro ?_ ?_ | intro _) <;> first | exact True.intro | (with_reducible exact rfl) | (with_reducible assumption) | omega | (rw [m4, List.length_append, List.length_replicate, digits_length]; omega) | (simp only [List.length_append, List.length_replicate, digits_length, sel, inK, segsOf, widthL, S0.width, List.cons_append, List.nil_append, List.length_cons, List.length_nil, Int.one_mul, implies_true, imp_self, btL, blL, bsL, ne_eq] <;> omega) | (simp only [List.length_append, List.length_replicate, digits_length, sel, inK, segsOf, widthL, S0.width, List.cons_append, List.nil_append, List.length_cons, List.length_nil, Int.one_mul, implies_true, imp_self, btL, blL, bsL, ne_eq] at *; omega) | (simp only [sel, List.length_append, List.length_replicate, digits_length, bsL, ne_eq] at *; simp_all <;> fail) | (simp [sel, segsOf, List.cons_append, List.nil_append, widthL, S0.width] <;> fail) | (simp only [ByteArray.size, List.size_toArray, List.length_cons, List.length_nil] <;> omega))) | fail) (EnvLe.refl _) (by first | (refine congrArg i64 ?_; exact h1) | fail) rfl rfl rfl rfl rfl (by first | exact rfl | trivial | fail) (by first | exact rfl | exact up_obj (by rw [h2, List.append_nil]) | fail)
      · obtain ⟨g1, g2, g3, g4, g5, g6⟩ := h0
        obtain ⟨a1, a2⟩ := put_small i 2 2 rfl (by omega) g3 (by show i < 4; omega)
        obtain ⟨b1, b2⟩ := put_small q 5 5 rfl (by omega) (by omega) (by show q < 32; omega)
        have hm : mpE n = 0 ∧ mpD bits.length n = List.replicate (padN bits.length) false ++ digits (32 + n) 22 := by
          rcases mp_cases bits.length n with ⟨m1, _⟩ | ⟨_, _, m3, m4⟩
          · omega
          · exact ⟨m3, m4⟩
        obtain ⟨m3, m4⟩ := hm
        have hml : (mpD bits.length n).length ≤ 29 := by rw [m4, List.length_append, List.length_replicate, digits_length]; omega
        have hpl := putD_length i 2
        have hp7 : padN bits.length ≤ 7 := hpd.1
        all_goals repeat' first
          | with_reducible refine rSeq ?_
          | with_reducible refine rThen ?_
          | with_reducible refine rBlock ?_
          | with_reducible refine rThenRet ?_
          | with_reducible refine rThenExit ?_
          | with_reducible refine rInRet ?_
          | with_reducible refine rInNormal ?_
          | with_reducible refine rInHit ?_
          | with_reducible refine rInMiss rfl ?_
          | with_reducible refine rRet ?_
          | with_reducible refine rExit ?_
          | with_reducible refine rSkip ?_
          | with_reducible refine rLabel ?_
          | with_reducible refine rScope ?_
          | with_reducible refine rNoGotoRet ?_
          | with_reducible refine rNoGotoNormal ?_
          | (with_reducible show SW _ (Code.region _ _ false) _ _ _); refine rRegC md0 hX rfl rfl rfl (by first | (first | exact True.intro | ((repeat' first | refine And.intro ?_ ?_ | intro _) <;> first | exact True.intro | (with_reducible exact rfl) | (with_reducible assumption) | omega | (rw [m4, List.length_append, List.length_replicate, digits_length]; omega) | (simp only [List.length_append, List.length_replicate, digits_length, sel, inK, segsOf, widthL, S0.width, List.cons_append, List.nil_append, List.length_cons, List.length_nil, Int.one_mul, implies_true, imp_self, btL, blL, bsL, ne_eq] <;> omega) | (simp only [List.length_append, List.length_replicate, digits_length, sel, inK, segsOf, widthL, S0.width, List.cons_append, List.nil_append, List.length_cons, List.length_nil, Int.one_mul, implies_true, imp_self, btL, blL, bsL, ne_eq] at *; omega) | (simp only [sel, List.length_append, List.length_replicate, digits_length, bsL, ne_eq] at *; simp_all <;> fail) | (simp [sel, segsOf, List.cons_append, List.nil_append, widthL, S0.width] <;> fail) | (simp only [ByteArray.size, List.size_toArray, List.length_cons, List.length_nil] <;> omega))) | fail) ?_
          | (with_reducible show SW _ (Code.region _ _ true) _ _ _); refine rDrawC md0 hX mixed rfl rfl rfl rfl (by first | (first | exact True.intro | ((repeat' first | refine And.intro ?_ ?_ | intro _) <;> first | exact True.intro | (with_reducible exact rfl) | (with_reducible assumption) | omega | (rw [m4, List.length_append, List.length_replicate, digits_length]; omega) | (simp only [List.length_append, List.length_replicate, digits_length, sel, inK, segsOf, widthL, S0.width, List.cons_append, List.nil_append, List.length_cons, List.length_nil, Int.one_mul, implies_true, imp_self, btL, blL, bsL, ne_eq] <;> omega) | (simp only [List.length_append, List.length_replicate, digits_length, sel, inK, segsOf, widthL, S0.width, List.cons_append, List.nil_append, List.length_cons, List.length_nil, Int.one_mul, implies_true, imp_self, btL, blL, bsL, ne_eq] at *; omega) | (simp only [sel, List.length_append, List.length_replicate, digits_length, bsL, ne_eq] at *; simp_all <;> fail) | (simp [sel, segsOf, List.cons_append, List.nil_append, widthL, S0.width] <;> fail) | (simp only [ByteArray.size, List.size_toArray, List.length_cons, List.length_nil] <;> omega))) | fail) ?_
          | (with_reducible show SW _ (Code.region _ _ true) _ _ _); refine rDrawSC md0 hX mixed rfl rfl rfl rfl rfl (by first | (first | exact True.intro | ((repeat' first | refine And.intro ?_ ?_ | intro _) <;> first | exact True.intro | (with_reducible exact rfl) | (with_reducible assumption) | omega | (rw [m4, List.length_append, List.length_replicate, digits_length]; omega) | (simp only [List.length_append, List.length_replicate, digits_length, sel, inK, segsOf, widthL, S0.width, List.cons_append, List.nil_append, List.length_cons, List.length_nil, Int.one_mul, implies_true, imp_self, btL, blL, bsL, ne_eq] <;> omega) | (simp only [List.length_append, List.length_replicate, digits_length, sel, inK, segsOf, widthL, S0.width, List.cons_append, List.nil_append, List.length_cons, List.length_nil, Int.one_mul, implies_true, imp_self, btL, blL, bsL, ne_eq] at *; omega) | (simp only [sel, List.length_append, List.length_replicate, digits_length, bsL, ne_eq] at *; simp_all <;> fail) | (simp [sel, segsOf, List.cons_append, List.nil_append, widthL, S0.width] <;> fail) | (simp only [ByteArray.size, List.size_toArray, List.length_cons, List.length_nil] <;> omega))) | fail) ?_
          | (with_reducible show SW _ (Code.cond _ _ _) _ _ _); (refine rCond rfl rfl (by first | (first | exact True.intro | ((repeat' first | refine And.intro ?_ ?_ | intro _) <;> first | exact True.intro | (with_reducible exact rfl) | (with_reducible assumption) | omega | (rw [m4, List.length_append, List.length_replicate, digits_length]; omega) | (simp only [List.length_append, List.length_replicate, digits_length, sel, inK, segsOf, widthL, S0.width, List.cons_append, List.nil_append, List.length_cons, List.length_nil, Int.one_mul, implies_true, imp_self, btL, blL, bsL, ne_eq] <;> omega) | (simp only [List.length_append, List.length_replicate, digits_length, sel, inK, segsOf, widthL, S0.width, List.cons_append, List.nil_append, List.length_cons, List.length_nil, Int.one_mul, implies_true, imp_self, btL, blL, bsL, ne_eq] at *; omega) | (simp only [sel, List.length_append, List.length_replicate, digits_length, bsL, ne_eq] at *; simp_all <;> fail) | (simp [sel, segsOf, List.cons_append, List.nil_append, widthL, S0.width] <;> fail) | (simp only [ByteArray.size, List.size_toArray, List.length_cons, List.length_nil] <;> omega))) | fail) (fun h => ?_) (fun h => ?_) <;> (try (exact absurd h (by decide))) <;> (try simp only [blL, bsL, ne_eq] at h) <;> (try (exact absurd ‹_› ‹_›)) <;> (try (exfalso; omega)))
          | (with_reducible show SQ _ (Post _ _ _ _ _ _ _) .normal _ _); with_reducible refine rNormal ?_
          | (with_reducible show SQ _ (Post _ _ _ _ _ _ _) .ret _ _); refine rDoneUp hX rfl (by first | (first | exact True.intro | ((repeat' first | refine And.intro ?_ ?_ | intro _) <;> first | exact True.intro | (with_reducible exact rfl) | (with_reducible assumption) | omega | (rw [m4, List.length_append, List.length_replicate, digits_length]; omega) | (simp only [List.length_append, List.length_replicate, digits_length, sel, inK, segsOf, widthL, S0.width, List.cons_append, List.nil_append, List.length_cons, List.length_nil, Int.one_mul, implies_true, imp_self, btL, blL, bsL, ne_eq] <;> omega) | (simp only [List.length_append, List.length_replicate, digits_length, sel, inK, segsOf, widthL, S0.width, List.cons_append, List.nil_append, List.length_cons, List.length_nil, Int.one_mul, implies_true, imp_self, btL, blL, bsL, ne_eq] at *; omega) | (simp only [sel, List.length_append, List.length_replicate, digits_length, bsL, ne_eq] at *; simp_all <;> fail) | (simp [sel, segsOf, List.cons_append, List.nil_append, widthL, S0.width] <;> fail) | (simp only [ByteArray.size, List.size_toArray, List.length_cons, List.length_nil] <;> omega))) | fail) (EnvLe.refl _) (by first | (refine congrArg i64 ?_; rw [h1]; exact b1.symm) | fail) rfl rfl rfl rfl rfl (by first | exact rfl | trivial | fail) (by first | exact rfl | exact up_obj (by rw [h2, m4, a2, b2]; simp only [List.append_assoc]) | fail)
    · cases h
  · cases h
set_option maxRecDepth 100000 in
set_option maxHeartbeats 4000000 in
theorem okLives23 : FnOK Try.prog gt0 51 (spTrue) := by
  refine fnOK_handed Try.func51 rfl (by kernel_rfl) tt_ok (ktCons okNew (ktCons okHPut (ktCons (textR okText) (ktCons okRNew (ktCons okRh (ktCons (lenR okLen) (ktNil))))))) ?_
  intro args lk r h hp
  unfold spTrue at h
  split at h
  · skip
    cases h
    refine hand0 rfl rfl (fun w0 M ε0 hX => ?_)
    all_goals repeat' first
      | with_reducible refine rSeq ?_
      | with_reducible refine rThen ?_
      | with_reducible refine rBlock ?_
      | with_reducible refine rThenRet ?_
      | with_reducible refine rThenExit ?_
      | with_reducible refine rInRet ?_
      | with_reducible refine rInNormal ?_
      | with_reducible refine rInHit ?_
      | with_reducible refine rInMiss rfl ?_
      | with_reducible refine rRet ?_
      | with_reducible refine rExit ?_
      | with_reducible refine rSkip ?_
      | with_reducible refine rLabel ?_
      | with_reducible refine rScope ?_
      | with_reducible refine rNoGotoRet ?_
      | with_reducible refine rNoGotoNormal ?_
      | (with_reducible show SW _ (Code.region _ _ false) _ _ _); refine rRegC md0 hX rfl rfl rfl (by first | (first | exact True.intro | ((repeat' first | refine And.intro ?_ ?_ | intro _) <;> first | exact True.intro | (with_reducible exact rfl) | (with_reducible assumption) | omega | decide | decide +kernel | (simp only [sel, inK, segsOf, widthL, S0.width, List.cons_append, List.nil_append, List.length_cons, List.length_nil, Int.one_mul, implies_true, imp_self, btL, blL, bsL, ne_eq] <;> omega) | (simp only [sel, inK, segsOf, widthL, S0.width, List.cons_append, List.nil_append, List.length_cons, List.length_nil, Int.one_mul, implies_true, imp_self, btL, blL, bsL, ne_eq] at *; omega) | (simp only [sel, bsL, ne_eq] at *; simp_all <;> fail) | (simp [sel, segsOf, List.cons_append, List.nil_append, widthL, S0.width] <;> fail) | (simp only [ByteArray.size, List.size_toArray, List.length_cons, List.length_nil] <;> omega))) | fail) ?_
      | (with_reducible show SW _ (Code.region _ _ true) _ _ _); refine rDrawC md0 hX mixed rfl rfl rfl rfl (by first | (first | exact True.intro | ((repeat' first | refine And.intro ?_ ?_ | intro _) <;> first | exact True.intro | (with_reducible exact rfl) | (with_reducible assumption) | omega | decide | decide +kernel | (simp only [sel, inK, segsOf, widthL, S0.width, List.cons_append, List.nil_append, List.length_cons, List.length_nil, Int.one_mul, implies_true, imp_self, btL, blL, bsL, ne_eq] <;> omega) | (simp only [sel, inK, segsOf, widthL, S0.width, List.cons_append, List.nil_append, List.length_cons, List.length_nil, Int.one_mul, implies_true, imp_self, btL, blL, bsL, ne_eq] at *; omega) | (simp only [sel, bsL, ne_eq] at *; simp_all <;> fail) | (simp [sel, segsOf, List.cons_append, List.nil_append, widthL, S0.width] <;> fail) | (simp only [ByteArray.size, List.size_toArray, List.length_cons, List.length_nil] <;> omega))) | fail) ?_
      | (with_reducible show SW _ (Code.region _ _ true) _ _ _); refine rDrawSC md0 hX mixed rfl rfl rfl rfl rfl (by first | (first | exact True.intro | ((repeat' first | refine And.intro ?_ ?_ | intro _) <;> first | exact True.intro | (with_reducible exact rfl) | (with_reducible assumption) | omega | decide | decide +kernel | (simp only [sel, inK, segsOf, widthL, S0.width, List.cons_append, List.nil_append, List.length_cons, List.length_nil, Int.one_mul, implies_true, imp_self, btL, blL, bsL, ne_eq] <;> omega) | (simp only [sel, inK, segsOf, widthL, S0.width, List.cons_append, List.nil_append, List.length_cons, List.length_nil, Int.one_mul, implies_true, imp_self, btL, blL, bsL, ne_eq] at *; omega) | (simp only [sel, bsL, ne_eq] at *; simp_all <;> fail) | (simp [sel, segsOf, List.cons_append, List.nil_append, widthL, S0.width] <;> fail) | (simp only [ByteArray.size, List.size_toArray, List.length_cons, List.length_nil] <;> omega))) | fail) ?_
      | (with_reducible show SW _ (Code.cond _ _ _) _ _ _); (refine rCond rfl rfl (by first | (first | exact True.intro | ((repeat' first | refine And.intro ?_ ?_ | intro _) <;> first | exact True.intro | (with_reducible exact rfl) | (with_reducible assumption) | omega | decide | decide +kernel | (simp only [sel, inK, segsOf, widthL, S0.width, List.cons_append, List.nil_append, List.length_cons, List.length_nil, Int.one_mul, implies_true, imp_self, btL, blL, bsL, ne_eq] <;> omega) | (simp only [sel, inK, segsOf, widthL, S0.width, List.cons_append, List.nil_append, List.length_cons, List.length_nil, Int.one_mul, implies_true, imp_self, btL, blL, bsL, ne_eq] at *; omega) | (simp only [sel, bsL, ne_eq] at *; simp_all <;> fail) | (simp [sel, segsOf, List.cons_append, List.nil_append, widthL, S0.width] <;> fail) | (simp only [ByteArray.size, List.size_toArray, List.length_cons, List.length_nil] <;> omega))) | fail) (fun h => ?_) (fun h => ?_) <;> (try (exact absurd h (by decide))) <;> (try simp only [blL, bsL, ne_eq] at h) <;> (try (exact absurd ‹_› ‹_›)) <;> (try (exfalso; omega)))
      | (with_reducible show SQ _ (Post _ _ _ _ _ _ _) .normal _ _); with_reducible refine rNormal ?_
      | (with_reducible show SQ _ (Post _ _ _ _ _ _ _) .ret _ _); refine rDone hX rfl (by first | (first | exact True.intro | ((repeat' first | refine And.intro ?_ ?_ | intro _) <;> first | exact True.intro | (with_reducible exact rfl) | (with_reducible assumption) | omega | decide | decide +kernel | (simp only [sel, inK, segsOf, widthL, S0.width, List.cons_append, List.nil_append, List.length_cons, List.length_nil, Int.one_mul, implies_true, imp_self, btL, blL, bsL, ne_eq] <;> omega) | (simp only [sel, inK, segsOf, widthL, S0.width, List.cons_append, List.nil_append, List.length_cons, List.length_nil, Int.one_mul, implies_true, imp_self, btL, blL, bsL, ne_eq] at *; omega) | (simp only [sel, bsL, ne_eq] at *; simp_all <;> fail) | (simp [sel, segsOf, List.cons_append, List.nil_append, widthL, S0.width] <;> fail) | (simp only [ByteArray.size, List.size_toArray, List.length_cons, List.length_nil] <;> omega))) | fail) (EnvLe.refl _) (by first | (refine congrArg bo ?_; decide +kernel) | fail) rfl rfl rfl (by first | (intro i e h; cases h; done) | (intro i e h; rw [look_cons] at h; split at h <;> cases h <;> rfl) | fail)
  · cases h

end Go.Proofs.Ytgbeiogbppaogaa
