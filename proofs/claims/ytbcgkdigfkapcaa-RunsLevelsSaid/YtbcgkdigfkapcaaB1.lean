/- Events of levels. -/
import Derived.Test.YtbcgkdigfkapcaaB0
import Derived.Test.YtbcgkdigfkapcaaL4
set_option linter.unusedVariables false
set_option linter.unusedSimpArgs false
namespace Go.Proofs.Ytbcgkdigfkapcaa
open Go.X

theorem toNat_nat (i : Nat) : ((i : Int)).toNat = i := Int.toNat_natCast i
abbrev Ev := Bool × Int × Int
/-! ### events of levels -/
def evBad (xs : List Int) (f : Int) (i : Nat) : Prop := f ≤ i ∧ (xs.getD i 0 < -127 ∨ 127 < xs.getD i 0)
instance (xs : List Int) (f : Int) (i : Nat) : Decidable (evBad xs f i) := by unfold evBad; exact inferInstance
def runA (xs : List Int) (f : Int) : Nat → Int
  | 0 => 0
  | i + 1 => if (i : Int) < f then runA xs f i else if xs.getD i 0 = 0 then runA xs f i + 1 else 0
def evA (xs : List Int) (f : Int) : Nat → List (Int × Int)
  | 0 => []
  | i + 1 => if (i : Int) < f then evA xs f i else if xs.getD i 0 = 0 then evA xs f i else evA xs f i ++ [(runA xs f i, xs.getD i 0)]
def evX (xs : List Int) (f : Int) : Int := if f < 0 ∨ 1 < f then 1 else if (List.range 64).any (fun i => decide (evBad xs f i)) = true then 7 else 0
def evN (xs : List Int) (f : Int) : List (Int × Int) := if evX xs f = 0 then evA xs f 64 else []
def evF (l : List (Int × Int)) (k j : Nat) : List S0 := [.cs [.bool (decide (j + 1 = k)), .int .i64 (l.getD j (0, 0)).1, .int .i64 (l.getD j (0, 0)).2]]
theorem ev_cases (xs : List Int) (f : Int) : ((f < 0 ∨ 1 < f) ∧ evX xs f = 1 ∧ evN xs f = []) ∨ (0 ≤ f ∧ f ≤ 1 ∧ (∃ i, i < 64 ∧ evBad xs f i) ∧ evX xs f = 7 ∧ evN xs f = []) ∨ (0 ≤ f ∧ f ≤ 1 ∧ (∀ i, i < 64 → ¬ evBad xs f i) ∧ evX xs f = 0 ∧ evN xs f = evA xs f 64) := by
  unfold evN evX
  by_cases h : f < 0 ∨ 1 < f
  · rw [if_pos h]; exact .inl ⟨h, rfl, rfl⟩
  · rw [if_neg h]
    by_cases h2 : (List.range 64).any (fun i => decide (evBad xs f i)) = true
    · rw [if_pos h2]
      obtain ⟨i, hi, hb⟩ := List.any_eq_true.1 h2
      exact .inr (.inl ⟨by omega, by omega, ⟨i, List.mem_range.1 hi, of_decide_eq_true hb⟩, rfl, rfl⟩)
    · rw [if_neg h2]
      exact .inr (.inr ⟨by omega, by omega, fun i hi hb => h2 (List.any_eq_true.2 ⟨i, List.mem_range.2 hi, decide_eq_true hb⟩), rfl, rfl⟩)
theorem ev_lo (xs : List Int) (f : Int) : ∀ i : Nat, (i : Int) ≤ f → runA xs f i = 0 ∧ evA xs f i = []
  | 0, _ => ⟨rfl, rfl⟩
  | i + 1, h => by
    obtain ⟨h1, h2⟩ := ev_lo xs f i (by omega)
    simp only [runA, evA]
    rw [if_pos (by omega), if_pos (by omega)]
    exact ⟨h1, h2⟩
theorem run_in (xs : List Int) (f : Int) : ∀ i : Nat, 0 ≤ runA xs f i ∧ runA xs f i ≤ i
  | 0 => ⟨Int.le_refl _, Int.le_refl _⟩
  | i + 1 => by
    have := run_in xs f i
    simp only [runA]
    split
    · omega
    · split <;> omega
theorem ev_len (xs : List Int) (f : Int) : ∀ i : Nat, (evA xs f i).length ≤ i
  | 0 => Nat.le_refl _
  | i + 1 => by
    have := ev_len xs f i
    simp only [evA]
    split
    · omega
    · split
      · omega
      · simp; omega
/-- One round: what comes of the level at hand. -/
theorem ev_round (xs : List Int) (f : Int) (i : Nat) : ((i : Int) < f ∧ runA xs f (i + 1) = runA xs f i ∧ evA xs f (i + 1) = evA xs f i) ∨
    (f ≤ i ∧ evBad xs f i ∧ (xs.getD (i : Int).toNat 0 < -127 ∨ 127 < xs.getD (i : Int).toNat 0)) ∨
    (f ≤ i ∧ xs.getD (i : Int).toNat 0 = 0 ∧ runA xs f (i + 1) = runA xs f i + 1 ∧ evA xs f (i + 1) = evA xs f i) ∨
    (f ≤ i ∧ xs.getD (i : Int).toNat 0 ≠ 0 ∧ -127 ≤ xs.getD (i : Int).toNat 0 ∧ xs.getD (i : Int).toNat 0 ≤ 127 ∧ runA xs f (i + 1) = 0 ∧ evA xs f (i + 1) = evA xs f i ++ [(runA xs f i, xs.getD (i : Int).toNat 0)]) := by
  rw [toNat_nat]
  simp only [runA, evA]
  by_cases h : (i : Int) < f
  · exact .inl ⟨h, if_pos h, if_pos h⟩
  · rw [if_neg h, if_neg h]
    right
    by_cases hb : xs.getD i 0 < -127 ∨ 127 < xs.getD i 0
    · exact .inl ⟨by omega, ⟨by omega, hb⟩, hb⟩
    · by_cases h0 : xs.getD i 0 = 0
      · exact .inr (.inl ⟨by omega, h0, if_pos h0, if_pos h0⟩)
      · exact .inr (.inr ⟨by omega, h0, by omega, by omega, if_neg h0, if_neg h0⟩)
theorem bad_not {xs : List Int} {f : Int} {i : Nat} (h : (i : Int) < f ∨ (-127 ≤ xs.getD (i : Int).toNat 0 ∧ xs.getD (i : Int).toNat 0 ≤ 127)) : ¬ evBad xs f i := by
  rw [toNat_nat] at h
  unfold evBad; omega
theorem all_next {p : Nat → Prop} {i : Nat} (h : ∀ j, j < i → ¬ p j) (hi : ¬ p i) : ∀ j, j < i + 1 → ¬ p j := fun j hj => by
  by_cases e : j = i
  · subst e; exact hi
  · exact h j (by omega)
theorem evF_snoc (l : List (Int × Int)) (V N : Int) (j : Nat) (hj : j < l.length + 1) : (bif Nat.blt j l.length then evF l 0 j else Go.X.rowAt [[.cs [.bool false, .int .i64 V, .int .i64 N]]] (j - l.length)) = evF (l ++ [(V, N)]) 0 j := by
  unfold evF
  by_cases h : j < l.length
  · rw [show Nat.blt j l.length = true from Nat.ble_eq_true_of_le h, cond_true, List.getD_eq_getElem?_getD, List.getD_eq_getElem?_getD, List.getElem?_append_left h]
  · have hb : Nat.blt j l.length = false := by
      cases hq : Nat.blt j l.length with
      | false => rfl
      | true => exact absurd (blt_true hq) h
    have e : j = l.length := by omega
    rw [hb, cond_false, e, Nat.sub_self, List.getD_eq_getElem?_getD, List.getElem?_append_right (Nat.le_refl _), Nat.sub_self]
    rfl
theorem evF_last (l : List (Int × Int)) (r j : Nat) (hr : r + 1 = l.length) (c : List S0) (hc : c = [.cs [.bool true, .int .i64 (l.getD r (0, 0)).1, .int .i64 (l.getD r (0, 0)).2]]) : upF (evF l 0) r c j = evF l l.length j := by
  unfold upF
  cases h : Nat.beq j r with
  | true =>
    obtain rfl := Nat.eq_of_beq_eq_true h
    rw [cond_true, hc]; unfold evF; rw [decide_eq_true (by omega)]
  | false =>
    have : j ≠ r := fun e => by rw [e, Nat.beq_refl] at h; cases h
    rw [cond_false]; unfold evF; rw [decide_eq_false (by omega), decide_eq_false (by omega)]
def kk (l : List (Int × Int)) (k : Nat) : Nat := if k < l.length then 0 else l.length
theorem evF_kk (l : List (Int × Int)) (k j : Nat) (hk : k < l.length) (c : List S0) (hc : c = [.cs [.bool (decide ((k : Int) + 1 = l.length)), .int .i64 (l.getD k (0, 0)).1, .int .i64 (l.getD k (0, 0)).2]]) : upF (evF l (kk l k)) (k : Int).toNat c j = evF l (kk l (k + 1)) j := by
  rw [toNat_nat]
  unfold upF kk
  rw [if_pos hk]
  cases h : Nat.beq j k with
  | true =>
    obtain rfl := Nat.eq_of_beq_eq_true h
    rw [cond_true, hc]; unfold evF
    by_cases h2 : j + 1 < l.length
    · rw [if_pos h2, decide_eq_false (by omega), decide_eq_false (by omega)]
    · rw [if_neg h2, decide_eq_true (by omega), decide_eq_true (by omega)]
  | false =>
    have : j ≠ k := fun e => by rw [e, Nat.beq_refl] at h; cases h
    rw [cond_false]; unfold evF
    by_cases h2 : k + 1 < l.length
    · rw [if_pos h2]
    · rw [if_neg h2, decide_eq_false (by omega), decide_eq_false (by omega)]
def spEvents (te : Nat) : X.Spec := fun args _ => match args with
  | [.v (.agg [.ints 64 .i64 xs]), .v (.c (.int .i64 f))] => some ⟨xs.length = 64, .tup [.c (.sl 0 0 (evN xs f).length 3), .c (.int .i64 (evX xs f))], [.mem true te (some 3) (.rows (evN xs f).length 3 (evF (evN xs f) (evN xs f).length))], []⟩
  | _ => none
/-! ### events that are the same -/
def evO : List S0 → Bool × Int × Int
  | [.cs [.bool l, .int _ r, .int _ v]] => (l, r, v)
  | _ => (false, 0, 0)
def isEv (r : List S0) : Prop := r = [.cs [.bool (evO r).1, .int .i64 (evO r).2.1, .int .i64 (evO r).2.2]]
def sameB (n m : Nat) (p q : Nat → Bool × Int × Int) : Bool := decide (n = m) && (List.range n).all fun i => decide (p i = q i)
theorem same_yes {n m : Nat} {p q : Nat → Bool × Int × Int} (h : n = m) (h2 : ∀ i, i < n → p i = q i) : sameB n m p q = true := by
  unfold sameB; rw [decide_eq_true h, Bool.true_and, List.all_eq_true]
  intro i hi
  exact decide_eq_true (h2 i (List.mem_range.1 hi))
theorem same_len {n m : Nat} {p q : Nat → Bool × Int × Int} (h : n ≠ m) : sameB n m p q = false := by
  unfold sameB; rw [decide_eq_false h, Bool.false_and]
theorem same_no {n m : Nat} {p q : Nat → Bool × Int × Int} {i : Nat} (hi : i < n) (h : p i ≠ q i) : sameB n m p q = false := by
  cases hs : sameB n m p q with
  | false => rfl
  | true =>
    unfold sameB at hs
    rw [Bool.and_eq_true, List.all_eq_true] at hs
    exact absurd (of_decide_eq_true (hs.2 i (List.mem_range.2 hi))) h
def spSame : X.Spec := fun args lk => match args with
  | [.v (.c (.sl a 0 la 3)), .v (.c (.sl b 0 lb 3))] => match lk a with
    | some (.mem _ _ _ (.rows n 3 f)) => match lk b with
      | some (.mem _ _ _ (.rows m 3 g)) => some ⟨((n = la ∧ (la : Int) ≤ 9223372036854775807) ∧ ∀ i, i < la → isEv (f i)) ∧ ((m = lb ∧ (lb : Int) ≤ 9223372036854775807) ∧ ∀ i, i < lb → isEv (g i)), bo (sameB la lb (fun i => evO (f i)) (fun i => evO (g i))), [], []⟩
      | _ => none
    | _ => none
  | _ => none
/-! ### levels of events -/
def rightB (r v : Int) : Bool := decide (0 ≤ r) && decide (r ≤ 63) && decide (v ≠ 0) && decide (-127 ≤ v) && decide (v ≤ 127)
def spRight : X.Spec := fun args _ => match args with
  | [.v (.agg [.cs [.bool l, .int .i64 r, .int .i64 v]])] => some ⟨True, bo (rightB r v), [], []⟩
  | _ => none
def lvA (p : Nat → Ev) (f : Int) : Nat → Int
  | 0 => f
  | k + 1 => lvA p f k + (p k).2.1 + 1
def lvY (p : Nat → Ev) (f : Int) : Nat → List Int
  | 0 => List.replicate 64 0
  | k + 1 => (lvY p f k).set (lvA p f k + (p k).2.1).toNat (p k).2.2
def lvBad (p : Nat → Ev) (n : Nat) (f : Int) (k : Nat) : Prop := rightB (p k).2.1 (p k).2.2 = false ∨ (p k).1 ≠ decide (k + 1 = n) ∨ 64 ≤ lvA p f k + (p k).2.1
instance (p : Nat → Ev) (n : Nat) (f : Int) (k : Nat) : Decidable (lvBad p n f k) := by unfold lvBad; exact inferInstance
def lvX (p : Nat → Ev) (n : Nat) (f : Int) : Int := if f < 0 ∨ 1 < f then 1 else if (List.range n).any (fun i => decide (lvBad p n f i)) = true then 7 else 0
def lvR (p : Nat → Ev) (n : Nat) (f : Int) : List Int := if lvX p n f = 0 then lvY p f n else List.replicate 64 0
theorem lv_cases (p : Nat → Ev) (n : Nat) (f : Int) : ((f < 0 ∨ 1 < f) ∧ lvX p n f = 1 ∧ lvR p n f = List.replicate 64 0) ∨ (0 ≤ f ∧ f ≤ 1 ∧ (∃ i, i < n ∧ lvBad p n f i) ∧ lvX p n f = 7 ∧ lvR p n f = List.replicate 64 0) ∨ (0 ≤ f ∧ f ≤ 1 ∧ (∀ i, i < n → ¬ lvBad p n f i) ∧ lvX p n f = 0 ∧ lvR p n f = lvY p f n) := by
  unfold lvR lvX
  by_cases h : f < 0 ∨ 1 < f
  · rw [if_pos h]; exact .inl ⟨h, rfl, rfl⟩
  · rw [if_neg h]
    by_cases h2 : (List.range n).any (fun i => decide (lvBad p n f i)) = true
    · rw [if_pos h2]
      obtain ⟨i, hi, hb⟩ := List.any_eq_true.1 h2
      exact .inr (.inl ⟨by omega, by omega, ⟨i, List.mem_range.1 hi, of_decide_eq_true hb⟩, rfl, rfl⟩)
    · rw [if_neg h2]
      exact .inr (.inr ⟨by omega, by omega, fun i hi hb => h2 (List.any_eq_true.2 ⟨i, List.mem_range.2 hi, decide_eq_true hb⟩), rfl, rfl⟩)
theorem lvY_len (p : Nat → Ev) (f : Int) : ∀ k, (lvY p f k).length = 64
  | 0 => by simp [lvY]
  | k + 1 => by simp only [lvY, List.length_set]; exact lvY_len p f k
theorem right_in {r v : Int} (h : rightB r v = true) : 0 ≤ r ∧ r ≤ 63 ∧ v ≠ 0 ∧ -127 ≤ v ∧ v ≤ 127 := by
  unfold rightB at h
  simp only [Bool.and_eq_true, decide_eq_true_eq] at h
  omega
/-- One round: what comes of the event at hand. -/
theorem lv_round (p : Nat → Ev) (n : Nat) (f : Int) (k : Nat) : (lvBad p n f k ∧ rightB (p (k : Int).toNat).2.1 (p (k : Int).toNat).2.2 = false) ∨
    (lvBad p n f k ∧ rightB (p (k : Int).toNat).2.1 (p (k : Int).toNat).2.2 = true ∧ (0 ≤ (p (k : Int).toNat).2.1 ∧ (p (k : Int).toNat).2.1 ≤ 63) ∧ ¬ (p (k : Int).toNat).1 = decide ((k : Int) + 1 = n)) ∨
    (lvBad p n f k ∧ rightB (p (k : Int).toNat).2.1 (p (k : Int).toNat).2.2 = true ∧ (0 ≤ (p (k : Int).toNat).2.1 ∧ (p (k : Int).toNat).2.1 ≤ 63) ∧ (p (k : Int).toNat).1 = decide ((k : Int) + 1 = n) ∧ 64 ≤ lvA p f k + (p (k : Int).toNat).2.1) ∨
    (¬ lvBad p n f k ∧ rightB (p (k : Int).toNat).2.1 (p (k : Int).toNat).2.2 = true ∧ (0 ≤ (p (k : Int).toNat).2.1 ∧ (p (k : Int).toNat).2.1 ≤ 63) ∧ (p (k : Int).toNat).1 = decide ((k : Int) + 1 = n) ∧ lvA p f k + (p (k : Int).toNat).2.1 < 64 ∧ lvA p f (k + 1) = lvA p f k + (p (k : Int).toNat).2.1 + 1 ∧ lvY p f (k + 1) = (lvY p f k).set (lvA p f k + (p (k : Int).toNat).2.1).toNat (p (k : Int).toNat).2.2) := by
  rw [toNat_nat]
  have e : decide (k + 1 = n) = decide ((k : Int) + 1 = n) := decide_eq_decide.2 (by omega)
  by_cases h1 : rightB (p k).2.1 (p k).2.2 = true
  · have h1' := right_in h1
    by_cases h2 : (p k).1 = decide ((k : Int) + 1 = n)
    · by_cases h3 : 64 ≤ lvA p f k + (p k).2.1
      · exact .inr (.inr (.inl ⟨.inr (.inr h3), h1, ⟨h1'.1, h1'.2.1⟩, h2, h3⟩))
      · refine .inr (.inr (.inr ⟨?_, h1, ⟨h1'.1, h1'.2.1⟩, h2, by omega, rfl, rfl⟩))
        rintro (h | h | h)
        · rw [h1] at h; cases h
        · rw [e] at h; exact h h2
        · exact h3 h
    · exact .inr (.inl ⟨.inr (.inl (by rw [e]; exact h2)), h1, ⟨h1'.1, h1'.2.1⟩, h2⟩)
  · have h1' : rightB (p k).2.1 (p k).2.2 = false := by simpa using h1
    exact .inl ⟨.inl h1', h1'⟩
theorem dec_last (k n : Nat) : decide ((k : Int) = n - 1) = decide ((k : Int) + 1 = n) := decide_eq_decide.2 (by omega)
theorem same_refl (n : Nat) (p : Nat → Bool × Int × Int) : sameB n n p p = true := same_yes rfl fun _ _ => rfl
theorem evN_small (xs : List Int) (f : Int) : ((evN xs f).length : Int) ≤ 9223372036854775807 := by
  unfold evN; split
  · have := ev_len xs f 64; omega
  · simp
def spLevels : X.Spec := fun args lk => match args with
  | [.v (.c (.sl a 0 la 3)), .v (.c (.int .i64 f))] => match lk a with
    | some (.mem _ _ _ (.rows n 3 g)) => some ⟨(n = la ∧ (la : Int) ≤ 9223372036854775807) ∧ ∀ i, i < la → isEv (g i), .tup [.agg [.ints 64 .i64 (lvR (fun i => evO (g i)) la f)], .c (.int .i64 (lvX (fun i => evO (g i)) la f))], [], []⟩
    | _ => none
  | _ => none
def spTrue0 : X.Spec := fun args _ => match args with
  | [] => some ⟨True, bo true, [], []⟩
  | _ => none
set_option maxRecDepth 100000 in
set_option maxHeartbeats 4000000 in
theorem okEvents : FnOK Try.prog gt0 8 (spEvents 63) := by
  refine fnOK_handed Try.func8 rfl (by kernel_rfl) tt_ok (ktNil) ?_
  intro args lk r h hp
  unfold spEvents at h
  split at h
  · rename_i xs f
    cases h
    refine hand0 rfl rfl (fun w0 M ε0 hX => ?_)
    refine rCount (fun hε => ?_)
    change ε0.n ≤ 0 at hε
    have hp : xs.length = 64 := hp
    rcases ev_cases xs f with ⟨hf, hx, hn⟩ | ⟨hf0, hf1, hex, hx, hn⟩ | ⟨hf0, hf1, hok, hx, hn⟩ <;> simp only [hx, hn]
    · skip
      all_goals repeat' first
        | with_reducible refine rSeq ?_
        | with_reducible refine rThen ?_
        | with_reducible refine rBlock ?_
        | with_reducible refine rThenRet ?_
        | with_reducible refine rThenExit ?_
        | with_reducible refine rInRet ?_
        | with_reducible refine rInNormal ?_
        | with_reducible refine rInHit ?_
        | with_reducible refine rInMiss rfl ?_
        | with_reducible refine rRet ?_
        | with_reducible refine rExit ?_
        | with_reducible refine rSkip ?_
        | with_reducible refine rLabel ?_
        | with_reducible refine rScope ?_
        | with_reducible refine rNoGotoRet ?_
        | with_reducible refine rNoGotoNormal ?_
        | (with_reducible show SW _ (Code.region _ _ false) _ _ _); refine rRegC md0 hX rfl rfl rfl (by first | (first | exact True.intro | ((repeat' first | refine And.intro ?_ ?_ | intro _) <;> first | exact True.intro | (with_reducible exact rfl) | (with_reducible assumption) | omega | (simp only [sel, inK, segsOf, widthL, S0.width, List.cons_append, List.nil_append, List.length_cons, List.length_nil, Int.one_mul, implies_true, imp_self, btL, blL, bsL, ne_eq] <;> omega) | (simp only [sel, inK, segsOf, widthL, S0.width, List.cons_append, List.nil_append, List.length_cons, List.length_nil, Int.one_mul, implies_true, imp_self, btL, blL, bsL, ne_eq] at *; omega) | (simp only [sel, bsL, ne_eq] at *; simp_all <;> fail) | (simp [sel, segsOf, List.cons_append, List.nil_append, widthL, S0.width] <;> fail) | (simp only [ByteArray.size, List.size_toArray, List.length_cons, List.length_nil] <;> omega))) | fail) ?_
        | (with_reducible show SW _ (Code.region _ _ true) _ _ _); refine rDrawC md0 hX mixed rfl rfl rfl rfl (by first | (first | exact True.intro | ((repeat' first | refine And.intro ?_ ?_ | intro _) <;> first | exact True.intro | (with_reducible exact rfl) | (with_reducible assumption) | omega | (simp only [sel, inK, segsOf, widthL, S0.width, List.cons_append, List.nil_append, List.length_cons, List.length_nil, Int.one_mul, implies_true, imp_self, btL, blL, bsL, ne_eq] <;> omega) | (simp only [sel, inK, segsOf, widthL, S0.width, List.cons_append, List.nil_append, List.length_cons, List.length_nil, Int.one_mul, implies_true, imp_self, btL, blL, bsL, ne_eq] at *; omega) | (simp only [sel, bsL, ne_eq] at *; simp_all <;> fail) | (simp [sel, segsOf, List.cons_append, List.nil_append, widthL, S0.width] <;> fail) | (simp only [ByteArray.size, List.size_toArray, List.length_cons, List.length_nil] <;> omega))) | fail) ?_
        | (with_reducible show SW _ (Code.region _ _ true) _ _ _); refine rDrawSC md0 hX mixed rfl rfl rfl rfl rfl (by first | (first | exact True.intro | ((repeat' first | refine And.intro ?_ ?_ | intro _) <;> first | exact True.intro | (with_reducible exact rfl) | (with_reducible assumption) | omega | (simp only [sel, inK, segsOf, widthL, S0.width, List.cons_append, List.nil_append, List.length_cons, List.length_nil, Int.one_mul, implies_true, imp_self, btL, blL, bsL, ne_eq] <;> omega) | (simp only [sel, inK, segsOf, widthL, S0.width, List.cons_append, List.nil_append, List.length_cons, List.length_nil, Int.one_mul, implies_true, imp_self, btL, blL, bsL, ne_eq] at *; omega) | (simp only [sel, bsL, ne_eq] at *; simp_all <;> fail) | (simp [sel, segsOf, List.cons_append, List.nil_append, widthL, S0.width] <;> fail) | (simp only [ByteArray.size, List.size_toArray, List.length_cons, List.length_nil] <;> omega))) | fail) ?_
        | (with_reducible show SW _ (Code.cond _ _ _) _ _ _); (refine rCond rfl rfl (by first | (first | exact True.intro | ((repeat' first | refine And.intro ?_ ?_ | intro _) <;> first | exact True.intro | (with_reducible exact rfl) | (with_reducible assumption) | omega | (simp only [sel, inK, segsOf, widthL, S0.width, List.cons_append, List.nil_append, List.length_cons, List.length_nil, Int.one_mul, implies_true, imp_self, btL, blL, bsL, ne_eq] <;> omega) | (simp only [sel, inK, segsOf, widthL, S0.width, List.cons_append, List.nil_append, List.length_cons, List.length_nil, Int.one_mul, implies_true, imp_self, btL, blL, bsL, ne_eq] at *; omega) | (simp only [sel, bsL, ne_eq] at *; simp_all <;> fail) | (simp [sel, segsOf, List.cons_append, List.nil_append, widthL, S0.width] <;> fail) | (simp only [ByteArray.size, List.size_toArray, List.length_cons, List.length_nil] <;> omega))) | fail) (fun h => ?_) (fun h => ?_) <;> (try (exact absurd h (by decide))) <;> (try simp only [blL, bsL, ne_eq] at h) <;> (try (exact absurd ‹_› ‹_›)) <;> (try (exfalso; omega)))
        | (with_reducible show SQ _ (Post _ _ _ _ _ _ _) .normal _ _); with_reducible refine rNormal ?_
        | (with_reducible show SQ _ (Post _ _ _ _ _ _ _) .ret _ _); (refine rNilRowQ 4 63 3 (.rows 0 3 (evF [] 0)) (nil_rows _ _) rfl rfl ?_; (first | (refine rDoneNew 1 hX rfl (by first | exact True.intro | ((repeat' first | refine And.intro ?_ ?_ | intro _) <;> first | exact True.intro | (with_reducible exact rfl) | (with_reducible assumption) | omega | (simp only [sel, inK, segsOf, widthL, S0.width, List.cons_append, List.nil_append, List.length_cons, List.length_nil, Int.one_mul, implies_true, imp_self, btL, blL, bsL, ne_eq] <;> omega) | (simp only [sel, inK, segsOf, widthL, S0.width, List.cons_append, List.nil_append, List.length_cons, List.length_nil, Int.one_mul, implies_true, imp_self, btL, blL, bsL, ne_eq] at *; omega) | (simp only [sel, bsL, ne_eq] at *; simp_all <;> fail) | (simp [sel, segsOf, List.cons_append, List.nil_append, widthL, S0.width] <;> fail) | (simp only [ByteArray.size, List.size_toArray, List.length_cons, List.length_nil] <;> omega))) (EnvLe.refl _) rfl rfl rfl rfl rfl (fun i hi => rfl) rfl rfl (by intro i e h; cases h)) | (refine rDoneNew 2 hX rfl (by first | exact True.intro | ((repeat' first | refine And.intro ?_ ?_ | intro _) <;> first | exact True.intro | (with_reducible exact rfl) | (with_reducible assumption) | omega | (simp only [sel, inK, segsOf, widthL, S0.width, List.cons_append, List.nil_append, List.length_cons, List.length_nil, Int.one_mul, implies_true, imp_self, btL, blL, bsL, ne_eq] <;> omega) | (simp only [sel, inK, segsOf, widthL, S0.width, List.cons_append, List.nil_append, List.length_cons, List.length_nil, Int.one_mul, implies_true, imp_self, btL, blL, bsL, ne_eq] at *; omega) | (simp only [sel, bsL, ne_eq] at *; simp_all <;> fail) | (simp [sel, segsOf, List.cons_append, List.nil_append, widthL, S0.width] <;> fail) | (simp only [ByteArray.size, List.size_toArray, List.length_cons, List.length_nil] <;> omega))) (EnvLe.refl _) rfl rfl rfl rfl rfl (fun i hi => rfl) rfl rfl (by intro i e h; cases h)) | (refine rDoneNew 3 hX rfl (by first | exact True.intro | ((repeat' first | refine And.intro ?_ ?_ | intro _) <;> first | exact True.intro | (with_reducible exact rfl) | (with_reducible assumption) | omega | (simp only [sel, inK, segsOf, widthL, S0.width, List.cons_append, List.nil_append, List.length_cons, List.length_nil, Int.one_mul, implies_true, imp_self, btL, blL, bsL, ne_eq] <;> omega) | (simp only [sel, inK, segsOf, widthL, S0.width, List.cons_append, List.nil_append, List.length_cons, List.length_nil, Int.one_mul, implies_true, imp_self, btL, blL, bsL, ne_eq] at *; omega) | (simp only [sel, bsL, ne_eq] at *; simp_all <;> fail) | (simp [sel, segsOf, List.cons_append, List.nil_append, widthL, S0.width] <;> fail) | (simp only [ByteArray.size, List.size_toArray, List.length_cons, List.length_nil] <;> omega))) (EnvLe.refl _) rfl rfl rfl rfl rfl (fun i hi => rfl) rfl rfl (by intro i e h; cases h)) | (refine rDoneNew 4 hX rfl (by first | exact True.intro | ((repeat' first | refine And.intro ?_ ?_ | intro _) <;> first | exact True.intro | (with_reducible exact rfl) | (with_reducible assumption) | omega | (simp only [sel, inK, segsOf, widthL, S0.width, List.cons_append, List.nil_append, List.length_cons, List.length_nil, Int.one_mul, implies_true, imp_self, btL, blL, bsL, ne_eq] <;> omega) | (simp only [sel, inK, segsOf, widthL, S0.width, List.cons_append, List.nil_append, List.length_cons, List.length_nil, Int.one_mul, implies_true, imp_self, btL, blL, bsL, ne_eq] at *; omega) | (simp only [sel, bsL, ne_eq] at *; simp_all <;> fail) | (simp [sel, segsOf, List.cons_append, List.nil_append, widthL, S0.width] <;> fail) | (simp only [ByteArray.size, List.size_toArray, List.length_cons, List.length_nil] <;> omega))) (EnvLe.refl _) rfl rfl rfl rfl rfl (fun i hi => rfl) rfl rfl (by intro i e h; cases h)) | (refine rDoneNew 5 hX rfl (by first | exact True.intro | ((repeat' first | refine And.intro ?_ ?_ | intro _) <;> first | exact True.intro | (with_reducible exact rfl) | (with_reducible assumption) | omega | (simp only [sel, inK, segsOf, widthL, S0.width, List.cons_append, List.nil_append, List.length_cons, List.length_nil, Int.one_mul, implies_true, imp_self, btL, blL, bsL, ne_eq] <;> omega) | (simp only [sel, inK, segsOf, widthL, S0.width, List.cons_append, List.nil_append, List.length_cons, List.length_nil, Int.one_mul, implies_true, imp_self, btL, blL, bsL, ne_eq] at *; omega) | (simp only [sel, bsL, ne_eq] at *; simp_all <;> fail) | (simp [sel, segsOf, List.cons_append, List.nil_append, widthL, S0.width] <;> fail) | (simp only [ByteArray.size, List.size_toArray, List.length_cons, List.length_nil] <;> omega))) (EnvLe.refl _) rfl rfl rfl rfl rfl (fun i hi => rfl) rfl rfl (by intro i e h; cases h)) | (refine rDoneNew 6 hX rfl (by first | exact True.intro | ((repeat' first | refine And.intro ?_ ?_ | intro _) <;> first | exact True.intro | (with_reducible exact rfl) | (with_reducible assumption) | omega | (simp only [sel, inK, segsOf, widthL, S0.width, List.cons_append, List.nil_append, List.length_cons, List.length_nil, Int.one_mul, implies_true, imp_self, btL, blL, bsL, ne_eq] <;> omega) | (simp only [sel, inK, segsOf, widthL, S0.width, List.cons_append, List.nil_append, List.length_cons, List.length_nil, Int.one_mul, implies_true, imp_self, btL, blL, bsL, ne_eq] at *; omega) | (simp only [sel, bsL, ne_eq] at *; simp_all <;> fail) | (simp [sel, segsOf, List.cons_append, List.nil_append, widthL, S0.width] <;> fail) | (simp only [ByteArray.size, List.size_toArray, List.length_cons, List.length_nil] <;> omega))) (EnvLe.refl _) rfl rfl rfl rfl rfl (fun i hi => rfl) rfl rfl (by intro i e h; cases h))))
    · skip
      all_goals repeat' first
        | with_reducible refine rSeq ?_
        | with_reducible refine rThen ?_
        | with_reducible refine rBlock ?_
        | with_reducible refine rThenRet ?_
        | with_reducible refine rThenExit ?_
        | with_reducible refine rInRet ?_
        | with_reducible refine rInNormal ?_
        | with_reducible refine rInHit ?_
        | with_reducible refine rInMiss rfl ?_
        | with_reducible refine rRet ?_
        | with_reducible refine rExit ?_
        | with_reducible refine rSkip ?_
        | with_reducible refine rLabel ?_
        | with_reducible refine rScope ?_
        | with_reducible refine rNoGotoRet ?_
        | with_reducible refine rNoGotoNormal ?_
        | (with_reducible show SW _ (Code.region _ _ false) _ _ _); refine rRegC md0 hX rfl rfl rfl (by first | (first | exact True.intro | ((repeat' first | refine And.intro ?_ ?_ | intro _) <;> first | exact True.intro | (with_reducible exact rfl) | (with_reducible assumption) | omega | (simp only [sel, inK, segsOf, widthL, S0.width, List.cons_append, List.nil_append, List.length_cons, List.length_nil, Int.one_mul, implies_true, imp_self, btL, blL, bsL, ne_eq] <;> omega) | (simp only [sel, inK, segsOf, widthL, S0.width, List.cons_append, List.nil_append, List.length_cons, List.length_nil, Int.one_mul, implies_true, imp_self, btL, blL, bsL, ne_eq] at *; omega) | (simp only [sel, bsL, ne_eq] at *; simp_all <;> fail) | (simp [sel, segsOf, List.cons_append, List.nil_append, widthL, S0.width] <;> fail) | (simp only [ByteArray.size, List.size_toArray, List.length_cons, List.length_nil] <;> omega))) | fail) ?_
        | (with_reducible show SW _ (Code.region _ _ true) _ _ _); refine rDrawC md0 hX mixed rfl rfl rfl rfl (by first | (first | exact True.intro | ((repeat' first | refine And.intro ?_ ?_ | intro _) <;> first | exact True.intro | (with_reducible exact rfl) | (with_reducible assumption) | omega | (simp only [sel, inK, segsOf, widthL, S0.width, List.cons_append, List.nil_append, List.length_cons, List.length_nil, Int.one_mul, implies_true, imp_self, btL, blL, bsL, ne_eq] <;> omega) | (simp only [sel, inK, segsOf, widthL, S0.width, List.cons_append, List.nil_append, List.length_cons, List.length_nil, Int.one_mul, implies_true, imp_self, btL, blL, bsL, ne_eq] at *; omega) | (simp only [sel, bsL, ne_eq] at *; simp_all <;> fail) | (simp [sel, segsOf, List.cons_append, List.nil_append, widthL, S0.width] <;> fail) | (simp only [ByteArray.size, List.size_toArray, List.length_cons, List.length_nil] <;> omega))) | fail) ?_
        | (with_reducible show SW _ (Code.region _ _ true) _ _ _); refine rDrawSC md0 hX mixed rfl rfl rfl rfl rfl (by first | (first | exact True.intro | ((repeat' first | refine And.intro ?_ ?_ | intro _) <;> first | exact True.intro | (with_reducible exact rfl) | (with_reducible assumption) | omega | (simp only [sel, inK, segsOf, widthL, S0.width, List.cons_append, List.nil_append, List.length_cons, List.length_nil, Int.one_mul, implies_true, imp_self, btL, blL, bsL, ne_eq] <;> omega) | (simp only [sel, inK, segsOf, widthL, S0.width, List.cons_append, List.nil_append, List.length_cons, List.length_nil, Int.one_mul, implies_true, imp_self, btL, blL, bsL, ne_eq] at *; omega) | (simp only [sel, bsL, ne_eq] at *; simp_all <;> fail) | (simp [sel, segsOf, List.cons_append, List.nil_append, widthL, S0.width] <;> fail) | (simp only [ByteArray.size, List.size_toArray, List.length_cons, List.length_nil] <;> omega))) | fail) ?_
        | (with_reducible show SW _ (Code.cond _ _ _) _ _ _); (refine rCond rfl rfl (by first | (first | exact True.intro | ((repeat' first | refine And.intro ?_ ?_ | intro _) <;> first | exact True.intro | (with_reducible exact rfl) | (with_reducible assumption) | omega | (simp only [sel, inK, segsOf, widthL, S0.width, List.cons_append, List.nil_append, List.length_cons, List.length_nil, Int.one_mul, implies_true, imp_self, btL, blL, bsL, ne_eq] <;> omega) | (simp only [sel, inK, segsOf, widthL, S0.width, List.cons_append, List.nil_append, List.length_cons, List.length_nil, Int.one_mul, implies_true, imp_self, btL, blL, bsL, ne_eq] at *; omega) | (simp only [sel, bsL, ne_eq] at *; simp_all <;> fail) | (simp [sel, segsOf, List.cons_append, List.nil_append, widthL, S0.width] <;> fail) | (simp only [ByteArray.size, List.size_toArray, List.length_cons, List.length_nil] <;> omega))) | fail) (fun h => ?_) (fun h => ?_) <;> (try (exact absurd h (by decide))) <;> (try simp only [blL, bsL, ne_eq] at h) <;> (try (exact absurd ‹_› ‹_›)) <;> (try (exfalso; omega)))
        | (with_reducible show SQ _ (Post _ _ _ _ _ _ _) .normal _ _); with_reducible refine rNormal ?_
        | (with_reducible show SQ _ (Post _ _ _ _ _ _ _) .ret _ _); (refine rNilRowQ 4 63 3 (.rows 0 3 (evF [] 0)) (nil_rows _ _) rfl rfl ?_; (first | (refine rDoneNew 1 hX rfl (by first | exact True.intro | ((repeat' first | refine And.intro ?_ ?_ | intro _) <;> first | exact True.intro | (with_reducible exact rfl) | (with_reducible assumption) | omega | (simp only [sel, inK, segsOf, widthL, S0.width, List.cons_append, List.nil_append, List.length_cons, List.length_nil, Int.one_mul, implies_true, imp_self, btL, blL, bsL, ne_eq] <;> omega) | (simp only [sel, inK, segsOf, widthL, S0.width, List.cons_append, List.nil_append, List.length_cons, List.length_nil, Int.one_mul, implies_true, imp_self, btL, blL, bsL, ne_eq] at *; omega) | (simp only [sel, bsL, ne_eq] at *; simp_all <;> fail) | (simp [sel, segsOf, List.cons_append, List.nil_append, widthL, S0.width] <;> fail) | (simp only [ByteArray.size, List.size_toArray, List.length_cons, List.length_nil] <;> omega))) (EnvLe.refl _) rfl rfl rfl rfl rfl (fun i hi => rfl) rfl rfl (by intro i e h; cases h)) | (refine rDoneNew 2 hX rfl (by first | exact True.intro | ((repeat' first | refine And.intro ?_ ?_ | intro _) <;> first | exact True.intro | (with_reducible exact rfl) | (with_reducible assumption) | omega | (simp only [sel, inK, segsOf, widthL, S0.width, List.cons_append, List.nil_append, List.length_cons, List.length_nil, Int.one_mul, implies_true, imp_self, btL, blL, bsL, ne_eq] <;> omega) | (simp only [sel, inK, segsOf, widthL, S0.width, List.cons_append, List.nil_append, List.length_cons, List.length_nil, Int.one_mul, implies_true, imp_self, btL, blL, bsL, ne_eq] at *; omega) | (simp only [sel, bsL, ne_eq] at *; simp_all <;> fail) | (simp [sel, segsOf, List.cons_append, List.nil_append, widthL, S0.width] <;> fail) | (simp only [ByteArray.size, List.size_toArray, List.length_cons, List.length_nil] <;> omega))) (EnvLe.refl _) rfl rfl rfl rfl rfl (fun i hi => rfl) rfl rfl (by intro i e h; cases h)) | (refine rDoneNew 3 hX rfl (by first | exact True.intro | ((repeat' first | refine And.intro ?_ ?_ | intro _) <;> first | exact True.intro | (with_reducible exact rfl) | (with_reducible assumption) | omega | (simp only [sel, inK, segsOf, widthL, S0.width, List.cons_append, List.nil_append, List.length_cons, List.length_nil, Int.one_mul, implies_true, imp_self, btL, blL, bsL, ne_eq] <;> omega) | (simp only [sel, inK, segsOf, widthL, S0.width, List.cons_append, List.nil_append, List.length_cons, List.length_nil, Int.one_mul, implies_true, imp_self, btL, blL, bsL, ne_eq] at *; omega) | (simp only [sel, bsL, ne_eq] at *; simp_all <;> fail) | (simp [sel, segsOf, List.cons_append, List.nil_append, widthL, S0.width] <;> fail) | (simp only [ByteArray.size, List.size_toArray, List.length_cons, List.length_nil] <;> omega))) (EnvLe.refl _) rfl rfl rfl rfl rfl (fun i hi => rfl) rfl rfl (by intro i e h; cases h)) | (refine rDoneNew 4 hX rfl (by first | exact True.intro | ((repeat' first | refine And.intro ?_ ?_ | intro _) <;> first | exact True.intro | (with_reducible exact rfl) | (with_reducible assumption) | omega | (simp only [sel, inK, segsOf, widthL, S0.width, List.cons_append, List.nil_append, List.length_cons, List.length_nil, Int.one_mul, implies_true, imp_self, btL, blL, bsL, ne_eq] <;> omega) | (simp only [sel, inK, segsOf, widthL, S0.width, List.cons_append, List.nil_append, List.length_cons, List.length_nil, Int.one_mul, implies_true, imp_self, btL, blL, bsL, ne_eq] at *; omega) | (simp only [sel, bsL, ne_eq] at *; simp_all <;> fail) | (simp [sel, segsOf, List.cons_append, List.nil_append, widthL, S0.width] <;> fail) | (simp only [ByteArray.size, List.size_toArray, List.length_cons, List.length_nil] <;> omega))) (EnvLe.refl _) rfl rfl rfl rfl rfl (fun i hi => rfl) rfl rfl (by intro i e h; cases h)) | (refine rDoneNew 5 hX rfl (by first | exact True.intro | ((repeat' first | refine And.intro ?_ ?_ | intro _) <;> first | exact True.intro | (with_reducible exact rfl) | (with_reducible assumption) | omega | (simp only [sel, inK, segsOf, widthL, S0.width, List.cons_append, List.nil_append, List.length_cons, List.length_nil, Int.one_mul, implies_true, imp_self, btL, blL, bsL, ne_eq] <;> omega) | (simp only [sel, inK, segsOf, widthL, S0.width, List.cons_append, List.nil_append, List.length_cons, List.length_nil, Int.one_mul, implies_true, imp_self, btL, blL, bsL, ne_eq] at *; omega) | (simp only [sel, bsL, ne_eq] at *; simp_all <;> fail) | (simp [sel, segsOf, List.cons_append, List.nil_append, widthL, S0.width] <;> fail) | (simp only [ByteArray.size, List.size_toArray, List.length_cons, List.length_nil] <;> omega))) (EnvLe.refl _) rfl rfl rfl rfl rfl (fun i hi => rfl) rfl rfl (by intro i e h; cases h)) | (refine rDoneNew 6 hX rfl (by first | exact True.intro | ((repeat' first | refine And.intro ?_ ?_ | intro _) <;> first | exact True.intro | (with_reducible exact rfl) | (with_reducible assumption) | omega | (simp only [sel, inK, segsOf, widthL, S0.width, List.cons_append, List.nil_append, List.length_cons, List.length_nil, Int.one_mul, implies_true, imp_self, btL, blL, bsL, ne_eq] <;> omega) | (simp only [sel, inK, segsOf, widthL, S0.width, List.cons_append, List.nil_append, List.length_cons, List.length_nil, Int.one_mul, implies_true, imp_self, btL, blL, bsL, ne_eq] at *; omega) | (simp only [sel, bsL, ne_eq] at *; simp_all <;> fail) | (simp [sel, segsOf, List.cons_append, List.nil_append, widthL, S0.width] <;> fail) | (simp only [ByteArray.size, List.size_toArray, List.length_cons, List.length_nil] <;> omega))) (EnvLe.refl _) rfl rfl rfl rfl rfl (fun i hi => rfl) rfl rfl (by intro i e h; cases h))))
      refine rNilRow 6 63 3 (.rows 0 3 (evF [] 0)) (nil_rows _ _) rfl rfl ?_
      refine rLoopF (fun i : {i : Nat // i ≤ 64 ∧ ∀ j, j < i → ¬ evBad xs f j} => ⟨[(1, i64 f), (6, .v (.c (.sl 1 0 (evA xs f i.1).length 3))), (7, i64 (runA xs f i.1)), (16, .v (.agg [.ints 64 .i64 xs])), (17, i64 (i.1 : Int))], [(1, .mem true 63 (some 3) (.rows (evA xs f i.1).length 3 (evF (evA xs f i.1) 0)))], 2⟩) (fun i => 64 - i.1) 2 (fun _ => rfl) ⟨0, by omega, fun j hj => by omega⟩ (by (refine Le.mk ?_ ?_ rfl <;> (repeat' first | exact RLe.nil | refine RLe.cons rfl ?_ ?_ | exact BLe.nil | refine BLe.cons rfl ?_ ?_) <;> (first  | exact SVle.refl _ | exact Ele.refl _ | exact SVle.int (by first | omega | (dsimp only; omega) | fail) | exact SVle.bool (by rfl) | exact SVle.ints (by rfl) | exact Ele.mem (Ble.ints (by rfl))))) ?_
      rintro ⟨i, hi, hall⟩ hN
      change SW _ _ _ _ ⟨[(1, i64 f), (6, .v (.c (.sl 1 0 (evA xs f i).length 3))), (7, i64 (runA xs f i)), (16, .v (.agg [.ints 64 .i64 xs])), (17, i64 (i : Int))], [(1, .mem true 63 (some 3) (.rows (evA xs f i).length 3 (evF (evA xs f i) 0)))], 2⟩
      have hri := run_in xs f i
      have hel := ev_len xs f i
      by_cases hlt : i < 64
      · rcases ev_round xs f i with ⟨g0, g1, g2⟩ | ⟨g0, gb, g1⟩ | ⟨g0, g3, g1, g2⟩ | ⟨g0, g3, g4, g4', g5, g6⟩
        · skip
          all_goals repeat' first
            | (with_reducible show SQ _ (Exit.then (Again _ _ _ _ _) _) .normal _ _); refine rAgain0 ⟨i + 1, by omega, all_next hall (bad_not (by omega))⟩ (by first | (first | omega | (dsimp only; omega) | fail) | fail) (by first | (refine Le.mk ?_ ?_ rfl <;> (repeat' first | exact RLe.nil | refine RLe.cons rfl ?_ ?_ | exact BLe.nil | refine BLe.cons rfl ?_ ?_) <;> (first | exact SVle.int (by (try dsimp only); first | (rw [g1]; omega) | fail) | exact SVle.sl rfl (by (try dsimp only); rw [g2]) | exact Ele.eq (by (try dsimp only); rw [g2]) | exact SVle.refl _ | exact Ele.refl _ | exact SVle.int (by first | omega | (dsimp only; omega) | fail) | exact SVle.bool (by rfl) | exact SVle.ints (by rfl) | exact Ele.mem (Ble.ints (by rfl)))) | fail)
            | with_reducible refine rSeq ?_
            | with_reducible refine rThen ?_
            | with_reducible refine rBlock ?_
            | with_reducible refine rThenRet ?_
            | with_reducible refine rThenExit ?_
            | with_reducible refine rInRet ?_
            | with_reducible refine rInNormal ?_
            | with_reducible refine rInHit ?_
            | with_reducible refine rInMiss rfl ?_
            | with_reducible refine rRet ?_
            | with_reducible refine rExit ?_
            | with_reducible refine rSkip ?_
            | with_reducible refine rLabel ?_
            | with_reducible refine rScope ?_
            | with_reducible refine rNoGotoRet ?_
            | with_reducible refine rNoGotoNormal ?_
            | (with_reducible show SW _ (Code.region _ _ false) _ _ _); refine rRegC md0 hX rfl rfl rfl (by first | (first | exact True.intro | ((repeat' first | refine And.intro ?_ ?_ | intro _) <;> first | exact True.intro | (with_reducible exact rfl) | (with_reducible assumption) | omega | (simp only [sel, inK, segsOf, widthL, S0.width, List.cons_append, List.nil_append, List.length_cons, List.length_nil, Int.one_mul, implies_true, imp_self, btL, blL, bsL, ne_eq] <;> omega) | (simp only [sel, inK, segsOf, widthL, S0.width, List.cons_append, List.nil_append, List.length_cons, List.length_nil, Int.one_mul, implies_true, imp_self, btL, blL, bsL, ne_eq] at *; omega) | (simp only [sel, bsL, ne_eq] at *; simp_all <;> fail) | (simp [sel, segsOf, List.cons_append, List.nil_append, widthL, S0.width] <;> fail) | (simp only [ByteArray.size, List.size_toArray, List.length_cons, List.length_nil] <;> omega))) | fail) ?_
            | (with_reducible show SW _ (Code.region _ _ true) _ _ _); refine rDrawC md0 hX mixed rfl rfl rfl rfl (by first | (first | exact True.intro | ((repeat' first | refine And.intro ?_ ?_ | intro _) <;> first | exact True.intro | (with_reducible exact rfl) | (with_reducible assumption) | omega | (simp only [sel, inK, segsOf, widthL, S0.width, List.cons_append, List.nil_append, List.length_cons, List.length_nil, Int.one_mul, implies_true, imp_self, btL, blL, bsL, ne_eq] <;> omega) | (simp only [sel, inK, segsOf, widthL, S0.width, List.cons_append, List.nil_append, List.length_cons, List.length_nil, Int.one_mul, implies_true, imp_self, btL, blL, bsL, ne_eq] at *; omega) | (simp only [sel, bsL, ne_eq] at *; simp_all <;> fail) | (simp [sel, segsOf, List.cons_append, List.nil_append, widthL, S0.width] <;> fail) | (simp only [ByteArray.size, List.size_toArray, List.length_cons, List.length_nil] <;> omega))) | fail) ?_
            | (with_reducible show SW _ (Code.region _ _ true) _ _ _); refine rDrawSC md0 hX mixed rfl rfl rfl rfl rfl (by first | (first | exact True.intro | ((repeat' first | refine And.intro ?_ ?_ | intro _) <;> first | exact True.intro | (with_reducible exact rfl) | (with_reducible assumption) | omega | (simp only [sel, inK, segsOf, widthL, S0.width, List.cons_append, List.nil_append, List.length_cons, List.length_nil, Int.one_mul, implies_true, imp_self, btL, blL, bsL, ne_eq] <;> omega) | (simp only [sel, inK, segsOf, widthL, S0.width, List.cons_append, List.nil_append, List.length_cons, List.length_nil, Int.one_mul, implies_true, imp_self, btL, blL, bsL, ne_eq] at *; omega) | (simp only [sel, bsL, ne_eq] at *; simp_all <;> fail) | (simp [sel, segsOf, List.cons_append, List.nil_append, widthL, S0.width] <;> fail) | (simp only [ByteArray.size, List.size_toArray, List.length_cons, List.length_nil] <;> omega))) | fail) ?_
            | (with_reducible show SW _ (Code.cond _ _ _) _ _ _); (refine rCond rfl rfl (by first | (first | exact True.intro | ((repeat' first | refine And.intro ?_ ?_ | intro _) <;> first | exact True.intro | (with_reducible exact rfl) | (with_reducible assumption) | omega | (simp only [sel, inK, segsOf, widthL, S0.width, List.cons_append, List.nil_append, List.length_cons, List.length_nil, Int.one_mul, implies_true, imp_self, btL, blL, bsL, ne_eq] <;> omega) | (simp only [sel, inK, segsOf, widthL, S0.width, List.cons_append, List.nil_append, List.length_cons, List.length_nil, Int.one_mul, implies_true, imp_self, btL, blL, bsL, ne_eq] at *; omega) | (simp only [sel, bsL, ne_eq] at *; simp_all <;> fail) | (simp [sel, segsOf, List.cons_append, List.nil_append, widthL, S0.width] <;> fail) | (simp only [ByteArray.size, List.size_toArray, List.length_cons, List.length_nil] <;> omega))) | fail) (fun h => ?_) (fun h => ?_) <;> (try (exact absurd h (by decide))) <;> (try simp only [blL, bsL, ne_eq] at h) <;> (try (exact absurd ‹_› ‹_›)) <;> (try (exfalso; omega)))
            | (with_reducible show SQ _ (Post _ _ _ _ _ _ _) .normal _ _); with_reducible refine rNormal ?_
        · skip
          all_goals repeat' first
            | with_reducible refine rSeq ?_
            | with_reducible refine rThen ?_
            | with_reducible refine rBlock ?_
            | with_reducible refine rThenRet ?_
            | with_reducible refine rThenExit ?_
            | with_reducible refine rInRet ?_
            | with_reducible refine rInNormal ?_
            | with_reducible refine rInHit ?_
            | with_reducible refine rInMiss rfl ?_
            | with_reducible refine rRet ?_
            | with_reducible refine rExit ?_
            | with_reducible refine rSkip ?_
            | with_reducible refine rLabel ?_
            | with_reducible refine rScope ?_
            | with_reducible refine rNoGotoRet ?_
            | with_reducible refine rNoGotoNormal ?_
            | (with_reducible show SW _ (Code.region _ _ false) _ _ _); refine rRegC md0 hX rfl rfl rfl (by first | (first | exact True.intro | ((repeat' first | refine And.intro ?_ ?_ | intro _) <;> first | exact True.intro | (with_reducible exact rfl) | (with_reducible assumption) | omega | (simp only [sel, inK, segsOf, widthL, S0.width, List.cons_append, List.nil_append, List.length_cons, List.length_nil, Int.one_mul, implies_true, imp_self, btL, blL, bsL, ne_eq] <;> omega) | (simp only [sel, inK, segsOf, widthL, S0.width, List.cons_append, List.nil_append, List.length_cons, List.length_nil, Int.one_mul, implies_true, imp_self, btL, blL, bsL, ne_eq] at *; omega) | (simp only [sel, bsL, ne_eq] at *; simp_all <;> fail) | (simp [sel, segsOf, List.cons_append, List.nil_append, widthL, S0.width] <;> fail) | (simp only [ByteArray.size, List.size_toArray, List.length_cons, List.length_nil] <;> omega))) | fail) ?_
            | (with_reducible show SW _ (Code.region _ _ true) _ _ _); refine rDrawC md0 hX mixed rfl rfl rfl rfl (by first | (first | exact True.intro | ((repeat' first | refine And.intro ?_ ?_ | intro _) <;> first | exact True.intro | (with_reducible exact rfl) | (with_reducible assumption) | omega | (simp only [sel, inK, segsOf, widthL, S0.width, List.cons_append, List.nil_append, List.length_cons, List.length_nil, Int.one_mul, implies_true, imp_self, btL, blL, bsL, ne_eq] <;> omega) | (simp only [sel, inK, segsOf, widthL, S0.width, List.cons_append, List.nil_append, List.length_cons, List.length_nil, Int.one_mul, implies_true, imp_self, btL, blL, bsL, ne_eq] at *; omega) | (simp only [sel, bsL, ne_eq] at *; simp_all <;> fail) | (simp [sel, segsOf, List.cons_append, List.nil_append, widthL, S0.width] <;> fail) | (simp only [ByteArray.size, List.size_toArray, List.length_cons, List.length_nil] <;> omega))) | fail) ?_
            | (with_reducible show SW _ (Code.region _ _ true) _ _ _); refine rDrawSC md0 hX mixed rfl rfl rfl rfl rfl (by first | (first | exact True.intro | ((repeat' first | refine And.intro ?_ ?_ | intro _) <;> first | exact True.intro | (with_reducible exact rfl) | (with_reducible assumption) | omega | (simp only [sel, inK, segsOf, widthL, S0.width, List.cons_append, List.nil_append, List.length_cons, List.length_nil, Int.one_mul, implies_true, imp_self, btL, blL, bsL, ne_eq] <;> omega) | (simp only [sel, inK, segsOf, widthL, S0.width, List.cons_append, List.nil_append, List.length_cons, List.length_nil, Int.one_mul, implies_true, imp_self, btL, blL, bsL, ne_eq] at *; omega) | (simp only [sel, bsL, ne_eq] at *; simp_all <;> fail) | (simp [sel, segsOf, List.cons_append, List.nil_append, widthL, S0.width] <;> fail) | (simp only [ByteArray.size, List.size_toArray, List.length_cons, List.length_nil] <;> omega))) | fail) ?_
            | (with_reducible show SW _ (Code.cond _ _ _) _ _ _); (refine rCond rfl rfl (by first | (first | exact True.intro | ((repeat' first | refine And.intro ?_ ?_ | intro _) <;> first | exact True.intro | (with_reducible exact rfl) | (with_reducible assumption) | omega | (simp only [sel, inK, segsOf, widthL, S0.width, List.cons_append, List.nil_append, List.length_cons, List.length_nil, Int.one_mul, implies_true, imp_self, btL, blL, bsL, ne_eq] <;> omega) | (simp only [sel, inK, segsOf, widthL, S0.width, List.cons_append, List.nil_append, List.length_cons, List.length_nil, Int.one_mul, implies_true, imp_self, btL, blL, bsL, ne_eq] at *; omega) | (simp only [sel, bsL, ne_eq] at *; simp_all <;> fail) | (simp [sel, segsOf, List.cons_append, List.nil_append, widthL, S0.width] <;> fail) | (simp only [ByteArray.size, List.size_toArray, List.length_cons, List.length_nil] <;> omega))) | fail) (fun h => ?_) (fun h => ?_) <;> (try (exact absurd h (by decide))) <;> (try simp only [blL, bsL, ne_eq] at h) <;> (try (exact absurd ‹_› ‹_›)) <;> (try (exfalso; omega)))
            | (with_reducible show SQ _ (Post _ _ _ _ _ _ _) .normal _ _); with_reducible refine rNormal ?_
            | (with_reducible show SQ _ (Post _ _ _ _ _ _ _) .ret _ _); (refine rNilRowQ 4 63 3 (.rows 0 3 (evF [] 0)) (nil_rows _ _) rfl rfl ?_; (first | (refine rDoneNew 1 hX rfl (by first | exact True.intro | ((repeat' first | refine And.intro ?_ ?_ | intro _) <;> first | exact True.intro | (with_reducible exact rfl) | (with_reducible assumption) | omega | (simp only [sel, inK, segsOf, widthL, S0.width, List.cons_append, List.nil_append, List.length_cons, List.length_nil, Int.one_mul, implies_true, imp_self, btL, blL, bsL, ne_eq] <;> omega) | (simp only [sel, inK, segsOf, widthL, S0.width, List.cons_append, List.nil_append, List.length_cons, List.length_nil, Int.one_mul, implies_true, imp_self, btL, blL, bsL, ne_eq] at *; omega) | (simp only [sel, bsL, ne_eq] at *; simp_all <;> fail) | (simp [sel, segsOf, List.cons_append, List.nil_append, widthL, S0.width] <;> fail) | (simp only [ByteArray.size, List.size_toArray, List.length_cons, List.length_nil] <;> omega))) (EnvLe.refl _) rfl rfl rfl rfl rfl (fun i hi => rfl) rfl rfl (by intro i e h; cases h)) | (refine rDoneNew 2 hX rfl (by first | exact True.intro | ((repeat' first | refine And.intro ?_ ?_ | intro _) <;> first | exact True.intro | (with_reducible exact rfl) | (with_reducible assumption) | omega | (simp only [sel, inK, segsOf, widthL, S0.width, List.cons_append, List.nil_append, List.length_cons, List.length_nil, Int.one_mul, implies_true, imp_self, btL, blL, bsL, ne_eq] <;> omega) | (simp only [sel, inK, segsOf, widthL, S0.width, List.cons_append, List.nil_append, List.length_cons, List.length_nil, Int.one_mul, implies_true, imp_self, btL, blL, bsL, ne_eq] at *; omega) | (simp only [sel, bsL, ne_eq] at *; simp_all <;> fail) | (simp [sel, segsOf, List.cons_append, List.nil_append, widthL, S0.width] <;> fail) | (simp only [ByteArray.size, List.size_toArray, List.length_cons, List.length_nil] <;> omega))) (EnvLe.refl _) rfl rfl rfl rfl rfl (fun i hi => rfl) rfl rfl (by intro i e h; cases h)) | (refine rDoneNew 3 hX rfl (by first | exact True.intro | ((repeat' first | refine And.intro ?_ ?_ | intro _) <;> first | exact True.intro | (with_reducible exact rfl) | (with_reducible assumption) | omega | (simp only [sel, inK, segsOf, widthL, S0.width, List.cons_append, List.nil_append, List.length_cons, List.length_nil, Int.one_mul, implies_true, imp_self, btL, blL, bsL, ne_eq] <;> omega) | (simp only [sel, inK, segsOf, widthL, S0.width, List.cons_append, List.nil_append, List.length_cons, List.length_nil, Int.one_mul, implies_true, imp_self, btL, blL, bsL, ne_eq] at *; omega) | (simp only [sel, bsL, ne_eq] at *; simp_all <;> fail) | (simp [sel, segsOf, List.cons_append, List.nil_append, widthL, S0.width] <;> fail) | (simp only [ByteArray.size, List.size_toArray, List.length_cons, List.length_nil] <;> omega))) (EnvLe.refl _) rfl rfl rfl rfl rfl (fun i hi => rfl) rfl rfl (by intro i e h; cases h)) | (refine rDoneNew 4 hX rfl (by first | exact True.intro | ((repeat' first | refine And.intro ?_ ?_ | intro _) <;> first | exact True.intro | (with_reducible exact rfl) | (with_reducible assumption) | omega | (simp only [sel, inK, segsOf, widthL, S0.width, List.cons_append, List.nil_append, List.length_cons, List.length_nil, Int.one_mul, implies_true, imp_self, btL, blL, bsL, ne_eq] <;> omega) | (simp only [sel, inK, segsOf, widthL, S0.width, List.cons_append, List.nil_append, List.length_cons, List.length_nil, Int.one_mul, implies_true, imp_self, btL, blL, bsL, ne_eq] at *; omega) | (simp only [sel, bsL, ne_eq] at *; simp_all <;> fail) | (simp [sel, segsOf, List.cons_append, List.nil_append, widthL, S0.width] <;> fail) | (simp only [ByteArray.size, List.size_toArray, List.length_cons, List.length_nil] <;> omega))) (EnvLe.refl _) rfl rfl rfl rfl rfl (fun i hi => rfl) rfl rfl (by intro i e h; cases h)) | (refine rDoneNew 5 hX rfl (by first | exact True.intro | ((repeat' first | refine And.intro ?_ ?_ | intro _) <;> first | exact True.intro | (with_reducible exact rfl) | (with_reducible assumption) | omega | (simp only [sel, inK, segsOf, widthL, S0.width, List.cons_append, List.nil_append, List.length_cons, List.length_nil, Int.one_mul, implies_true, imp_self, btL, blL, bsL, ne_eq] <;> omega) | (simp only [sel, inK, segsOf, widthL, S0.width, List.cons_append, List.nil_append, List.length_cons, List.length_nil, Int.one_mul, implies_true, imp_self, btL, blL, bsL, ne_eq] at *; omega) | (simp only [sel, bsL, ne_eq] at *; simp_all <;> fail) | (simp [sel, segsOf, List.cons_append, List.nil_append, widthL, S0.width] <;> fail) | (simp only [ByteArray.size, List.size_toArray, List.length_cons, List.length_nil] <;> omega))) (EnvLe.refl _) rfl rfl rfl rfl rfl (fun i hi => rfl) rfl rfl (by intro i e h; cases h)) | (refine rDoneNew 6 hX rfl (by first | exact True.intro | ((repeat' first | refine And.intro ?_ ?_ | intro _) <;> first | exact True.intro | (with_reducible exact rfl) | (with_reducible assumption) | omega | (simp only [sel, inK, segsOf, widthL, S0.width, List.cons_append, List.nil_append, List.length_cons, List.length_nil, Int.one_mul, implies_true, imp_self, btL, blL, bsL, ne_eq] <;> omega) | (simp only [sel, inK, segsOf, widthL, S0.width, List.cons_append, List.nil_append, List.length_cons, List.length_nil, Int.one_mul, implies_true, imp_self, btL, blL, bsL, ne_eq] at *; omega) | (simp only [sel, bsL, ne_eq] at *; simp_all <;> fail) | (simp [sel, segsOf, List.cons_append, List.nil_append, widthL, S0.width] <;> fail) | (simp only [ByteArray.size, List.size_toArray, List.length_cons, List.length_nil] <;> omega))) (EnvLe.refl _) rfl rfl rfl rfl rfl (fun i hi => rfl) rfl rfl (by intro i e h; cases h))))
        · skip
          all_goals repeat' first
            | (with_reducible show SQ _ (Exit.then (Again _ _ _ _ _) _) .normal _ _); refine rAgain0 ⟨i + 1, by omega, all_next hall (bad_not (by omega))⟩ (by first | (first | omega | (dsimp only; omega) | fail) | fail) (by first | (refine Le.mk ?_ ?_ rfl <;> (repeat' first | exact RLe.nil | refine RLe.cons rfl ?_ ?_ | exact BLe.nil | refine BLe.cons rfl ?_ ?_) <;> (first | exact SVle.int (by (try dsimp only); first | (rw [g1]; omega) | fail) | exact SVle.sl rfl (by (try dsimp only); rw [g2]) | exact Ele.eq (by (try dsimp only); rw [g2]) | exact SVle.refl _ | exact Ele.refl _ | exact SVle.int (by first | omega | (dsimp only; omega) | fail) | exact SVle.bool (by rfl) | exact SVle.ints (by rfl) | exact Ele.mem (Ble.ints (by rfl)))) | fail)
            | with_reducible refine rSeq ?_
            | with_reducible refine rThen ?_
            | with_reducible refine rBlock ?_
            | with_reducible refine rThenRet ?_
            | with_reducible refine rThenExit ?_
            | with_reducible refine rInRet ?_
            | with_reducible refine rInNormal ?_
            | with_reducible refine rInHit ?_
            | with_reducible refine rInMiss rfl ?_
            | with_reducible refine rRet ?_
            | with_reducible refine rExit ?_
            | with_reducible refine rSkip ?_
            | with_reducible refine rLabel ?_
            | with_reducible refine rScope ?_
            | with_reducible refine rNoGotoRet ?_
            | with_reducible refine rNoGotoNormal ?_
            | (with_reducible show SW _ (Code.region _ _ false) _ _ _); refine rRegC md0 hX rfl rfl rfl (by first | (first | exact True.intro | ((repeat' first | refine And.intro ?_ ?_ | intro _) <;> first | exact True.intro | (with_reducible exact rfl) | (with_reducible assumption) | omega | (simp only [sel, inK, segsOf, widthL, S0.width, List.cons_append, List.nil_append, List.length_cons, List.length_nil, Int.one_mul, implies_true, imp_self, btL, blL, bsL, ne_eq] <;> omega) | (simp only [sel, inK, segsOf, widthL, S0.width, List.cons_append, List.nil_append, List.length_cons, List.length_nil, Int.one_mul, implies_true, imp_self, btL, blL, bsL, ne_eq] at *; omega) | (simp only [sel, bsL, ne_eq] at *; simp_all <;> fail) | (simp [sel, segsOf, List.cons_append, List.nil_append, widthL, S0.width] <;> fail) | (simp only [ByteArray.size, List.size_toArray, List.length_cons, List.length_nil] <;> omega))) | fail) ?_
            | (with_reducible show SW _ (Code.region _ _ true) _ _ _); refine rDrawC md0 hX mixed rfl rfl rfl rfl (by first | (first | exact True.intro | ((repeat' first | refine And.intro ?_ ?_ | intro _) <;> first | exact True.intro | (with_reducible exact rfl) | (with_reducible assumption) | omega | (simp only [sel, inK, segsOf, widthL, S0.width, List.cons_append, List.nil_append, List.length_cons, List.length_nil, Int.one_mul, implies_true, imp_self, btL, blL, bsL, ne_eq] <;> omega) | (simp only [sel, inK, segsOf, widthL, S0.width, List.cons_append, List.nil_append, List.length_cons, List.length_nil, Int.one_mul, implies_true, imp_self, btL, blL, bsL, ne_eq] at *; omega) | (simp only [sel, bsL, ne_eq] at *; simp_all <;> fail) | (simp [sel, segsOf, List.cons_append, List.nil_append, widthL, S0.width] <;> fail) | (simp only [ByteArray.size, List.size_toArray, List.length_cons, List.length_nil] <;> omega))) | fail) ?_
            | (with_reducible show SW _ (Code.region _ _ true) _ _ _); refine rDrawSC md0 hX mixed rfl rfl rfl rfl rfl (by first | (first | exact True.intro | ((repeat' first | refine And.intro ?_ ?_ | intro _) <;> first | exact True.intro | (with_reducible exact rfl) | (with_reducible assumption) | omega | (simp only [sel, inK, segsOf, widthL, S0.width, List.cons_append, List.nil_append, List.length_cons, List.length_nil, Int.one_mul, implies_true, imp_self, btL, blL, bsL, ne_eq] <;> omega) | (simp only [sel, inK, segsOf, widthL, S0.width, List.cons_append, List.nil_append, List.length_cons, List.length_nil, Int.one_mul, implies_true, imp_self, btL, blL, bsL, ne_eq] at *; omega) | (simp only [sel, bsL, ne_eq] at *; simp_all <;> fail) | (simp [sel, segsOf, List.cons_append, List.nil_append, widthL, S0.width] <;> fail) | (simp only [ByteArray.size, List.size_toArray, List.length_cons, List.length_nil] <;> omega))) | fail) ?_
            | (with_reducible show SW _ (Code.cond _ _ _) _ _ _); (refine rCond rfl rfl (by first | (first | exact True.intro | ((repeat' first | refine And.intro ?_ ?_ | intro _) <;> first | exact True.intro | (with_reducible exact rfl) | (with_reducible assumption) | omega | (simp only [sel, inK, segsOf, widthL, S0.width, List.cons_append, List.nil_append, List.length_cons, List.length_nil, Int.one_mul, implies_true, imp_self, btL, blL, bsL, ne_eq] <;> omega) | (simp only [sel, inK, segsOf, widthL, S0.width, List.cons_append, List.nil_append, List.length_cons, List.length_nil, Int.one_mul, implies_true, imp_self, btL, blL, bsL, ne_eq] at *; omega) | (simp only [sel, bsL, ne_eq] at *; simp_all <;> fail) | (simp [sel, segsOf, List.cons_append, List.nil_append, widthL, S0.width] <;> fail) | (simp only [ByteArray.size, List.size_toArray, List.length_cons, List.length_nil] <;> omega))) | fail) (fun h => ?_) (fun h => ?_) <;> (try (exact absurd h (by decide))) <;> (try simp only [blL, bsL, ne_eq] at h) <;> (try (exact absurd ‹_› ‹_›)) <;> (try (exfalso; omega)))
            | (with_reducible show SQ _ (Post _ _ _ _ _ _ _) .normal _ _); with_reducible refine rNormal ?_
        · skip
          all_goals repeat' first
            | (with_reducible show SQ _ (Exit.then (Again _ _ _ _ _) _) .normal _ _); (refine rAgainR (fun i => bif Nat.beq i 1 then 3 else i) 0 ⟨i + 1, by omega, all_next hall (bad_not (by omega))⟩ (by first | omega | (dsimp only; omega) | fail) (by assumption) (by dsimp only; omega) rfl rfl rfl (by first | (exact ⟨⟨rfl, fun i hi => rfl⟩, True.intro⟩) | fail) ?_ ?_ <;> (repeat' first | exact RLe.nil | refine RLe.cons rfl ?_ ?_ | exact BLe.nil | refine BLe.cons rfl ?_ ?_) <;> (first | exact SVle.int (by (try dsimp only); rw [g5]; omega) | exact SVle.sl rfl (by (try dsimp only); rw [g6, List.length_append]; rfl) | exact Ele.mem (Ble.rows (by (try dsimp only); rw [g6, List.length_append]; rfl) fun j hj => (by (try dsimp only); rw [g6]; exact evF_snoc _ _ _ j hj)) | exact SVle.refl _ | exact Ele.refl _ | exact SVle.int (by first | omega | (dsimp only; omega) | fail) | exact SVle.bool (by rfl) | exact SVle.ints (by rfl) | exact Ele.mem (Ble.ints (by rfl))))
            | with_reducible refine rSeq ?_
            | with_reducible refine rThen ?_
            | with_reducible refine rBlock ?_
            | with_reducible refine rThenRet ?_
            | with_reducible refine rThenExit ?_
            | with_reducible refine rInRet ?_
            | with_reducible refine rInNormal ?_
            | with_reducible refine rInHit ?_
            | with_reducible refine rInMiss rfl ?_
            | with_reducible refine rRet ?_
            | with_reducible refine rExit ?_
            | with_reducible refine rSkip ?_
            | with_reducible refine rLabel ?_
            | with_reducible refine rScope ?_
            | with_reducible refine rNoGotoRet ?_
            | with_reducible refine rNoGotoNormal ?_
            | (with_reducible show SW _ (Code.region _ _ false) _ _ _); refine rRegC md0 hX rfl rfl rfl (by first | (first | exact True.intro | ((repeat' first | refine And.intro ?_ ?_ | intro _) <;> first | exact True.intro | (with_reducible exact rfl) | (with_reducible assumption) | omega | (simp only [sel, inK, segsOf, widthL, S0.width, List.cons_append, List.nil_append, List.length_cons, List.length_nil, Int.one_mul, implies_true, imp_self, btL, blL, bsL, ne_eq] <;> omega) | (simp only [sel, inK, segsOf, widthL, S0.width, List.cons_append, List.nil_append, List.length_cons, List.length_nil, Int.one_mul, implies_true, imp_self, btL, blL, bsL, ne_eq] at *; omega) | (simp only [sel, bsL, ne_eq] at *; simp_all <;> fail) | (simp [sel, segsOf, List.cons_append, List.nil_append, widthL, S0.width] <;> fail) | (simp only [ByteArray.size, List.size_toArray, List.length_cons, List.length_nil] <;> omega))) | fail) ?_
            | (with_reducible show SW _ (Code.region _ _ true) _ _ _); refine rDrawC md0 hX mixed rfl rfl rfl rfl (by first | (first | exact True.intro | ((repeat' first | refine And.intro ?_ ?_ | intro _) <;> first | exact True.intro | (with_reducible exact rfl) | (with_reducible assumption) | omega | (simp only [sel, inK, segsOf, widthL, S0.width, List.cons_append, List.nil_append, List.length_cons, List.length_nil, Int.one_mul, implies_true, imp_self, btL, blL, bsL, ne_eq] <;> omega) | (simp only [sel, inK, segsOf, widthL, S0.width, List.cons_append, List.nil_append, List.length_cons, List.length_nil, Int.one_mul, implies_true, imp_self, btL, blL, bsL, ne_eq] at *; omega) | (simp only [sel, bsL, ne_eq] at *; simp_all <;> fail) | (simp [sel, segsOf, List.cons_append, List.nil_append, widthL, S0.width] <;> fail) | (simp only [ByteArray.size, List.size_toArray, List.length_cons, List.length_nil] <;> omega))) | fail) ?_
            | (with_reducible show SW _ (Code.region _ _ true) _ _ _); refine rDrawSC md0 hX mixed rfl rfl rfl rfl rfl (by first | (first | exact True.intro | ((repeat' first | refine And.intro ?_ ?_ | intro _) <;> first | exact True.intro | (with_reducible exact rfl) | (with_reducible assumption) | omega | (simp only [sel, inK, segsOf, widthL, S0.width, List.cons_append, List.nil_append, List.length_cons, List.length_nil, Int.one_mul, implies_true, imp_self, btL, blL, bsL, ne_eq] <;> omega) | (simp only [sel, inK, segsOf, widthL, S0.width, List.cons_append, List.nil_append, List.length_cons, List.length_nil, Int.one_mul, implies_true, imp_self, btL, blL, bsL, ne_eq] at *; omega) | (simp only [sel, bsL, ne_eq] at *; simp_all <;> fail) | (simp [sel, segsOf, List.cons_append, List.nil_append, widthL, S0.width] <;> fail) | (simp only [ByteArray.size, List.size_toArray, List.length_cons, List.length_nil] <;> omega))) | fail) ?_
            | (with_reducible show SW _ (Code.cond _ _ _) _ _ _); (refine rCond rfl rfl (by first | (first | exact True.intro | ((repeat' first | refine And.intro ?_ ?_ | intro _) <;> first | exact True.intro | (with_reducible exact rfl) | (with_reducible assumption) | omega | (simp only [sel, inK, segsOf, widthL, S0.width, List.cons_append, List.nil_append, List.length_cons, List.length_nil, Int.one_mul, implies_true, imp_self, btL, blL, bsL, ne_eq] <;> omega) | (simp only [sel, inK, segsOf, widthL, S0.width, List.cons_append, List.nil_append, List.length_cons, List.length_nil, Int.one_mul, implies_true, imp_self, btL, blL, bsL, ne_eq] at *; omega) | (simp only [sel, bsL, ne_eq] at *; simp_all <;> fail) | (simp [sel, segsOf, List.cons_append, List.nil_append, widthL, S0.width] <;> fail) | (simp only [ByteArray.size, List.size_toArray, List.length_cons, List.length_nil] <;> omega))) | fail) (fun h => ?_) (fun h => ?_) <;> (try (exact absurd h (by decide))) <;> (try simp only [blL, bsL, ne_eq] at h) <;> (try (exact absurd ‹_› ‹_›)) <;> (try (exfalso; omega)))
            | (with_reducible show SQ _ (Post _ _ _ _ _ _ _) .normal _ _); with_reducible refine rNormal ?_
      · obtain rfl : i = 64 := by omega
        exact absurd hex (fun ⟨q, hq, hb⟩ => hall q hq hb)
    · skip
      all_goals repeat' first
        | with_reducible refine rSeq ?_
        | with_reducible refine rThen ?_
        | with_reducible refine rBlock ?_
        | with_reducible refine rThenRet ?_
        | with_reducible refine rThenExit ?_
        | with_reducible refine rInRet ?_
        | with_reducible refine rInNormal ?_
        | with_reducible refine rInHit ?_
        | with_reducible refine rInMiss rfl ?_
        | with_reducible refine rRet ?_
        | with_reducible refine rExit ?_
        | with_reducible refine rSkip ?_
        | with_reducible refine rLabel ?_
        | with_reducible refine rScope ?_
        | with_reducible refine rNoGotoRet ?_
        | with_reducible refine rNoGotoNormal ?_
        | (with_reducible show SW _ (Code.region _ _ false) _ _ _); refine rRegC md0 hX rfl rfl rfl (by first | (first | exact True.intro | ((repeat' first | refine And.intro ?_ ?_ | intro _) <;> first | exact True.intro | (with_reducible exact rfl) | (with_reducible assumption) | omega | (simp only [sel, inK, segsOf, widthL, S0.width, List.cons_append, List.nil_append, List.length_cons, List.length_nil, Int.one_mul, implies_true, imp_self, btL, blL, bsL, ne_eq] <;> omega) | (simp only [sel, inK, segsOf, widthL, S0.width, List.cons_append, List.nil_append, List.length_cons, List.length_nil, Int.one_mul, implies_true, imp_self, btL, blL, bsL, ne_eq] at *; omega) | (simp only [sel, bsL, ne_eq] at *; simp_all <;> fail) | (simp [sel, segsOf, List.cons_append, List.nil_append, widthL, S0.width] <;> fail) | (simp only [ByteArray.size, List.size_toArray, List.length_cons, List.length_nil] <;> omega))) | fail) ?_
        | (with_reducible show SW _ (Code.region _ _ true) _ _ _); refine rDrawC md0 hX mixed rfl rfl rfl rfl (by first | (first | exact True.intro | ((repeat' first | refine And.intro ?_ ?_ | intro _) <;> first | exact True.intro | (with_reducible exact rfl) | (with_reducible assumption) | omega | (simp only [sel, inK, segsOf, widthL, S0.width, List.cons_append, List.nil_append, List.length_cons, List.length_nil, Int.one_mul, implies_true, imp_self, btL, blL, bsL, ne_eq] <;> omega) | (simp only [sel, inK, segsOf, widthL, S0.width, List.cons_append, List.nil_append, List.length_cons, List.length_nil, Int.one_mul, implies_true, imp_self, btL, blL, bsL, ne_eq] at *; omega) | (simp only [sel, bsL, ne_eq] at *; simp_all <;> fail) | (simp [sel, segsOf, List.cons_append, List.nil_append, widthL, S0.width] <;> fail) | (simp only [ByteArray.size, List.size_toArray, List.length_cons, List.length_nil] <;> omega))) | fail) ?_
        | (with_reducible show SW _ (Code.region _ _ true) _ _ _); refine rDrawSC md0 hX mixed rfl rfl rfl rfl rfl (by first | (first | exact True.intro | ((repeat' first | refine And.intro ?_ ?_ | intro _) <;> first | exact True.intro | (with_reducible exact rfl) | (with_reducible assumption) | omega | (simp only [sel, inK, segsOf, widthL, S0.width, List.cons_append, List.nil_append, List.length_cons, List.length_nil, Int.one_mul, implies_true, imp_self, btL, blL, bsL, ne_eq] <;> omega) | (simp only [sel, inK, segsOf, widthL, S0.width, List.cons_append, List.nil_append, List.length_cons, List.length_nil, Int.one_mul, implies_true, imp_self, btL, blL, bsL, ne_eq] at *; omega) | (simp only [sel, bsL, ne_eq] at *; simp_all <;> fail) | (simp [sel, segsOf, List.cons_append, List.nil_append, widthL, S0.width] <;> fail) | (simp only [ByteArray.size, List.size_toArray, List.length_cons, List.length_nil] <;> omega))) | fail) ?_
        | (with_reducible show SW _ (Code.cond _ _ _) _ _ _); (refine rCond rfl rfl (by first | (first | exact True.intro | ((repeat' first | refine And.intro ?_ ?_ | intro _) <;> first | exact True.intro | (with_reducible exact rfl) | (with_reducible assumption) | omega | (simp only [sel, inK, segsOf, widthL, S0.width, List.cons_append, List.nil_append, List.length_cons, List.length_nil, Int.one_mul, implies_true, imp_self, btL, blL, bsL, ne_eq] <;> omega) | (simp only [sel, inK, segsOf, widthL, S0.width, List.cons_append, List.nil_append, List.length_cons, List.length_nil, Int.one_mul, implies_true, imp_self, btL, blL, bsL, ne_eq] at *; omega) | (simp only [sel, bsL, ne_eq] at *; simp_all <;> fail) | (simp [sel, segsOf, List.cons_append, List.nil_append, widthL, S0.width] <;> fail) | (simp only [ByteArray.size, List.size_toArray, List.length_cons, List.length_nil] <;> omega))) | fail) (fun h => ?_) (fun h => ?_) <;> (try (exact absurd h (by decide))) <;> (try simp only [blL, bsL, ne_eq] at h) <;> (try (exact absurd ‹_› ‹_›)) <;> (try (exfalso; omega)))
        | (with_reducible show SQ _ (Post _ _ _ _ _ _ _) .normal _ _); with_reducible refine rNormal ?_
        | (with_reducible show SQ _ (Post _ _ _ _ _ _ _) .ret _ _); (refine rNilRowQ 4 63 3 (.rows 0 3 (evF [] 0)) (nil_rows _ _) rfl rfl ?_; (first | (refine rDoneNew 1 hX rfl (by first | exact True.intro | ((repeat' first | refine And.intro ?_ ?_ | intro _) <;> first | exact True.intro | (with_reducible exact rfl) | (with_reducible assumption) | omega | (simp only [sel, inK, segsOf, widthL, S0.width, List.cons_append, List.nil_append, List.length_cons, List.length_nil, Int.one_mul, implies_true, imp_self, btL, blL, bsL, ne_eq] <;> omega) | (simp only [sel, inK, segsOf, widthL, S0.width, List.cons_append, List.nil_append, List.length_cons, List.length_nil, Int.one_mul, implies_true, imp_self, btL, blL, bsL, ne_eq] at *; omega) | (simp only [sel, bsL, ne_eq] at *; simp_all <;> fail) | (simp [sel, segsOf, List.cons_append, List.nil_append, widthL, S0.width] <;> fail) | (simp only [ByteArray.size, List.size_toArray, List.length_cons, List.length_nil] <;> omega))) (EnvLe.refl _) rfl rfl rfl rfl rfl (fun i hi => rfl) rfl rfl (by intro i e h; cases h)) | (refine rDoneNew 2 hX rfl (by first | exact True.intro | ((repeat' first | refine And.intro ?_ ?_ | intro _) <;> first | exact True.intro | (with_reducible exact rfl) | (with_reducible assumption) | omega | (simp only [sel, inK, segsOf, widthL, S0.width, List.cons_append, List.nil_append, List.length_cons, List.length_nil, Int.one_mul, implies_true, imp_self, btL, blL, bsL, ne_eq] <;> omega) | (simp only [sel, inK, segsOf, widthL, S0.width, List.cons_append, List.nil_append, List.length_cons, List.length_nil, Int.one_mul, implies_true, imp_self, btL, blL, bsL, ne_eq] at *; omega) | (simp only [sel, bsL, ne_eq] at *; simp_all <;> fail) | (simp [sel, segsOf, List.cons_append, List.nil_append, widthL, S0.width] <;> fail) | (simp only [ByteArray.size, List.size_toArray, List.length_cons, List.length_nil] <;> omega))) (EnvLe.refl _) rfl rfl rfl rfl rfl (fun i hi => rfl) rfl rfl (by intro i e h; cases h)) | (refine rDoneNew 3 hX rfl (by first | exact True.intro | ((repeat' first | refine And.intro ?_ ?_ | intro _) <;> first | exact True.intro | (with_reducible exact rfl) | (with_reducible assumption) | omega | (simp only [sel, inK, segsOf, widthL, S0.width, List.cons_append, List.nil_append, List.length_cons, List.length_nil, Int.one_mul, implies_true, imp_self, btL, blL, bsL, ne_eq] <;> omega) | (simp only [sel, inK, segsOf, widthL, S0.width, List.cons_append, List.nil_append, List.length_cons, List.length_nil, Int.one_mul, implies_true, imp_self, btL, blL, bsL, ne_eq] at *; omega) | (simp only [sel, bsL, ne_eq] at *; simp_all <;> fail) | (simp [sel, segsOf, List.cons_append, List.nil_append, widthL, S0.width] <;> fail) | (simp only [ByteArray.size, List.size_toArray, List.length_cons, List.length_nil] <;> omega))) (EnvLe.refl _) rfl rfl rfl rfl rfl (fun i hi => rfl) rfl rfl (by intro i e h; cases h)) | (refine rDoneNew 4 hX rfl (by first | exact True.intro | ((repeat' first | refine And.intro ?_ ?_ | intro _) <;> first | exact True.intro | (with_reducible exact rfl) | (with_reducible assumption) | omega | (simp only [sel, inK, segsOf, widthL, S0.width, List.cons_append, List.nil_append, List.length_cons, List.length_nil, Int.one_mul, implies_true, imp_self, btL, blL, bsL, ne_eq] <;> omega) | (simp only [sel, inK, segsOf, widthL, S0.width, List.cons_append, List.nil_append, List.length_cons, List.length_nil, Int.one_mul, implies_true, imp_self, btL, blL, bsL, ne_eq] at *; omega) | (simp only [sel, bsL, ne_eq] at *; simp_all <;> fail) | (simp [sel, segsOf, List.cons_append, List.nil_append, widthL, S0.width] <;> fail) | (simp only [ByteArray.size, List.size_toArray, List.length_cons, List.length_nil] <;> omega))) (EnvLe.refl _) rfl rfl rfl rfl rfl (fun i hi => rfl) rfl rfl (by intro i e h; cases h)) | (refine rDoneNew 5 hX rfl (by first | exact True.intro | ((repeat' first | refine And.intro ?_ ?_ | intro _) <;> first | exact True.intro | (with_reducible exact rfl) | (with_reducible assumption) | omega | (simp only [sel, inK, segsOf, widthL, S0.width, List.cons_append, List.nil_append, List.length_cons, List.length_nil, Int.one_mul, implies_true, imp_self, btL, blL, bsL, ne_eq] <;> omega) | (simp only [sel, inK, segsOf, widthL, S0.width, List.cons_append, List.nil_append, List.length_cons, List.length_nil, Int.one_mul, implies_true, imp_self, btL, blL, bsL, ne_eq] at *; omega) | (simp only [sel, bsL, ne_eq] at *; simp_all <;> fail) | (simp [sel, segsOf, List.cons_append, List.nil_append, widthL, S0.width] <;> fail) | (simp only [ByteArray.size, List.size_toArray, List.length_cons, List.length_nil] <;> omega))) (EnvLe.refl _) rfl rfl rfl rfl rfl (fun i hi => rfl) rfl rfl (by intro i e h; cases h)) | (refine rDoneNew 6 hX rfl (by first | exact True.intro | ((repeat' first | refine And.intro ?_ ?_ | intro _) <;> first | exact True.intro | (with_reducible exact rfl) | (with_reducible assumption) | omega | (simp only [sel, inK, segsOf, widthL, S0.width, List.cons_append, List.nil_append, List.length_cons, List.length_nil, Int.one_mul, implies_true, imp_self, btL, blL, bsL, ne_eq] <;> omega) | (simp only [sel, inK, segsOf, widthL, S0.width, List.cons_append, List.nil_append, List.length_cons, List.length_nil, Int.one_mul, implies_true, imp_self, btL, blL, bsL, ne_eq] at *; omega) | (simp only [sel, bsL, ne_eq] at *; simp_all <;> fail) | (simp [sel, segsOf, List.cons_append, List.nil_append, widthL, S0.width] <;> fail) | (simp only [ByteArray.size, List.size_toArray, List.length_cons, List.length_nil] <;> omega))) (EnvLe.refl _) rfl rfl rfl rfl rfl (fun i hi => rfl) rfl rfl (by intro i e h; cases h))))
      refine rNilRow 6 63 3 (.rows 0 3 (evF [] 0)) (nil_rows _ _) rfl rfl ?_
      refine rLoopF (fun i : {i : Nat // i ≤ 64 ∧ ∀ j, j < i → ¬ evBad xs f j} => ⟨[(1, i64 f), (6, .v (.c (.sl 1 0 (evA xs f i.1).length 3))), (7, i64 (runA xs f i.1)), (16, .v (.agg [.ints 64 .i64 xs])), (17, i64 (i.1 : Int))], [(1, .mem true 63 (some 3) (.rows (evA xs f i.1).length 3 (evF (evA xs f i.1) 0)))], 2⟩) (fun i => 64 - i.1) 2 (fun _ => rfl) ⟨0, by omega, fun j hj => by omega⟩ (by (refine Le.mk ?_ ?_ rfl <;> (repeat' first | exact RLe.nil | refine RLe.cons rfl ?_ ?_ | exact BLe.nil | refine BLe.cons rfl ?_ ?_) <;> (first  | exact SVle.refl _ | exact Ele.refl _ | exact SVle.int (by first | omega | (dsimp only; omega) | fail) | exact SVle.bool (by rfl) | exact SVle.ints (by rfl) | exact Ele.mem (Ble.ints (by rfl))))) ?_
      rintro ⟨i, hi, hall⟩ hN
      change SW _ _ _ _ ⟨[(1, i64 f), (6, .v (.c (.sl 1 0 (evA xs f i).length 3))), (7, i64 (runA xs f i)), (16, .v (.agg [.ints 64 .i64 xs])), (17, i64 (i : Int))], [(1, .mem true 63 (some 3) (.rows (evA xs f i).length 3 (evF (evA xs f i) 0)))], 2⟩
      have hri := run_in xs f i
      have hel := ev_len xs f i
      by_cases hlt : i < 64
      · rcases ev_round xs f i with ⟨g0, g1, g2⟩ | ⟨g0, gb, g1⟩ | ⟨g0, g3, g1, g2⟩ | ⟨g0, g3, g4, g4', g5, g6⟩
        · skip
          all_goals repeat' first
            | (with_reducible show SQ _ (Exit.then (Again _ _ _ _ _) _) .normal _ _); refine rAgain0 ⟨i + 1, by omega, all_next hall (bad_not (by omega))⟩ (by first | (first | omega | (dsimp only; omega) | fail) | fail) (by first | (refine Le.mk ?_ ?_ rfl <;> (repeat' first | exact RLe.nil | refine RLe.cons rfl ?_ ?_ | exact BLe.nil | refine BLe.cons rfl ?_ ?_) <;> (first | exact SVle.int (by (try dsimp only); first | (rw [g1]; omega) | fail) | exact SVle.sl rfl (by (try dsimp only); rw [g2]) | exact Ele.eq (by (try dsimp only); rw [g2]) | exact SVle.refl _ | exact Ele.refl _ | exact SVle.int (by first | omega | (dsimp only; omega) | fail) | exact SVle.bool (by rfl) | exact SVle.ints (by rfl) | exact Ele.mem (Ble.ints (by rfl)))) | fail)
            | with_reducible refine rSeq ?_
            | with_reducible refine rThen ?_
            | with_reducible refine rBlock ?_
            | with_reducible refine rThenRet ?_
            | with_reducible refine rThenExit ?_
            | with_reducible refine rInRet ?_
            | with_reducible refine rInNormal ?_
            | with_reducible refine rInHit ?_
            | with_reducible refine rInMiss rfl ?_
            | with_reducible refine rRet ?_
            | with_reducible refine rExit ?_
            | with_reducible refine rSkip ?_
            | with_reducible refine rLabel ?_
            | with_reducible refine rScope ?_
            | with_reducible refine rNoGotoRet ?_
            | with_reducible refine rNoGotoNormal ?_
            | (with_reducible show SW _ (Code.region _ _ false) _ _ _); refine rRegC md0 hX rfl rfl rfl (by first | (first | exact True.intro | ((repeat' first | refine And.intro ?_ ?_ | intro _) <;> first | exact True.intro | (with_reducible exact rfl) | (with_reducible assumption) | omega | (simp only [sel, inK, segsOf, widthL, S0.width, List.cons_append, List.nil_append, List.length_cons, List.length_nil, Int.one_mul, implies_true, imp_self, btL, blL, bsL, ne_eq] <;> omega) | (simp only [sel, inK, segsOf, widthL, S0.width, List.cons_append, List.nil_append, List.length_cons, List.length_nil, Int.one_mul, implies_true, imp_self, btL, blL, bsL, ne_eq] at *; omega) | (simp only [sel, bsL, ne_eq] at *; simp_all <;> fail) | (simp [sel, segsOf, List.cons_append, List.nil_append, widthL, S0.width] <;> fail) | (simp only [ByteArray.size, List.size_toArray, List.length_cons, List.length_nil] <;> omega))) | fail) ?_
            | (with_reducible show SW _ (Code.region _ _ true) _ _ _); refine rDrawC md0 hX mixed rfl rfl rfl rfl (by first | (first | exact True.intro | ((repeat' first | refine And.intro ?_ ?_ | intro _) <;> first | exact True.intro | (with_reducible exact rfl) | (with_reducible assumption) | omega | (simp only [sel, inK, segsOf, widthL, S0.width, List.cons_append, List.nil_append, List.length_cons, List.length_nil, Int.one_mul, implies_true, imp_self, btL, blL, bsL, ne_eq] <;> omega) | (simp only [sel, inK, segsOf, widthL, S0.width, List.cons_append, List.nil_append, List.length_cons, List.length_nil, Int.one_mul, implies_true, imp_self, btL, blL, bsL, ne_eq] at *; omega) | (simp only [sel, bsL, ne_eq] at *; simp_all <;> fail) | (simp [sel, segsOf, List.cons_append, List.nil_append, widthL, S0.width] <;> fail) | (simp only [ByteArray.size, List.size_toArray, List.length_cons, List.length_nil] <;> omega))) | fail) ?_
            | (with_reducible show SW _ (Code.region _ _ true) _ _ _); refine rDrawSC md0 hX mixed rfl rfl rfl rfl rfl (by first | (first | exact True.intro | ((repeat' first | refine And.intro ?_ ?_ | intro _) <;> first | exact True.intro | (with_reducible exact rfl) | (with_reducible assumption) | omega | (simp only [sel, inK, segsOf, widthL, S0.width, List.cons_append, List.nil_append, List.length_cons, List.length_nil, Int.one_mul, implies_true, imp_self, btL, blL, bsL, ne_eq] <;> omega) | (simp only [sel, inK, segsOf, widthL, S0.width, List.cons_append, List.nil_append, List.length_cons, List.length_nil, Int.one_mul, implies_true, imp_self, btL, blL, bsL, ne_eq] at *; omega) | (simp only [sel, bsL, ne_eq] at *; simp_all <;> fail) | (simp [sel, segsOf, List.cons_append, List.nil_append, widthL, S0.width] <;> fail) | (simp only [ByteArray.size, List.size_toArray, List.length_cons, List.length_nil] <;> omega))) | fail) ?_
            | (with_reducible show SW _ (Code.cond _ _ _) _ _ _); (refine rCond rfl rfl (by first | (first | exact True.intro | ((repeat' first | refine And.intro ?_ ?_ | intro _) <;> first | exact True.intro | (with_reducible exact rfl) | (with_reducible assumption) | omega | (simp only [sel, inK, segsOf, widthL, S0.width, List.cons_append, List.nil_append, List.length_cons, List.length_nil, Int.one_mul, implies_true, imp_self, btL, blL, bsL, ne_eq] <;> omega) | (simp only [sel, inK, segsOf, widthL, S0.width, List.cons_append, List.nil_append, List.length_cons, List.length_nil, Int.one_mul, implies_true, imp_self, btL, blL, bsL, ne_eq] at *; omega) | (simp only [sel, bsL, ne_eq] at *; simp_all <;> fail) | (simp [sel, segsOf, List.cons_append, List.nil_append, widthL, S0.width] <;> fail) | (simp only [ByteArray.size, List.size_toArray, List.length_cons, List.length_nil] <;> omega))) | fail) (fun h => ?_) (fun h => ?_) <;> (try (exact absurd h (by decide))) <;> (try simp only [blL, bsL, ne_eq] at h) <;> (try (exact absurd ‹_› ‹_›)) <;> (try (exfalso; omega)))
            | (with_reducible show SQ _ (Post _ _ _ _ _ _ _) .normal _ _); with_reducible refine rNormal ?_
        · exact absurd gb (hok i hlt)
        · skip
          all_goals repeat' first
            | (with_reducible show SQ _ (Exit.then (Again _ _ _ _ _) _) .normal _ _); refine rAgain0 ⟨i + 1, by omega, all_next hall (bad_not (by omega))⟩ (by first | (first | omega | (dsimp only; omega) | fail) | fail) (by first | (refine Le.mk ?_ ?_ rfl <;> (repeat' first | exact RLe.nil | refine RLe.cons rfl ?_ ?_ | exact BLe.nil | refine BLe.cons rfl ?_ ?_) <;> (first | exact SVle.int (by (try dsimp only); first | (rw [g1]; omega) | fail) | exact SVle.sl rfl (by (try dsimp only); rw [g2]) | exact Ele.eq (by (try dsimp only); rw [g2]) | exact SVle.refl _ | exact Ele.refl _ | exact SVle.int (by first | omega | (dsimp only; omega) | fail) | exact SVle.bool (by rfl) | exact SVle.ints (by rfl) | exact Ele.mem (Ble.ints (by rfl)))) | fail)
            | with_reducible refine rSeq ?_
            | with_reducible refine rThen ?_
            | with_reducible refine rBlock ?_
            | with_reducible refine rThenRet ?_
            | with_reducible refine rThenExit ?_
            | with_reducible refine rInRet ?_
            | with_reducible refine rInNormal ?_
            | with_reducible refine rInHit ?_
            | with_reducible refine rInMiss rfl ?_
            | with_reducible refine rRet ?_
            | with_reducible refine rExit ?_
            | with_reducible refine rSkip ?_
            | with_reducible refine rLabel ?_
            | with_reducible refine rScope ?_
            | with_reducible refine rNoGotoRet ?_
            | with_reducible refine rNoGotoNormal ?_
            | (with_reducible show SW _ (Code.region _ _ false) _ _ _); refine rRegC md0 hX rfl rfl rfl (by first | (first | exact True.intro | ((repeat' first | refine And.intro ?_ ?_ | intro _) <;> first | exact True.intro | (with_reducible exact rfl) | (with_reducible assumption) | omega | (simp only [sel, inK, segsOf, widthL, S0.width, List.cons_append, List.nil_append, List.length_cons, List.length_nil, Int.one_mul, implies_true, imp_self, btL, blL, bsL, ne_eq] <;> omega) | (simp only [sel, inK, segsOf, widthL, S0.width, List.cons_append, List.nil_append, List.length_cons, List.length_nil, Int.one_mul, implies_true, imp_self, btL, blL, bsL, ne_eq] at *; omega) | (simp only [sel, bsL, ne_eq] at *; simp_all <;> fail) | (simp [sel, segsOf, List.cons_append, List.nil_append, widthL, S0.width] <;> fail) | (simp only [ByteArray.size, List.size_toArray, List.length_cons, List.length_nil] <;> omega))) | fail) ?_
            | (with_reducible show SW _ (Code.region _ _ true) _ _ _); refine rDrawC md0 hX mixed rfl rfl rfl rfl (by first | (first | exact True.intro | ((repeat' first | refine And.intro ?_ ?_ | intro _) <;> first | exact True.intro | (with_reducible exact rfl) | (with_reducible assumption) | omega | (simp only [sel, inK, segsOf, widthL, S0.width, List.cons_append, List.nil_append, List.length_cons, List.length_nil, Int.one_mul, implies_true, imp_self, btL, blL, bsL, ne_eq] <;> omega) | (simp only [sel, inK, segsOf, widthL, S0.width, List.cons_append, List.nil_append, List.length_cons, List.length_nil, Int.one_mul, implies_true, imp_self, btL, blL, bsL, ne_eq] at *; omega) | (simp only [sel, bsL, ne_eq] at *; simp_all <;> fail) | (simp [sel, segsOf, List.cons_append, List.nil_append, widthL, S0.width] <;> fail) | (simp only [ByteArray.size, List.size_toArray, List.length_cons, List.length_nil] <;> omega))) | fail) ?_
            | (with_reducible show SW _ (Code.region _ _ true) _ _ _); refine rDrawSC md0 hX mixed rfl rfl rfl rfl rfl (by first | (first | exact True.intro | ((repeat' first | refine And.intro ?_ ?_ | intro _) <;> first | exact True.intro | (with_reducible exact rfl) | (with_reducible assumption) | omega | (simp only [sel, inK, segsOf, widthL, S0.width, List.cons_append, List.nil_append, List.length_cons, List.length_nil, Int.one_mul, implies_true, imp_self, btL, blL, bsL, ne_eq] <;> omega) | (simp only [sel, inK, segsOf, widthL, S0.width, List.cons_append, List.nil_append, List.length_cons, List.length_nil, Int.one_mul, implies_true, imp_self, btL, blL, bsL, ne_eq] at *; omega) | (simp only [sel, bsL, ne_eq] at *; simp_all <;> fail) | (simp [sel, segsOf, List.cons_append, List.nil_append, widthL, S0.width] <;> fail) | (simp only [ByteArray.size, List.size_toArray, List.length_cons, List.length_nil] <;> omega))) | fail) ?_
            | (with_reducible show SW _ (Code.cond _ _ _) _ _ _); (refine rCond rfl rfl (by first | (first | exact True.intro | ((repeat' first | refine And.intro ?_ ?_ | intro _) <;> first | exact True.intro | (with_reducible exact rfl) | (with_reducible assumption) | omega | (simp only [sel, inK, segsOf, widthL, S0.width, List.cons_append, List.nil_append, List.length_cons, List.length_nil, Int.one_mul, implies_true, imp_self, btL, blL, bsL, ne_eq] <;> omega) | (simp only [sel, inK, segsOf, widthL, S0.width, List.cons_append, List.nil_append, List.length_cons, List.length_nil, Int.one_mul, implies_true, imp_self, btL, blL, bsL, ne_eq] at *; omega) | (simp only [sel, bsL, ne_eq] at *; simp_all <;> fail) | (simp [sel, segsOf, List.cons_append, List.nil_append, widthL, S0.width] <;> fail) | (simp only [ByteArray.size, List.size_toArray, List.length_cons, List.length_nil] <;> omega))) | fail) (fun h => ?_) (fun h => ?_) <;> (try (exact absurd h (by decide))) <;> (try simp only [blL, bsL, ne_eq] at h) <;> (try (exact absurd ‹_› ‹_›)) <;> (try (exfalso; omega)))
            | (with_reducible show SQ _ (Post _ _ _ _ _ _ _) .normal _ _); with_reducible refine rNormal ?_
        · skip
          all_goals repeat' first
            | (with_reducible show SQ _ (Exit.then (Again _ _ _ _ _) _) .normal _ _); (refine rAgainR (fun i => bif Nat.beq i 1 then 3 else i) 0 ⟨i + 1, by omega, all_next hall (bad_not (by omega))⟩ (by first | omega | (dsimp only; omega) | fail) (by assumption) (by dsimp only; omega) rfl rfl rfl (by first | (exact ⟨⟨rfl, fun i hi => rfl⟩, True.intro⟩) | fail) ?_ ?_ <;> (repeat' first | exact RLe.nil | refine RLe.cons rfl ?_ ?_ | exact BLe.nil | refine BLe.cons rfl ?_ ?_) <;> (first | exact SVle.int (by (try dsimp only); rw [g5]; omega) | exact SVle.sl rfl (by (try dsimp only); rw [g6, List.length_append]; rfl) | exact Ele.mem (Ble.rows (by (try dsimp only); rw [g6, List.length_append]; rfl) fun j hj => (by (try dsimp only); rw [g6]; exact evF_snoc _ _ _ j hj)) | exact SVle.refl _ | exact Ele.refl _ | exact SVle.int (by first | omega | (dsimp only; omega) | fail) | exact SVle.bool (by rfl) | exact SVle.ints (by rfl) | exact Ele.mem (Ble.ints (by rfl))))
            | with_reducible refine rSeq ?_
            | with_reducible refine rThen ?_
            | with_reducible refine rBlock ?_
            | with_reducible refine rThenRet ?_
            | with_reducible refine rThenExit ?_
            | with_reducible refine rInRet ?_
            | with_reducible refine rInNormal ?_
            | with_reducible refine rInHit ?_
            | with_reducible refine rInMiss rfl ?_
            | with_reducible refine rRet ?_
            | with_reducible refine rExit ?_
            | with_reducible refine rSkip ?_
            | with_reducible refine rLabel ?_
            | with_reducible refine rScope ?_
            | with_reducible refine rNoGotoRet ?_
            | with_reducible refine rNoGotoNormal ?_
            | (with_reducible show SW _ (Code.region _ _ false) _ _ _); refine rRegC md0 hX rfl rfl rfl (by first | (first | exact True.intro | ((repeat' first | refine And.intro ?_ ?_ | intro _) <;> first | exact True.intro | (with_reducible exact rfl) | (with_reducible assumption) | omega | (simp only [sel, inK, segsOf, widthL, S0.width, List.cons_append, List.nil_append, List.length_cons, List.length_nil, Int.one_mul, implies_true, imp_self, btL, blL, bsL, ne_eq] <;> omega) | (simp only [sel, inK, segsOf, widthL, S0.width, List.cons_append, List.nil_append, List.length_cons, List.length_nil, Int.one_mul, implies_true, imp_self, btL, blL, bsL, ne_eq] at *; omega) | (simp only [sel, bsL, ne_eq] at *; simp_all <;> fail) | (simp [sel, segsOf, List.cons_append, List.nil_append, widthL, S0.width] <;> fail) | (simp only [ByteArray.size, List.size_toArray, List.length_cons, List.length_nil] <;> omega))) | fail) ?_
            | (with_reducible show SW _ (Code.region _ _ true) _ _ _); refine rDrawC md0 hX mixed rfl rfl rfl rfl (by first | (first | exact True.intro | ((repeat' first | refine And.intro ?_ ?_ | intro _) <;> first | exact True.intro | (with_reducible exact rfl) | (with_reducible assumption) | omega | (simp only [sel, inK, segsOf, widthL, S0.width, List.cons_append, List.nil_append, List.length_cons, List.length_nil, Int.one_mul, implies_true, imp_self, btL, blL, bsL, ne_eq] <;> omega) | (simp only [sel, inK, segsOf, widthL, S0.width, List.cons_append, List.nil_append, List.length_cons, List.length_nil, Int.one_mul, implies_true, imp_self, btL, blL, bsL, ne_eq] at *; omega) | (simp only [sel, bsL, ne_eq] at *; simp_all <;> fail) | (simp [sel, segsOf, List.cons_append, List.nil_append, widthL, S0.width] <;> fail) | (simp only [ByteArray.size, List.size_toArray, List.length_cons, List.length_nil] <;> omega))) | fail) ?_
            | (with_reducible show SW _ (Code.region _ _ true) _ _ _); refine rDrawSC md0 hX mixed rfl rfl rfl rfl rfl (by first | (first | exact True.intro | ((repeat' first | refine And.intro ?_ ?_ | intro _) <;> first | exact True.intro | (with_reducible exact rfl) | (with_reducible assumption) | omega | (simp only [sel, inK, segsOf, widthL, S0.width, List.cons_append, List.nil_append, List.length_cons, List.length_nil, Int.one_mul, implies_true, imp_self, btL, blL, bsL, ne_eq] <;> omega) | (simp only [sel, inK, segsOf, widthL, S0.width, List.cons_append, List.nil_append, List.length_cons, List.length_nil, Int.one_mul, implies_true, imp_self, btL, blL, bsL, ne_eq] at *; omega) | (simp only [sel, bsL, ne_eq] at *; simp_all <;> fail) | (simp [sel, segsOf, List.cons_append, List.nil_append, widthL, S0.width] <;> fail) | (simp only [ByteArray.size, List.size_toArray, List.length_cons, List.length_nil] <;> omega))) | fail) ?_
            | (with_reducible show SW _ (Code.cond _ _ _) _ _ _); (refine rCond rfl rfl (by first | (first | exact True.intro | ((repeat' first | refine And.intro ?_ ?_ | intro _) <;> first | exact True.intro | (with_reducible exact rfl) | (with_reducible assumption) | omega | (simp only [sel, inK, segsOf, widthL, S0.width, List.cons_append, List.nil_append, List.length_cons, List.length_nil, Int.one_mul, implies_true, imp_self, btL, blL, bsL, ne_eq] <;> omega) | (simp only [sel, inK, segsOf, widthL, S0.width, List.cons_append, List.nil_append, List.length_cons, List.length_nil, Int.one_mul, implies_true, imp_self, btL, blL, bsL, ne_eq] at *; omega) | (simp only [sel, bsL, ne_eq] at *; simp_all <;> fail) | (simp [sel, segsOf, List.cons_append, List.nil_append, widthL, S0.width] <;> fail) | (simp only [ByteArray.size, List.size_toArray, List.length_cons, List.length_nil] <;> omega))) | fail) (fun h => ?_) (fun h => ?_) <;> (try (exact absurd h (by decide))) <;> (try simp only [blL, bsL, ne_eq] at h) <;> (try (exact absurd ‹_› ‹_›)) <;> (try (exfalso; omega)))
            | (with_reducible show SQ _ (Post _ _ _ _ _ _ _) .normal _ _); with_reducible refine rNormal ?_
      · obtain rfl : i = 64 := by omega
        all_goals repeat' first
          | with_reducible refine rSeq ?_
          | with_reducible refine rThen ?_
          | with_reducible refine rBlock ?_
          | with_reducible refine rThenRet ?_
          | with_reducible refine rThenExit ?_
          | with_reducible refine rInRet ?_
          | with_reducible refine rInNormal ?_
          | with_reducible refine rInHit ?_
          | with_reducible refine rInMiss rfl ?_
          | with_reducible refine rRet ?_
          | with_reducible refine rExit ?_
          | with_reducible refine rSkip ?_
          | with_reducible refine rLabel ?_
          | with_reducible refine rScope ?_
          | with_reducible refine rNoGotoRet ?_
          | with_reducible refine rNoGotoNormal ?_
          | (with_reducible show SW _ (Code.region _ _ false) _ _ _); refine rRegC md0 hX rfl rfl rfl (by first | (first | exact True.intro | ((repeat' first | refine And.intro ?_ ?_ | intro _) <;> first | exact True.intro | (with_reducible exact rfl) | (with_reducible assumption) | omega | (simp only [sel, inK, segsOf, widthL, S0.width, List.cons_append, List.nil_append, List.length_cons, List.length_nil, Int.one_mul, implies_true, imp_self, btL, blL, bsL, ne_eq] <;> omega) | (simp only [sel, inK, segsOf, widthL, S0.width, List.cons_append, List.nil_append, List.length_cons, List.length_nil, Int.one_mul, implies_true, imp_self, btL, blL, bsL, ne_eq] at *; omega) | (simp only [sel, bsL, ne_eq] at *; simp_all <;> fail) | (simp [sel, segsOf, List.cons_append, List.nil_append, widthL, S0.width] <;> fail) | (simp only [ByteArray.size, List.size_toArray, List.length_cons, List.length_nil] <;> omega))) | fail) ?_
          | (with_reducible show SW _ (Code.region _ _ true) _ _ _); refine rDrawC md0 hX mixed rfl rfl rfl rfl (by first | (first | exact True.intro | ((repeat' first | refine And.intro ?_ ?_ | intro _) <;> first | exact True.intro | (with_reducible exact rfl) | (with_reducible assumption) | omega | (simp only [sel, inK, segsOf, widthL, S0.width, List.cons_append, List.nil_append, List.length_cons, List.length_nil, Int.one_mul, implies_true, imp_self, btL, blL, bsL, ne_eq] <;> omega) | (simp only [sel, inK, segsOf, widthL, S0.width, List.cons_append, List.nil_append, List.length_cons, List.length_nil, Int.one_mul, implies_true, imp_self, btL, blL, bsL, ne_eq] at *; omega) | (simp only [sel, bsL, ne_eq] at *; simp_all <;> fail) | (simp [sel, segsOf, List.cons_append, List.nil_append, widthL, S0.width] <;> fail) | (simp only [ByteArray.size, List.size_toArray, List.length_cons, List.length_nil] <;> omega))) | fail) ?_
          | (with_reducible show SW _ (Code.region _ _ true) _ _ _); refine rDrawSC md0 hX mixed rfl rfl rfl rfl rfl (by first | (first | exact True.intro | ((repeat' first | refine And.intro ?_ ?_ | intro _) <;> first | exact True.intro | (with_reducible exact rfl) | (with_reducible assumption) | omega | (simp only [sel, inK, segsOf, widthL, S0.width, List.cons_append, List.nil_append, List.length_cons, List.length_nil, Int.one_mul, implies_true, imp_self, btL, blL, bsL, ne_eq] <;> omega) | (simp only [sel, inK, segsOf, widthL, S0.width, List.cons_append, List.nil_append, List.length_cons, List.length_nil, Int.one_mul, implies_true, imp_self, btL, blL, bsL, ne_eq] at *; omega) | (simp only [sel, bsL, ne_eq] at *; simp_all <;> fail) | (simp [sel, segsOf, List.cons_append, List.nil_append, widthL, S0.width] <;> fail) | (simp only [ByteArray.size, List.size_toArray, List.length_cons, List.length_nil] <;> omega))) | fail) ?_
          | (with_reducible show SW _ (Code.cond _ _ _) _ _ _); (refine rCond rfl rfl (by first | (first | exact True.intro | ((repeat' first | refine And.intro ?_ ?_ | intro _) <;> first | exact True.intro | (with_reducible exact rfl) | (with_reducible assumption) | omega | (simp only [sel, inK, segsOf, widthL, S0.width, List.cons_append, List.nil_append, List.length_cons, List.length_nil, Int.one_mul, implies_true, imp_self, btL, blL, bsL, ne_eq] <;> omega) | (simp only [sel, inK, segsOf, widthL, S0.width, List.cons_append, List.nil_append, List.length_cons, List.length_nil, Int.one_mul, implies_true, imp_self, btL, blL, bsL, ne_eq] at *; omega) | (simp only [sel, bsL, ne_eq] at *; simp_all <;> fail) | (simp [sel, segsOf, List.cons_append, List.nil_append, widthL, S0.width] <;> fail) | (simp only [ByteArray.size, List.size_toArray, List.length_cons, List.length_nil] <;> omega))) | fail) (fun h => ?_) (fun h => ?_) <;> (try (exact absurd h (by decide))) <;> (try simp only [blL, bsL, ne_eq] at h) <;> (try (exact absurd ‹_› ‹_›)) <;> (try (exfalso; omega)))
          | (with_reducible show SQ _ (Post _ _ _ _ _ _ _) .normal _ _); with_reducible refine rNormal ?_
          | (with_reducible show SQ _ (Post _ _ _ _ _ _ _) .ret _ _); (refine rWeakQ (σ' := ⟨[(4, .v (.c (.sl 1 0 (evA xs f 64).length 3))), (5, i64 0)], [(1, .mem true 63 (some 3) (.rows (evA xs f 64).length 3 (evF (evA xs f 64) (evA xs f 64).length)))], 2⟩) (by (refine Le.mk ?_ ?_ rfl <;> (repeat' first | exact RLe.nil | refine RLe.cons rfl ?_ ?_ | exact BLe.nil | refine BLe.cons rfl ?_ ?_) <;> (first | exact Ele.mem (Ble.rows rfl fun j hj => (by first | exact evF_last _ _ j (by omega) _ rfl | omega | fail)) | exact SVle.refl _ | exact Ele.refl _ | exact SVle.int (by first | omega | (dsimp only; omega) | fail) | exact SVle.bool (by rfl) | exact SVle.ints (by rfl) | exact Ele.mem (Ble.ints (by rfl))))) ?_; (first | (refine rDoneNew 1 hX rfl (by first | exact True.intro | ((repeat' first | refine And.intro ?_ ?_ | intro _) <;> first | exact True.intro | (with_reducible exact rfl) | (with_reducible assumption) | omega | (simp only [sel, inK, segsOf, widthL, S0.width, List.cons_append, List.nil_append, List.length_cons, List.length_nil, Int.one_mul, implies_true, imp_self, btL, blL, bsL, ne_eq] <;> omega) | (simp only [sel, inK, segsOf, widthL, S0.width, List.cons_append, List.nil_append, List.length_cons, List.length_nil, Int.one_mul, implies_true, imp_self, btL, blL, bsL, ne_eq] at *; omega) | (simp only [sel, bsL, ne_eq] at *; simp_all <;> fail) | (simp [sel, segsOf, List.cons_append, List.nil_append, widthL, S0.width] <;> fail) | (simp only [ByteArray.size, List.size_toArray, List.length_cons, List.length_nil] <;> omega))) (EnvLe.refl _) rfl rfl rfl rfl rfl (fun i hi => rfl) rfl rfl (by intro i e h; cases h))))
  · cases h

end Go.Proofs.Ytbcgkdigfkapcaa
