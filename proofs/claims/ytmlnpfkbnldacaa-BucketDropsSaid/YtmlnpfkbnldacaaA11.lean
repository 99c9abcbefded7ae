/- Bounds held. -/
import Derived.Test.YtmlnpfkbnldacaaA9
import Derived.Test.YtmlnpfkbnldacaaX31
set_option linter.unusedVariables false
set_option linter.unusedSimpArgs false
namespace Go.Proofs.Ytmlnpfkbnldacaa
open Go.X


def allN : Nat → (Nat → Bool) → Bool
  | 0, _ => true
  | n + 1, g => allN n g && g n
theorem allN_false {g : Nat → Bool} {i : Nat} (h : g i = false) : ∀ {n : Nat}, i < n → allN n g = false
  | 0, hi => by omega
  | n + 1, hi => by
    simp only [allN]
    by_cases e : i = n
    · subst e; simp [h]
    · rw [allN_false h (show i < n by omega)]; rfl
def rowA : List S0 → Int
  | [.cs [.int .i64 a, .int .i64 _, .int .i64 _]] => a
  | _ => 0
def rowB : List S0 → Int
  | [.cs [.int .i64 _, .int .i64 b, .int .i64 _]] => b
  | _ => 0
def rowC : List S0 → Int
  | [.cs [.int .i64 _, .int .i64 _, .int .i64 c]] => c
  | _ => 0
def isRow (r : List S0) : Prop := r = [.cs [.int .i64 (rowA r), .int .i64 (rowB r), .int .i64 (rowC r)]]
def okRow (r : List S0) : Bool := decide (rowB r ≤ rowA r) && decide (rowA r ≤ rowC r)
def spHold : X.Spec := fun args lk => match args with
  | [.v (.c (.sl id 0 len 3))] => match lk id with
    | some (.mem _ _ _ (.rows n 3 f)) => some ⟨(n = len ∧ (len : Int) ≤ 9223372036854775807) ∧ ∀ i, i < len → isRow (f i), bo (allN len fun i => okRow (f i)), [], []⟩
    | _ => none
  | _ => none
set_option maxRecDepth 100000 in
set_option maxHeartbeats 4000000 in
theorem ok59 : FnOK Try.prog gt0 59 spHold := by
  refine fnOK_mk Try.func59 rfl (by kernel_rfl) tt_ok ktNil ?_
  intro args lk r h hp
  unfold spHold at h
  split at h
  · rename_i id len
    split at h
    · rename_i o ty tl n g hl
      cases h
      obtain ⟨⟨hn, hlen⟩, hrow⟩ : (n = len ∧ (len : Int) ≤ 9223372036854775807) ∧ ∀ i, i < len → isRow (g i) := hp
      subst hn
      refine ⟨1, fun _ => id, [.v (.c (.sl 0 0 n 3))], [(0, .mem false 58 none (.rows n 3 fun i => [.cs [.int .i64 (rowA (g i)), .int .i64 (rowB (g i)), .int .i64 (rowC (g i))]]))], rfl, rfl, Nat.le_of_ble_eq_true rfl, fun i hi => (by rw [hl]; rfl), ?_, ?_, ?_⟩
      · intro i e he
        rw [look_cons] at he
        split at he
        · rename_i h0
          injection he with he
          subst he h0
          exact ⟨by omega, fun j hj => rfl, _, hl, .inr ⟨o, _, ty, 58, tl, _, rfl, rfl, Ble.rows rfl fun j hj => hrow j hj⟩⟩
        · cases he
      · intro i j e e' h1 h2 hij ho
        rw [look_cons] at h1
        split at h1
        · injection h1 with h1
          subst h1
          cases ho
        · cases h1
      · intro w0 M ε0 hX
        change SW ⟨Try.prog, tt, [], gt0, w0, M, Try.f59.ntmps⟩ _ (Post ⟨Try.prog, tt, [], gt0, w0, M, Try.f59.ntmps⟩ Try.f59 ε0 1 (fun _ => id) _ _) ε0 _
        all_goals repeat' first
          | with_reducible refine rSeq ?_
          | with_reducible refine rThen ?_
          | with_reducible refine rBlock ?_
          | with_reducible refine rThenRet ?_
          | with_reducible refine rThenExit ?_
          | with_reducible refine rInRet ?_
          | with_reducible refine rInNormal ?_
          | with_reducible refine rInHit ?_
          | with_reducible refine rInMiss rfl ?_
          | with_reducible refine rRet ?_
          | with_reducible refine rExit ?_
          | with_reducible refine rSkip ?_
          | with_reducible refine rScope ?_
          | with_reducible refine rNoGotoRet ?_
          | with_reducible refine rNoGotoNormal ?_
          | (with_reducible show SW _ (Code.region _ _ false) _ _ _); refine rRegC md0 hX rfl rfl rfl (by first | (first | exact True.intro | (simp only [sel, inK, segsOf, List.cons_append, List.nil_append, widthL, S0.width, List.length_cons, List.length_nil, true_and, and_true, implies_true, Bool.cond_true_left, Bool.cond_false_right, Bool.or_eq_true, Bool.and_eq_true, Bool.or_eq_false_iff, Bool.and_eq_false_iff, decide_eq_true_eq, decide_eq_false_iff_not, Bool.not_eq_true', Bool.not_eq_false', beq_iff_eq, bne_iff_ne, ne_eq, beq_eq_false_iff_ne, Bool.not_eq_true]; done) | (simp [sel, segsOf, List.cons_append, List.nil_append, widthL, S0.width]; done) | (simp only [sel, inK, segsOf, List.cons_append, List.nil_append, widthL, S0.width, List.length_cons, List.length_nil, true_and, and_true, implies_true, Bool.cond_true_left, Bool.cond_false_right, Bool.or_eq_true, Bool.and_eq_true, Bool.or_eq_false_iff, Bool.and_eq_false_iff, decide_eq_true_eq, decide_eq_false_iff_not, Bool.not_eq_true', Bool.not_eq_false', beq_iff_eq, bne_iff_ne, ne_eq, beq_eq_false_iff_ne, Bool.not_eq_true] at *; omega) | (simp only [sel, inK, segsOf, List.cons_append, List.nil_append, widthL, S0.width, List.length_cons, List.length_nil, true_and, and_true, implies_true, imp_self, Bool.cond_true_left, Bool.cond_false_right, Bool.or_eq_true, Bool.and_eq_true, Bool.or_eq_false_iff, Bool.and_eq_false_iff, decide_eq_true_eq, decide_eq_false_iff_not, Bool.not_eq_true', Bool.not_eq_false', beq_iff_eq, bne_iff_ne, ne_eq, beq_eq_false_iff_ne, Bool.not_eq_true]; (repeat' first | refine And.intro ?_ ?_ | intro _) <;> first | omega | assumption | exact True.intro | (simp_all; done) | (simp_all; omega)) | (simp [sel, inK, segsOf, List.cons_append, List.nil_append, widthL, S0.width] at *; omega)) | fail) ?_
          | (with_reducible show SW _ (Code.region _ _ true) _ _ _); refine rDrawC md0 hX mixed rfl rfl rfl rfl (by first | (first | exact True.intro | (simp only [sel, inK, segsOf, List.cons_append, List.nil_append, widthL, S0.width, List.length_cons, List.length_nil, true_and, and_true, implies_true, Bool.cond_true_left, Bool.cond_false_right, Bool.or_eq_true, Bool.and_eq_true, Bool.or_eq_false_iff, Bool.and_eq_false_iff, decide_eq_true_eq, decide_eq_false_iff_not, Bool.not_eq_true', Bool.not_eq_false', beq_iff_eq, bne_iff_ne, ne_eq, beq_eq_false_iff_ne, Bool.not_eq_true]; done) | (simp [sel, segsOf, List.cons_append, List.nil_append, widthL, S0.width]; done) | (simp only [sel, inK, segsOf, List.cons_append, List.nil_append, widthL, S0.width, List.length_cons, List.length_nil, true_and, and_true, implies_true, Bool.cond_true_left, Bool.cond_false_right, Bool.or_eq_true, Bool.and_eq_true, Bool.or_eq_false_iff, Bool.and_eq_false_iff, decide_eq_true_eq, decide_eq_false_iff_not, Bool.not_eq_true', Bool.not_eq_false', beq_iff_eq, bne_iff_ne, ne_eq, beq_eq_false_iff_ne, Bool.not_eq_true] at *; omega) | (simp only [sel, inK, segsOf, List.cons_append, List.nil_append, widthL, S0.width, List.length_cons, List.length_nil, true_and, and_true, implies_true, imp_self, Bool.cond_true_left, Bool.cond_false_right, Bool.or_eq_true, Bool.and_eq_true, Bool.or_eq_false_iff, Bool.and_eq_false_iff, decide_eq_true_eq, decide_eq_false_iff_not, Bool.not_eq_true', Bool.not_eq_false', beq_iff_eq, bne_iff_ne, ne_eq, beq_eq_false_iff_ne, Bool.not_eq_true]; (repeat' first | refine And.intro ?_ ?_ | intro _) <;> first | omega | assumption | exact True.intro | (simp_all; done) | (simp_all; omega)) | (simp [sel, inK, segsOf, List.cons_append, List.nil_append, widthL, S0.width] at *; omega)) | fail) ?_
          | (with_reducible show SW _ (Code.cond _ _ _) _ _ _); (refine rCond rfl rfl (by first | (first | exact True.intro | (simp only [sel, inK, segsOf, List.cons_append, List.nil_append, widthL, S0.width, List.length_cons, List.length_nil, true_and, and_true, implies_true, Bool.cond_true_left, Bool.cond_false_right, Bool.or_eq_true, Bool.and_eq_true, Bool.or_eq_false_iff, Bool.and_eq_false_iff, decide_eq_true_eq, decide_eq_false_iff_not, Bool.not_eq_true', Bool.not_eq_false', beq_iff_eq, bne_iff_ne, ne_eq, beq_eq_false_iff_ne, Bool.not_eq_true]; done) | (simp [sel, segsOf, List.cons_append, List.nil_append, widthL, S0.width]; done) | (simp only [sel, inK, segsOf, List.cons_append, List.nil_append, widthL, S0.width, List.length_cons, List.length_nil, true_and, and_true, implies_true, Bool.cond_true_left, Bool.cond_false_right, Bool.or_eq_true, Bool.and_eq_true, Bool.or_eq_false_iff, Bool.and_eq_false_iff, decide_eq_true_eq, decide_eq_false_iff_not, Bool.not_eq_true', Bool.not_eq_false', beq_iff_eq, bne_iff_ne, ne_eq, beq_eq_false_iff_ne, Bool.not_eq_true] at *; omega) | (simp only [sel, inK, segsOf, List.cons_append, List.nil_append, widthL, S0.width, List.length_cons, List.length_nil, true_and, and_true, implies_true, imp_self, Bool.cond_true_left, Bool.cond_false_right, Bool.or_eq_true, Bool.and_eq_true, Bool.or_eq_false_iff, Bool.and_eq_false_iff, decide_eq_true_eq, decide_eq_false_iff_not, Bool.not_eq_true', Bool.not_eq_false', beq_iff_eq, bne_iff_ne, ne_eq, beq_eq_false_iff_ne, Bool.not_eq_true]; (repeat' first | refine And.intro ?_ ?_ | intro _) <;> first | omega | assumption | exact True.intro | (simp_all; done) | (simp_all; omega)) | (simp [sel, inK, segsOf, List.cons_append, List.nil_append, widthL, S0.width] at *; omega)) | fail) (fun h => ?_) (fun h => ?_) <;> (try simp only [Bool.cond_true_left, Bool.cond_false_right, Bool.or_eq_true, Bool.and_eq_true, Bool.or_eq_false_iff, Bool.and_eq_false_iff, decide_eq_true_eq, decide_eq_false_iff_not, Bool.not_eq_true', Bool.not_eq_false', beq_iff_eq, bne_iff_ne, ne_eq, beq_eq_false_iff_ne, Bool.not_eq_true] at h) <;> (try (exact absurd ‹_› ‹_›)))
          | (with_reducible show SQ _ (Post _ _ _ _ _ _ _) .ret _ _); refine rDone hX rfl (by first | (first | exact True.intro | (simp only [sel, inK, segsOf, List.cons_append, List.nil_append, widthL, S0.width, List.length_cons, List.length_nil, true_and, and_true, implies_true, Bool.cond_true_left, Bool.cond_false_right, Bool.or_eq_true, Bool.and_eq_true, Bool.or_eq_false_iff, Bool.and_eq_false_iff, decide_eq_true_eq, decide_eq_false_iff_not, Bool.not_eq_true', Bool.not_eq_false', beq_iff_eq, bne_iff_ne, ne_eq, beq_eq_false_iff_ne, Bool.not_eq_true]; done) | (simp [sel, segsOf, List.cons_append, List.nil_append, widthL, S0.width]; done) | (simp only [sel, inK, segsOf, List.cons_append, List.nil_append, widthL, S0.width, List.length_cons, List.length_nil, true_and, and_true, implies_true, Bool.cond_true_left, Bool.cond_false_right, Bool.or_eq_true, Bool.and_eq_true, Bool.or_eq_false_iff, Bool.and_eq_false_iff, decide_eq_true_eq, decide_eq_false_iff_not, Bool.not_eq_true', Bool.not_eq_false', beq_iff_eq, bne_iff_ne, ne_eq, beq_eq_false_iff_ne, Bool.not_eq_true] at *; omega) | (simp only [sel, inK, segsOf, List.cons_append, List.nil_append, widthL, S0.width, List.length_cons, List.length_nil, true_and, and_true, implies_true, imp_self, Bool.cond_true_left, Bool.cond_false_right, Bool.or_eq_true, Bool.and_eq_true, Bool.or_eq_false_iff, Bool.and_eq_false_iff, decide_eq_true_eq, decide_eq_false_iff_not, Bool.not_eq_true', Bool.not_eq_false', beq_iff_eq, bne_iff_ne, ne_eq, beq_eq_false_iff_ne, Bool.not_eq_true]; (repeat' first | refine And.intro ?_ ?_ | intro _) <;> first | omega | assumption | exact True.intro | (simp_all; done) | (simp_all; omega)) | (simp [sel, inK, segsOf, List.cons_append, List.nil_append, widthL, S0.width] at *; omega)) | fail) (EnvLe.refl _) (by first | (rfl) | fail) rfl rfl rfl (by first | (intro i e h; rw [look_cons] at h; split at h <;> cases h <;> rfl) | fail)
        refine rLoopF (fun i : {i : Nat // i ≤ n ∧ allN i (fun j => okRow (g j)) = true} => ⟨[(5, .v (.c (.sl 0 0 n 3))), (6, i64 (n : Int)), (7, i64 (i.1 : Int))],
          [(0, .mem false 58 none (.rows n 3 fun i => [.cs [.int .i64 (rowA (g i)), .int .i64 (rowB (g i)), .int .i64 (rowC (g i))]]))], 1⟩) (fun i => n - i.1) 1 (fun _ => rfl) ⟨0, by omega, rfl⟩ (by refine Le.mk ?_ ?_ rfl <;> (repeat' first | exact RLe.nil | refine RLe.cons rfl ?_ ?_ | exact BLe.nil | refine BLe.cons rfl ?_ ?_) <;> (first | exact SVle.refl _ | exact Ele.refl _ | exact SVle.int (by first | omega | (dsimp only; omega) | fail) | exact SVle.bool (by rfl) | exact SVle.ints (by rfl) | exact Ele.mem (Ble.ints (by rfl)))) ?_
        rintro ⟨i, hi, hall⟩ hN
        all_goals repeat' first
          | with_reducible refine rSeq ?_
          | with_reducible refine rThen ?_
          | with_reducible refine rBlock ?_
          | with_reducible refine rThenRet ?_
          | with_reducible refine rThenExit ?_
          | with_reducible refine rInRet ?_
          | with_reducible refine rInNormal ?_
          | with_reducible refine rInHit ?_
          | with_reducible refine rInMiss rfl ?_
          | with_reducible refine rRet ?_
          | with_reducible refine rExit ?_
          | with_reducible refine rSkip ?_
          | with_reducible refine rScope ?_
          | with_reducible refine rNoGotoRet ?_
          | with_reducible refine rNoGotoNormal ?_
          | (with_reducible show SW _ (Code.region _ _ false) _ _ _); refine rRegC md0 hX rfl rfl rfl (by first | (first | exact True.intro | (simp only [sel, inK, segsOf, List.cons_append, List.nil_append, widthL, S0.width, List.length_cons, List.length_nil, true_and, and_true, implies_true, Bool.cond_true_left, Bool.cond_false_right, Bool.or_eq_true, Bool.and_eq_true, Bool.or_eq_false_iff, Bool.and_eq_false_iff, decide_eq_true_eq, decide_eq_false_iff_not, Bool.not_eq_true', Bool.not_eq_false', beq_iff_eq, bne_iff_ne, ne_eq, beq_eq_false_iff_ne, Bool.not_eq_true]; done) | (simp [sel, segsOf, List.cons_append, List.nil_append, widthL, S0.width]; done) | (simp only [sel, inK, segsOf, List.cons_append, List.nil_append, widthL, S0.width, List.length_cons, List.length_nil, true_and, and_true, implies_true, Bool.cond_true_left, Bool.cond_false_right, Bool.or_eq_true, Bool.and_eq_true, Bool.or_eq_false_iff, Bool.and_eq_false_iff, decide_eq_true_eq, decide_eq_false_iff_not, Bool.not_eq_true', Bool.not_eq_false', beq_iff_eq, bne_iff_ne, ne_eq, beq_eq_false_iff_ne, Bool.not_eq_true] at *; omega) | (simp only [sel, inK, segsOf, List.cons_append, List.nil_append, widthL, S0.width, List.length_cons, List.length_nil, true_and, and_true, implies_true, imp_self, Bool.cond_true_left, Bool.cond_false_right, Bool.or_eq_true, Bool.and_eq_true, Bool.or_eq_false_iff, Bool.and_eq_false_iff, decide_eq_true_eq, decide_eq_false_iff_not, Bool.not_eq_true', Bool.not_eq_false', beq_iff_eq, bne_iff_ne, ne_eq, beq_eq_false_iff_ne, Bool.not_eq_true]; (repeat' first | refine And.intro ?_ ?_ | intro _) <;> first | omega | assumption | exact True.intro | (simp_all; done) | (simp_all; omega)) | (simp [sel, inK, segsOf, List.cons_append, List.nil_append, widthL, S0.width] at *; omega)) | fail) ?_
          | (with_reducible show SW _ (Code.region _ _ true) _ _ _); refine rDrawC md0 hX mixed rfl rfl rfl rfl (by first | (first | exact True.intro | (simp only [sel, inK, segsOf, List.cons_append, List.nil_append, widthL, S0.width, List.length_cons, List.length_nil, true_and, and_true, implies_true, Bool.cond_true_left, Bool.cond_false_right, Bool.or_eq_true, Bool.and_eq_true, Bool.or_eq_false_iff, Bool.and_eq_false_iff, decide_eq_true_eq, decide_eq_false_iff_not, Bool.not_eq_true', Bool.not_eq_false', beq_iff_eq, bne_iff_ne, ne_eq, beq_eq_false_iff_ne, Bool.not_eq_true]; done) | (simp [sel, segsOf, List.cons_append, List.nil_append, widthL, S0.width]; done) | (simp only [sel, inK, segsOf, List.cons_append, List.nil_append, widthL, S0.width, List.length_cons, List.length_nil, true_and, and_true, implies_true, Bool.cond_true_left, Bool.cond_false_right, Bool.or_eq_true, Bool.and_eq_true, Bool.or_eq_false_iff, Bool.and_eq_false_iff, decide_eq_true_eq, decide_eq_false_iff_not, Bool.not_eq_true', Bool.not_eq_false', beq_iff_eq, bne_iff_ne, ne_eq, beq_eq_false_iff_ne, Bool.not_eq_true] at *; omega) | (simp only [sel, inK, segsOf, List.cons_append, List.nil_append, widthL, S0.width, List.length_cons, List.length_nil, true_and, and_true, implies_true, imp_self, Bool.cond_true_left, Bool.cond_false_right, Bool.or_eq_true, Bool.and_eq_true, Bool.or_eq_false_iff, Bool.and_eq_false_iff, decide_eq_true_eq, decide_eq_false_iff_not, Bool.not_eq_true', Bool.not_eq_false', beq_iff_eq, bne_iff_ne, ne_eq, beq_eq_false_iff_ne, Bool.not_eq_true]; (repeat' first | refine And.intro ?_ ?_ | intro _) <;> first | omega | assumption | exact True.intro | (simp_all; done) | (simp_all; omega)) | (simp [sel, inK, segsOf, List.cons_append, List.nil_append, widthL, S0.width] at *; omega)) | fail) ?_
          | (with_reducible show SW _ (Code.cond _ _ _) _ _ _); (refine rCond rfl rfl (by first | (first | exact True.intro | (simp only [sel, inK, segsOf, List.cons_append, List.nil_append, widthL, S0.width, List.length_cons, List.length_nil, true_and, and_true, implies_true, Bool.cond_true_left, Bool.cond_false_right, Bool.or_eq_true, Bool.and_eq_true, Bool.or_eq_false_iff, Bool.and_eq_false_iff, decide_eq_true_eq, decide_eq_false_iff_not, Bool.not_eq_true', Bool.not_eq_false', beq_iff_eq, bne_iff_ne, ne_eq, beq_eq_false_iff_ne, Bool.not_eq_true]; done) | (simp [sel, segsOf, List.cons_append, List.nil_append, widthL, S0.width]; done) | (simp only [sel, inK, segsOf, List.cons_append, List.nil_append, widthL, S0.width, List.length_cons, List.length_nil, true_and, and_true, implies_true, Bool.cond_true_left, Bool.cond_false_right, Bool.or_eq_true, Bool.and_eq_true, Bool.or_eq_false_iff, Bool.and_eq_false_iff, decide_eq_true_eq, decide_eq_false_iff_not, Bool.not_eq_true', Bool.not_eq_false', beq_iff_eq, bne_iff_ne, ne_eq, beq_eq_false_iff_ne, Bool.not_eq_true] at *; omega) | (simp only [sel, inK, segsOf, List.cons_append, List.nil_append, widthL, S0.width, List.length_cons, List.length_nil, true_and, and_true, implies_true, imp_self, Bool.cond_true_left, Bool.cond_false_right, Bool.or_eq_true, Bool.and_eq_true, Bool.or_eq_false_iff, Bool.and_eq_false_iff, decide_eq_true_eq, decide_eq_false_iff_not, Bool.not_eq_true', Bool.not_eq_false', beq_iff_eq, bne_iff_ne, ne_eq, beq_eq_false_iff_ne, Bool.not_eq_true]; (repeat' first | refine And.intro ?_ ?_ | intro _) <;> first | omega | assumption | exact True.intro | (simp_all; done) | (simp_all; omega)) | (simp [sel, inK, segsOf, List.cons_append, List.nil_append, widthL, S0.width] at *; omega)) | fail) (fun h => ?_) (fun h => ?_) <;> (try simp only [Bool.cond_true_left, Bool.cond_false_right, Bool.or_eq_true, Bool.and_eq_true, Bool.or_eq_false_iff, Bool.and_eq_false_iff, decide_eq_true_eq, decide_eq_false_iff_not, Bool.not_eq_true', Bool.not_eq_false', beq_iff_eq, bne_iff_ne, ne_eq, beq_eq_false_iff_ne, Bool.not_eq_true] at h) <;> (try (exact absurd ‹_› ‹_›)))
          | (with_reducible show SQ _ (Post _ _ _ _ _ _ _) .ret _ _); refine rDone hX rfl (by first | (first | exact True.intro | (simp only [sel, inK, segsOf, List.cons_append, List.nil_append, widthL, S0.width, List.length_cons, List.length_nil, true_and, and_true, implies_true, Bool.cond_true_left, Bool.cond_false_right, Bool.or_eq_true, Bool.and_eq_true, Bool.or_eq_false_iff, Bool.and_eq_false_iff, decide_eq_true_eq, decide_eq_false_iff_not, Bool.not_eq_true', Bool.not_eq_false', beq_iff_eq, bne_iff_ne, ne_eq, beq_eq_false_iff_ne, Bool.not_eq_true]; done) | (simp [sel, segsOf, List.cons_append, List.nil_append, widthL, S0.width]; done) | (simp only [sel, inK, segsOf, List.cons_append, List.nil_append, widthL, S0.width, List.length_cons, List.length_nil, true_and, and_true, implies_true, Bool.cond_true_left, Bool.cond_false_right, Bool.or_eq_true, Bool.and_eq_true, Bool.or_eq_false_iff, Bool.and_eq_false_iff, decide_eq_true_eq, decide_eq_false_iff_not, Bool.not_eq_true', Bool.not_eq_false', beq_iff_eq, bne_iff_ne, ne_eq, beq_eq_false_iff_ne, Bool.not_eq_true] at *; omega) | (simp only [sel, inK, segsOf, List.cons_append, List.nil_append, widthL, S0.width, List.length_cons, List.length_nil, true_and, and_true, implies_true, imp_self, Bool.cond_true_left, Bool.cond_false_right, Bool.or_eq_true, Bool.and_eq_true, Bool.or_eq_false_iff, Bool.and_eq_false_iff, decide_eq_true_eq, decide_eq_false_iff_not, Bool.not_eq_true', Bool.not_eq_false', beq_iff_eq, bne_iff_ne, ne_eq, beq_eq_false_iff_ne, Bool.not_eq_true]; (repeat' first | refine And.intro ?_ ?_ | intro _) <;> first | omega | assumption | exact True.intro | (simp_all; done) | (simp_all; omega)) | (simp [sel, inK, segsOf, List.cons_append, List.nil_append, widthL, S0.width] at *; omega)) | fail) (EnvLe.refl _) (by first | (first | (refine congrArg bo ?_; exact allN_false (i := i) (by simp only [okRow]; simp only [Int.toNat_natCast, Bool.cond_true_left, Bool.cond_false_right, Bool.or_eq_true, Bool.and_eq_true, Bool.or_eq_false_iff, Bool.and_eq_false_iff, decide_eq_true_eq, decide_eq_false_iff_not, Bool.not_eq_true', Bool.not_eq_false', beq_iff_eq, bne_iff_ne, ne_eq, beq_eq_false_iff_ne, Bool.not_eq_true] at *; omega) (by omega)) | ((show bo (allN n _) = bo true); obtain rfl : i = n := (by omega); rw [hall])) | fail) rfl rfl rfl (by first | (intro i e h; rw [look_cons] at h; split at h <;> cases h <;> rfl) | fail)
        refine rAgainF ⟨i + 1, by omega, ?_⟩ (by dsimp only; omega) hN ?_ ?_ rfl rfl ⟨⟨rfl, fun j hj => rfl⟩, trivial⟩
        · show (allN i (fun j => okRow (g j)) && okRow (g i)) = true
          rw [hall]
          have e : ((i : Int)).toNat = i := by omega
          rw [e] at h
          simp only [okRow, Bool.true_and, Bool.and_eq_true, decide_eq_true_eq]
          omega
        · repeat' first | exact RLe.nil | refine RLe.cons rfl ?_ ?_
          all_goals first | exact SVle.refl _ | exact SVle.int (by first | omega | (dsimp only; omega))
        · repeat' first | exact BLe.nil | refine BLe.cons rfl ?_ ?_
          all_goals exact Ele.refl _
    · cases h
  · cases h

end Go.Proofs.Ytmlnpfkbnldacaa
