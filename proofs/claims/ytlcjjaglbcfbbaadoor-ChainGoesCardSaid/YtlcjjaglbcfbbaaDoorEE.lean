/- What the printed models answer: plain laws. -/
import Derived.Test.YtlcjjaglbcfbbaaDoorED
set_option linter.unusedVariables false
set_option linter.unusedSimpArgs false
namespace Go.Proofs.YtlcjjaglbcfbbaaDoor
open Go.X

/-! ### sheets that may be -/
abbrev CellT := Int × (Bool × (Int × (Int × ((List Int) × ((List Int) × (List (List (Bool × (Int × Int)))))))))
abbrev RowT := Bool × (Int × (Int × (List CellT)))
abbrev c0 : CellT := ((0 : Int), (false, ((0 : Int), ((0 : Int), ((List.replicate 2 (0 : Int)), ((List.replicate 6 (0 : Int)), (List.replicate 6 [])))))))
abbrev r0 : RowT := (false, ((0 : Int), ((0 : Int), [])))
def csA (a7 : List RowT) (i : Nat) : List CellT := (a7.getD i r0).2.2.2
def clA (a7 : List RowT) (i k : Nat) : CellT := (csA a7 i).getD k c0
theorem iter_scan {S O : Type} {body : S → Option (S ⊕ O)} (st : Nat → S) (n : Nat) (P : Nat → Prop) {o1 o2 : O} {N : Nat}
  (hs : ∀ i, i < n → (∀ j, j ≤ i → P j) → body (st i) = some (.inl (st (i + 1)))) (hb : ∀ i, i < n → (∀ j, j < i → P j) → ¬ P i → body (st i) = some (.inr o1)) (he : (∀ i, i < n → P i) → body (st n) = some (.inr o2)) (hN : n < N) :
  (iter body N (st 0) = some o2 ∧ ∀ i, i < n → P i) ∨ (iter body N (st 0) = some o1 ∧ ¬ ∀ i, i < n → P i) := by
 haveI : DecidablePred (fun i => ¬ P i) := fun _ => Classical.propDecidable _
 rcases first_or (fun i => ¬ P i) n with h | ⟨k, h1, h2, h3⟩
 ·
  have h' : ∀ i, i < n → P i := fun i hi => Classical.not_not.1 (h i hi)
  exact .inl ⟨iter_to st n rfl (fun i hi => hs i hi fun j hj => h' j (by omega)) (he h') hN, h'⟩
 ·
  have h4 : ∀ i, i < k → P i := fun i hi => Classical.not_not.1 (h3 i hi)
  exact .inr ⟨iter_to st k rfl (fun i hi => hs i (by omega) fun j hj => h4 j (by omega)) (hb k h1 h4 h2) (by omega), fun h => h2 (h k h1)⟩
def cntA (a7 : List RowT) : Nat → Nat
 | 0 => 0
 | i + 1 => cntA a7 i + (csA a7 i).length
theorem cntA_le {a7 : List RowT} : ∀ i, (∀ j, j < i → (csA a7 j).length ≤ 200) → cntA a7 i ≤ 200 * i := by
 intro i
 induction i with
 | zero => intro _; exact Nat.le_refl _
 | succ i ih => intro h; have := ih fun j hj => h j (by omega); have := h i (by omega); simp only [cntA]; omega
def fL (f : Int) : Int := if f = 1 then 1 else if f = 2 then 1 else if f = 3 then 1 else if f = 4 then 2 else if f = 5 then 4 else if f = 6 then 1 else 0
def fR (f : Int) : Int := if f = 1 then 6 else if f = 2 then 9 else if f = 3 then 18 else if f = 4 then 18 else if f = 5 then 18 else if f = 6 then 2 else 0
theorem fRL (f : Int) : 0 ≤ fR f ∧ fR f ≤ 18 ∧ 0 ≤ fL f ∧ fL f ≤ 4 ∧ 0 ≤ fA f * fL f ∧ fA f * fL f ≤ 88 * 4 := by
 have h : 0 ≤ fR f ∧ fR f ≤ 18 ∧ 0 ≤ fL f ∧ fL f ≤ 4 := by
  unfold fR fL
  split
  ·
   omega
  split
  ·
   omega
  split
  ·
   omega
  split
  ·
   omega
  split
  ·
   omega
  split <;> omega
 obtain ⟨h1, h2, h3, h4⟩ := h
 have hA : 0 ≤ fA f ∧ fA f ≤ 88 := by rcases fmt_or f with h | h <;> omega
 exact ⟨h1, h2, h3, h4, mul_le2 hA.1 hA.2 h3 h4⟩
theorem fA_in {f : Int} (h : fA f ≠ 0) : 1 ≤ f ∧ f ≤ 6 := by
 unfold fA at h
 by_cases h1 : f = 1
 ·
  omega
 by_cases h2 : f = 2
 ·
  omega
 by_cases h3 : f = 3
 ·
  omega
 by_cases h4 : f = 4
 ·
  omega
 by_cases h5 : f = 5
 ·
  omega
 by_cases h6 : f = 6
 ·
  omega
 simp [h1, h2, h3, h4, h5, h6] at h
def cellB (a4 : Bool) (c : CellT) : Bool := rightB a4 c.1 c.2.1 c.2.2.1 c.2.2.2.1 c.2.2.2.2.1 c.2.2.2.2.2.1 c.2.2.2.2.2.2
def goodC (c : CellT) : Prop := c.2.2.2.2.1.length = 2 ∧ c.2.2.2.2.2.1.length = 6 ∧ fewP c.2.2.2.2.2.2
def rhB (r : RowT) (i : Nat) : Bool := bif r.1 then decide (i ≠ 0 ∧ 0 ≤ r.2.1 ∧ r.2.1 ≤ 3 ∧ 1 ≤ r.2.2.1 ∧ r.2.2.1 ≤ 31) else decide (r.2.1 = 0 ∧ r.2.2.1 = 0)
def rowB (f : Int) (a4 : Bool) (a7 : List RowT) (i : Nat) : Bool := decide (((csA a7 i).length : Int) = fA f * fL f) && (rhB (a7.getD i r0) i && (List.range (csA a7 i).length).all fun k => cellB a4 (clA a7 i k))
def headB (a1 a2 a3 a5 : Int) (a6 : List Int) : Bool := (decide (fA a3 ≠ 0) && (decide (0 ≤ a1) && (decide (a1 ≤ 255) && (decide (0 ≤ a2) && (decide (a2 ≤ 7) && (decide (1 ≤ a5) && (decide (a5 ≤ 31) && decide ((a6.length : Int) ≤ 8)))))))) && (List.range a6.length).all fun j => decide (0 ≤ a6.getD j 0 ∧ a6.getD j 0 ≤ 255)
theorem condF (a b : Bool) : (bif a then b else false) = (a && b) := by cases a <;> rfl
theorem all_succ (n : Nat) (P : Nat → Bool) : (List.range (n + 1)).all P = ((List.range n).all P && P n) := by
 rw [List.range_succ, List.all_append]; simp
def cellsA (a7 : List RowT) : Nat → List CellT
 | 0 => []
 | i + 1 => cellsA a7 i ++ csA a7 i
theorem cellsA_len (a7 : List RowT) : ∀ i, (cellsA a7 i).length = cntA a7 i
 | 0 => rfl
 | i + 1 => by simp only [cellsA, cntA, List.length_append, cellsA_len a7 i]
def lightP (a6 : List Int) (a7 : List RowT) : Prop := a6.length ≤ 100 ∧ a7.length ≤ 30 ∧ ∀ i, i < a7.length → (csA a7 i).length ≤ 200 ∧ ∀ k, k < (csA a7 i).length → fewP (clA a7 i k).2.2.2.2.2.2
theorem few0 : fewP c0.2.2.2.2.2.2 := by
 intro i hi
 exact (show ∀ i, i < 6 → ((List.replicate 6 ([] : List Ev)).getD i []).length ≤ 100 by decide) i hi
theorem getD_out {α : Type} {l : List α} {i : Nat} {d : α} (h : l.length ≤ i) : l.getD i d = d := by simp [List.getD, h]
theorem csA_out {a7 : List RowT} {i : Nat} (h : a7.length ≤ i) : csA a7 i = [] := by unfold csA; rw [getD_out h]
theorem light_few {a6 : List Int} {a7 : List RowT} (h : lightP a6 a7) (i k : Nat) : fewP (clA a7 i k).2.2.2.2.2.2 := by
 by_cases hi : i < a7.length
 ·
  by_cases hk : k < (csA a7 i).length
  ·
   exact (h.2.2 i hi).2 k hk
  ·
   unfold clA; rw [getD_out (by omega)]; exact few0
 ·
  unfold clA; rw [csA_out (by omega), getD_out (by simp)]; exact few0
theorem light_len {a6 : List Int} {a7 : List RowT} (h : lightP a6 a7) (i : Nat) : (csA a7 i).length ≤ 200 := by
 by_cases hi : i < a7.length
 ·
  exact (h.2.2 i hi).1
 ·
  rw [csA_out (by omega)]; simp
theorem light_cnt {a6 : List Int} {a7 : List RowT} (h : lightP a6 a7) (i : Nat) (hi : i ≤ 30) : cntA a7 i ≤ 6000 := by
 have := cntA_le (a7 := a7) i fun j _ => light_len h j
 omega
theorem wf_cells {a7 : List RowT} (h : ∀ r, r ∈ a7 → ∀ c, c ∈ r.2.2.2 → c.2.2.2.2.1.length = 2 ∧ c.2.2.2.2.2.1.length = 6) (i k : Nat) : (clA a7 i k).2.2.2.2.1.length = 2 ∧ (clA a7 i k).2.2.2.2.2.1.length = 6 := by
 by_cases hi : i < a7.length
 ·
  by_cases hk : k < (csA a7 i).length
  ·
   refine h (a7.getD i r0) ?_ (clA a7 i k) ?_
   ·
    rw [List.getD_eq_getElem?_getD, List.getElem?_eq_getElem hi]; exact List.getElem_mem hi
   ·
    show (csA a7 i).getD k c0 ∈ csA a7 i
    rw [List.getD_eq_getElem?_getD, List.getElem?_eq_getElem hk]; exact List.getElem_mem hk
  ·
   unfold clA; rw [getD_out (by omega)]; exact ⟨rfl, rfl⟩
 ·
  unfold clA; rw [csA_out (by omega), getD_out (by simp)]; exact ⟨rfl, rfl⟩
theorem light3 {N : Nat} (hN : 100 < N) (a7 : List RowT) (n m : Int) {i k : Nat} (hi : i < a7.length) (hk : k < (csA a7 i).length) :
  (iter (law25_Light_b3 N a7 (n, (i : Int)) (m, (k : Int))) N 0 = some (.inr (6, 6, false)) ∧ fewP (clA a7 i k).2.2.2.2.2.2) ∨ (iter (law25_Light_b3 N a7 (n, (i : Int)) (m, (k : Int))) N 0 = some (.inl ()) ∧ ¬ fewP (clA a7 i k).2.2.2.2.2.2) := by
 have hE : ∀ j : Nat, ((a7.getD i r0).2.2.2.getD k c0).2.2.2.2.2.2.getD j [] = (clA a7 i k).2.2.2.2.2.2.getD j [] := fun _ => rfl
 have hL : (a7.getD i r0).2.2.2.length = (csA a7 i).length := rfl
 have g1 : (i : Int) < (a7.length : Int) := by omega
 have g2 : (k : Int) < ((csA a7 i).length : Int) := by omega
 refine iter_scan (fun j => ((j : Nat) : Int)) 6 (fun j => ((clA a7 i k).2.2.2.2.2.2.getD j []).length ≤ 100) ?_ ?_ ?_ (by omega)
 ·
  intro j hj hP
  have g3 : (j : Int) < 6 := by omega
  have g4 := inS (i := j) (by omega)
  have hp := hP j (Nat.le_refl _)
  have g5 : ¬ ((100 : Int) < (((clA a7 i k).2.2.2.2.2.2.getD j []).length : Int)) := by omega
  simp only [law25_Light_b3, decide_eq_true g3, cond_true, decide_true, Int.toNat_natCast, hE, hL, g1, g2, g3, hj, g4, Int.natCast_nonneg, and_self, if_true, decide_eq_false g5, cond_false, Int.natCast_succ]
 ·
  intro j hj _ hp
  have g3 : (j : Int) < 6 := by omega
  have g5 : (100 : Int) < (((clA a7 i k).2.2.2.2.2.2.getD j []).length : Int) := by omega
  simp only [law25_Light_b3, decide_eq_true g3, cond_true, decide_true, Int.toNat_natCast, hE, hL, g1, g2, g3, hj, Int.natCast_nonneg, and_self, if_true, decide_eq_true g5]
 ·
  intro _; rfl
theorem light2 {N : Nat} (hN : 300 < N) (a7 : List RowT) {n : Nat} (hn : n ≤ 100000) {i : Nat} (hi : i < a7.length) (hl : (csA a7 i).length ≤ 200) :
  (iter (law25_Light_b2 N a7 ((n : Int), (i : Int))) N ((n : Int), 0) = some (.inr (((n + (csA a7 i).length : Nat) : Int), ((csA a7 i).length : Int), ((csA a7 i).length : Int), false)) ∧ ∀ k, k < (csA a7 i).length → fewP (clA a7 i k).2.2.2.2.2.2) ∨ (iter (law25_Light_b2 N a7 ((n : Int), (i : Int))) N ((n : Int), 0) = some (.inl ()) ∧ ¬ ∀ k, k < (csA a7 i).length → fewP (clA a7 i k).2.2.2.2.2.2) := by
 have hL : (a7.getD i r0).2.2.2.length = (csA a7 i).length := rfl
 have g1 : (i : Int) < (a7.length : Int) := by omega
 refine iter_scan (fun k => (((n + k : Nat) : Int), ((k : Nat) : Int))) (csA a7 i).length (fun k => fewP (clA a7 i k).2.2.2.2.2.2) ?_ ?_ ?_ (by omega)
 ·
  intro k hk hP
  have g2 : (k : Int) < ((csA a7 i).length : Int) := by omega
  have g3 := inS (i := k) (by omega)
  have g4 := inS (i := n + k) (by omega)
  rcases light3 (N := N) (by omega) a7 (n : Int) ((n + k : Nat) : Int) hi hk with ⟨h, _⟩ | ⟨_, h⟩
  ·
   simp only [law25_Light_b2, Int.toNat_natCast, hL, decide_eq_true g2, cond_true, decide_true, g1, Int.natCast_nonneg, and_self, if_true, h, Option.bind_some, Sum.elim_inr, g3, g4]
   exact congrArg (fun s => some (Sum.inl s)) (Prod.ext (Int.natCast_succ _).symm (Int.natCast_succ k).symm)
  ·
   exact absurd (hP k (Nat.le_refl _)) h
 ·
  intro k hk _ hp
  have g2 : (k : Int) < ((csA a7 i).length : Int) := by omega
  rcases light3 (N := N) (by omega) a7 (n : Int) ((n + k : Nat) : Int) hi hk with ⟨_, h⟩ | ⟨h, _⟩
  ·
   exact absurd h hp
  ·
   simp only [law25_Light_b2, Int.toNat_natCast, hL, decide_eq_true g2, cond_true, decide_true, g1, Int.natCast_nonneg, and_self, if_true, h, Option.bind_some, Sum.elim_inl]
 ·
  intro _
  simp only [law25_Light_b2, Int.toNat_natCast, hL, decide_eq_false (Int.lt_irrefl _), cond_false, g1, Int.natCast_nonneg, and_self, if_true]
theorem light_ok {N : Nat} (hN : 1000 < N) (a1 a2 a3 : Int) (a4 : Bool) (a5 : Int) (a6 : List Int) (a7 : List RowT) (a8 : Int) : ∃ b, law25_Light N a1 a2 a3 a4 a5 a6 a7 a8 = some b ∧ (b = true → lightP a6 a7) := by
 unfold law25_Light
 by_cases h1 : (30 : Int) < (a7.length : Int)
 ·
  exact ⟨false, by simp only [decide_eq_true h1, cond_true], fun h => by cases h⟩
 by_cases h2 : (100 : Int) < (a6.length : Int)
 ·
  exact ⟨false, by simp only [decide_eq_false h1, decide_eq_true h2, cond_true, cond_false], fun h => by cases h⟩
 simp only [decide_eq_false h1, decide_eq_false h2, cond_false]
 have hL : ∀ i : Nat, (a7.getD i r0).2.2.2.length = (csA a7 i).length := fun _ => rfl
 have key := iter_scan (body := law25_Light_b1 N a7) (o1 := .inl ()) (o2 := .inr ((cntA a7 a7.length : Nat) : Int)) (N := N) (fun i => (((cntA a7 i : Nat) : Int), ((i : Nat) : Int))) a7.length (fun i => (csA a7 i).length ≤ 200 ∧ ∀ k, k < (csA a7 i).length → fewP (clA a7 i k).2.2.2.2.2.2) ?_ ?_ ?_ (by omega)
 ·
  rcases key with ⟨h, hP⟩ | ⟨h, _⟩
  ·
   refine ⟨_, by rw [show ((0 : Int), (0 : Int)) = (((cntA a7 0 : Nat) : Int), ((0 : Nat) : Int)) from rfl, h]; rfl, fun _ => ⟨by omega, by omega, hP⟩⟩
  ·
   exact ⟨false, by rw [show ((0 : Int), (0 : Int)) = (((cntA a7 0 : Nat) : Int), ((0 : Nat) : Int)) from rfl, h]; rfl, fun h => by cases h⟩
 ·
  intro i hi hP
  have g1 : (i : Int) < (a7.length : Int) := by omega
  have g3 := inS (i := i) (by omega)
  have hp := hP i (Nat.le_refl _)
  have g2 : ¬ ((200 : Int) < ((csA a7 i).length : Int)) := by omega
  have hc := cntA_le (a7 := a7) i fun j hj => (hP j (by omega)).1
  rcases light2 (N := N) (by omega) a7 (n := cntA a7 i) (by omega) hi hp.1 with ⟨h, _⟩ | ⟨_, h⟩
  ·
   simp only [law25_Light_b1, Int.toNat_natCast, hL, decide_eq_true g1, cond_true, decide_true, g1, Int.natCast_nonneg, and_self, if_true, decide_eq_false g2, cond_false, h, Option.bind_some, Sum.elim_inr, g3]
   exact congrArg (fun s => some (Sum.inl s)) (Prod.ext rfl (Int.natCast_succ i).symm)
  ·
   exact absurd hp.2 h
 ·
  intro i hi hP hp
  have g1 : (i : Int) < (a7.length : Int) := by omega
  by_cases g2 : (200 : Int) < ((csA a7 i).length : Int)
  ·
   simp only [law25_Light_b1, Int.toNat_natCast, hL, decide_eq_true g1, cond_true, decide_true, g1, Int.natCast_nonneg, and_self, if_true, decide_eq_true g2]
  ·
   have hc := cntA_le (a7 := a7) i fun j hj => (hP j (by omega)).1
   rcases light2 (N := N) (by omega) a7 (n := cntA a7 i) (by omega) hi (by omega) with ⟨_, h⟩ | ⟨h, _⟩
   ·
    exact absurd ⟨by omega, h⟩ hp
   ·
    simp only [law25_Light_b1, Int.toNat_natCast, hL, decide_eq_true g1, cond_true, decide_true, g1, Int.natCast_nonneg, and_self, if_true, decide_eq_false g2, cond_false, h, Option.bind_some, Sum.elim_inl]
 ·
  intro _
  simp only [law25_Light_b1, decide_eq_false (Int.lt_irrefl _), cond_false]
theorem rows_eq (N : Nat) (f : Int) : formats_Rows N f = some (fR f, fL f) := by
 unfold formats_Rows
 rw [cells_eq]
 unfold fD fR fL
 by_cases h1 : f = 1
 ·
  simp [h1]
 by_cases h2 : f = 2
 ·
  simp [h2]
 by_cases h3 : f = 3
 ·
  simp [h3]
 by_cases h4 : f = 4
 ·
  simp [h4]
 by_cases h5 : f = 5
 ·
  simp [h5]
 by_cases h6 : f = 6
 ·
  simp [h6]
 ·
  simp [h1, h2, h3, h4, h5, h6]
theorem hmay_ok {N : Nat} (hN : 100 < N) (a1 a2 a3 : Int) (a4 : Bool) (a5 : Int) {a6 : List Int} (a7 : List RowT) (a8 : Int) (h6 : a6.length ≤ 100) : sheethead_may_v1 N a1 a2 a3 a4 a5 a6 a7 a8 = some (headB a1 a2 a3 a5 a6) := by
 unfold sheethead_may_v1
 simp only [size_eq, Option.isSome_some, Option.getD_some, if_true, condF]
 generalize hX : (((((((decide (fA a3 ≠ 0) && decide (0 ≤ a1)) && decide (a1 ≤ 255)) && decide (0 ≤ a2)) && decide (a2 ≤ 7)) && decide (1 ≤ a5)) && decide (a5 ≤ 31)) && decide ((a6.length : Int) ≤ 8)) = X
 have hit : iter (sheethead_may_v1_b1 N a6) N (X, 0) = some (X && (List.range a6.length).all fun j => decide (0 ≤ a6.getD j 0 ∧ a6.getD j 0 ≤ 255)) := by
  refine iter_to (fun j => (X && (List.range j).all (fun j => decide (0 ≤ a6.getD j 0 ∧ a6.getD j 0 ≤ 255)), ((j : Nat) : Int))) a6.length (by simp) ?_ ?_ (by omega)
  ·
   intro j hj
   have g1 : (j : Int) < (a6.length : Int) := by omega
   have g2 := inS (i := j) (by omega)
   simp only [sheethead_may_v1_b1, decide_eq_true g1, cond_true, decide_true, g1, Int.natCast_nonneg, and_self, if_true, Int.toNat_natCast, g2, condF]
   refine congrArg (fun s => some (Sum.inl s)) (Prod.ext ?_ (Int.natCast_succ j).symm)
   simp only [all_succ, Bool.decide_and, Bool.and_assoc]
  ·
   simp only [sheethead_may_v1_b1, decide_eq_false (Int.lt_irrefl _), cond_false]
 rw [hit]
 subst hX
 simp only [headB, Option.bind_some, Bool.and_assoc]
theorem put_ex {N : Nat} (hN : 100 < N) (v : Int) (n : Nat) (bits : List Bool) (hb : bits.length ≤ 1000) (h : n ≤ 32) (h0 : 0 ≤ v) (h1 : v < 2 ^ n) : ∃ B, overspill_outbits_Writer_Put N v n bits = some (0, B) ∧ B.length = bits.length + n :=
 ⟨bits ++ digits v n, put_ok hN (by omega) h h0 h1, by rw [List.length_append, digits_length]⟩
def sbA (b0 : List Bool) (a6 : List Int) : Nat → List Bool
 | 0 => b0
 | j + 1 => sbA b0 a6 j ++ digits (orI 256 (a6.getD j 0)) 9
theorem sbA_len (b0 : List Bool) (a6 : List Int) : ∀ j, (sbA b0 a6 j).length = b0.length + 9 * j
 | 0 => rfl
 | j + 1 => by simp only [sbA, List.length_append, sbA_len b0 a6 j, digits_length]; omega
theorem or256 {v : Int} (h0 : 0 ≤ v) (h1 : v ≤ 255) : 0 ≤ orI 256 v ∧ orI 256 v < 2 ^ 9 := by
 rw [orI_eq (by decide) h0]
 have h2 : v.toNat < 2 ^ 9 := by omega
 exact ⟨Int.natCast_nonneg _, Int.ofNat_lt.2 (Nat.or_lt_two_pow (x := (256 : Int).toNat) (n := 9) (by decide) h2)⟩
theorem hput_ok {M : Nat} (a1 a2 a3 : Int) (a4 : Bool) (a5 : Int) {a6 : List Int} (a7 : List RowT) (a8 : Int) (h6 : a6.length ≤ 100) : ∃ B, sheethead_Put_v1 (M + 200) a1 a2 a3 a4 a5 a6 a7 a8 [] = some (bif headB a1 a2 a3 a5 a6 then 0 else 12, B) := by
 unfold sheethead_Put_v1
 rw [hmay_ok (N := M + 200) (by omega) a1 a2 a3 a4 a5 a7 a8 h6]
 cases hh : headB a1 a2 a3 a5 a6 with
 | false => exact ⟨[], rfl⟩
 | true =>
  unfold headB at hh
  simp only [Bool.and_eq_true, decide_eq_true_eq, List.all_eq_true, List.mem_range] at hh
  obtain ⟨⟨f1, f2, f3, f4, f5, f6, f7, f8⟩, f9⟩ := hh
  obtain ⟨f10, f11⟩ := fA_in f1
  have k2 : ∃ B, marks_Put (M + 200) 0 [] = some (0, B) ∧ B.length = 22 := ⟨digits 32 22, by kernel_rfl, by rw [digits_length]⟩
  obtain ⟨B2, k2, l2⟩ := k2
  obtain ⟨B3, k3, l3⟩ := put_ex (N := M + 200) (by omega) a1 8 B2 (by omega) (by omega) (by omega) (by omega)
  obtain ⟨B4, k4, l4⟩ := put_ex (N := M + 200) (by omega) 2 2 B3 (by omega) (by omega) (by omega) (by omega)
  obtain ⟨B5, k5, l5⟩ := put_ex (N := M + 200) (by omega) a2 3 B4 (by omega) (by omega) (by omega) (by omega)
  obtain ⟨B6, k6, l6⟩ := put_ex (N := M + 200) (by omega) a3 3 B5 (by omega) (by omega) (by omega) (by omega)
  obtain ⟨B7, k7, l7⟩ := put_ex (N := M + 200) (by omega) (bif a4 then (1 : Int) else 0) 1 B6 (by omega) (by omega) (by cases a4 <;> decide) (by cases a4 <;> decide)
  obtain ⟨B8, k8, l8⟩ := put_ex (N := M + 200) (by omega) 0 4 B7 (by omega) (by omega) (by omega) (by omega)
  obtain ⟨B9, k9, l9⟩ := put_ex (N := M + 200) (by omega) a5 5 B8 (by omega) (by omega) (by omega) (by omega)
  obtain ⟨B10, k10, l10⟩ := put_ex (N := M + 200) (by omega) 0 1 B9 (by omega) (by omega) (by omega) (by omega)
  have hM : a6.length < M + 200 := by omega
  have hit : iter (sheethead_Put_v1_b1 (M + 200) a6) (M + 200) (0, B10) = some (sbA B10 a6 a6.length) := by
   refine iter_to (fun j => (((j : Nat) : Int), sbA B10 a6 j)) a6.length rfl ?_ ?_ hM
   ·
    intro j hj
    have g1 : (j : Int) < (a6.length : Int) := by omega
    have g2 := inS (i := j) (by omega)
    obtain ⟨p1, p2⟩ := f9 j hj
    obtain ⟨o1, o2⟩ := or256 p1 p2
    have hl := sbA_len B10 a6 j
    have hp := put_ok (N := M + 200) (by omega) (v := orI 256 (a6.getD j 0)) (n := 9) (bits := sbA B10 a6 j) (by omega) (by omega) o1 o2
    have hp' : overspill_outbits_Writer_Put (M + 200) (orI 256 (a6.getD j 0)) 9 (sbA B10 a6 j) = some (0, sbA B10 a6 (j + 1)) := hp
    simp only [sheethead_Put_v1_b1, decide_eq_true g1, cond_true, decide_true, g1, Int.natCast_nonneg, and_self, if_true, Int.toNat_natCast, hp', p1, Option.isSome_some, Option.getD_some, g2, Int.natCast_succ]
   ·
    simp only [sheethead_Put_v1_b1, decide_eq_false (Int.lt_irrefl _), cond_false]
  have hl := sbA_len B10 a6 a6.length
  obtain ⟨B11, k11, l11⟩ := put_ex (N := M + 200) (by omega) 0 1 (sbA B10 a6 a6.length) (by omega) (by omega) (by omega) (by omega)
  have k3' : overspill_outbits_Writer_Put (M + 200) a1 8 B2 = some (0, B3) := k3
  have k4' : overspill_outbits_Writer_Put (M + 200) 2 2 B3 = some (0, B4) := k4
  have k5' : overspill_outbits_Writer_Put (M + 200) a2 3 B4 = some (0, B5) := k5
  have k6' : overspill_outbits_Writer_Put (M + 200) a3 3 B5 = some (0, B6) := k6
  have k7' : overspill_outbits_Writer_Put (M + 200) (bif a4 then (1 : Int) else 0) 1 B6 = some (0, B7) := k7
  have k8' : overspill_outbits_Writer_Put (M + 200) 0 4 B7 = some (0, B8) := k8
  have k9' : overspill_outbits_Writer_Put (M + 200) a5 5 B8 = some (0, B9) := k9
  have k10' : overspill_outbits_Writer_Put (M + 200) 0 1 B9 = some (0, B10) := k10
  have k11' : overspill_outbits_Writer_Put (M + 200) 0 1 (sbA B10 a6 a6.length) = some (0, B11) := k11
  refine ⟨B11, ?_⟩
  simp only [Option.isSome_some, Option.getD_some, if_true, Bool.not_true, cond_false, cond_true, k2, k3', k4', k5', k6', k7', k8', k9', k10', hit, Option.bind_some, k11']
theorem srow_loop {M : Nat} (hM : 20000 ≤ M) (a4 : Bool) {a7 : List RowT} {i : Nat} (hi : i < a7.length) (hl : (csA a7 i).length ≤ 200) (hg : ∀ k, goodC (clA a7 i k)) : iter (overspill_sound_sheet_row_v1_b1 (M + 200) a4 a7 (i : Int)) (M + 200) 0 = some (bif (List.range (csA a7 i).length).all (fun k => cellB a4 (clA a7 i k)) then .inr () else .inl ()) := by
 refine iter_all (csA a7 i).length (M + 200) (fun k => cellB a4 (clA a7 i k)) ?_ ?_ (by omega)
 ·
  intro k hk
  have hE : (a7.getD i r0).2.2.2.getD k c0 = clA a7 i k := rfl
  have hL : (a7.getD i r0).2.2.2.length = (csA a7 i).length := rfl
  have g1 : (k : Int) < ((csA a7 i).length : Int) := by omega
  have g2 := inS (i := k) (by omega)
  obtain ⟨q1, q2, q3⟩ := hg k
  have hr := right_ok (M := M) a4 (clA a7 i k).1 (clA a7 i k).2.1 (clA a7 i k).2.2.1 (clA a7 i k).2.2.2.1 q1 q2 q3
  have hr' : cellout_Right (M + 200) a4 (clA a7 i k).1 (clA a7 i k).2.1 (clA a7 i k).2.2.1 (clA a7 i k).2.2.2.1 (clA a7 i k).2.2.2.2.1 (clA a7 i k).2.2.2.2.2.1 (clA a7 i k).2.2.2.2.2.2 = some (cellB a4 (clA a7 i k)) := hr
  simp only [overspill_sound_sheet_row_v1_b1, Int.toNat_natCast, hE, hL, decide_eq_true g1, cond_true, decide_true, g1, Int.natCast_nonneg, and_self, if_true, hr', Option.isSome_some, Option.getD_some, g2]
  cases cellB a4 (clA a7 i k) <;> rfl
 ·
  have hL : (a7.getD i r0).2.2.2.length = (csA a7 i).length := rfl
  simp only [overspill_sound_sheet_row_v1_b1, Int.toNat_natCast, hL, decide_eq_false (Int.lt_irrefl _), cond_false]
theorem srow_ok {M : Nat} (hM : 20000 ≤ M) (a1 a2 a3 : Int) (a4 : Bool) (a5 : Int) (a6 : List Int) {a7 : List RowT} (a8 : Int) {i : Nat} (hi : i < a7.length) (hl : (csA a7 i).length ≤ 200) (hg : ∀ k, goodC (clA a7 i k)) : overspill_sound_sheet_row_v1 (M + 200) a1 a2 a3 a4 a5 a6 a7 a8 (i : Int) = some (rowB a3 a4 a7 i) := by
 have hloop := srow_loop (M := M) hM a4 hi hl hg
 obtain ⟨b1, b2, b3, b4, b5, b6⟩ := fRL a3
 have i1 : inK .i64 (fA a3 * fL a3) := in64 (by omega) (by omega)
 have g1 : (i : Int) < (a7.length : Int) := by omega
 have e0 : decide ((i : Int) = 0) = decide (i = 0) := decide_eq_decide.2 (by omega)
 have hL : (a7.getD i r0).2.2.2.length = (csA a7 i).length := rfl
 unfold overspill_sound_sheet_row_v1 rowB rhB
 simp only [cells_eq, rows_eq, Option.isSome_some, if_true, Option.getD_some, g1, Int.natCast_nonneg, and_self, Int.toNat_natCast, hL, i1, hloop, e0]
 generalize (List.range (csA a7 i).length).all (fun k => cellB a4 (clA a7 i k)) = A
 obtain ⟨hd, id, q, cs, hr⟩ : ∃ hd id q cs, a7.getD i r0 = (hd, id, q, cs) := ⟨_, _, _, _, rfl⟩
 simp only [hr]
 by_cases c1 : ((csA a7 i).length : Int) = fA a3 * fL a3
 ·
  simp only [c1, ne_eq, not_true, decide_false, cond_false, decide_true, Bool.true_and]
  cases hd with
  | false =>
   by_cases c2 : id = 0
   ·
    by_cases c3 : q = 0
    ·
     cases A <;> simp [c2, c3]
    ·
     cases A <;> simp [c2, c3]
   ·
    cases A <;> simp [c2]
  | true =>
   by_cases c2 : i = 0
   ·
    cases A <;> simp [c2]
   by_cases c3 : id < 0
   ·
    have e : ¬ 0 ≤ id := by omega
    cases A <;> simp [c2, c3, e]
   by_cases c4 : (3 : Int) < id
   ·
    have e : ¬ id ≤ 3 := by omega
    cases A <;> simp [c2, c3, c4, e]
   by_cases c5 : q < 1
   ·
    have e : ¬ 1 ≤ q := by omega
    cases A <;> simp [c2, c3, c4, c5, e]
   by_cases c6 : (31 : Int) < q
   ·
    have e : ¬ q ≤ 31 := by omega
    cases A <;> simp [c2, c3, c4, c5, c6, e]
   have e3 : 0 ≤ id := by omega
   have e4 : id ≤ 3 := by omega
   have e5 : 1 ≤ q := by omega
   have e6 : q ≤ 31 := by omega
   cases A <;> simp [c2, c3, c4, c5, c6, e3, e4, e5, e6]
 ·
  simp only [c1, ne_eq, not_false_eq_true, decide_true, cond_true, decide_false, Bool.false_and]
theorem every_ok {M : Nat} (hM : 20000 ≤ M) {n : Int} (a1 a2 a3 : Int) (a4 : Bool) (a5 : Int) (a6 : List Int) {a7 : List RowT} (a8 : Int) (hn : (a7.length : Int) = n) (h : lightP a6 a7) (hg : ∀ i k, goodC (clA a7 i k)) : sound_every_row_v1 (M + 200) n a1 a2 a3 a4 a5 a6 a7 a8 = some ((List.range a7.length).all fun i => rowB a3 a4 a7 i) := by
 subst hn
 unfold sound_every_row_v1
 have h30 := h.2.1
 have hit : iter (sound_every_row_v1_b1 (M + 200) (a7.length : Int) a1 a2 a3 a4 a5 a6 a7 a8) (M + 200) 0 = some (bif (List.range a7.length).all (fun i => rowB a3 a4 a7 i) then .inr () else .inl ()) := by
  refine iter_all a7.length (M + 200) (fun i => rowB a3 a4 a7 i) ?_ ?_ (by omega)
  ·
   intro i hi
   have g1 : (i : Int) < (a7.length : Int) := by omega
   have g2 := inS (i := i) (by omega)
   simp only [sound_every_row_v1_b1, decide_eq_true g1, cond_true, srow_ok (M := M) hM a1 a2 a3 a4 a5 a6 a8 hi (light_len h i) (hg i), Option.isSome_some, if_true, Option.getD_some, g2]
   cases rowB a3 a4 a7 i <;> rfl
  ·
   simp only [sound_every_row_v1_b1, decide_eq_false (Int.lt_irrefl _), cond_false]
 rw [hit]
 cases (List.range a7.length).all fun i => rowB a3 a4 a7 i <;> rfl
theorem clone_ok (N : Nat) {l : List Ev} (h : l.length ≤ 1000) : slices_Clone_overspill_api_Event_overspill_api_Event N l = some l := by
 unfold slices_Clone_overspill_api_Event_overspill_api_Event
 rw [if_pos ⟨rfl, by omega, by omega⟩, if_pos (by simp)]
 rfl
theorem set_getD {α : Type} (l : List α) (i : Nat) (d : α) : l.set i (l.getD i d) = l := by
 apply List.ext_getElem
 ·
  simp
 ·
  intro j h1 h2
  rw [List.getElem_set]
  split
  ·
   next h => subst h; simp [List.getD, h2]
  ·
   rfl
theorem own_ok {N : Nat} (hN : 100 < N) (st : Int) (sk : Bool) (k s : Int) (mv dc : List Int) {evs : Evs} (h : fewP evs) : sound_own N st sk k s mv dc evs = some (st, sk, k, s, mv, dc, evs) := by
 unfold sound_own
 have hit : iter (sound_own_b1 N evs) N (0, evs) = some evs := by
  refine iter_to (fun j => (((j : Nat) : Int), evs)) 6 rfl ?_ rfl (by omega)
  intro j hj
  have g1 : (j : Int) < 6 := by omega
  have g2 := inS (i := j) (by omega)
  have hj' := h j hj
  simp only [sound_own_b1, decide_eq_true g1, decide_true, cond_true, g1, hj, Int.natCast_nonneg, Int.toNat_natCast, and_self, if_true, clone_ok N (l := evs.getD j []) (by omega), Option.isSome_some, Option.getD_some, g2, set_getD, Int.natCast_succ]
 rw [hit]; rfl
theorem cells2 {N : Nat} (hN : 10000 < N) {a7 : List RowT} {i : Nat} (hi : i < a7.length) {n : Nat} {l : List CellT} (hn : l.length = n) (hb : n ≤ 10000) (hl : (csA a7 i).length ≤ 200) (hf : ∀ k, fewP (clA a7 i k).2.2.2.2.2.2) :
  iter (sound_Cells_v1_b2 N a7 (n, (i : Int), l)) N (n, 0, l) = some (n + (csA a7 i).length, ((csA a7 i).length : Int), false, l ++ csA a7 i) := by
 have hL : (a7.getD i r0).2.2.2.length = (csA a7 i).length := rfl
 refine iter_to (fun k => (n + k, ((k : Nat) : Int), l ++ (csA a7 i).take k)) (csA a7 i).length (by simp) ?_ ?_ (by omega)
 ·
  intro k hk
  have hE : (a7.getD i r0).2.2.2.getD k c0 = clA a7 i k := rfl
  have g1 : (k : Int) < ((csA a7 i).length : Int) := by omega
  have g2 := inS (i := k) (by omega)
  have g3 : (l ++ (csA a7 i).take k).length = n + k := by rw [List.length_append, List.length_take]; omega
  have g4 : (n + k + 1) * 240 ≤ 140737488355328 := by omega
  have g5 : n + k + 1 ≤ 9223372036854775807 := by omega
  have ho := own_ok (N := N) (by omega) (clA a7 i k).1 (clA a7 i k).2.1 (clA a7 i k).2.2.1 (clA a7 i k).2.2.2.1 (clA a7 i k).2.2.2.2.1 (clA a7 i k).2.2.2.2.2.1 (hf k)
  simp only [sound_Cells_v1_b2, Int.toNat_natCast, hE, hL, decide_eq_true g1, cond_true, decide_true, g1, Int.natCast_nonneg, and_self, if_true, ho, Option.isSome_some, Option.getD_some, g2, g3, g4, g5]
  refine congrArg (fun s => some (Sum.inl s)) (Prod.ext rfl (Prod.ext (Int.natCast_succ k).symm ?_))
  show l ++ (csA a7 i).take k ++ [clA a7 i k] = l ++ (csA a7 i).take (k + 1)
  rw [List.append_assoc, List.take_add_one]
  refine congrArg (fun y => l ++ (List.take k (csA a7 i) ++ y)) ?_
  simp [clA, List.getD, hk]
 ·
  simp only [sound_Cells_v1_b2, Int.toNat_natCast, hL, decide_eq_false (Int.lt_irrefl _), cond_false, List.take_length]
theorem cells_ok {N : Nat} (hN : 10000 < N) (a1 a2 a3 : Int) (a4 : Bool) (a5 : Int) {a6 : List Int} {a7 : List RowT} (a8 : Int) (h : lightP a6 a7) : sound_Cells_v1 N a1 a2 a3 a4 a5 a6 a7 a8 = some (cellsA a7 a7.length) := by
 unfold sound_Cells_v1
 have h30 := h.2.1
 have hit : iter (sound_Cells_v1_b1 N a7) N (0, 0, []) = some ((cellsA a7 a7.length).length, cellsA a7 a7.length) := by
  refine iter_to (fun i => ((cellsA a7 i).length, ((i : Nat) : Int), cellsA a7 i)) a7.length rfl ?_ ?_ (by omega)
  ·
   intro i hi
   have g1 : (i : Int) < (a7.length : Int) := by omega
   have g2 := inS (i := i) (by omega)
   have hc := light_cnt h i (by omega)
   have := cells2 (N := N) hN hi (l := cellsA a7 i) rfl (by rw [cellsA_len]; omega) (light_len h i) (fun k => light_few h i k)
   simp only [sound_Cells_v1_b1, decide_eq_true g1, cond_true, decide_true, g1, Int.natCast_nonneg, and_self, if_true, this, Option.bind_some, g2]
   refine congrArg (fun s => some (Sum.inl s)) (Prod.ext ?_ (Prod.ext (Int.natCast_succ i).symm rfl))
   simp [cellsA]
  ·
   simp only [sound_Cells_v1_b1, decide_eq_false (Int.lt_irrefl _), cond_false]
 rw [hit]
 simp
def vecsB (f : Int) (l : List CellT) : Bool := (List.range l.length).all fun n => intraB (l.getD n c0).2.2.1 || mayF f (n : Int) (l.getD n c0).2.2.2.2.1
def checkA (a1 a2 a3 : Int) (a4 : Bool) (a5 : Int) (a6 : List Int) (a7 : List RowT) (a8 : Int) : Int :=
 bif headB a1 a2 a3 a5 a6 && (decide (0 ≤ a8 ∧ a8 ≤ 262144) && (decide ((a7.length : Int) = fR a3) && (List.range a7.length).all fun i => rowB a3 a4 a7 i)) then (bif vecsB a3 (cellsA a7 a7.length) then 0 else 8) else 12
theorem vloop {N : Nat} (hN : 10000 < N) (f : Int) {l : List CellT} (hl : l.length ≤ 6000) : iter (sound_Check_v1_b1 N f (some l)) N 0 = some (bif vecsB f l then .inr () else .inl ()) := by
 refine iter_all l.length N (fun n => intraB (l.getD n c0).2.2.1 || mayF f (n : Int) (l.getD n c0).2.2.2.2.1) ?_ ?_ (by omega)
 ·
  intro n hn
  have g1 : (n : Int) < (l.length : Int) := by omega
  have g2 := inS (i := n) (by omega)
  have hE : l.getD n ((0 : Int), (false, ((0 : Int), ((0 : Int), ((List.replicate 2 (0 : Int)), ((List.replicate 6 (0 : Int)), (List.replicate 6 []))))))) = l.getD n c0 := rfl
  simp only [sound_Check_v1_b1, Option.getD_some, Int.toNat_natCast, decide_eq_true g1, cond_true, decide_true, g1, Int.natCast_nonneg, and_self, if_true, hE, may_okF (N := N) (by omega), Option.isSome_some, implies_true, g2, intraB]
  by_cases k3 : (l.getD n c0).2.2.1 = 3
  ·
   simp [k3, -List.getD_eq_getElem?_getD]
  ·
   by_cases k4 : (l.getD n c0).2.2.1 = 4
   ·
    simp [k4, -List.getD_eq_getElem?_getD]
   ·
    cases hm : mayF f (n : Int) (l.getD n c0).2.2.2.2.1 <;> simp [k3, k4, hm, -List.getD_eq_getElem?_getD]
 ·
  simp only [sound_Check_v1_b1, Option.getD_some, decide_eq_false (Int.lt_irrefl _), cond_false]
theorem check_ok {M : Nat} (hM : 20000 ≤ M) (a1 a2 a3 : Int) (a4 : Bool) (a5 : Int) {a6 : List Int} {a7 : List RowT} (a8 : Int) (h : lightP a6 a7) (hg : ∀ i k, goodC (clA a7 i k)) : sound_Check_v1 (M + 200) a1 a2 a3 a4 a5 a6 a7 a8 = some (checkA a1 a2 a3 a4 a5 a6 a7 a8) := by
 obtain ⟨B, hp⟩ := hput_ok (M := M) a1 a2 a3 a4 a5 a7 a8 h.1
 have hp' : sheethead_Put_v1 (M + 200) a1 a2 a3 a4 a5 a6 a7 a8 [] = some (bif headB a1 a2 a3 a5 a6 then 0 else 12, B) := hp
 have hcl : (cellsA a7 a7.length).length ≤ 6000 := by rw [cellsA_len]; exact light_cnt h _ h.2.1
 unfold sound_Check_v1 checkA
 simp only [rows_eq, outbits_New, hp', Option.isSome_some, if_true, Option.getD_some, cells_ok (N := M + 200) (by omega) a1 a2 a3 a4 a5 a8 h, vloop (N := M + 200) (by omega) a3 hcl]
 cases hb : headB a1 a2 a3 a5 a6 with
 | false => simp
 | true =>
  by_cases c1 : a8 < 0
  ·
   have e : ¬ 0 ≤ a8 := by omega
   simp [c1, e]
  by_cases c2 : (262144 : Int) < a8
  ·
   have e : ¬ a8 ≤ 262144 := by omega
   simp [c1, c2, e]
  have e1 : 0 ≤ a8 := by omega
  have e2 : a8 ≤ 262144 := by omega
  by_cases c3 : (a7.length : Int) = fR a3
  ·
   have hev := every_ok (M := M) hM a1 a2 a3 a4 a5 a6 a8 c3 h hg
   have hev' : sound_every_row_v1 (M + 200) (fR a3) a1 a2 a3 a4 a5 a6 a7 a8 = some ((List.range a7.length).all fun i => rowB a3 a4 a7 i) := hev
   rw [hev']
   generalize (List.range a7.length).all (fun i => rowB a3 a4 a7 i) = A
   generalize vecsB a3 (cellsA a7 a7.length) = V
   cases A <;> cases V <;> simp [c1, c2, c3, e1, e2]
  ·
   simp [c1, c2, c3, e1, e2]
end Go.Proofs.YtlcjjaglbcfbbaaDoor
