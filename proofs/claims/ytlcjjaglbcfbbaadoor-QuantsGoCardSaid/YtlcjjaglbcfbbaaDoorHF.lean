/- What the printed models answer: plain laws. -/
import Derived.Test.YtlcjjaglbcfbbaaDoorHE
set_option linter.unusedVariables false
set_option linter.unusedSimpArgs false
namespace Go.Proofs.YtlcjjaglbcfbbaaDoor
open Go.X

/-! ### quantisers -/
def nextQ (q st : Int) : Int := clip (clip q 1 31 + clip st (-2) 2) 1 31
theorem nextQ_in (q st : Int) : 1 ≤ nextQ q st ∧ nextQ q st ≤ 31 := ⟨clip_ge (by decide), clip_le (by decide)⟩
theorem nextQ_near {q : Int} (st : Int) (h0 : 1 ≤ q) (h1 : q ≤ 31) : nextQ q st - q ≤ 2 ∧ q - nextQ q st ≤ 2 := by
 unfold nextQ
 rw [clip_id h0 h1]
 unfold clip
 constructor <;> (repeat' split) <;> omega
def qcell (q : Int) (c : CellT) : Int := bif steppedB c.2.2.1 then nextQ q c.2.2.2.1 else q
def qk (cs : List CellT) (q : Int) : Nat → Int
 | 0 => q
 | k + 1 => qcell (qk cs q k) (cs.getD k c0)
def qst (a7 : List RowT) (a5 : Int) : Nat → Int
 | 0 => a5
 | i + 1 => qk (csA a7 i) (bif (a7.getD i r0).1 then (a7.getD i r0).2.2.1 else qst a7 a5 i) (csA a7 i).length
def qf (a7 : List RowT) (a5 : Int) (i : Nat) : Int := bif (a7.getD i r0).1 then (a7.getD i r0).2.2.1 else qst a7 a5 i
theorem qst_succ (a7 : List RowT) (a5 : Int) (i : Nat) : qst a7 a5 (i + 1) = qk (csA a7 i) (qf a7 a5 i) (csA a7 i).length := rfl
def rowq (a7 : List RowT) (a5 : Int) (i k : Nat) : List Int := (List.range k).map fun k => qk (csA a7 i) (qf a7 a5 i) (k + 1)
def ofA (a7 : List RowT) (a5 : Int) : Nat → List Int
 | 0 => []
 | i + 1 => ofA a7 a5 i ++ rowq a7 a5 i (csA a7 i).length
def firstA (a7 : List RowT) (a5 : Int) (n : Nat) : List Int := (List.range n).map (qf a7 a5)
theorem rowq_len (a7 : List RowT) (a5 : Int) (i k : Nat) : (rowq a7 a5 i k).length = k := by simp [rowq]
theorem rowq_succ (a7 : List RowT) (a5 : Int) (i k : Nat) : rowq a7 a5 i (k + 1) = rowq a7 a5 i k ++ [qk (csA a7 i) (qf a7 a5 i) (k + 1)] := by simp [rowq, List.range_succ]
theorem firstA_succ (a7 : List RowT) (a5 : Int) (n : Nat) : firstA a7 a5 (n + 1) = firstA a7 a5 n ++ [qf a7 a5 n] := by simp [firstA, List.range_succ]
theorem firstA_len (a7 : List RowT) (a5 : Int) (n : Nat) : (firstA a7 a5 n).length = n := by simp [firstA]
theorem firstA_get (a7 : List RowT) (a5 : Int) {n i : Nat} (h : i < n) : (firstA a7 a5 n).getD i 0 = qf a7 a5 i := by simp [firstA, List.getD, h]
theorem ofA_len (a7 : List RowT) (a5 : Int) : ∀ i, (ofA a7 a5 i).length = cntA a7 i
 | 0 => rfl
 | i + 1 => by simp only [ofA, cntA, List.length_append, ofA_len a7 a5 i, rowq_len]
theorem getD_app_l {α : Type} {l r : List α} {i : Nat} {d : α} (h : i < l.length) : (l ++ r).getD i d = l.getD i d := by simp [List.getD, List.getElem?_append_left h]
theorem getD_app_r {α : Type} {l r : List α} {i : Nat} {d : α} : (l ++ r).getD (l.length + i) d = r.getD i d := by
 simp only [List.getD]
 rw [List.getElem?_append_right (by omega), Nat.add_sub_cancel_left]
theorem ofA_get (a7 : List RowT) (a5 : Int) {i k : Nat} (hk : k < (csA a7 i).length) : ∀ d, (ofA a7 a5 (i + 1 + d)).getD (cntA a7 i + k) 0 = qk (csA a7 i) (qf a7 a5 i) (k + 1) := by
 have h0 : (ofA a7 a5 (i + 1)).getD (cntA a7 i + k) 0 = qk (csA a7 i) (qf a7 a5 i) (k + 1) := by
  show (ofA a7 a5 i ++ rowq a7 a5 i (csA a7 i).length).getD (cntA a7 i + k) 0 = _
  rw [← ofA_len a7 a5 i, getD_app_r]
  simp [rowq, List.getD, hk]
 have hmono : ∀ d, cntA a7 (i + 1) ≤ cntA a7 (i + 1 + d) := by
  intro d
  induction d with
  | zero => exact Nat.le_refl _
  | succ d ih => exact Nat.le_trans ih (Nat.le_add_right _ _)
 intro d
 induction d with
 | zero => exact h0
 | succ d ih =>
  show (ofA a7 a5 (i + 1 + d) ++ rowq a7 a5 (i + 1 + d) _).getD _ 0 = _
  rw [getD_app_l, ih]
  rw [ofA_len]
  have := hmono d
  simp only [cntA] at this
  omega
/-- What a sheet that may be says of its quantisers. -/
def okQ (a7 : List RowT) (a5 : Int) : Prop := 1 ≤ a5 ∧ a5 ≤ 31 ∧ ∀ i, i < a7.length → ((a7.getD i r0).1 = true → 1 ≤ (a7.getD i r0).2.2.1 ∧ (a7.getD i r0).2.2.1 ≤ 31) ∧ ∀ k, k < (csA a7 i).length → steppedB (clA a7 i k).2.2.1 = false → (clA a7 i k).2.2.2.1 = 0
theorem qcell_in {q : Int} (c : CellT) (h : 1 ≤ q ∧ q ≤ 31) : 1 ≤ qcell q c ∧ qcell q c ≤ 31 := by
 unfold qcell
 cases steppedB c.2.2.1
 ·
  exact h
 ·
  exact nextQ_in _ _
theorem qcell_near {q : Int} (c : CellT) (h : 1 ≤ q ∧ q ≤ 31) : qcell q c - q ≤ 2 ∧ q - qcell q c ≤ 2 := by
 unfold qcell
 cases steppedB c.2.2.1
 ·
  simp
 ·
  exact nextQ_near _ h.1 h.2
theorem qk_in {cs : List CellT} {q : Int} (h : 1 ≤ q ∧ q ≤ 31) : ∀ k, 1 ≤ qk cs q k ∧ qk cs q k ≤ 31
 | 0 => h
 | k + 1 => qcell_in _ (qk_in h k)
theorem qst_in {a7 : List RowT} {a5 : Int} (h : okQ a7 a5) : ∀ i, i ≤ a7.length → 1 ≤ qst a7 a5 i ∧ qst a7 a5 i ≤ 31 := by
 intro i
 induction i with
 | zero => intro _; exact ⟨h.1, h.2.1⟩
 | succ i ih =>
  intro hi
  rw [qst_succ]
  refine qk_in ?_ _
  unfold qf
  cases hh : (a7.getD i r0).1 with
  | true => exact (h.2.2 i (by omega)).1 hh
  | false => exact ih (by omega)
theorem qf_in {a7 : List RowT} {a5 : Int} (h : okQ a7 a5) {i : Nat} (hi : i < a7.length) : 1 ≤ qf a7 a5 i ∧ qf a7 a5 i ≤ 31 := by
 unfold qf
 cases hh : (a7.getD i r0).1 with
 | true => exact (h.2.2 i hi).1 hh
 | false => exact qst_in h i (by omega)
theorem right_step {inter : Bool} {st : Int} {sk : Bool} {k s : Int} {mv dc : List Int} {evs : Evs} (h : rightB inter st sk k s mv dc evs = true) (hs : steppedB k = false) : s = 0 := by
 unfold rightB at h
 simp only [Bool.and_eq_true] at h
 obtain ⟨_, h⟩ := h
 cases sk with
 | true =>
  simp only [cond_true, Bool.and_eq_true, decide_eq_true_eq] at h
  exact h.2.2.1
 | false =>
  simp only [cond_false, Bool.and_eq_true] at h
  have h1 : stepB k s = true := by
   first | exact h.2.1 | exact h.1.2 | exact h.1.1.2 | exact h.2.2.1 | (simp_all <;> done)
  unfold stepB at h1
  rw [hs, cond_false] at h1
  exact of_decide_eq_true h1
theorem check_okQ {a1 a2 a3 : Int} {a4 : Bool} {a5 : Int} {a6 : List Int} {a7 : List RowT} {a8 : Int} (h : checkA a1 a2 a3 a4 a5 a6 a7 a8 = 0) : okQ a7 a5 ∧ (a7.length : Int) = fR a3 := by
 unfold checkA at h
 cases hc : (headB a1 a2 a3 a5 a6 && (decide (0 ≤ a8 ∧ a8 ≤ 262144) && (decide ((a7.length : Int) = fR a3) && (List.range a7.length).all fun i => rowB a3 a4 a7 i))) with
 | false => rw [hc] at h; cases h
 | true =>
  simp only [Bool.and_eq_true, decide_eq_true_eq, List.all_eq_true, List.mem_range] at hc
  obtain ⟨h1, h2, h3, h4⟩ := hc
  unfold headB at h1
  simp only [Bool.and_eq_true, decide_eq_true_eq] at h1
  obtain ⟨⟨_, _, _, _, _, q1, q2, _⟩, _⟩ := h1
  refine ⟨⟨q1, q2, fun i hi => ?_⟩, h3⟩
  have hr := h4 i hi
  unfold rowB at hr
  simp only [Bool.and_eq_true, List.all_eq_true, List.mem_range] at hr
  obtain ⟨_, hh, hcl⟩ := hr
  refine ⟨fun ht => ?_, fun k hk hs => ?_⟩
  ·
   unfold rhB at hh
   rw [ht, cond_true] at hh
   have := of_decide_eq_true hh
   exact ⟨this.2.2.2.1, this.2.2.2.2⟩
  ·
   exact right_step (hcl k hk) hs
theorem wclip_eq (N : Nat) (a : Int) {lo hi : Int} (h : lo ≤ hi) : whole_Clip N a lo hi = some (clip a lo hi) := by
 have h0 : ¬ hi < lo := by omega
 unfold whole_Clip clip
 rw [decide_eq_false h0, cond_false]
 by_cases h1 : a < lo
 ·
  simp [h1]
 ·
  by_cases h2 : hi < a <;> simp [h1, h2]
theorem snext_eq (N : Nat) (q st : Int) : steps_Next N q st = some (nextQ q st) := by
 have b1 := clip_ge (a := q) (lo := 1) (hi := 31) (by decide)
 have b2 := clip_le (a := q) (lo := 1) (hi := 31) (by decide)
 have b3 := clip_ge (a := st) (lo := -2) (hi := 2) (by decide)
 have b4 := clip_le (a := st) (lo := -2) (hi := 2) (by decide)
 have g : inK .i64 (clip q 1 31 + clip st (-2) 2) := in64 (by omega) (by omega)
 unfold steps_Next nextQ
 simp only [wclip_eq N _ (show (1 : Int) ≤ 31 by decide), wclip_eq N _ (show (-2 : Int) ≤ 2 by decide), Option.isSome_some, Option.getD_some, g, and_self, if_true]
theorem qof2_eq (N : Nat) (v : Int) {n : Nat} (l : List Int) (hn : n ≤ 1000000) : quants_Of_2 N v n n l = some (n + 1, n + 1, l ++ [v]) := by
 unfold quants_Of_2
 rw [if_pos ⟨Nat.le_refl _, rfl, by omega, by omega⟩]; rfl
theorem qfirst1_eq (N : Nat) (v : Int) {n : Nat} (l : List Int) (hn : n ≤ 1000000) : quants_First_1 N v n n l = some (n + 1, n + 1, l ++ [v]) := by
 unfold quants_First_1
 rw [if_pos ⟨Nat.le_refl _, rfl, by omega, by omega⟩]; rfl
theorem walkof2 {N : Nat} (hN : 1000 < N) {a7 : List RowT} {i : Nat} (hi : i < a7.length) (hl : (csA a7 i).length ≤ 200) {n : Nat} (hn : n ≤ 10000) {l : List Int} (z q0 : Int) (a5 : Int) :
  iter (quants_walk_Of_1_Of_2_v1_b2 N a7 (z, (i : Int), n, n, l)) N (qf a7 a5 i, 0, n, n, l) = some (qst a7 a5 (i + 1), ((csA a7 i).length : Int), false, n + (csA a7 i).length, n + (csA a7 i).length, l ++ rowq a7 a5 i (csA a7 i).length) := by
 have hL : (a7.getD i r0).2.2.2.length = (csA a7 i).length := rfl
 refine iter_to (fun k => (qk (csA a7 i) (qf a7 a5 i) k, ((k : Nat) : Int), n + k, n + k, l ++ rowq a7 a5 i k)) (csA a7 i).length (by simp [rowq, qk]) ?_ ?_ (by omega)
 ·
  intro k hk
  have hE : (a7.getD i r0).2.2.2.getD k c0 = (csA a7 i).getD k c0 := rfl
  have g1 : (k : Int) < ((csA a7 i).length : Int) := by omega
  have g2 := inS (i := k) (by omega)
  have jk2 : ∀ {α β : Type} (F : α → Option β) (G : (α → Option β) → Option β), joinK F G = G F := fun _ _ => rfl
  have hq : ∀ v, quants_Of_2 N v (n + k) (n + k) (l ++ rowq a7 a5 i k) = some (n + k + 1, n + k + 1, l ++ rowq a7 a5 i k ++ [v]) := fun v => qof2_eq N v _ (by omega)
  have hs : (bif (bif decide (((csA a7 i).getD k c0).2.2.1 = 1) then true else decide (((csA a7 i).getD k c0).2.2.1 = 4)) then nextQ (qk (csA a7 i) (qf a7 a5 i) k) ((csA a7 i).getD k c0).2.2.2.1 else qk (csA a7 i) (qf a7 a5 i) k) = qk (csA a7 i) (qf a7 a5 i) (k + 1) := by
   show _ = qcell _ _
   unfold qcell steppedB
   cases decide (((csA a7 i).getD k c0).2.2.1 = 1) <;> rfl
  simp only [quants_walk_Of_1_Of_2_v1_b2, jk2, Int.toNat_natCast, hE, hL, decide_eq_true g1, decide_true, cond_true, g1, Int.natCast_nonneg, and_self, if_true, snext_eq, hq, Option.isSome_some, Option.getD_some, g2]
  rw [rowq_succ, ← List.append_assoc, ← hs]
  cases (bif decide (((csA a7 i).getD k c0).2.2.1 = 1) then true else decide (((csA a7 i).getD k c0).2.2.1 = 4)) <;> rfl
 ·
  simp only [quants_walk_Of_1_Of_2_v1_b2, Int.toNat_natCast, hL, decide_eq_false (Int.lt_irrefl _), cond_false]
  rfl
theorem walkof {N : Nat} (hN : 10000 < N) (a1 a2 a3 : Int) (a4 : Bool) (a5 : Int) {a6 : List Int} {a7 : List RowT} (a8 : Int) (h : lightP a6 a7) : quants_walk_Of_1_Of_2_v1 N a1 a2 a3 a4 a5 a6 a7 a8 0 0 [] = some (cntA a7 a7.length, cntA a7 a7.length, ofA a7 a5 a7.length) := by
 unfold quants_walk_Of_1_Of_2_v1
 have h30 := h.2.1
 have hit : iter (quants_walk_Of_1_Of_2_v1_b1 N a7) N (a5, 0, 0, 0, []) = some (cntA a7 a7.length, cntA a7 a7.length, ofA a7 a5 a7.length) := by
  refine iter_to (fun i => (qst a7 a5 i, ((i : Nat) : Int), cntA a7 i, cntA a7 i, ofA a7 a5 i)) a7.length rfl ?_ ?_ (by omega)
  ·
   intro i hi
   have g1 : (i : Int) < (a7.length : Int) := by omega
   have g2 := inS (i := i) (by omega)
   have hc := light_cnt h i (by omega)
   have hw := walkof2 (N := N) (by omega) hi (light_len h i) (n := cntA a7 i) (by omega) (l := ofA a7 a5 i) (qst a7 a5 i) 0 a5
   have hqf : (bif (a7.getD i r0).1 then (a7.getD i r0).2.2.1 else qst a7 a5 i) = qf a7 a5 i := rfl
   simp only [quants_walk_Of_1_Of_2_v1_b1, decide_eq_true g1, decide_true, cond_true, g1, Int.natCast_nonneg, and_self, if_true, Int.toNat_natCast, hqf, quants_Of_1, Option.isSome_some, hw, Option.bind_some, g2, Int.natCast_succ]
   rfl
  ·
   simp only [quants_walk_Of_1_Of_2_v1_b1, decide_eq_false (Int.lt_irrefl _), cond_false]
 rw [hit]
 rfl
theorem qof_ok {M : Nat} (hM : 20000 ≤ M) (a1 a2 a3 : Int) (a4 : Bool) (a5 : Int) {a6 : List Int} {a7 : List RowT} (a8 : Int) (h : lightP a6 a7) (hg : ∀ i k, goodC (clA a7 i k)) : quants_Of_v1 (M + 200) a1 a2 a3 a4 a5 a6 a7 a8 = some (bif decide (checkA a1 a2 a3 a4 a5 a6 a7 a8 ≠ 0) then ([], checkA a1 a2 a3 a4 a5 a6 a7 a8) else (ofA a7 a5 a7.length, 0)) := by
 unfold quants_Of_v1
 rw [check_ok (M := M) hM a1 a2 a3 a4 a5 a8 h hg, walkof (N := M + 200) (by omega) a1 a2 a3 a4 a5 a8 h]
 simp only [Option.isSome_some, Option.getD_some, if_true, ofA_len]
 cases decide (checkA a1 a2 a3 a4 a5 a6 a7 a8 ≠ 0) <;> rfl
theorem walkfirst2 {N : Nat} (hN : 1000 < N) {a7 : List RowT} {i : Nat} (hi : i < a7.length) (hl : (csA a7 i).length ≤ 200) (w : Int × Nat × Nat × List Int) (z a5 : Int) :
  iter (quants_walk_First_1_First_2_v1_b2 N a7 (z, (i : Int), w.2)) N (qf a7 a5 i, 0) = some (qst a7 a5 (i + 1), ((csA a7 i).length : Int), false) := by
 have hL : (a7.getD i r0).2.2.2.length = (csA a7 i).length := rfl
 refine iter_to (fun k => (qk (csA a7 i) (qf a7 a5 i) k, ((k : Nat) : Int))) (csA a7 i).length rfl ?_ ?_ (by omega)
 ·
  intro k hk
  have hE : (a7.getD i r0).2.2.2.getD k c0 = (csA a7 i).getD k c0 := rfl
  have g1 : (k : Int) < ((csA a7 i).length : Int) := by omega
  have g2 := inS (i := k) (by omega)
  have jk2 : ∀ {α β : Type} (F : α → Option β) (G : (α → Option β) → Option β), joinK F G = G F := fun _ _ => rfl
  have hs : (bif (bif decide (((csA a7 i).getD k c0).2.2.1 = 1) then true else decide (((csA a7 i).getD k c0).2.2.1 = 4)) then nextQ (qk (csA a7 i) (qf a7 a5 i) k) ((csA a7 i).getD k c0).2.2.2.1 else qk (csA a7 i) (qf a7 a5 i) k) = qk (csA a7 i) (qf a7 a5 i) (k + 1) := by
   show _ = qcell _ _
   unfold qcell steppedB
   cases decide (((csA a7 i).getD k c0).2.2.1 = 1) <;> rfl
  simp only [quants_walk_First_1_First_2_v1_b2, jk2, Int.toNat_natCast, hE, hL, decide_eq_true g1, decide_true, cond_true, g1, Int.natCast_nonneg, and_self, if_true, snext_eq, quants_First_2, Option.isSome_some, Option.getD_some, g2]
  rw [← hs]
  cases (bif decide (((csA a7 i).getD k c0).2.2.1 = 1) then true else decide (((csA a7 i).getD k c0).2.2.1 = 4)) <;> rfl
 ·
  simp only [quants_walk_First_1_First_2_v1_b2, Int.toNat_natCast, hL, decide_eq_false (Int.lt_irrefl _), cond_false]
  rfl
theorem walkfirst {N : Nat} (hN : 10000 < N) (a1 a2 a3 : Int) (a4 : Bool) (a5 : Int) {a6 : List Int} {a7 : List RowT} (a8 : Int) (h : lightP a6 a7) : quants_walk_First_1_First_2_v1 N a1 a2 a3 a4 a5 a6 a7 a8 0 0 [] = some (a7.length, a7.length, firstA a7 a5 a7.length) := by
 unfold quants_walk_First_1_First_2_v1
 have h30 := h.2.1
 have hit : iter (quants_walk_First_1_First_2_v1_b1 N a7) N (a5, 0, 0, 0, []) = some (a7.length, a7.length, firstA a7 a5 a7.length) := by
  refine iter_to (fun i => (qst a7 a5 i, ((i : Nat) : Int), i, i, firstA a7 a5 i)) a7.length rfl ?_ ?_ (by omega)
  ·
   intro i hi
   have g1 : (i : Int) < (a7.length : Int) := by omega
   have g2 := inS (i := i) (by omega)
   have hw := walkfirst2 (N := N) (by omega) hi (light_len h i) (0, i, i, firstA a7 a5 i) (qst a7 a5 i) a5
   have hqf : (bif (a7.getD i r0).1 then (a7.getD i r0).2.2.1 else qst a7 a5 i) = qf a7 a5 i := rfl
   have h1 := qfirst1_eq N (qf a7 a5 i) (n := i) (firstA a7 a5 i) (by omega)
   simp only [quants_walk_First_1_First_2_v1_b1, decide_eq_true g1, decide_true, cond_true, g1, Int.natCast_nonneg, and_self, if_true, Int.toNat_natCast, hqf, h1, Option.isSome_some, Option.getD_some, hw, Option.bind_some, g2, Int.natCast_succ, firstA_succ]
  ·
   simp only [quants_walk_First_1_First_2_v1_b1, decide_eq_false (Int.lt_irrefl _), cond_false]
 rw [hit]
 rfl
theorem qfirst_ok {M : Nat} (hM : 20000 ≤ M) (a1 a2 a3 : Int) (a4 : Bool) (a5 : Int) {a6 : List Int} {a7 : List RowT} (a8 : Int) (h : lightP a6 a7) (hg : ∀ i k, goodC (clA a7 i k)) : quants_First_v1 (M + 200) a1 a2 a3 a4 a5 a6 a7 a8 = some (bif decide (checkA a1 a2 a3 a4 a5 a6 a7 a8 ≠ 0) then ([], checkA a1 a2 a3 a4 a5 a6 a7 a8) else (firstA a7 a5 a7.length, 0)) := by
 unfold quants_First_v1
 rw [check_ok (M := M) hM a1 a2 a3 a4 a5 a8 h hg, walkfirst (N := M + 200) (by omega) a1 a2 a3 a4 a5 a8 h]
 simp only [Option.isSome_some, Option.getD_some, if_true, firstA_len]
 cases decide (checkA a1 a2 a3 a4 a5 a6 a7 a8 ≠ 0) <;> rfl
theorem lives30 (M : Nat) : law30_lives (M + 200) = some true := by kernel_rfl
theorem go2 {N : Nat} (hN : 1000 < N) {a7 : List RowT} {a5 : Int} (ho : okQ a7 a5) {i : Nat} (hi : i < a7.length) (hl : (csA a7 i).length ≤ 200) (hc : cntA a7 i ≤ 10000) :
  iter (law30_QuantsGo_b2 N a7 (some (ofA a7 a5 a7.length, 0)) (((cntA a7 i : Nat) : Int), (i : Int))) N (((cntA a7 i : Nat) : Int), qf a7 a5 i, 0) = some (Sum.inr (((cntA a7 (i + 1) : Nat) : Int), qst a7 a5 (i + 1), ((csA a7 i).length : Int), ((csA a7 i).length : Int), false)) := by
 have hL : (a7.getD i r0).2.2.2.length = (csA a7 i).length := rfl
 have g0 : (i : Int) < (a7.length : Int) := by omega
 have hmono : ∀ d, cntA a7 (i + 1) ≤ cntA a7 (i + 1 + d) := by
  intro d
  induction d with
  | zero => exact Nat.le_refl _
  | succ d ih => exact Nat.le_trans ih (Nat.le_add_right _ _)
 have hm := hmono (a7.length - (i + 1))
 rw [show i + 1 + (a7.length - (i + 1)) = a7.length by omega] at hm
 have hc1 : cntA a7 (i + 1) = cntA a7 i + (csA a7 i).length := rfl
 refine iter_to (fun k => (((cntA a7 i + k : Nat) : Int), qk (csA a7 i) (qf a7 a5 i) k, ((k : Nat) : Int))) (csA a7 i).length rfl ?_ ?_ (by omega)
 ·
  intro k hk
  have g1 : (k : Int) < ((csA a7 i).length : Int) := by omega
  have g2 := inS (i := k) (by omega)
  have g3 := inS (i := cntA a7 i + k) (by omega)
  have hget := ofA_get a7 a5 hk (a7.length - (i + 1))
  rw [show i + 1 + (a7.length - (i + 1)) = a7.length by omega] at hget
  obtain ⟨q1, q2⟩ := qk_in (cs := csA a7 i) (qf_in ho hi) (k + 1)
  obtain ⟨q3, q4⟩ := qk_in (cs := csA a7 i) (qf_in ho hi) k
  obtain ⟨q5, q6⟩ := qcell_near ((csA a7 i).getD k c0) (qk_in (cs := csA a7 i) (qf_in ho hi) k)
  have q5 : qk (csA a7 i) (qf a7 a5 i) (k + 1) - qk (csA a7 i) (qf a7 a5 i) k ≤ 2 := q5
  have q6 : qk (csA a7 i) (qf a7 a5 i) k - qk (csA a7 i) (qf a7 a5 i) (k + 1) ≤ 2 := q6
  generalize qk (csA a7 i) (qf a7 a5 i) (k + 1) = y at *
  generalize qk (csA a7 i) (qf a7 a5 i) k = x at *
  have d1 : ¬ ((ofA a7 a5 a7.length).length : Int) ≤ ((cntA a7 i + k : Nat) : Int) := by rw [ofA_len]; omega
  have d1' : ((cntA a7 i + k : Nat) : Int) < ((ofA a7 a5 a7.length).length : Int) := by omega
  have d2 : ¬ y < 1 := by omega
  have d3 : ¬ (31 : Int) < y := by omega
  have d4 : ¬ (2 : Int) < y - x := by omega
  have d5 : ¬ (2 : Int) < x - y := by omega
  have g4 : inK .i64 (y - x) := in64 (by omega) (by omega)
  have g5 : inK .i64 (x - y) := in64 (by omega) (by omega)
  have g6 : (0 : Int) ≤ ((cntA a7 i + k : Nat) : Int) := Int.natCast_nonneg _
  simp only [law30_QuantsGo_b2, Int.toNat_natCast, hL, g0, Int.natCast_nonneg, and_self, if_true, decide_eq_true g1, cond_true, Option.getD_some, hget, decide_eq_false d1, decide_eq_false d2, decide_eq_false d3, decide_eq_false d4, decide_eq_false d5, cond_false, d1', g4, g5, implies_true, g3, g2]
  exact congrArg (fun s => some (Sum.inl s)) (Prod.ext (Int.natCast_succ _).symm (Prod.ext rfl (Int.natCast_succ k).symm))
 ·
  simp only [law30_QuantsGo_b2, Int.toNat_natCast, hL, decide_eq_false (Int.lt_irrefl _), cond_false, g0, Int.natCast_nonneg, and_self, if_true]
  rfl
theorem qgo_law {M : Nat} (hM : 100000 ≤ M) (a1 a2 a3 : Int) (a4 : Bool) (a5 : Int) {a6 : List Int} {a7 : List RowT} (a8 : Int) (hw : ∀ i k, (clA a7 i k).2.2.2.2.1.length = 2 ∧ (clA a7 i k).2.2.2.2.2.1.length = 6) : law30_QuantsGo (M + 200) a1 a2 a3 a4 a5 a6 a7 a8 = some true := by
 have hv := lives30 M
 unfold law30_QuantsGo
 obtain ⟨b, hb, hB⟩ := light_ok (N := M + 200) (by omega) a1 a2 a3 a4 a5 a6 a7 a8
 rw [hb, hv]
 cases b with
 | false => rfl
 | true =>
  have h := hB rfl
  have hg : ∀ i k, goodC (clA a7 i k) := fun i k => ⟨(hw i k).1, (hw i k).2, light_few h i k⟩
  rw [qof_ok (M := M) (by omega) a1 a2 a3 a4 a5 a8 h hg, qfirst_ok (M := M) (by omega) a1 a2 a3 a4 a5 a8 h hg]
  by_cases hc : checkA a1 a2 a3 a4 a5 a6 a7 a8 = 0
  ·
   obtain ⟨ho, _⟩ := check_okQ hc
   have h30 := h.2.1
   have hd : decide (checkA a1 a2 a3 a4 a5 a6 a7 a8 ≠ 0) = false := decide_eq_false (fun h => h hc)
   rw [hd, cond_false, cond_false]
   have hit : iter (law30_QuantsGo_b1 (M + 200) a7 (some (ofA a7 a5 a7.length, 0)) (some (firstA a7 a5 a7.length, 0))) (M + 200) (0, 0) = some (Sum.inr ((cntA a7 a7.length : Nat) : Int)) := by
    refine iter_to (fun i => (((cntA a7 i : Nat) : Int), ((i : Nat) : Int))) a7.length rfl ?_ ?_ (by omega)
    ·
     intro i hi
     have g1 : (i : Int) < (a7.length : Int) := by omega
     have g2 := inS (i := i) (by omega)
     have hcn := light_cnt h i (by omega)
     have d1 : ¬ ((firstA a7 a5 a7.length).length : Int) ≤ (i : Int) := by rw [firstA_len]; omega
     have d2 : (i : Int) < ((firstA a7 a5 a7.length).length : Int) := by omega
     have hgo := go2 (N := M + 200) (by omega) ho hi (light_len h i) (by omega)
     simp only [law30_QuantsGo_b1, decide_eq_true g1, cond_true, Option.getD_some, decide_eq_false d1, cond_false, d2, Int.natCast_nonneg, and_self, if_true, Int.toNat_natCast, firstA_get a7 a5 hi, hgo, Option.bind_some, Sum.elim_inr, g2, Int.natCast_succ]
    ·
     simp only [law30_QuantsGo_b1, decide_eq_false (Int.lt_irrefl _), cond_false]
   simp only [Option.isSome_some, Option.getD_some, Bool.not_true, cond_false, if_true, ne_eq, not_true, decide_false, hit, Option.bind_some, Sum.elim_inr, ofA_len, decide_true, implies_true, cond_true]
  ·
   have hd : decide (checkA a1 a2 a3 a4 a5 a6 a7 a8 ≠ 0) = true := decide_eq_true hc
   rw [hd, cond_true, cond_true]
   simp [hc]
theorem law_quantsGo (N : Nat) (hN : 1099511627776 ≤ N) (y0 : Sh.den (.pair (.int .i64) (.pair (.int .i64) (.pair (.int .i64) (.pair .bool (.pair (.int .i64) (.pair (.sl (.int .i64)) (.pair (.sl (.pair .bool (.pair (.int .i64) (.pair (.int .i64) (.sl (.pair (.int .i64) (.pair .bool (.pair (.int .i64) (.pair (.int .i64) (.pair (.arr 2 .i64) (.pair (.arr 6 .i64) (.arrS 6 (.pair .bool (.pair (.int .i64) (.int .i64))))))))))))))) (.int .i64))))))))) (w0 : Sh.wf (.pair (.int .i64) (.pair (.int .i64) (.pair (.int .i64) (.pair .bool (.pair (.int .i64) (.pair (.sl (.int .i64)) (.pair (.sl (.pair .bool (.pair (.int .i64) (.pair (.int .i64) (.sl (.pair (.int .i64) (.pair .bool (.pair (.int .i64) (.pair (.int .i64) (.pair (.arr 2 .i64) (.pair (.arr 6 .i64) (.arrS 6 (.pair .bool (.pair (.int .i64) (.int .i64))))))))))))))) (.int .i64)))))))) y0) : law30_QuantsGo N (y0.1) (y0.2.1) (y0.2.2.1) (y0.2.2.2.1) (y0.2.2.2.2.1) (y0.2.2.2.2.2.1) (y0.2.2.2.2.2.2.1) (y0.2.2.2.2.2.2.2) = some true := by
 obtain ⟨M, rfl⟩ : ∃ M, N = M + 200 := ⟨N - 200, by omega⟩
 exact qgo_law (M := M) (by omega) _ _ _ _ _ _ (wf_cells fun r hr c hc => ⟨((w0.2.2.2.2.2.2.1.2 r hr).2.2.2.2 c hc).2.2.2.2.1.1, ((w0.2.2.2.2.2.2.1.2 r hr).2.2.2.2 c hc).2.2.2.2.2.1.1⟩)
end Go.Proofs.YtlcjjaglbcfbbaaDoor
