/- What the printed models answer: plain laws. -/
import Derived.Test.YtlcjjaglbcfbbaaDoorEE
set_option linter.unusedVariables false
set_option linter.unusedSimpArgs false
namespace Go.Proofs.YtlcjjaglbcfbbaaDoor
open Go.X

/-! ### quantisers -/
theorem itQ_next {S O : Type} {body : S → Option (S ⊕ O)} {N : Nat} {a b : S} (h : body a = some (.inl b)) : iter body (N + 1) a = iter body N b := by simp only [iter, h]
theorem itQ_done {S O : Type} {body : S → Option (S ⊕ O)} {N : Nat} {a : S} {o : O} (h : body a = some (.inr o)) : iter body (N + 1) a = some o := by simp only [iter, h]
def nextQ (q st : Int) : Int := clip (clip q 1 31 + clip st (-2) 2) 1 31
theorem nextQ_in (q st : Int) : 1 ≤ nextQ q st ∧ nextQ q st ≤ 31 := ⟨clip_ge (by decide), clip_le (by decide)⟩
theorem nextQ_near {q : Int} (st : Int) (h0 : 1 ≤ q) (h1 : q ≤ 31) : nextQ q st - q ≤ 2 ∧ q - nextQ q st ≤ 2 := by
 unfold nextQ
 rw [clip_id h0 h1]
 unfold clip
 constructor <;> (repeat' split) <;> omega
theorem nextQ_zero {q : Int} (h0 : 1 ≤ q) (h1 : q ≤ 31) : nextQ q 0 = q := by
 unfold nextQ
 rw [clip_id h0 h1, clip_id (a := 0) (by decide) (by decide), Int.add_zero, clip_id h0 h1]
def qcell (q : Int) (c : CellT) : Int := bif steppedB c.2.2.1 then nextQ q c.2.2.2.1 else q
def qk (cs : List CellT) (q : Int) : Nat → Int
 | 0 => q
 | k + 1 => qcell (qk cs q k) (cs.getD k c0)
def qst (a7 : List RowT) (a5 : Int) : Nat → Int
 | 0 => a5
 | i + 1 => qk (csA a7 i) (bif (a7.getD i r0).1 then (a7.getD i r0).2.2.1 else qst a7 a5 i) (csA a7 i).length
def qf (a7 : List RowT) (a5 : Int) (i : Nat) : Int := bif (a7.getD i r0).1 then (a7.getD i r0).2.2.1 else qst a7 a5 i
theorem qst_succ (a7 : List RowT) (a5 : Int) (i : Nat) : qst a7 a5 (i + 1) = qk (csA a7 i) (qf a7 a5 i) (csA a7 i).length := rfl
def rowq (a7 : List RowT) (a5 : Int) (i k : Nat) : List Int := (List.range k).map fun k => qk (csA a7 i) (qf a7 a5 i) (k + 1)
def ofA (a7 : List RowT) (a5 : Int) : Nat → List Int
 | 0 => []
 | i + 1 => ofA a7 a5 i ++ rowq a7 a5 i (csA a7 i).length
def firstA (a7 : List RowT) (a5 : Int) (n : Nat) : List Int := (List.range n).map (qf a7 a5)
theorem rowq_len (a7 : List RowT) (a5 : Int) (i k : Nat) : (rowq a7 a5 i k).length = k := by simp [rowq]
theorem rowq_succ (a7 : List RowT) (a5 : Int) (i k : Nat) : rowq a7 a5 i (k + 1) = rowq a7 a5 i k ++ [qk (csA a7 i) (qf a7 a5 i) (k + 1)] := by simp [rowq, List.range_succ]
theorem firstA_succ (a7 : List RowT) (a5 : Int) (n : Nat) : firstA a7 a5 (n + 1) = firstA a7 a5 n ++ [qf a7 a5 n] := by simp [firstA, List.range_succ]
theorem firstA_len (a7 : List RowT) (a5 : Int) (n : Nat) : (firstA a7 a5 n).length = n := by simp [firstA]
theorem firstA_get (a7 : List RowT) (a5 : Int) {n i : Nat} (h : i < n) : (firstA a7 a5 n).getD i 0 = qf a7 a5 i := by simp [firstA, List.getD, h]
theorem ofA_len (a7 : List RowT) (a5 : Int) : ∀ i, (ofA a7 a5 i).length = cntA a7 i
 | 0 => rfl
 | i + 1 => by simp only [ofA, cntA, List.length_append, ofA_len a7 a5 i, rowq_len]
theorem getD_app_l {α : Type} {l r : List α} {i : Nat} {d : α} (h : i < l.length) : (l ++ r).getD i d = l.getD i d := by simp [List.getD, List.getElem?_append_left h]
theorem getD_app_r {α : Type} {l r : List α} {i : Nat} {d : α} : (l ++ r).getD (l.length + i) d = r.getD i d := by
 simp only [List.getD]
 rw [List.getElem?_append_right (by omega), Nat.add_sub_cancel_left]
theorem ofA_get (a7 : List RowT) (a5 : Int) {i k : Nat} (hk : k < (csA a7 i).length) : ∀ d, (ofA a7 a5 (i + 1 + d)).getD (cntA a7 i + k) 0 = qk (csA a7 i) (qf a7 a5 i) (k + 1) := by
 have h0 : (ofA a7 a5 (i + 1)).getD (cntA a7 i + k) 0 = qk (csA a7 i) (qf a7 a5 i) (k + 1) := by
  show (ofA a7 a5 i ++ rowq a7 a5 i (csA a7 i).length).getD (cntA a7 i + k) 0 = _
  rw [← ofA_len a7 a5 i, getD_app_r]
  simp [rowq, List.getD, hk]
 have hmono : ∀ d, cntA a7 (i + 1) ≤ cntA a7 (i + 1 + d) := by
  intro d
  induction d with
  | zero => exact Nat.le_refl _
  | succ d ih => exact Nat.le_trans ih (Nat.le_add_right _ _)
 intro d
 induction d with
 | zero => exact h0
 | succ d ih =>
  show (ofA a7 a5 (i + 1 + d) ++ rowq a7 a5 (i + 1 + d) _).getD _ 0 = _
  rw [getD_app_l, ih]
  rw [ofA_len]
  have := hmono d
  simp only [cntA] at this
  omega
/-- What a sheet that may be says of its quantisers. -/
def okQ (a7 : List RowT) (a5 : Int) : Prop := 1 ≤ a5 ∧ a5 ≤ 31 ∧ ∀ i, i < a7.length → ((a7.getD i r0).1 = true → 1 ≤ (a7.getD i r0).2.2.1 ∧ (a7.getD i r0).2.2.1 ≤ 31) ∧ ∀ k, k < (csA a7 i).length → steppedB (clA a7 i k).2.2.1 = false → (clA a7 i k).2.2.2.1 = 0
theorem qcell_in {q : Int} (c : CellT) (h : 1 ≤ q ∧ q ≤ 31) : 1 ≤ qcell q c ∧ qcell q c ≤ 31 := by
 unfold qcell
 cases steppedB c.2.2.1
 ·
  exact h
 ·
  exact nextQ_in _ _
theorem qcell_near {q : Int} (c : CellT) (h : 1 ≤ q ∧ q ≤ 31) : qcell q c - q ≤ 2 ∧ q - qcell q c ≤ 2 := by
 unfold qcell
 cases steppedB c.2.2.1
 ·
  simp
 ·
  exact nextQ_near _ h.1 h.2
theorem qk_in {cs : List CellT} {q : Int} (h : 1 ≤ q ∧ q ≤ 31) : ∀ k, 1 ≤ qk cs q k ∧ qk cs q k ≤ 31
 | 0 => h
 | k + 1 => qcell_in _ (qk_in h k)
theorem qst_in {a7 : List RowT} {a5 : Int} (h : okQ a7 a5) : ∀ i, i ≤ a7.length → 1 ≤ qst a7 a5 i ∧ qst a7 a5 i ≤ 31 := by
 intro i
 induction i with
 | zero => intro _; exact ⟨h.1, h.2.1⟩
 | succ i ih =>
  intro hi
  rw [qst_succ]
  refine qk_in ?_ _
  unfold qf
  cases hh : (a7.getD i r0).1 with
  | true => exact (h.2.2 i (by omega)).1 hh
  | false => exact ih (by omega)
theorem qf_in {a7 : List RowT} {a5 : Int} (h : okQ a7 a5) {i : Nat} (hi : i < a7.length) : 1 ≤ qf a7 a5 i ∧ qf a7 a5 i ≤ 31 := by
 unfold qf
 cases hh : (a7.getD i r0).1 with
 | true => exact (h.2.2 i hi).1 hh
 | false => exact qst_in h i (by omega)
theorem right_step {inter : Bool} {st : Int} {sk : Bool} {k s : Int} {mv dc : List Int} {evs : Evs} (h : rightB inter st sk k s mv dc evs = true) (hs : steppedB k = false) : s = 0 := by
 unfold rightB at h
 simp only [Bool.and_eq_true] at h
 obtain ⟨_, h⟩ := h
 cases sk with
 | true =>
  simp only [cond_true, Bool.and_eq_true, decide_eq_true_eq] at h
  exact h.2.2.1
 | false =>
  simp only [cond_false, Bool.and_eq_true] at h
  have h1 : stepB k s = true := by
   first | exact h.2.1 | exact h.1.2 | exact h.1.1.2 | exact h.2.2.1 | (simp_all <;> done)
  unfold stepB at h1
  rw [hs, cond_false] at h1
  exact of_decide_eq_true h1
theorem check_okQ {a1 a2 a3 : Int} {a4 : Bool} {a5 : Int} {a6 : List Int} {a7 : List RowT} {a8 : Int} (h : checkA a1 a2 a3 a4 a5 a6 a7 a8 = 0) : okQ a7 a5 ∧ (a7.length : Int) = fR a3 := by
 unfold checkA at h
 cases hc : (headB a1 a2 a3 a5 a6 && (decide (0 ≤ a8 ∧ a8 ≤ 262144) && (decide ((a7.length : Int) = fR a3) && (List.range a7.length).all fun i => rowB a3 a4 a7 i))) with
 | false => rw [hc] at h; cases h
 | true =>
  simp only [Bool.and_eq_true, decide_eq_true_eq, List.all_eq_true, List.mem_range] at hc
  obtain ⟨h1, h2, h3, h4⟩ := hc
  unfold headB at h1
  simp only [Bool.and_eq_true, decide_eq_true_eq] at h1
  obtain ⟨⟨_, _, _, _, _, q1, q2, _⟩, _⟩ := h1
  refine ⟨⟨q1, q2, fun i hi => ?_⟩, h3⟩
  have hr := h4 i hi
  unfold rowB at hr
  simp only [Bool.and_eq_true, List.all_eq_true, List.mem_range] at hr
  obtain ⟨_, hh, hcl⟩ := hr
  refine ⟨fun ht => ?_, fun k hk hs => ?_⟩
  ·
   unfold rhB at hh
   rw [ht, cond_true] at hh
   have := of_decide_eq_true hh
   exact ⟨this.2.2.2.1, this.2.2.2.2⟩
  ·
   exact right_step (hcl k hk) hs
theorem wclip_eq (N : Nat) (a : Int) {lo hi : Int} (h : lo ≤ hi) : whole_Clip N a lo hi = some (clip a lo hi) := by
 have h0 : ¬ hi < lo := by omega
 unfold whole_Clip clip
 rw [decide_eq_false h0, cond_false]
 by_cases h1 : a < lo
 ·
  simp [h1]
 ·
  by_cases h2 : hi < a <;> simp [h1, h2]
theorem snext_eq (N : Nat) (q st : Int) : steps_Next N q st = some (nextQ q st) := by
 have b1 := clip_ge (a := q) (lo := 1) (hi := 31) (by decide)
 have b2 := clip_le (a := q) (lo := 1) (hi := 31) (by decide)
 have b3 := clip_ge (a := st) (lo := -2) (hi := 2) (by decide)
 have b4 := clip_le (a := st) (lo := -2) (hi := 2) (by decide)
 have g : inK .i64 (clip q 1 31 + clip st (-2) 2) := in64 (by omega) (by omega)
 unfold steps_Next nextQ
 simp only [wclip_eq N _ (show (1 : Int) ≤ 31 by decide), wclip_eq N _ (show (-2 : Int) ≤ 2 by decide), Option.isSome_some, Option.getD_some, g, and_self, if_true]
theorem qof2_eq (N : Nat) (v : Int) {n : Nat} (l : List Int) (hn : n ≤ 1000000) : quants_Of_2 N v n n l = some (n + 1, n + 1, l ++ [v]) := by
 unfold quants_Of_2
 rw [if_pos ⟨Nat.le_refl _, rfl, by omega, by omega⟩]; rfl
theorem qfirst1_eq (N : Nat) (v : Int) {n : Nat} (l : List Int) (hn : n ≤ 1000000) : quants_First_1 N v n n l = some (n + 1, n + 1, l ++ [v]) := by
 unfold quants_First_1
 rw [if_pos ⟨Nat.le_refl _, rfl, by omega, by omega⟩]; rfl
theorem walkof2 {N : Nat} (hN : 1000 < N) {a7 : List RowT} {i : Nat} (hi : i < a7.length) (hl : (csA a7 i).length ≤ 200) {n : Nat} (hn : n ≤ 10000) {l : List Int} (z q0 : Int) (a5 : Int) :
  iter (quants_walk_Of_1_Of_2_v1_b2 N a7 (z, (i : Int), n, n, l)) N (qf a7 a5 i, 0, n, n, l) = some (qst a7 a5 (i + 1), ((csA a7 i).length : Int), false, n + (csA a7 i).length, n + (csA a7 i).length, l ++ rowq a7 a5 i (csA a7 i).length) := by
 have hL : (a7.getD i r0).2.2.2.length = (csA a7 i).length := rfl
 refine iter_to (fun k => (qk (csA a7 i) (qf a7 a5 i) k, ((k : Nat) : Int), n + k, n + k, l ++ rowq a7 a5 i k)) (csA a7 i).length (by simp [rowq, qk]) ?_ ?_ (by omega)
 ·
  intro k hk
  have hE : (a7.getD i r0).2.2.2.getD k c0 = (csA a7 i).getD k c0 := rfl
  have g1 : (k : Int) < ((csA a7 i).length : Int) := by omega
  have g2 := inS (i := k) (by omega)
  have jk2 : ∀ {α β : Type} (F : α → Option β) (G : (α → Option β) → Option β), joinK F G = G F := fun _ _ => rfl
  have hq : ∀ v, quants_Of_2 N v (n + k) (n + k) (l ++ rowq a7 a5 i k) = some (n + k + 1, n + k + 1, l ++ rowq a7 a5 i k ++ [v]) := fun v => qof2_eq N v _ (by omega)
  have hs : (bif (bif decide (((csA a7 i).getD k c0).2.2.1 = 1) then true else decide (((csA a7 i).getD k c0).2.2.1 = 4)) then nextQ (qk (csA a7 i) (qf a7 a5 i) k) ((csA a7 i).getD k c0).2.2.2.1 else qk (csA a7 i) (qf a7 a5 i) k) = qk (csA a7 i) (qf a7 a5 i) (k + 1) := by
   show _ = qcell _ _
   unfold qcell steppedB
   cases decide (((csA a7 i).getD k c0).2.2.1 = 1) <;> rfl
  simp only [quants_walk_Of_1_Of_2_v1_b2, jk2, Int.toNat_natCast, hE, hL, decide_eq_true g1, decide_true, cond_true, g1, Int.natCast_nonneg, and_self, if_true, snext_eq, hq, Option.isSome_some, Option.getD_some, g2]
  rw [rowq_succ, ← List.append_assoc, ← hs]
  cases (bif decide (((csA a7 i).getD k c0).2.2.1 = 1) then true else decide (((csA a7 i).getD k c0).2.2.1 = 4)) <;> rfl
 ·
  simp only [quants_walk_Of_1_Of_2_v1_b2, Int.toNat_natCast, hL, decide_eq_false (Int.lt_irrefl _), cond_false]
  rfl
theorem walkof {N : Nat} (hN : 10000 < N) (a1 a2 a3 : Int) (a4 : Bool) (a5 : Int) {a6 : List Int} {a7 : List RowT} (a8 : Int) (h : lightP a6 a7) : quants_walk_Of_1_Of_2_v1 N a1 a2 a3 a4 a5 a6 a7 a8 0 0 [] = some (cntA a7 a7.length, cntA a7 a7.length, ofA a7 a5 a7.length) := by
 unfold quants_walk_Of_1_Of_2_v1
 have h30 := h.2.1
 have hit : iter (quants_walk_Of_1_Of_2_v1_b1 N a7) N (a5, 0, 0, 0, []) = some (cntA a7 a7.length, cntA a7 a7.length, ofA a7 a5 a7.length) := by
  refine iter_to (fun i => (qst a7 a5 i, ((i : Nat) : Int), cntA a7 i, cntA a7 i, ofA a7 a5 i)) a7.length rfl ?_ ?_ (by omega)
  ·
   intro i hi
   have g1 : (i : Int) < (a7.length : Int) := by omega
   have g2 := inS (i := i) (by omega)
   have hc := light_cnt h i (by omega)
   have hw := walkof2 (N := N) (by omega) hi (light_len h i) (n := cntA a7 i) (by omega) (l := ofA a7 a5 i) (qst a7 a5 i) 0 a5
   have hqf : (bif (a7.getD i r0).1 then (a7.getD i r0).2.2.1 else qst a7 a5 i) = qf a7 a5 i := rfl
   simp only [quants_walk_Of_1_Of_2_v1_b1, decide_eq_true g1, decide_true, cond_true, g1, Int.natCast_nonneg, and_self, if_true, Int.toNat_natCast, hqf, quants_Of_1, Option.isSome_some, hw, Option.bind_some, g2, Int.natCast_succ]
   rfl
  ·
   simp only [quants_walk_Of_1_Of_2_v1_b1, decide_eq_false (Int.lt_irrefl _), cond_false]
 rw [hit]
 rfl
theorem qof_ok {M : Nat} (hM : 20000 ≤ M) (a1 a2 a3 : Int) (a4 : Bool) (a5 : Int) {a6 : List Int} {a7 : List RowT} (a8 : Int) (h : lightP a6 a7) (hg : ∀ i k, goodC (clA a7 i k)) : quants_Of_v1 (M + 200) a1 a2 a3 a4 a5 a6 a7 a8 = some (bif decide (checkA a1 a2 a3 a4 a5 a6 a7 a8 ≠ 0) then ([], checkA a1 a2 a3 a4 a5 a6 a7 a8) else (ofA a7 a5 a7.length, 0)) := by
 unfold quants_Of_v1
 rw [check_ok (M := M) hM a1 a2 a3 a4 a5 a8 h hg, walkof (N := M + 200) (by omega) a1 a2 a3 a4 a5 a8 h]
 simp only [Option.isSome_some, Option.getD_some, if_true, ofA_len]
 cases decide (checkA a1 a2 a3 a4 a5 a6 a7 a8 ≠ 0) <;> rfl
theorem walkfirst2 {N : Nat} (hN : 1000 < N) {a7 : List RowT} {i : Nat} (hi : i < a7.length) (hl : (csA a7 i).length ≤ 200) (w : Int × Nat × Nat × List Int) (z a5 : Int) :
  iter (quants_walk_First_1_First_2_v1_b2 N a7 (z, (i : Int), w.2)) N (qf a7 a5 i, 0) = some (qst a7 a5 (i + 1), ((csA a7 i).length : Int), false) := by
 have hL : (a7.getD i r0).2.2.2.length = (csA a7 i).length := rfl
 refine iter_to (fun k => (qk (csA a7 i) (qf a7 a5 i) k, ((k : Nat) : Int))) (csA a7 i).length rfl ?_ ?_ (by omega)
 ·
  intro k hk
  have hE : (a7.getD i r0).2.2.2.getD k c0 = (csA a7 i).getD k c0 := rfl
  have g1 : (k : Int) < ((csA a7 i).length : Int) := by omega
  have g2 := inS (i := k) (by omega)
  have jk2 : ∀ {α β : Type} (F : α → Option β) (G : (α → Option β) → Option β), joinK F G = G F := fun _ _ => rfl
  have hs : (bif (bif decide (((csA a7 i).getD k c0).2.2.1 = 1) then true else decide (((csA a7 i).getD k c0).2.2.1 = 4)) then nextQ (qk (csA a7 i) (qf a7 a5 i) k) ((csA a7 i).getD k c0).2.2.2.1 else qk (csA a7 i) (qf a7 a5 i) k) = qk (csA a7 i) (qf a7 a5 i) (k + 1) := by
   show _ = qcell _ _
   unfold qcell steppedB
   cases decide (((csA a7 i).getD k c0).2.2.1 = 1) <;> rfl
  simp only [quants_walk_First_1_First_2_v1_b2, jk2, Int.toNat_natCast, hE, hL, decide_eq_true g1, decide_true, cond_true, g1, Int.natCast_nonneg, and_self, if_true, snext_eq, quants_First_2, Option.isSome_some, Option.getD_some, g2]
  rw [← hs]
  cases (bif decide (((csA a7 i).getD k c0).2.2.1 = 1) then true else decide (((csA a7 i).getD k c0).2.2.1 = 4)) <;> rfl
 ·
  simp only [quants_walk_First_1_First_2_v1_b2, Int.toNat_natCast, hL, decide_eq_false (Int.lt_irrefl _), cond_false]
  rfl
theorem walkfirst {N : Nat} (hN : 10000 < N) (a1 a2 a3 : Int) (a4 : Bool) (a5 : Int) {a6 : List Int} {a7 : List RowT} (a8 : Int) (h : lightP a6 a7) : quants_walk_First_1_First_2_v1 N a1 a2 a3 a4 a5 a6 a7 a8 0 0 [] = some (a7.length, a7.length, firstA a7 a5 a7.length) := by
 unfold quants_walk_First_1_First_2_v1
 have h30 := h.2.1
 have hit : iter (quants_walk_First_1_First_2_v1_b1 N a7) N (a5, 0, 0, 0, []) = some (a7.length, a7.length, firstA a7 a5 a7.length) := by
  refine iter_to (fun i => (qst a7 a5 i, ((i : Nat) : Int), i, i, firstA a7 a5 i)) a7.length rfl ?_ ?_ (by omega)
  ·
   intro i hi
   have g1 : (i : Int) < (a7.length : Int) := by omega
   have g2 := inS (i := i) (by omega)
   have hw := walkfirst2 (N := N) (by omega) hi (light_len h i) (0, i, i, firstA a7 a5 i) (qst a7 a5 i) a5
   have hqf : (bif (a7.getD i r0).1 then (a7.getD i r0).2.2.1 else qst a7 a5 i) = qf a7 a5 i := rfl
   have h1 := qfirst1_eq N (qf a7 a5 i) (n := i) (firstA a7 a5 i) (by omega)
   simp only [quants_walk_First_1_First_2_v1_b1, decide_eq_true g1, decide_true, cond_true, g1, Int.natCast_nonneg, and_self, if_true, Int.toNat_natCast, hqf, h1, Option.isSome_some, Option.getD_some, hw, Option.bind_some, g2, Int.natCast_succ, firstA_succ]
  ·
   simp only [quants_walk_First_1_First_2_v1_b1, decide_eq_false (Int.lt_irrefl _), cond_false]
 rw [hit]
 rfl
theorem qfirst_ok {M : Nat} (hM : 20000 ≤ M) (a1 a2 a3 : Int) (a4 : Bool) (a5 : Int) {a6 : List Int} {a7 : List RowT} (a8 : Int) (h : lightP a6 a7) (hg : ∀ i k, goodC (clA a7 i k)) : quants_First_v1 (M + 200) a1 a2 a3 a4 a5 a6 a7 a8 = some (bif decide (checkA a1 a2 a3 a4 a5 a6 a7 a8 ≠ 0) then ([], checkA a1 a2 a3 a4 a5 a6 a7 a8) else (firstA a7 a5 a7.length, 0)) := by
 unfold quants_First_v1
 rw [check_ok (M := M) hM a1 a2 a3 a4 a5 a8 h hg, walkfirst (N := M + 200) (by omega) a1 a2 a3 a4 a5 a8 h]
 simp only [Option.isSome_some, Option.getD_some, if_true, firstA_len]
 cases decide (checkA a1 a2 a3 a4 a5 a6 a7 a8 ≠ 0) <;> rfl
theorem rsame30 {N : Nat} {l : List Int} (hN : l.length < N) (hl : l.length ≤ 1000000) : ref30_Same_v2 N l l = some true := by
 unfold ref30_Same_v2
 have hit : iter (ref30_Same_v2_b1 N l l) N 0 = some (Sum.inr ()) := by
  refine iter_to (fun i => ((i : Nat) : Int)) l.length rfl (fun i hi => ?_) ?_ hN
  ·
   have g1 : (i : Int) < (l.length : Int) := by omega
   have g4 := inS (i := i) (by omega)
   simp only [ref30_Same_v2_b1, g1, decide_true, cond_true, Int.natCast_nonneg, Int.toNat_natCast, ne_eq, not_true, decide_false, cond_false, and_self, if_true, g4, Int.natCast_succ]
  ·
   simp only [ref30_Same_v2_b1, Int.lt_irrefl, decide_false, cond_false]
 rw [hit]
 simp
/-! ### plans -/
def btw (a b : Int) : Int := bif decide (b - a ≤ 2 ∧ a - b ≤ 2) then b - a else 0
theorem nextQ_or {a s : Int} (h0 : 1 ≤ a) (h1 : a ≤ 31) (h2 : -2 ≤ s) (h3 : s ≤ 2) : (nextQ a s = a + s ∧ 1 ≤ a + s ∧ a + s ≤ 31) ∨ (nextQ a s = 1 ∧ a + s < 1) ∨ (nextQ a s = 31 ∧ 31 < a + s) := by
 unfold nextQ
 rw [clip_id h0 h1, clip_id (a := s) (by omega) (by omega)]
 unfold clip
 by_cases g1 : a + s < 1
 ·
  exact .inr (.inl ⟨if_pos g1, g1⟩)
 ·
  by_cases g2 : 31 < a + s
  ·
   exact .inr (.inr ⟨by rw [if_neg g1, if_pos g2], g2⟩)
  ·
   exact .inl ⟨by rw [if_neg g1, if_neg g2], by omega, by omega⟩
theorem btw2 {N : Nat} (hN : 10 < N) (a b n : Int) : iter (steps_Between_b2 N a b n) N 0 = some (bif decide (nextQ a n = b) then .inl n else bif decide (nextQ a (-n) = b) then .inl (-n) else .inr (2, false)) := by
 obtain ⟨M, rfl⟩ : ∃ M, N = M + 3 := ⟨N - 3, by omega⟩
 have s0 : steps_Between_b2 (M + 3) a b n 0 = some (bif decide (nextQ a n = b) then .inr (.inl n) else .inl 1) := by
  have l0 : ((((List.replicate 2 (0 : Int)).set 0 n).set 1 (-n)).getD (Int.toNat 0) 0) = n := rfl
  have i0 : inK .i64 ((0 : Int) + 1) := by decide
  simp (config := { decide := true }) only [steps_Between_b2, l0, snext_eq, Option.isSome_some, Option.getD_some, if_true, cond_true, i0, and_self]
  cases decide (nextQ a n = b) <;> rfl
 have s1 : steps_Between_b2 (M + 3) a b n 1 = some (bif decide (nextQ a (-n) = b) then .inr (.inl (-n)) else .inl 2) := by
  have l0 : ((((List.replicate 2 (0 : Int)).set 0 n).set 1 (-n)).getD (Int.toNat 1) 0) = (-n) := rfl
  have i0 : inK .i64 ((1 : Int) + 1) := by decide
  simp (config := { decide := true }) only [steps_Between_b2, l0, snext_eq, Option.isSome_some, Option.getD_some, if_true, cond_true, i0, and_self]
  cases decide (nextQ a (-n) = b) <;> rfl
 have s2 : steps_Between_b2 (M + 3) a b n 2 = some (.inr (.inr (2, false))) := rfl
 cases h0 : decide (nextQ a n = b) with
 | true => rw [h0] at s0; exact itQ_done s0
 | false =>
  rw [h0] at s0
  cases h1 : decide (nextQ a (-n) = b) with
  | true => rw [h1] at s1; exact (itQ_next s0).trans (itQ_done s1)
  | false => rw [h1] at s1; exact ((itQ_next s0).trans (itQ_next s1)).trans (itQ_done s2)
theorem btw1 {N : Nat} (hN : 10 < N) (a b : Int) {n : Int} (h0 : 0 ≤ n) (h2 : n ≤ 2) : steps_Between_b1 N a b n = some (bif decide (nextQ a n = b) then .inr (.inl n) else bif decide (nextQ a (-n) = b) then .inr (.inl (-n)) else .inl (n + 1)) := by
 unfold steps_Between_b1
 rw [decide_eq_true (show n < 3 by omega), cond_true, if_pos (in64 (by omega) (by omega)), btw2 hN]
 cases decide (nextQ a n = b) with
 | true => rfl
 | false =>
  cases decide (nextQ a (-n) = b) with
  | true => rfl
  | false => show (if _ then _ else _) = _; rw [if_pos (in64 (by omega) (by omega))]; rfl
theorem btw_ok {N : Nat} (hN : 10 < N) {a b : Int} (a0 : 1 ≤ a) (a1 : a ≤ 31) (b0 : 1 ≤ b) (b1 : b ≤ 31) : ∃ o, steps_Between N a b = some (btw a b, o) := by
 obtain ⟨M, rfl⟩ : ∃ M, N = M + 4 := ⟨N - 4, by omega⟩
 have hx : (bif (bif (bif (decide (a < 1)) then true else (decide (b < 1))) then true else (decide ((31 : Int) < a))) then true else (decide ((31 : Int) < b))) = false := by
  rw [decide_eq_false (show ¬ a < 1 by omega), decide_eq_false (show ¬ b < 1 by omega), decide_eq_false (show ¬ (31 : Int) < a by omega), decide_eq_false (show ¬ (31 : Int) < b by omega)]; rfl
 have k0 := btw1 (N := M + 4) (by omega) a b (n := 0) (by decide) (by decide)
 have k1 := btw1 (N := M + 4) (by omega) a b (n := 1) (by decide) (by decide)
 have k2 := btw1 (N := M + 4) (by omega) a b (n := 2) (by decide) (by decide)
 have k3 : steps_Between_b1 (M + 4) a b 3 = some (.inr (.inr ())) := rfl
 have z0 : nextQ a (-0) = a := nextQ_zero a0 a1
 rw [nextQ_zero a0 a1, z0] at k0
 have p1 := nextQ_or (s := 1) a0 a1 (by decide) (by decide)
 have m1 := nextQ_or (s := -1) a0 a1 (by decide) (by decide)
 have p2 := nextQ_or (s := 2) a0 a1 (by decide) (by decide)
 have m2' := nextQ_or (s := -2) a0 a1 (by decide) (by decide)
 unfold steps_Between
 rw [hx]
 show ∃ o, (iter (steps_Between_b1 (M + 4) a b) (M + 4) 0).bind _ = _
 by_cases e0 : a = b
 ·
  rw [decide_eq_true e0] at k0
  refine ⟨true, ?_⟩
  rw [itQ_done k0]
  have : btw a b = 0 := by unfold btw; rw [decide_eq_true (by omega)]; show b - a = 0; omega
  rw [this]; rfl
 rw [decide_eq_false e0] at k0
 by_cases e1 : nextQ a 1 = b
 ·
  rw [decide_eq_true e1] at k1
  refine ⟨true, ?_⟩
  rw [(itQ_next k0).trans (itQ_done k1)]
  have : btw a b = 1 := by unfold btw; rw [decide_eq_true (by omega)]; show b - a = 1; omega
  rw [this]; rfl
 rw [decide_eq_false e1] at k1
 by_cases e2 : nextQ a (-1) = b
 ·
  rw [decide_eq_true e2] at k1
  refine ⟨true, ?_⟩
  rw [(itQ_next k0).trans (itQ_done k1)]
  have : btw a b = -1 := by unfold btw; rw [decide_eq_true (by omega)]; show b - a = -1; omega
  rw [this]; rfl
 rw [decide_eq_false e2] at k1
 by_cases e3 : nextQ a 2 = b
 ·
  rw [decide_eq_true e3] at k2
  refine ⟨true, ?_⟩
  rw [((itQ_next k0).trans (itQ_next k1)).trans (itQ_done k2)]
  have : btw a b = 2 := by unfold btw; rw [decide_eq_true (by omega)]; show b - a = 2; omega
  rw [this]; rfl
 rw [decide_eq_false e3] at k2
 by_cases e4 : nextQ a (-2) = b
 ·
  rw [decide_eq_true e4] at k2
  refine ⟨true, ?_⟩
  rw [((itQ_next k0).trans (itQ_next k1)).trans (itQ_done k2)]
  have : btw a b = -2 := by unfold btw; rw [decide_eq_true (by omega)]; show b - a = -2; omega
  rw [this]; rfl
 rw [decide_eq_false e4] at k2
 refine ⟨false, ?_⟩
 rw [(((itQ_next k0).trans (itQ_next k1)).trans (itQ_next k2)).trans (itQ_done k3)]
 have : btw a b = 0 := by unfold btw; rw [decide_eq_false (by omega)]; rfl
 rw [this]; rfl
def tf (a9 : List Int) (n : Nat) : Int := bif decide ((n : Int) < (a9.length : Int)) then clip (a9.getD n 0) 1 31 else 1
def fnow (a7 : List RowT) (a9 : List Int) : Nat → Int
 | 0 => 1
 | i + 1 => bif (bif decide ((i : Int) = 0) then true else (a7.getD i r0).1) then tf a9 i else fnow a7 a9 i
def ff (a7 : List RowT) (a9 : List Int) (i : Nat) : Int := fnow a7 a9 (i + 1)
theorem tf_in (a9 : List Int) (n : Nat) : 1 ≤ tf a9 n ∧ tf a9 n ≤ 31 := by
 unfold tf
 cases decide ((n : Int) < (a9.length : Int)) with
 | true => exact ⟨clip_ge (by decide), clip_le (by decide)⟩
 | false => exact ⟨(by decide : (1 : Int) ≤ 1), (by decide : (1 : Int) ≤ 31)⟩
theorem fnow_in (a7 : List RowT) (a9 : List Int) : ∀ i, 1 ≤ fnow a7 a9 i ∧ fnow a7 a9 i ≤ 31
 | 0 => ⟨(by decide : (1 : Int) ≤ 1), (by decide : (1 : Int) ≤ 31)⟩
 | i + 1 => by
  show 1 ≤ (bif _ then tf a9 i else fnow a7 a9 i) ∧ (bif _ then tf a9 i else fnow a7 a9 i) ≤ 31
  cases (bif decide ((i : Int) = 0) then true else (a7.getD i r0).1) with
  | true => exact tf_in a9 i
  | false => exact fnow_in a7 a9 i
def fl (F : Nat → Int) (n : Nat) : List Int := (List.range n).map F
theorem fl_len (F : Nat → Int) (n : Nat) : (fl F n).length = n := by simp [fl]
theorem fl_get (F : Nat → Int) {n i : Nat} (h : i < n) : (fl F n).getD i 0 = F i := by simp [fl, List.getD, h]
theorem fl_succ (F : Nat → Int) (n : Nat) : fl F (n + 1) = fl F n ++ [F n] := by simp [fl, List.range_succ]
theorem cfloors_ok {N : Nat} (hN : 1000 < N) (a1 a2 a3 : Int) (a4 : Bool) (a5 : Int) (a6 : List Int) {a7 : List RowT} (a8 : Int) (a9 : List Int) (h30 : a7.length ≤ 30) : chain_Floors_v1 N a1 a2 a3 a4 a5 a6 a7 a8 a9 = some (fl (ff a7 a9) a7.length) := by
 have jk : ∀ {α β : Type} (F : α → Option β) (G : (α → Option β) → Option β), joinK F G = G F := fun _ _ => rfl
 have hit : iter (chain_Floors_v1_b1 N a7 a9) N (0, 1, 0, 0, []) = some (a7.length, a7.length, fl (ff a7 a9) a7.length) := by
  refine iter_to (fun i => (i, fnow a7 a9 i, ((i : Nat) : Int), i, fl (ff a7 a9) i)) a7.length rfl (fun i hi => ?_) ?_ (by omega)
  ·
   have g1 : (i : Int) < (a7.length : Int) := by omega
   have g2 := inS (i := i) (by omega)
   have g3 : (i + 1) * 8 ≤ 140737488355328 := by omega
   have g4 : i + 1 ≤ 9223372036854775807 := by omega
   have hc := wclip_eq N (a9.getD i 0) (lo := 1) (hi := 31) (by decide)
   simp only [chain_Floors_v1_b1, decide_true, cond_true, g1, Int.natCast_nonneg, and_self, if_true, Int.toNat_natCast, jk, Nat.le_refl, g2, g3, g4, hc, Option.isSome_some, Option.getD_some, true_and]
   rw [fl_succ, Int.natCast_succ]
   show _ = some (Sum.inl (i + 1, (bif (bif decide ((i : Int) = 0) then true else (a7.getD i r0).1) then tf a9 i else fnow a7 a9 i), (i : Int) + 1, i + 1, fl (ff a7 a9) i ++ [bif (bif decide ((i : Int) = 0) then true else (a7.getD i r0).1) then tf a9 i else fnow a7 a9 i]))
   unfold tf
   cases (bif decide ((i : Int) = 0) then true else (a7.getD i r0).1) with
   | false => rfl
   | true =>
    by_cases hl : (i : Int) < (a9.length : Int)
    ·
     rw [decide_eq_true hl]; show (if _ then _ else _) = _; rw [if_pos ⟨hl, trivial⟩]; rfl
    ·
     rw [decide_eq_false hl]; rfl
  ·
   simp only [chain_Floors_v1_b1, decide_eq_false (Int.lt_irrefl _), cond_false]
 unfold chain_Floors_v1
 rw [hit]
 show (if a7.length = (fl (ff a7 a9) a7.length).length then _ else _) = _
 rw [if_pos (fl_len _ _).symm]
def rwF (F : Nat → Int) (a7 : List RowT) (a5 : Int) (i : Nat) : Int := max (qf a7 a5 i) (F i)
def pcF (F : Nat → Int) (a7 : List RowT) (a5 : Int) (i k : Nat) : Int := max (qk (csA a7 i) (qf a7 a5 i) (k + 1)) (F i)
def plF (F : Nat → Int) (a7 : List RowT) (a5 : Int) (i : Nat) : Nat → Int
 | 0 => rwF F a7 a5 i
 | k + 1 => pcF F a7 a5 i k
def psF (F : Nat → Int) (a7 : List RowT) (a5 : Int) (i k : Nat) : Int := btw (plF F a7 a5 i k) (pcF F a7 a5 i k)
def cellsP (F : Nat → Int) (a7 : List RowT) (a5 : Int) : Nat → List Int
 | 0 => []
 | i + 1 => cellsP F a7 a5 i ++ fl (pcF F a7 a5 i) (csA a7 i).length
def stepsP (F : Nat → Int) (a7 : List RowT) (a5 : Int) : Nat → List Int
 | 0 => []
 | i + 1 => stepsP F a7 a5 i ++ fl (psF F a7 a5 i) (csA a7 i).length
theorem cellsP_len (F : Nat → Int) (a7 : List RowT) (a5 : Int) : ∀ i, (cellsP F a7 a5 i).length = cntA a7 i
 | 0 => rfl
 | i + 1 => by simp only [cellsP, cntA, List.length_append, cellsP_len F a7 a5 i, fl_len]
theorem stepsP_len (F : Nat → Int) (a7 : List RowT) (a5 : Int) : ∀ i, (stepsP F a7 a5 i).length = cntA a7 i
 | 0 => rfl
 | i + 1 => by simp only [stepsP, cntA, List.length_append, stepsP_len F a7 a5 i, fl_len]
theorem max_in {a b : Int} (ha : 1 ≤ a ∧ a ≤ 31) (hb : 1 ≤ b ∧ b ≤ 31) : 1 ≤ max a b ∧ max a b ≤ 31 := by omega
theorem plF_in {F : Nat → Int} {a7 : List RowT} {a5 : Int} (ho : okQ a7 a5) (hF : ∀ i, 1 ≤ F i ∧ F i ≤ 31) {i : Nat} (hi : i < a7.length) : ∀ k, 1 ≤ plF F a7 a5 i k ∧ plF F a7 a5 i k ≤ 31
 | 0 => max_in (qf_in ho hi) (hF i)
 | k + 1 => max_in (qk_in (qf_in ho hi) (k + 1)) (hF i)
theorem ofA_mono (a7 : List RowT) (a5 : Int) (i : Nat) : ∀ d, ∃ R, ofA a7 a5 (i + 1 + d) = ofA a7 a5 i ++ (rowq a7 a5 i (csA a7 i).length ++ R)
 | 0 => ⟨[], by rw [List.append_nil]; rfl⟩
 | d + 1 => by
  obtain ⟨R, h⟩ := ofA_mono a7 a5 i d
  have e : ofA a7 a5 (i + 1 + (d + 1)) = ofA a7 a5 (i + 1 + d) ++ rowq a7 a5 (i + 1 + d) (csA a7 (i + 1 + d)).length := rfl
  exact ⟨R ++ rowq a7 a5 (i + 1 + d) (csA a7 (i + 1 + d)).length, by rw [e, h]; simp only [List.append_assoc]⟩
theorem rowq_get (a7 : List RowT) (a5 : Int) {i k n : Nat} (h : k < n) : (rowq a7 a5 i n).getD k 0 = qk (csA a7 i) (qf a7 a5 i) (k + 1) := by simp [rowq, List.getD, h]
theorem row1_ok {N : Nat} (hN : 1000 < N) {F : Nat → Int} (hF : ∀ i, 1 ≤ F i ∧ F i ≤ 31) {a7 : List RowT} {a5 : Int} (ho : okQ a7 a5) {i n : Nat} (hi : i < a7.length) (hl : (csA a7 i).length ≤ 200) (h : Int) {r c : Nat} (hr : r ≤ 1000) (hc : c ≤ 10000) (R C S : List Int) :
  chain_Of_1 N (i : Int) (rowq a7 a5 i (csA a7 i).length) (firstA a7 a5 a7.length) (fl F a7.length) h r c c r R c C c S = some (h, r + 1, c + (csA a7 i).length, c + (csA a7 i).length, r + 1, R ++ [rwF F a7 a5 i], c + (csA a7 i).length, C ++ fl (pcF F a7 a5 i) (csA a7 i).length, c + (csA a7 i).length, S ++ fl (psF F a7 a5 i) (csA a7 i).length) := by
 have f1 : (i : Int) < ((firstA a7 a5 a7.length).length : Int) := by rw [firstA_len]; omega
 have f2 : (i : Int) < ((fl F a7.length).length : Int) := by rw [fl_len]; omega
 have hrw : max ((firstA a7 a5 a7.length).getD i 0) ((fl F a7.length).getD i 0) = rwF F a7 a5 i := by rw [firstA_get a7 a5 hi, fl_get F hi]; rfl
 have hit : iter (chain_Of_1_b1 N (i : Int) (rowq a7 a5 i (csA a7 i).length) (fl F a7.length)) N (rwF F a7 a5 i, 0, c, c, c, C, c, S) = some (c + (csA a7 i).length, c + (csA a7 i).length, c + (csA a7 i).length, C ++ fl (pcF F a7 a5 i) (csA a7 i).length, c + (csA a7 i).length, S ++ fl (psF F a7 a5 i) (csA a7 i).length) := by
  refine iter_to (fun k => (plF F a7 a5 i k, ((k : Nat) : Int), c + k, c + k, c + k, C ++ fl (pcF F a7 a5 i) k, c + k, S ++ fl (psF F a7 a5 i) k)) (csA a7 i).length (by simp [plF, fl]) (fun k hk => ?_) ?_ (by omega)
  ·
   have g1 : (k : Int) < ((rowq a7 a5 i (csA a7 i).length).length : Int) := by rw [rowq_len]; omega
   have g2 := inS (i := k) (by omega)
   have g3 : (c + k + 1) * 8 ≤ 140737488355328 := by omega
   have g4 : c + k + 1 ≤ 9223372036854775807 := by omega
   have hp := plF_in ho hF hi k
   have hp' := plF_in ho hF hi (k + 1)
   have hm : max ((rowq a7 a5 i (csA a7 i).length).getD k 0) ((fl F a7.length).getD i 0) = pcF F a7 a5 i k := by rw [rowq_get a7 a5 hk, fl_get F hi]; rfl
   obtain ⟨o, hb⟩ := btw_ok (N := N) (by omega) (a := plF F a7 a5 i k) (b := pcF F a7 a5 i k) hp.1 hp.2 hp'.1 hp'.2
   simp only [chain_Of_1_b1, decide_true, cond_true, g1, f2, Int.natCast_nonneg, and_self, if_true, Int.toNat_natCast, hm, hb, Option.isSome_some, Option.getD_some, Nat.le_refl, g2, g3, g4]
   rw [fl_succ, fl_succ, ← List.append_assoc, ← List.append_assoc, Int.natCast_succ]
   rfl
  ·
   have e : (((csA a7 i).length : Nat) : Int) = ((rowq a7 a5 i (csA a7 i).length).length : Int) := by rw [rowq_len]
   simp only [chain_Of_1_b1, e, decide_eq_false (Int.lt_irrefl _), cond_false]
 have g3 : (r + 1) * 8 ≤ 140737488355328 := by omega
 have g4 : r + 1 ≤ 9223372036854775807 := by omega
 unfold chain_Of_1
 simp only [f1, f2, Int.natCast_nonneg, and_self, if_true, Int.toNat_natCast, hrw, Nat.le_refl, g3, g4, hit, Option.bind_some]
 rfl
theorem cof_loop {N : Nat} (hN : 10000 < N) {F : Nat → Int} (hF : ∀ i, 1 ≤ F i ∧ F i ≤ 31) {a5 : Int} {a6 : List Int} {a7 : List RowT} (h : lightP a6 a7) (ho : okQ a7 a5) (e : Int) : iter (chain_Of_v1_b1 N a7 (some (firstA a7 a5 a7.length, e)) (some (fl F a7.length))) N (ofA a7 a5 a7.length, 0, 0, 0, 0, 0, 0, [], 0, [], 0, []) = some ((0 : Int), a7.length, cntA a7 a7.length, cntA a7 a7.length, a7.length, fl (rwF F a7 a5) a7.length, cntA a7 a7.length, cellsP F a7 a5 a7.length, cntA a7 a7.length, stepsP F a7 a5 a7.length) := by
 have h30 := h.2.1
 refine iter_to (fun i => ((ofA a7 a5 a7.length).drop (cntA a7 i), ((i : Nat) : Int), 0, i, cntA a7 i, cntA a7 i, i, fl (rwF F a7 a5) i, cntA a7 i, cellsP F a7 a5 i, cntA a7 i, stepsP F a7 a5 i)) a7.length rfl (fun i hi => ?_) ?_ (by omega)
 ·
  have g1 : (i : Int) < (a7.length : Int) := by omega
  have g2 := inS (i := i) (by omega)
  have hc := light_cnt h i (by omega)
  have hl := light_len h i
  have hL : (a7.getD i r0).2.2.2.length = (csA a7 i).length := rfl
  obtain ⟨Q, hQ⟩ := ofA_mono a7 a5 i (a7.length - (i + 1))
  rw [show i + 1 + (a7.length - (i + 1)) = a7.length by omega] at hQ
  have hd : (ofA a7 a5 a7.length).drop (cntA a7 i) = rowq a7 a5 i (csA a7 i).length ++ Q := by rw [hQ, ← ofA_len a7 a5 i, List.drop_left]
  have ht : (rowq a7 a5 i (csA a7 i).length ++ Q).take (csA a7 i).length = rowq a7 a5 i (csA a7 i).length := List.take_left' (rowq_len ..)
  have hd2 : (rowq a7 a5 i (csA a7 i).length ++ Q).drop (csA a7 i).length = (ofA a7 a5 a7.length).drop (cntA a7 (i + 1)) := by
   rw [List.drop_left' (rowq_len ..), hQ, ← List.append_assoc]
   exact (List.drop_left' (by rw [List.length_append, ofA_len, rowq_len]; rfl)).symm
  have g5 : (((csA a7 i).length : Nat) : Int) ≤ ((rowq a7 a5 i (csA a7 i).length ++ Q).length : Int) := by rw [List.length_append, rowq_len]; omega
  have hrow := row1_ok (N := N) (by omega) hF ho (n := 0) hi hl 0 (r := i) (c := cntA a7 i) (by omega) (by omega) (fl (rwF F a7 a5) i) (cellsP F a7 a5 i) (stepsP F a7 a5 i)
  simp only [chain_Of_v1_b1, hd, decide_true, cond_true, g1, Int.natCast_nonneg, and_self, if_true, Int.toNat_natCast, hL, ht, Option.getD_some, hrow, Option.isSome_some, g5, g2, hd2]
  rw [fl_succ, Int.natCast_succ]
  rfl
 ·
  simp only [chain_Of_v1_b1, decide_eq_false (Int.lt_irrefl _), cond_false]
theorem fR_pos {f : Int} (h : fA f ≠ 0) : 0 < fR f := by
 obtain ⟨h1, h2⟩ := fA_in h
 rcases (show f = 1 ∨ f = 2 ∨ f = 3 ∨ f = 4 ∨ f = 5 ∨ f = 6 by omega) with rfl | rfl | rfl | rfl | rfl | rfl <;> decide
theorem check_pos {a1 a2 a3 : Int} {a4 : Bool} {a5 : Int} {a6 : List Int} {a7 : List RowT} {a8 : Int} (h : checkA a1 a2 a3 a4 a5 a6 a7 a8 = 0) : 0 < a7.length := by
 have hR := (check_okQ h).2
 unfold checkA at h
 cases hX : (headB a1 a2 a3 a5 a6 && (decide (0 ≤ a8 ∧ a8 ≤ 262144) && (decide ((a7.length : Int) = fR a3) && (List.range a7.length).all fun i => rowB a3 a4 a7 i))) with
 | false => rw [hX] at h; cases h
 | true =>
  unfold headB at hX
  simp only [Bool.and_eq_true, decide_eq_true_eq] at hX
  have := fR_pos hX.1.1.1
  omega
theorem cof_ok {M : Nat} (hM : 20000 ≤ M) (a1 a2 a3 : Int) (a4 : Bool) (a5 : Int) {a6 : List Int} {a7 : List RowT} (a8 : Int) (a9 : List Int) (h : lightP a6 a7) (hg : ∀ i k, goodC (clA a7 i k)) : chain_Of_v1 (M + 200) a1 a2 a3 a4 a5 a6 a7 a8 a9 = some (bif decide (checkA a1 a2 a3 a4 a5 a6 a7 a8 ≠ 0) then (0, [], [], [], checkA a1 a2 a3 a4 a5 a6 a7 a8) else ((fl (rwF (ff a7 a9) a7 a5) a7.length).getD 0 0, fl (rwF (ff a7 a9) a7 a5) a7.length, cellsP (ff a7 a9) a7 a5 a7.length, stepsP (ff a7 a9) a7 a5 a7.length, 0)) := by
 unfold chain_Of_v1
 rw [qof_ok hM a1 a2 a3 a4 a5 a8 h hg, qfirst_ok hM a1 a2 a3 a4 a5 a8 h hg, cfloors_ok (by omega) a1 a2 a3 a4 a5 a6 a8 a9 h.2.1]
 by_cases hc : checkA a1 a2 a3 a4 a5 a6 a7 a8 = 0
 ·
  have hd : decide (checkA a1 a2 a3 a4 a5 a6 a7 a8 ≠ 0) = false := decide_eq_false (by simp [hc])
  have hp := check_pos hc
  have g1 : (0 : Int) < (a7.length : Int) := by omega
  have hit := cof_loop (N := M + 200) (by omega) (F := ff a7 a9) (fun i => fnow_in a7 a9 (i + 1)) h (check_okQ hc).1 0
  simp only [hd, cond_false, Option.isSome_some, if_true, Option.getD_some, ne_eq, not_true, decide_false, hit, Option.bind_some, g1, hp, and_self, fl_len, cellsP_len, stepsP_len]
 ·
  have hd : decide (checkA a1 a2 a3 a4 a5 a6 a7 a8 ≠ 0) = true := decide_eq_true hc
  simp only [hd, cond_true, Option.isSome_some, if_true, Option.getD_some]
theorem lives37 (M : Nat) : law37_lives (M + 200) = some true := by kernel_rfl
theorem cfloors2_ok {N : Nat} (hN : 1000 < N) (a1 a2 a3 : Int) (a4 : Bool) (a5 : Int) (a6 : List Int) {a7 : List RowT} (a8 : Int) (h30 : a7.length ≤ 30) : chain_Floors_v2 N a1 a2 a3 a4 a5 a6 a7 a8 = some (fl (fun _ => 1) a7.length) := by
 have jk : ∀ {α β : Type} (F : α → Option β) (G : (α → Option β) → Option β), joinK F G = G F := fun _ _ => rfl
 have hit : iter (chain_Floors_v2_b1 N a7) N (0, 0, 0, []) = some (a7.length, a7.length, fl (fun _ => 1) a7.length) := by
  refine iter_to (fun i => (i, ((i : Nat) : Int), i, fl (fun _ => (1 : Int)) i)) a7.length rfl (fun i hi => ?_) ?_ (by omega)
  ·
   have g1 : (i : Int) < (a7.length : Int) := by omega
   have g2 := inS (i := i) (by omega)
   have g3 : (i + 1) * 8 ≤ 140737488355328 := by omega
   have g4 : i + 1 ≤ 9223372036854775807 := by omega
   have g5 : decide ((i : Int) < 0) = false := decide_eq_false (by omega)
   simp only [chain_Floors_v2_b1, decide_true, cond_true, g1, Int.natCast_nonneg, and_self, if_true, Int.toNat_natCast, jk, Nat.le_refl, g2, g3, g4, g5, cond_false]
   rw [fl_succ, Int.natCast_succ]
   cases (bif decide ((i : Int) = 0) then true else (a7.getD i r0).1) <;> rfl
  ·
   simp only [chain_Floors_v2_b1, decide_eq_false (Int.lt_irrefl _), cond_false]
 unfold chain_Floors_v2
 rw [hit]
 show (if a7.length = (fl (fun _ => (1 : Int)) a7.length).length then _ else _) = _
 rw [if_pos (fl_len _ _).symm]
theorem fl_congr {F G : Nat → Int} : ∀ n, (∀ i, i < n → F i = G i) → fl F n = fl G n
 | 0, _ => rfl
 | n + 1, h => by rw [fl_succ, fl_succ, fl_congr n fun i hi => h i (by omega), h n (by omega)]
theorem bare_rows {a7 : List RowT} {a5 : Int} (ho : okQ a7 a5) : fl (rwF (fun _ => 1) a7 a5) a7.length = firstA a7 a5 a7.length :=
 fl_congr (G := qf a7 a5) a7.length fun i hi => by have := qf_in ho hi; show max (qf a7 a5 i) 1 = _; omega
theorem bare_cells {a7 : List RowT} {a5 : Int} (ho : okQ a7 a5) : ∀ n, n ≤ a7.length → cellsP (fun _ => 1) a7 a5 n = ofA a7 a5 n
 | 0, _ => rfl
 | n + 1, h => by
  show cellsP (fun _ => 1) a7 a5 n ++ fl (pcF (fun _ => 1) a7 a5 n) (csA a7 n).length = ofA a7 a5 n ++ fl (fun k => qk (csA a7 n) (qf a7 a5 n) (k + 1)) (csA a7 n).length
  rw [bare_cells ho n (by omega)]
  refine congrArg (fun l => ofA a7 a5 n ++ l) (fl_congr _ fun k hk => ?_)
  have := qk_in (cs := csA a7 n) (qf_in ho (i := n) (by omega)) (k + 1)
  show max (qk (csA a7 n) (qf a7 a5 n) (k + 1)) 1 = _
  omega
theorem cof2_ok {M : Nat} (hM : 20000 ≤ M) (a1 a2 a3 : Int) (a4 : Bool) (a5 : Int) {a6 : List Int} {a7 : List RowT} (a8 : Int) (h : lightP a6 a7) (hg : ∀ i k, goodC (clA a7 i k)) (hc : checkA a1 a2 a3 a4 a5 a6 a7 a8 = 0) : ∃ x y, chain_Of_v2 (M + 200) a1 a2 a3 a4 a5 a6 a7 a8 = some (x, firstA a7 a5 a7.length, ofA a7 a5 a7.length, y, 0) := by
 have hd : decide (checkA a1 a2 a3 a4 a5 a6 a7 a8 ≠ 0) = false := decide_eq_false (by simp [hc])
 have hp := check_pos hc
 have g1 : (0 : Int) < (a7.length : Int) := by omega
 have ho := (check_okQ hc).1
 have hit := cof_loop (N := M + 200) (by omega) (F := fun _ => 1) (fun i => ⟨by decide, by decide⟩) h ho 0
 have hit2 : iter (chain_Of_v2_b1 (M + 200) a7 (some (firstA a7 a5 a7.length, 0)) (some (fl (fun _ => 1) a7.length))) (M + 200) (ofA a7 a5 a7.length, 0, 0, 0, 0, 0, 0, [], 0, [], 0, []) = some ((0 : Int), a7.length, cntA a7 a7.length, cntA a7 a7.length, a7.length, fl (rwF (fun _ => 1) a7 a5) a7.length, cntA a7 a7.length, cellsP (fun _ => 1) a7 a5 a7.length, cntA a7 a7.length, stepsP (fun _ => 1) a7 a5 a7.length) := hit
 refine ⟨(fl (rwF (fun _ => 1) a7 a5) a7.length).getD 0 0, stepsP (fun _ => 1) a7 a5 a7.length, ?_⟩
 unfold chain_Of_v2
 rw [qof_ok hM a1 a2 a3 a4 a5 a8 h hg, qfirst_ok hM a1 a2 a3 a4 a5 a8 h hg, cfloors2_ok (by omega) a1 a2 a3 a4 a5 a6 a8 h.2.1]
 rw [← bare_rows ho, ← bare_cells ho a7.length (Nat.le_refl _)]
 rw [← bare_rows ho, ← bare_cells ho a7.length (Nat.le_refl _)] at hit2
 simp only [hd, cond_false, Option.isSome_some, if_true, Option.getD_some, ne_eq, not_true, decide_false, hit2, Option.bind_some, g1, hp, and_self, fl_len, cellsP_len, stepsP_len]
def catP (G : Nat → Nat → Int) (a7 : List RowT) : Nat → List Int
 | 0 => []
 | i + 1 => catP G a7 i ++ fl (G i) (csA a7 i).length
theorem catP_len (G : Nat → Nat → Int) (a7 : List RowT) : ∀ i, (catP G a7 i).length = cntA a7 i
 | 0 => rfl
 | i + 1 => by simp only [catP, cntA, List.length_append, catP_len G a7 i, fl_len]
theorem catP_get (G : Nat → Nat → Int) (a7 : List RowT) {i k : Nat} (hk : k < (csA a7 i).length) : ∀ d, (catP G a7 (i + 1 + d)).getD (cntA a7 i + k) 0 = G i k := by
 have h0 : (catP G a7 (i + 1)).getD (cntA a7 i + k) 0 = G i k := by
  show (catP G a7 i ++ fl (G i) (csA a7 i).length).getD (cntA a7 i + k) 0 = _
  rw [← catP_len G a7 i, getD_app_r, fl_get _ hk]
 have hmono : ∀ d, cntA a7 (i + 1) ≤ cntA a7 (i + 1 + d) := by
  intro d
  induction d with
  | zero => exact Nat.le_refl _
  | succ d ih => exact Nat.le_trans ih (Nat.le_add_right _ _)
 intro d
 induction d with
 | zero => exact h0
 | succ d ih =>
  show (catP G a7 (i + 1 + d) ++ fl (G (i + 1 + d)) _).getD _ 0 = _
  rw [getD_app_l, ih]
  rw [catP_len]
  have := hmono d
  simp only [cntA] at this
  omega
theorem cells_cat (F : Nat → Int) (a7 : List RowT) (a5 : Int) : ∀ n, cellsP F a7 a5 n = catP (pcF F a7 a5) a7 n
 | 0 => rfl
 | n + 1 => by show cellsP F a7 a5 n ++ _ = catP _ a7 n ++ _; rw [cells_cat F a7 a5 n]
theorem steps_cat (F : Nat → Int) (a7 : List RowT) (a5 : Int) : ∀ n, stepsP F a7 a5 n = catP (psF F a7 a5) a7 n
 | 0 => rfl
 | n + 1 => by show stepsP F a7 a5 n ++ _ = catP _ a7 n ++ _; rw [steps_cat F a7 a5 n]
theorem plF_eq (F : Nat → Int) (a7 : List RowT) (a5 : Int) (i : Nat) : ∀ k, plF F a7 a5 i k = max (qk (csA a7 i) (qf a7 a5 i) k) (F i)
 | 0 => rfl
 | k + 1 => rfl
/-- What a cell's quantiser and step are to those ahead. -/
theorem goes1 {a b f : Int} (ha : 1 ≤ a ∧ a ≤ 31) (hb : 1 ≤ b ∧ b ≤ 31) (hf : 1 ≤ f ∧ f ≤ 31) (h1 : b - a ≤ 2) (h2 : a - b ≤ 2) : btw (max a f) (max b f) = max b f - max a f ∧ -2 ≤ btw (max a f) (max b f) ∧ btw (max a f) (max b f) ≤ 2 ∧ nextQ (max a f) (btw (max a f) (max b f)) = max b f := by
 have e : btw (max a f) (max b f) = max b f - max a f := by unfold btw; rw [decide_eq_true (by omega)]; rfl
 refine ⟨e, by omega, by omega, ?_⟩
 rw [e]
 have := nextQ_or (a := max a f) (s := max b f - max a f) (by omega) (by omega) (by omega) (by omega)
 omega
theorem cgo2 {N : Nat} (hN : 1000 < N) {a7 : List RowT} (a9 : List Int) {a5 : Int} (ho : okQ a7 a5) {i : Nat} (hi : i < a7.length) (hl : (csA a7 i).length ≤ 200) (hc : cntA a7 i ≤ 10000) (hd z : Int) (fr : List Int) :
  iter (law37_ChainGoes_b2 N a7 (some (hd, fr, cellsP (ff a7 a9) a7 a5 a7.length, stepsP (ff a7 a9) a7 a5 a7.length, 0)) (some (ofA a7 a5 a7.length, 0)) (some (fl (ff a7 a9) a7.length)) (((cntA a7 i : Nat) : Int), z, (i : Int))) N (((cntA a7 i : Nat) : Int), rwF (ff a7 a9) a7 a5 i, 0) = some (Sum.inr (((cntA a7 (i + 1) : Nat) : Int), plF (ff a7 a9) a7 a5 i (csA a7 i).length, ((csA a7 i).length : Int), ((csA a7 i).length : Int), false)) := by
 have hL : (a7.getD i r0).2.2.2.length = (csA a7 i).length := rfl
 have g0 : (i : Int) < (a7.length : Int) := by omega
 have hmono : ∀ d, cntA a7 (i + 1) ≤ cntA a7 (i + 1 + d) := by
  intro d
  induction d with
  | zero => exact Nat.le_refl _
  | succ d ih => exact Nat.le_trans ih (Nat.le_add_right _ _)
 have hm := hmono (a7.length - (i + 1))
 rw [show i + 1 + (a7.length - (i + 1)) = a7.length by omega] at hm
 have hc1 : cntA a7 (i + 1) = cntA a7 i + (csA a7 i).length := rfl
 have hF : ∀ i, 1 ≤ ff a7 a9 i ∧ ff a7 a9 i ≤ 31 := fun i => fnow_in a7 a9 (i + 1)
 generalize ff a7 a9 = F at *
 refine iter_to (fun k => (((cntA a7 i + k : Nat) : Int), plF F a7 a5 i k, ((k : Nat) : Int))) (csA a7 i).length rfl ?_ ?_ (by omega)
 ·
  intro k hk
  have g1 : (k : Int) < ((csA a7 i).length : Int) := by omega
  have g2 := inS (i := k) (by omega)
  have g3 := inS (i := cntA a7 i + k) (by omega)
  have k1 := ofA_get a7 a5 hk (a7.length - (i + 1))
  have k2 := catP_get (pcF F a7 a5) a7 hk (a7.length - (i + 1))
  have k3 := catP_get (psF F a7 a5) a7 hk (a7.length - (i + 1))
  rw [show i + 1 + (a7.length - (i + 1)) = a7.length by omega] at k1 k2 k3
  rw [← cells_cat] at k2
  rw [← steps_cat] at k3
  have k4 := fl_get F hi
  have l1 : ((cntA a7 i + k : Nat) : Int) < ((cellsP F a7 a5 a7.length).length : Int) := by rw [cellsP_len]; omega
  have l2 : ((cntA a7 i + k : Nat) : Int) < ((stepsP F a7 a5 a7.length).length : Int) := by rw [stepsP_len]; omega
  have l3 : ((cntA a7 i + k : Nat) : Int) < ((ofA a7 a5 a7.length).length : Int) := by rw [ofA_len]; omega
  have l4 : (i : Int) < ((fl F a7.length).length : Int) := by rw [fl_len]; omega
  have q1 := qk_in (cs := csA a7 i) (qf_in ho hi) (k + 1)
  have q2 := qk_in (cs := csA a7 i) (qf_in ho hi) k
  obtain ⟨q5, q6⟩ := qcell_near ((csA a7 i).getD k c0) (qk_in (cs := csA a7 i) (qf_in ho hi) k)
  have q5 : qk (csA a7 i) (qf a7 a5 i) (k + 1) - qk (csA a7 i) (qf a7 a5 i) k ≤ 2 := q5
  have q6 : qk (csA a7 i) (qf a7 a5 i) k - qk (csA a7 i) (qf a7 a5 i) (k + 1) ≤ 2 := q6
  have hq := hF i
  obtain ⟨w1, w2, w3, w4⟩ := goes1 q2 q1 hq q5 q6
  have hx : pcF F a7 a5 i k = max (qk (csA a7 i) (qf a7 a5 i) (k + 1)) (F i) := rfl
  have hs : psF F a7 a5 i k = btw (plF F a7 a5 i k) (pcF F a7 a5 i k) := rfl
  rw [plF_eq, hx] at hs
  rw [hs] at k3
  rw [hx] at k2
  show law37_ChainGoes_b2 N a7 _ _ _ _ (((cntA a7 i + k : Nat) : Int), plF F a7 a5 i k, ((k : Nat) : Int)) = some (.inl (((cntA a7 i + (k + 1) : Nat) : Int), pcF F a7 a5 i k, ((k + 1 : Nat) : Int)))
  rw [plF_eq, hx]
  generalize btw (max (qk (csA a7 i) (qf a7 a5 i) k) (F i)) (max (qk (csA a7 i) (qf a7 a5 i) (k + 1)) (F i)) = s at *
  generalize qk (csA a7 i) (qf a7 a5 i) (k + 1) = y at *
  generalize qk (csA a7 i) (qf a7 a5 i) k = x at *
  generalize F i = f at *
  have hmx : y ≤ max y f ∧ f ≤ max y f := by omega
  generalize max y f = u at *
  generalize max x f = v at *
  have d1 : decide (u < y) = false := decide_eq_false (by omega)
  have d2 : decide (u < f) = false := decide_eq_false (by omega)
  have d3 : decide (s < (-2)) = false := decide_eq_false (by omega)
  have d4 : decide ((2 : Int) < s) = false := decide_eq_false (by omega)
  have d5 : (decide (s = 0) == decide (u = v)) = true := by
   by_cases e : u = v
   ·
    rw [decide_eq_true e, decide_eq_true (show s = 0 by omega)]; rfl
   ·
    rw [decide_eq_false e, decide_eq_false (show ¬ s = 0 by omega)]; rfl
  have d6 : (bif decide (s ≠ 0) then decide (u ≠ u) else false) = false := by cases decide (s ≠ 0) <;> simp
  have g6 : (0 : Int) ≤ ((cntA a7 i + k : Nat) : Int) := Int.natCast_nonneg _
  have e1 : ((cntA a7 i + (k + 1) : Nat) : Int) = ((cntA a7 i + k : Nat) : Int) + 1 := by omega
  have e2 : ((k + 1 : Nat) : Int) = (k : Int) + 1 := by omega
  have i1 : (decide (s ≠ 0) = true → decide (s ≠ 0) = true) := fun h => h
  simp only [law37_ChainGoes_b2, Int.toNat_natCast, hL, g0, Int.natCast_nonneg, and_self, if_true, decide_true, g1, cond_true, Option.getD_some, k1, k2, k3, k4, l1, l2, l3, l4, g6, snext_eq, w4, d1, d2, d3, d4, d5, d6, cond_false, Bool.not_true, Bool.not_false, Bool.true_and, Option.isSome_some, implies_true, imp_self, g3, g2, e1, e2]
 ·
  simp only [law37_ChainGoes_b2, Int.toNat_natCast, hL, decide_eq_false (Int.lt_irrefl _), cond_false, g0, Int.natCast_nonneg, and_self, if_true]
  rfl
def laQ (F : Nat → Int) (a7 : List RowT) (a5 : Int) : Nat → Int
 | 0 => rwF F a7 a5 0
 | i + 1 => plF F a7 a5 i (csA a7 i).length
theorem laQ_eq (a7 : List RowT) (a9 : List Int) (a5 : Int) {i : Nat} (h : (a7.getD i r0).1 = false) : rwF (ff a7 a9) a7 a5 i = laQ (ff a7 a9) a7 a5 i := by
 cases i with
 | zero => rfl
 | succ i =>
  show rwF (ff a7 a9) a7 a5 (i + 1) = plF (ff a7 a9) a7 a5 i (csA a7 i).length
  rw [plF_eq]
  have hne : decide (((i + 1 : Nat) : Int) = 0) = false := decide_eq_false (by omega)
  have hf : ff a7 a9 (i + 1) = ff a7 a9 i := by
   show (bif (bif decide (((i + 1 : Nat) : Int) = 0) then true else (a7.getD (i + 1) r0).1) then tf a9 (i + 1) else fnow a7 a9 (i + 1)) = fnow a7 a9 (i + 1)
   rw [hne, h]; rfl
  have hq : qf a7 a5 (i + 1) = qk (csA a7 i) (qf a7 a5 i) (csA a7 i).length := by
   unfold qf
   rw [h, cond_false, qst_succ]; rfl
  show max (qf a7 a5 (i + 1)) (ff a7 a9 (i + 1)) = _
  rw [hf, hq]
theorem cgo_law {M : Nat} (hM : 100000 ≤ M) (a1 a2 a3 : Int) (a4 : Bool) (a5 : Int) {a6 : List Int} {a7 : List RowT} (a8 : Int) (a9 : List Int) (hw : ∀ i k, (clA a7 i k).2.2.2.2.1.length = 2 ∧ (clA a7 i k).2.2.2.2.2.1.length = 6) : law37_ChainGoes (M + 200) a1 a2 a3 a4 a5 a6 a7 a8 a9 = some true := by
 have hv := lives37 M
 unfold law37_ChainGoes
 obtain ⟨b, hb, hB⟩ := light_ok (N := M + 200) (by omega) a1 a2 a3 a4 a5 a6 a7 a8
 rw [hb, hv]
 cases b with
 | false => simp only [Option.isSome_some, Option.getD_some, if_true, Bool.not_false, cond_true]
 | true =>
  have h := hB rfl
  have hg : ∀ i k, goodC (clA a7 i k) := fun i k => ⟨(hw i k).1, (hw i k).2, light_few h i k⟩
  by_cases h9 : (100 : Int) < (a9.length : Int)
  ·
   simp only [Option.isSome_some, Option.getD_some, if_true, Bool.not_true, cond_false, decide_eq_true h9, cond_true]
  ·
   rw [cof_ok (M := M) (by omega) a1 a2 a3 a4 a5 a8 a9 h hg, cfloors_ok (by omega) a1 a2 a3 a4 a5 a6 a8 a9 h.2.1, qof_ok (M := M) (by omega) a1 a2 a3 a4 a5 a8 h hg, qfirst_ok (M := M) (by omega) a1 a2 a3 a4 a5 a8 h hg]
   have h30 := h.2.1
   have hcl : cntA a7 a7.length ≤ 6000 := light_cnt h _ h.2.1
   by_cases hc : checkA a1 a2 a3 a4 a5 a6 a7 a8 = 0
   ·
    have hd : decide (checkA a1 a2 a3 a4 a5 a6 a7 a8 ≠ 0) = false := decide_eq_false (by simp [hc])
    obtain ⟨ho, _⟩ := check_okQ hc
    have hp := check_pos hc
    obtain ⟨x, y, hbare⟩ := cof2_ok (M := M) (by omega) a1 a2 a3 a4 a5 a8 h hg hc
    have hs1 := rsame30 (N := M + 200) (l := ofA a7 a5 a7.length) (by rw [ofA_len]; omega) (by rw [ofA_len]; omega)
    have hs2 := rsame30 (N := M + 200) (l := firstA a7 a5 a7.length) (by rw [firstA_len]; omega) (by rw [firstA_len]; omega)
    have hit : iter (law37_ChainGoes_b1 (M + 200) a7 (some ((fl (rwF (ff a7 a9) a7 a5) a7.length).getD 0 0, fl (rwF (ff a7 a9) a7 a5) a7.length, cellsP (ff a7 a9) a7 a5 a7.length, stepsP (ff a7 a9) a7 a5 a7.length, 0)) (some (ofA a7 a5 a7.length, 0)) (some (firstA a7 a5 a7.length, 0)) (some (fl (ff a7 a9) a7.length))) (M + 200) (0, (fl (rwF (ff a7 a9) a7 a5) a7.length).getD 0 0, 0) = some (Sum.inr ()) := by
     refine iter_to (fun i => (((cntA a7 i : Nat) : Int), laQ (ff a7 a9) a7 a5 i, ((i : Nat) : Int))) a7.length (by rw [fl_get _ hp]; rfl) (fun i hi => ?_) ?_ (by omega)
     ·
      have g1 : (i : Int) < (a7.length : Int) := by omega
      have g2 := inS (i := i) (by omega)
      have hcn := light_cnt h i (by omega)
      have l1 : (i : Int) < ((fl (rwF (ff a7 a9) a7 a5) a7.length).length : Int) := by rw [fl_len]; omega
      have l2 : (i : Int) < ((firstA a7 a5 a7.length).length : Int) := by rw [firstA_len]; omega
      have l3 : (i : Int) < ((fl (ff a7 a9) a7.length).length : Int) := by rw [fl_len]; omega
      have k1 := fl_get (rwF (ff a7 a9) a7 a5) hi
      have k2 := firstA_get a7 a5 hi
      have k3 := fl_get (ff a7 a9) hi
      have hgo := cgo2 (N := M + 200) (by omega) a9 ho hi (light_len h i) (by omega) ((fl (rwF (ff a7 a9) a7 a5) a7.length).getD 0 0) (laQ (ff a7 a9) a7 a5 i) (fl (rwF (ff a7 a9) a7 a5) a7.length)
      have d1 : (bif !(a7.getD i r0).1 then decide (rwF (ff a7 a9) a7 a5 i ≠ laQ (ff a7 a9) a7 a5 i) else false) = false := by
       cases hh : (a7.getD i r0).1 with
       | true => rfl
       | false => rw [laQ_eq a7 a9 a5 hh]; simp
      have hmx : qf a7 a5 i ≤ rwF (ff a7 a9) a7 a5 i ∧ ff a7 a9 i ≤ rwF (ff a7 a9) a7 a5 i := by unfold rwF; omega
      have d2 : decide (rwF (ff a7 a9) a7 a5 i < qf a7 a5 i) = false := decide_eq_false (by omega)
      have d3 : decide (rwF (ff a7 a9) a7 a5 i < ff a7 a9 i) = false := decide_eq_false (by omega)
      simp only [law37_ChainGoes_b1, decide_true, g1, cond_true, Option.getD_some, Int.toNat_natCast, Int.natCast_nonneg, k1, k2, k3, l1, l2, l3, d1, d2, d3, cond_false, implies_true, and_self, if_true, hgo, Option.bind_some, Sum.elim_inr, g2, Int.natCast_succ]
      rfl
     ·
      simp only [law37_ChainGoes_b1, decide_eq_false (Int.lt_irrefl _), cond_false]
    have e0 : decide (((a7.length : Nat) : Int) = 0) = false := decide_eq_false (by omega)
    have g1 : (0 : Int) < (a7.length : Int) := by omega
    have hr : decide ((fl (rwF (ff a7 a9) a7 a5) a7.length).getD 0 0 ≠ (fl (rwF (ff a7 a9) a7 a5) a7.length).getD 0 0) = false := by simp
    simp only [hd, cond_false, Option.isSome_some, Option.getD_some, if_true, Bool.not_true, decide_eq_false h9, ne_eq, not_true, decide_false, hbare, hs1, hs2, fl_len, cellsP_len, stepsP_len, ofA_len, e0, g1, implies_true, and_self, hit, Option.bind_some, Sum.elim_inr]
   ·
    have hd : decide (checkA a1 a2 a3 a4 a5 a6 a7 a8 ≠ 0) = true := decide_eq_true hc
    simp only [hd, cond_true, Option.isSome_some, Option.getD_some, if_true, Bool.not_true, cond_false, decide_eq_false h9, List.length_nil, implies_true]
    rfl
theorem law_chainGoes (N : Nat) (hN : 1099511627776 ≤ N) (y0 : Sh.den (.pair (.int .i64) (.pair (.int .i64) (.pair (.int .i64) (.pair .bool (.pair (.int .i64) (.pair (.sl (.int .i64)) (.pair (.sl (.pair .bool (.pair (.int .i64) (.pair (.int .i64) (.sl (.pair (.int .i64) (.pair .bool (.pair (.int .i64) (.pair (.int .i64) (.pair (.arr 2 .i64) (.pair (.arr 6 .i64) (.arrS 6 (.pair .bool (.pair (.int .i64) (.int .i64))))))))))))))) (.int .i64))))))))) (w0 : Sh.wf (.pair (.int .i64) (.pair (.int .i64) (.pair (.int .i64) (.pair .bool (.pair (.int .i64) (.pair (.sl (.int .i64)) (.pair (.sl (.pair .bool (.pair (.int .i64) (.pair (.int .i64) (.sl (.pair (.int .i64) (.pair .bool (.pair (.int .i64) (.pair (.int .i64) (.pair (.arr 2 .i64) (.pair (.arr 6 .i64) (.arrS 6 (.pair .bool (.pair (.int .i64) (.int .i64))))))))))))))) (.int .i64)))))))) y0) (y1 : Sh.den (.sl (.int .i64))) (w1 : Sh.wf (.sl (.int .i64)) y1) : law37_ChainGoes N (y0.1) (y0.2.1) (y0.2.2.1) (y0.2.2.2.1) (y0.2.2.2.2.1) (y0.2.2.2.2.2.1) (y0.2.2.2.2.2.2.1) (y0.2.2.2.2.2.2.2) y1 = some true := by
 obtain ⟨M, rfl⟩ : ∃ M, N = M + 200 := ⟨N - 200, by omega⟩
 exact cgo_law (M := M) (by omega) _ _ _ _ _ _ _ (wf_cells fun r hr c hc => ⟨((w0.2.2.2.2.2.2.1.2 r hr).2.2.2.2 c hc).2.2.2.2.1.1, ((w0.2.2.2.2.2.2.1.2 r hr).2.2.2.2 c hc).2.2.2.2.2.1.1⟩)
end Go.Proofs.YtlcjjaglbcfbbaaDoor
