/- What the printed models answer: plain laws. -/
import Derived.Test.YtlcjjaglbcfbbaaDoorQE
set_option linter.unusedVariables false
set_option linter.unusedSimpArgs false
namespace Go.Proofs.YtlcjjaglbcfbbaaDoor
open Go.X

/-! ### quantisers -/
def nextQ (q st : Int) : Int := clip (clip q 1 31 + clip st (-2) 2) 1 31
theorem nextQ_in (q st : Int) : 1 ≤ nextQ q st ∧ nextQ q st ≤ 31 := ⟨clip_ge (by decide), clip_le (by decide)⟩
theorem nextQ_zero {q : Int} (h0 : 1 ≤ q) (h1 : q ≤ 31) : nextQ q 0 = q := by
 unfold nextQ
 rw [clip_id h0 h1, clip_id (a := 0) (by decide) (by decide), Int.add_zero, clip_id h0 h1]
def qcell (q : Int) (c : CellT) : Int := bif steppedB c.2.2.1 then nextQ q c.2.2.2.1 else q
def qk (cs : List CellT) (q : Int) : Nat → Int
 | 0 => q
 | k + 1 => qcell (qk cs q k) (cs.getD k c0)
def qst (a7 : List RowT) (a5 : Int) : Nat → Int
 | 0 => a5
 | i + 1 => qk (csA a7 i) (bif (a7.getD i r0).1 then (a7.getD i r0).2.2.1 else qst a7 a5 i) (csA a7 i).length
def qf (a7 : List RowT) (a5 : Int) (i : Nat) : Int := bif (a7.getD i r0).1 then (a7.getD i r0).2.2.1 else qst a7 a5 i
theorem qst_succ (a7 : List RowT) (a5 : Int) (i : Nat) : qst a7 a5 (i + 1) = qk (csA a7 i) (qf a7 a5 i) (csA a7 i).length := rfl
def rowq (a7 : List RowT) (a5 : Int) (i k : Nat) : List Int := (List.range k).map fun k => qk (csA a7 i) (qf a7 a5 i) (k + 1)
def ofA (a7 : List RowT) (a5 : Int) : Nat → List Int
 | 0 => []
 | i + 1 => ofA a7 a5 i ++ rowq a7 a5 i (csA a7 i).length
def firstA (a7 : List RowT) (a5 : Int) (n : Nat) : List Int := (List.range n).map (qf a7 a5)
theorem rowq_len (a7 : List RowT) (a5 : Int) (i k : Nat) : (rowq a7 a5 i k).length = k := by simp [rowq]
theorem rowq_succ (a7 : List RowT) (a5 : Int) (i k : Nat) : rowq a7 a5 i (k + 1) = rowq a7 a5 i k ++ [qk (csA a7 i) (qf a7 a5 i) (k + 1)] := by simp [rowq, List.range_succ]
theorem firstA_succ (a7 : List RowT) (a5 : Int) (n : Nat) : firstA a7 a5 (n + 1) = firstA a7 a5 n ++ [qf a7 a5 n] := by simp [firstA, List.range_succ]
theorem firstA_len (a7 : List RowT) (a5 : Int) (n : Nat) : (firstA a7 a5 n).length = n := by simp [firstA]
theorem firstA_get (a7 : List RowT) (a5 : Int) {n i : Nat} (h : i < n) : (firstA a7 a5 n).getD i 0 = qf a7 a5 i := by simp [firstA, List.getD, h]
theorem ofA_len (a7 : List RowT) (a5 : Int) : ∀ i, (ofA a7 a5 i).length = cntA a7 i
 | 0 => rfl
 | i + 1 => by simp only [ofA, cntA, List.length_append, ofA_len a7 a5 i, rowq_len]
/-- What a sheet that may be says of its quantisers. -/
def okQ (a7 : List RowT) (a5 : Int) : Prop := 1 ≤ a5 ∧ a5 ≤ 31 ∧ ∀ i, i < a7.length → ((a7.getD i r0).1 = true → 1 ≤ (a7.getD i r0).2.2.1 ∧ (a7.getD i r0).2.2.1 ≤ 31) ∧ ∀ k, k < (csA a7 i).length → steppedB (clA a7 i k).2.2.1 = false → (clA a7 i k).2.2.2.1 = 0
theorem qcell_in {q : Int} (c : CellT) (h : 1 ≤ q ∧ q ≤ 31) : 1 ≤ qcell q c ∧ qcell q c ≤ 31 := by
 unfold qcell
 cases steppedB c.2.2.1
 ·
  exact h
 ·
  exact nextQ_in _ _
theorem qk_in {cs : List CellT} {q : Int} (h : 1 ≤ q ∧ q ≤ 31) : ∀ k, 1 ≤ qk cs q k ∧ qk cs q k ≤ 31
 | 0 => h
 | k + 1 => qcell_in _ (qk_in h k)
theorem qst_in {a7 : List RowT} {a5 : Int} (h : okQ a7 a5) : ∀ i, i ≤ a7.length → 1 ≤ qst a7 a5 i ∧ qst a7 a5 i ≤ 31 := by
 intro i
 induction i with
 | zero => intro _; exact ⟨h.1, h.2.1⟩
 | succ i ih =>
  intro hi
  rw [qst_succ]
  refine qk_in ?_ _
  unfold qf
  cases hh : (a7.getD i r0).1 with
  | true => exact (h.2.2 i (by omega)).1 hh
  | false => exact ih (by omega)
theorem qf_in {a7 : List RowT} {a5 : Int} (h : okQ a7 a5) {i : Nat} (hi : i < a7.length) : 1 ≤ qf a7 a5 i ∧ qf a7 a5 i ≤ 31 := by
 unfold qf
 cases hh : (a7.getD i r0).1 with
 | true => exact (h.2.2 i hi).1 hh
 | false => exact qst_in h i (by omega)
/-- Where nothing is stepped, the reference goes on by nought. -/
theorem qcell_ref {a7 : List RowT} {a5 : Int} (h : okQ a7 a5) {i k : Nat} (hi : i < a7.length) (hk : k < (csA a7 i).length) {q : Int} (hq : 1 ≤ q ∧ q ≤ 31) : nextQ q (clA a7 i k).2.2.2.1 = qcell q (clA a7 i k) := by
 unfold qcell
 cases hs : steppedB (clA a7 i k).2.2.1 with
 | true => rfl
 | false => rw [(h.2.2 i hi).2 k hk hs, nextQ_zero hq.1 hq.2]; rfl
theorem right_step {inter : Bool} {st : Int} {sk : Bool} {k s : Int} {mv dc : List Int} {evs : Evs} (h : rightB inter st sk k s mv dc evs = true) (hs : steppedB k = false) : s = 0 := by
 unfold rightB at h
 simp only [Bool.and_eq_true] at h
 obtain ⟨_, h⟩ := h
 cases sk with
 | true =>
  simp only [cond_true, Bool.and_eq_true, decide_eq_true_eq] at h
  exact h.2.2.1
 | false =>
  simp only [cond_false, Bool.and_eq_true] at h
  have h1 : stepB k s = true := by
   first | exact h.2.1 | exact h.1.2 | exact h.1.1.2 | exact h.2.2.1 | (simp_all <;> done)
  unfold stepB at h1
  rw [hs, cond_false] at h1
  exact of_decide_eq_true h1
theorem check_okQ {a1 a2 a3 : Int} {a4 : Bool} {a5 : Int} {a6 : List Int} {a7 : List RowT} {a8 : Int} (h : checkA a1 a2 a3 a4 a5 a6 a7 a8 = 0) : okQ a7 a5 ∧ (a7.length : Int) = fR a3 := by
 unfold checkA at h
 cases hc : (headB a1 a2 a3 a5 a6 && (decide (0 ≤ a8 ∧ a8 ≤ 262144) && (decide ((a7.length : Int) = fR a3) && (List.range a7.length).all fun i => rowB a3 a4 a7 i))) with
 | false => rw [hc] at h; cases h
 | true =>
  simp only [Bool.and_eq_true, decide_eq_true_eq, List.all_eq_true, List.mem_range] at hc
  obtain ⟨h1, h2, h3, h4⟩ := hc
  unfold headB at h1
  simp only [Bool.and_eq_true, decide_eq_true_eq] at h1
  obtain ⟨⟨_, _, _, _, _, q1, q2, _⟩, _⟩ := h1
  refine ⟨⟨q1, q2, fun i hi => ?_⟩, h3⟩
  have hr := h4 i hi
  unfold rowB at hr
  simp only [Bool.and_eq_true, List.all_eq_true, List.mem_range] at hr
  obtain ⟨_, hh, hcl⟩ := hr
  refine ⟨fun ht => ?_, fun k hk hs => ?_⟩
  ·
   unfold rhB at hh
   rw [ht, cond_true] at hh
   have := of_decide_eq_true hh
   exact ⟨this.2.2.2.1, this.2.2.2.2⟩
  ·
   exact right_step (hcl k hk) hs
theorem wclip_eq (N : Nat) (a : Int) {lo hi : Int} (h : lo ≤ hi) : whole_Clip N a lo hi = some (clip a lo hi) := by
 have h0 : ¬ hi < lo := by omega
 unfold whole_Clip clip
 rw [decide_eq_false h0, cond_false]
 by_cases h1 : a < lo
 ·
  simp [h1]
 ·
  by_cases h2 : hi < a <;> simp [h1, h2]
theorem rclip_eq (N : Nat) (a : Int) {lo hi : Int} (h : lo ≤ hi) : ref01_Clip N a lo hi = some (clip a lo hi) := by
 have h0 : ¬ hi < lo := by omega
 unfold ref01_Clip clip
 rw [decide_eq_false h0, cond_false]
 by_cases h1 : a < lo
 ·
  simp [h1]
 ·
  by_cases h2 : hi < a <;> simp [h1, h2]
theorem snext_eq (N : Nat) (q st : Int) : steps_Next N q st = some (nextQ q st) := by
 have b1 := clip_ge (a := q) (lo := 1) (hi := 31) (by decide)
 have b2 := clip_le (a := q) (lo := 1) (hi := 31) (by decide)
 have b3 := clip_ge (a := st) (lo := -2) (hi := 2) (by decide)
 have b4 := clip_le (a := st) (lo := -2) (hi := 2) (by decide)
 have g : inK .i64 (clip q 1 31 + clip st (-2) 2) := in64 (by omega) (by omega)
 unfold steps_Next nextQ
 simp only [wclip_eq N _ (show (1 : Int) ≤ 31 by decide), wclip_eq N _ (show (-2 : Int) ≤ 2 by decide), Option.isSome_some, Option.getD_some, g, and_self, if_true]
theorem itQ_next {S O : Type} {body : S → Option (S ⊕ O)} {N : Nat} {a b : S} (h : body a = some (.inl b)) : iter body (N + 1) a = iter body N b := by simp only [iter, h]
theorem itQ_done {S O : Type} {body : S → Option (S ⊕ O)} {N : Nat} {a : S} {o : O} (h : body a = some (.inr o)) : iter body (N + 1) a = some o := by simp only [iter, h]
theorem up_ok {N : Nat} {st u : Int} (hu : clip st 0 2 = u) : ∀ (d : Nat) (M : Nat) (q i : Int), 1 ≤ q → q ≤ 31 → 0 ≤ i → i ≤ u → u - i = d → d < M → iter (ref20_Next_b2 N st) M (q, i) = some (bif decide (q + (u - i) ≤ 31) then q + (u - i) else 31) := by
 have hul : u ≤ 2 := by rw [← hu]; exact clip_le (by decide)
 intro d
 induction d with
 | zero =>
  intro M q i h1 h2 h3 h4 h5 hM
  obtain ⟨M, rfl⟩ : ∃ m, M = m + 1 := ⟨M - 1, by omega⟩
  refine itQ_done ?_
  have e : ¬ i < u := by omega
  have e2 : q + (u - i) = q := by omega
  simp only [ref20_Next_b2, rclip_eq N _ (show (0 : Int) ≤ 2 by decide), hu, Option.isSome_some, Option.getD_some, if_true, decide_eq_false e, cond_false, e2, decide_eq_true h2, cond_true]
 | succ d ih =>
  intro M q i h1 h2 h3 h4 h5 hM
  obtain ⟨M, rfl⟩ : ∃ m, M = m + 1 := ⟨M - 1, by omega⟩
  have e : i < u := by omega
  by_cases hq : q < 31
  ·
   have g1 : inK .i64 (q + 1) := in64 (by omega) (by omega)
   have g2 : inK .i64 (i + 1) := in64 (by omega) (by omega)
   have hb : ref20_Next_b2 N st (q, i) = some (.inl (q + 1, i + 1)) := by
    simp only [ref20_Next_b2, rclip_eq N _ (show (0 : Int) ≤ 2 by decide), hu, Option.isSome_some, Option.getD_some, if_true, decide_eq_true e, decide_eq_true hq, cond_true, g1, g2]
   rw [itQ_next hb, ih M (q + 1) (i + 1) (by omega) (by omega) (by omega) (by omega) (by omega) (by omega)]
   have e3 : q + 1 + (u - (i + 1)) = q + (u - i) := by omega
   rw [e3]
  ·
   refine itQ_done ?_
   have e4 : ¬ q + (u - i) ≤ 31 := by omega
   have e5 : q = 31 := by omega
   simp only [ref20_Next_b2, rclip_eq N _ (show (0 : Int) ≤ 2 by decide), hu, Option.isSome_some, Option.getD_some, if_true, decide_eq_true e, decide_eq_false hq, cond_true, cond_false, decide_eq_false e4]
   rw [e5]
theorem dn_ok {N : Nat} {st u : Int} (hu : clip st (-2) 0 = u) : ∀ (d : Nat) (M : Nat) (q i : Int), 1 ≤ q → q ≤ 31 → i ≤ 0 → u ≤ i → i - u = d → d < M → iter (ref20_Next_b1 N st) M (q, i) = some (bif decide (1 ≤ q - (i - u)) then q - (i - u) else 1) := by
 have hul : -2 ≤ u := by rw [← hu]; exact clip_ge (by decide)
 intro d
 induction d with
 | zero =>
  intro M q i h1 h2 h3 h4 h5 hM
  obtain ⟨M, rfl⟩ : ∃ m, M = m + 1 := ⟨M - 1, by omega⟩
  refine itQ_done ?_
  have e : ¬ u < i := by omega
  have e2 : q - (i - u) = q := by omega
  simp only [ref20_Next_b1, rclip_eq N _ (show (-2 : Int) ≤ 0 by decide), hu, Option.isSome_some, Option.getD_some, if_true, decide_eq_false e, cond_false, e2, decide_eq_true h1, cond_true]
 | succ d ih =>
  intro M q i h1 h2 h3 h4 h5 hM
  obtain ⟨M, rfl⟩ : ∃ m, M = m + 1 := ⟨M - 1, by omega⟩
  have e : u < i := by omega
  by_cases hq : 1 < q
  ·
   have g1 : inK .i64 (q - 1) := in64 (by omega) (by omega)
   have g2 : inK .i64 (i - 1) := in64 (by omega) (by omega)
   have hb : ref20_Next_b1 N st (q, i) = some (.inl (q - 1, i - 1)) := by
    simp only [ref20_Next_b1, rclip_eq N _ (show (-2 : Int) ≤ 0 by decide), hu, Option.isSome_some, Option.getD_some, if_true, decide_eq_true e, decide_eq_true hq, cond_true, g1, g2]
   rw [itQ_next hb, ih M (q - 1) (i - 1) (by omega) (by omega) (by omega) (by omega) (by omega) (by omega)]
   have e3 : q - 1 - (i - 1 - u) = q - (i - u) := by omega
   rw [e3]
  ·
   refine itQ_done ?_
   have e4 : ¬ 1 ≤ q - (i - u) := by omega
   have e5 : q = 1 := by omega
   simp only [ref20_Next_b1, rclip_eq N _ (show (-2 : Int) ≤ 0 by decide), hu, Option.isSome_some, Option.getD_some, if_true, decide_eq_true e, decide_eq_false hq, cond_true, cond_false, decide_eq_false e4]
   rw [e5]
theorem rnext_eq {N : Nat} (hN : 10 < N) (q st : Int) : ref20_Next N q st = some (nextQ q st) := by
 have b1 := clip_ge (a := q) (lo := 1) (hi := 31) (by decide)
 have b2 := clip_le (a := q) (lo := 1) (hi := 31) (by decide)
 obtain ⟨u, hu⟩ : ∃ u, clip st 0 2 = u := ⟨_, rfl⟩
 obtain ⟨w, hw⟩ : ∃ w, clip st (-2) 0 = w := ⟨_, rfl⟩
 obtain ⟨z, hz⟩ : ∃ z, clip q 1 31 = z := ⟨_, rfl⟩
 have hu0 : 0 ≤ u := by rw [← hu]; exact clip_ge (by decide)
 have hu2 : u ≤ 2 := by rw [← hu]; exact clip_le (by decide)
 have hw0 : w ≤ 0 := by rw [← hw]; exact clip_le (by decide)
 have hw2 : -2 ≤ w := by rw [← hw]; exact clip_ge (by decide)
 rw [hz] at b1 b2
 have hs : clip st (-2) 2 = u + w := by
  rw [← hu, ← hw]
  unfold clip
  (repeat' split) <;> omega
 have hor : u = 0 ∨ w = 0 := by
  rw [← hu, ← hw]
  unfold clip
  (repeat' split) <;> omega
 have h1 := up_ok (N := N) hu u.toNat N z 0 b1 b2 (by decide) hu0 (by omega) (by omega)
 unfold ref20_Next
 simp only [rclip_eq N _ (show (1 : Int) ≤ 31 by decide), hz, Option.isSome_some, Option.getD_some, if_true, h1, Option.bind_some]
 obtain ⟨y, hy⟩ : ∃ y, (bif decide (z + (u - 0) ≤ 31) then z + (u - 0) else 31) = y := ⟨_, rfl⟩
 have hy' : (z + u ≤ 31 ∧ y = z + u) ∨ (¬ z + u ≤ 31 ∧ y = 31) := by
  rw [← hy]
  by_cases h : z + (u - 0) ≤ 31
  ·
   rw [decide_eq_true h]; exact .inl ⟨by omega, by show z + (u - 0) = _; omega⟩
  ·
   rw [decide_eq_false h]; exact .inr ⟨by omega, rfl⟩
 rw [hy]
 have h2 := dn_ok (N := N) hw (0 - w).toNat N y 0 (by omega) (by omega) (by decide) hw0 (by omega) (by omega)
 rw [h2]
 refine congrArg some ?_
 unfold nextQ
 rw [hz, hs]
 obtain ⟨x, hx⟩ : ∃ x, (bif decide (1 ≤ y - (0 - w)) then y - (0 - w) else 1) = x := ⟨_, rfl⟩
 have hx' : (1 ≤ y + w ∧ x = y + w) ∨ (¬ 1 ≤ y + w ∧ x = 1) := by
  rw [← hx]
  by_cases h : 1 ≤ y - (0 - w)
  ·
   rw [decide_eq_true h]; exact .inl ⟨by omega, by show y - (0 - w) = _; omega⟩
  ·
   rw [decide_eq_false h]; exact .inr ⟨by omega, rfl⟩
 rw [hx]
 unfold clip
 (repeat' split) <;> omega
theorem qof2_eq (N : Nat) (v : Int) {n : Nat} (l : List Int) (hn : n ≤ 1000000) : quants_Of_2 N v n n l = some (n + 1, n + 1, l ++ [v]) := by
 unfold quants_Of_2
 rw [if_pos ⟨Nat.le_refl _, rfl, by omega, by omega⟩]; rfl
theorem qfirst1_eq (N : Nat) (v : Int) {n : Nat} (l : List Int) (hn : n ≤ 1000000) : quants_First_1 N v n n l = some (n + 1, n + 1, l ++ [v]) := by
 unfold quants_First_1
 rw [if_pos ⟨Nat.le_refl _, rfl, by omega, by omega⟩]; rfl
theorem walkof2 {N : Nat} (hN : 1000 < N) {a7 : List RowT} {i : Nat} (hi : i < a7.length) (hl : (csA a7 i).length ≤ 200) {n : Nat} (hn : n ≤ 10000) {l : List Int} (z q0 : Int) (a5 : Int) :
  iter (quants_walk_Of_1_Of_2_v1_b2 N a7 (z, (i : Int), n, n, l)) N (qf a7 a5 i, 0, n, n, l) = some (qst a7 a5 (i + 1), ((csA a7 i).length : Int), false, n + (csA a7 i).length, n + (csA a7 i).length, l ++ rowq a7 a5 i (csA a7 i).length) := by
 have hL : (a7.getD i r0).2.2.2.length = (csA a7 i).length := rfl
 refine iter_to (fun k => (qk (csA a7 i) (qf a7 a5 i) k, ((k : Nat) : Int), n + k, n + k, l ++ rowq a7 a5 i k)) (csA a7 i).length (by simp [rowq, qk]) ?_ ?_ (by omega)
 ·
  intro k hk
  have hE : (a7.getD i r0).2.2.2.getD k c0 = (csA a7 i).getD k c0 := rfl
  have g1 : (k : Int) < ((csA a7 i).length : Int) := by omega
  have g2 := inS (i := k) (by omega)
  have jk2 : ∀ {α β : Type} (F : α → Option β) (G : (α → Option β) → Option β), joinK F G = G F := fun _ _ => rfl
  have hq : ∀ v, quants_Of_2 N v (n + k) (n + k) (l ++ rowq a7 a5 i k) = some (n + k + 1, n + k + 1, l ++ rowq a7 a5 i k ++ [v]) := fun v => qof2_eq N v _ (by omega)
  have hs : (bif (bif decide (((csA a7 i).getD k c0).2.2.1 = 1) then true else decide (((csA a7 i).getD k c0).2.2.1 = 4)) then nextQ (qk (csA a7 i) (qf a7 a5 i) k) ((csA a7 i).getD k c0).2.2.2.1 else qk (csA a7 i) (qf a7 a5 i) k) = qk (csA a7 i) (qf a7 a5 i) (k + 1) := by
   show _ = qcell _ _
   unfold qcell steppedB
   cases decide (((csA a7 i).getD k c0).2.2.1 = 1) <;> rfl
  simp only [quants_walk_Of_1_Of_2_v1_b2, jk2, Int.toNat_natCast, hE, hL, decide_eq_true g1, decide_true, cond_true, g1, Int.natCast_nonneg, and_self, if_true, snext_eq, hq, Option.isSome_some, Option.getD_some, g2]
  rw [rowq_succ, ← List.append_assoc, ← hs]
  cases (bif decide (((csA a7 i).getD k c0).2.2.1 = 1) then true else decide (((csA a7 i).getD k c0).2.2.1 = 4)) <;> rfl
 ·
  simp only [quants_walk_Of_1_Of_2_v1_b2, Int.toNat_natCast, hL, decide_eq_false (Int.lt_irrefl _), cond_false]
  rfl
theorem walkof {N : Nat} (hN : 10000 < N) (a1 a2 a3 : Int) (a4 : Bool) (a5 : Int) {a6 : List Int} {a7 : List RowT} (a8 : Int) (h : lightP a6 a7) : quants_walk_Of_1_Of_2_v1 N a1 a2 a3 a4 a5 a6 a7 a8 0 0 [] = some (cntA a7 a7.length, cntA a7 a7.length, ofA a7 a5 a7.length) := by
 unfold quants_walk_Of_1_Of_2_v1
 have h30 := h.2.1
 have hit : iter (quants_walk_Of_1_Of_2_v1_b1 N a7) N (a5, 0, 0, 0, []) = some (cntA a7 a7.length, cntA a7 a7.length, ofA a7 a5 a7.length) := by
  refine iter_to (fun i => (qst a7 a5 i, ((i : Nat) : Int), cntA a7 i, cntA a7 i, ofA a7 a5 i)) a7.length rfl ?_ ?_ (by omega)
  ·
   intro i hi
   have g1 : (i : Int) < (a7.length : Int) := by omega
   have g2 := inS (i := i) (by omega)
   have hc := light_cnt h i (by omega)
   have hw := walkof2 (N := N) (by omega) hi (light_len h i) (n := cntA a7 i) (by omega) (l := ofA a7 a5 i) (qst a7 a5 i) 0 a5
   have hqf : (bif (a7.getD i r0).1 then (a7.getD i r0).2.2.1 else qst a7 a5 i) = qf a7 a5 i := rfl
   simp only [quants_walk_Of_1_Of_2_v1_b1, decide_eq_true g1, decide_true, cond_true, g1, Int.natCast_nonneg, and_self, if_true, Int.toNat_natCast, hqf, quants_Of_1, Option.isSome_some, hw, Option.bind_some, g2, Int.natCast_succ]
   rfl
  ·
   simp only [quants_walk_Of_1_Of_2_v1_b1, decide_eq_false (Int.lt_irrefl _), cond_false]
 rw [hit]
 rfl
theorem qof_ok {M : Nat} (hM : 20000 ≤ M) (a1 a2 a3 : Int) (a4 : Bool) (a5 : Int) {a6 : List Int} {a7 : List RowT} (a8 : Int) (h : lightP a6 a7) (hg : ∀ i k, goodC (clA a7 i k)) : quants_Of_v1 (M + 200) a1 a2 a3 a4 a5 a6 a7 a8 = some (bif decide (checkA a1 a2 a3 a4 a5 a6 a7 a8 ≠ 0) then ([], checkA a1 a2 a3 a4 a5 a6 a7 a8) else (ofA a7 a5 a7.length, 0)) := by
 unfold quants_Of_v1
 rw [check_ok (M := M) hM a1 a2 a3 a4 a5 a8 h hg, walkof (N := M + 200) (by omega) a1 a2 a3 a4 a5 a8 h]
 simp only [Option.isSome_some, Option.getD_some, if_true, ofA_len]
 cases decide (checkA a1 a2 a3 a4 a5 a6 a7 a8 ≠ 0) <;> rfl
theorem walkfirst2 {N : Nat} (hN : 1000 < N) {a7 : List RowT} {i : Nat} (hi : i < a7.length) (hl : (csA a7 i).length ≤ 200) (w : Int × Nat × Nat × List Int) (z a5 : Int) :
  iter (quants_walk_First_1_First_2_v1_b2 N a7 (z, (i : Int), w.2)) N (qf a7 a5 i, 0) = some (qst a7 a5 (i + 1), ((csA a7 i).length : Int), false) := by
 have hL : (a7.getD i r0).2.2.2.length = (csA a7 i).length := rfl
 refine iter_to (fun k => (qk (csA a7 i) (qf a7 a5 i) k, ((k : Nat) : Int))) (csA a7 i).length rfl ?_ ?_ (by omega)
 ·
  intro k hk
  have hE : (a7.getD i r0).2.2.2.getD k c0 = (csA a7 i).getD k c0 := rfl
  have g1 : (k : Int) < ((csA a7 i).length : Int) := by omega
  have g2 := inS (i := k) (by omega)
  have jk2 : ∀ {α β : Type} (F : α → Option β) (G : (α → Option β) → Option β), joinK F G = G F := fun _ _ => rfl
  have hs : (bif (bif decide (((csA a7 i).getD k c0).2.2.1 = 1) then true else decide (((csA a7 i).getD k c0).2.2.1 = 4)) then nextQ (qk (csA a7 i) (qf a7 a5 i) k) ((csA a7 i).getD k c0).2.2.2.1 else qk (csA a7 i) (qf a7 a5 i) k) = qk (csA a7 i) (qf a7 a5 i) (k + 1) := by
   show _ = qcell _ _
   unfold qcell steppedB
   cases decide (((csA a7 i).getD k c0).2.2.1 = 1) <;> rfl
  simp only [quants_walk_First_1_First_2_v1_b2, jk2, Int.toNat_natCast, hE, hL, decide_eq_true g1, decide_true, cond_true, g1, Int.natCast_nonneg, and_self, if_true, snext_eq, quants_First_2, Option.isSome_some, Option.getD_some, g2]
  rw [← hs]
  cases (bif decide (((csA a7 i).getD k c0).2.2.1 = 1) then true else decide (((csA a7 i).getD k c0).2.2.1 = 4)) <;> rfl
 ·
  simp only [quants_walk_First_1_First_2_v1_b2, Int.toNat_natCast, hL, decide_eq_false (Int.lt_irrefl _), cond_false]
  rfl
theorem walkfirst {N : Nat} (hN : 10000 < N) (a1 a2 a3 : Int) (a4 : Bool) (a5 : Int) {a6 : List Int} {a7 : List RowT} (a8 : Int) (h : lightP a6 a7) : quants_walk_First_1_First_2_v1 N a1 a2 a3 a4 a5 a6 a7 a8 0 0 [] = some (a7.length, a7.length, firstA a7 a5 a7.length) := by
 unfold quants_walk_First_1_First_2_v1
 have h30 := h.2.1
 have hit : iter (quants_walk_First_1_First_2_v1_b1 N a7) N (a5, 0, 0, 0, []) = some (a7.length, a7.length, firstA a7 a5 a7.length) := by
  refine iter_to (fun i => (qst a7 a5 i, ((i : Nat) : Int), i, i, firstA a7 a5 i)) a7.length rfl ?_ ?_ (by omega)
  ·
   intro i hi
   have g1 : (i : Int) < (a7.length : Int) := by omega
   have g2 := inS (i := i) (by omega)
   have hw := walkfirst2 (N := N) (by omega) hi (light_len h i) (0, i, i, firstA a7 a5 i) (qst a7 a5 i) a5
   have hqf : (bif (a7.getD i r0).1 then (a7.getD i r0).2.2.1 else qst a7 a5 i) = qf a7 a5 i := rfl
   have h1 := qfirst1_eq N (qf a7 a5 i) (n := i) (firstA a7 a5 i) (by omega)
   simp only [quants_walk_First_1_First_2_v1_b1, decide_eq_true g1, decide_true, cond_true, g1, Int.natCast_nonneg, and_self, if_true, Int.toNat_natCast, hqf, h1, Option.isSome_some, Option.getD_some, hw, Option.bind_some, g2, Int.natCast_succ, firstA_succ]
  ·
   simp only [quants_walk_First_1_First_2_v1_b1, decide_eq_false (Int.lt_irrefl _), cond_false]
 rw [hit]
 rfl
theorem qfirst_ok {M : Nat} (hM : 20000 ≤ M) (a1 a2 a3 : Int) (a4 : Bool) (a5 : Int) {a6 : List Int} {a7 : List RowT} (a8 : Int) (h : lightP a6 a7) (hg : ∀ i k, goodC (clA a7 i k)) : quants_First_v1 (M + 200) a1 a2 a3 a4 a5 a6 a7 a8 = some (bif decide (checkA a1 a2 a3 a4 a5 a6 a7 a8 ≠ 0) then ([], checkA a1 a2 a3 a4 a5 a6 a7 a8) else (firstA a7 a5 a7.length, 0)) := by
 unfold quants_First_v1
 rw [check_ok (M := M) hM a1 a2 a3 a4 a5 a8 h hg, walkfirst (N := M + 200) (by omega) a1 a2 a3 a4 a5 a8 h]
 simp only [Option.isSome_some, Option.getD_some, if_true, firstA_len]
 cases decide (checkA a1 a2 a3 a4 a5 a6 a7 a8 ≠ 0) <;> rfl
theorem rfirst2 {N : Nat} (hN : 1000 < N) {a7 : List RowT} {a5 : Int} (ho : okQ a7 a5) {i : Nat} (hi : i < a7.length) (hl : (csA a7 i).length ≤ 200) (n : Nat) (z : Int) (w : Nat × List Int) :
  iter (ref30_First_b2 N a7 (n, z, (i : Int), w)) N (qf a7 a5 i, 0) = some (qst a7 a5 (i + 1), ((csA a7 i).length : Int), ((csA a7 i).length : Int), false) := by
 have hL : (a7.getD i r0).2.2.2.length = (csA a7 i).length := rfl
 have g0 : (i : Int) < (a7.length : Int) := by omega
 refine iter_to (fun k => (qk (csA a7 i) (qf a7 a5 i) k, ((k : Nat) : Int))) (csA a7 i).length rfl ?_ ?_ (by omega)
 ·
  intro k hk
  have hE : (a7.getD i r0).2.2.2.getD k c0 = clA a7 i k := rfl
  have g1 : (k : Int) < ((csA a7 i).length : Int) := by omega
  have g2 := inS (i := k) (by omega)
  have hs := qcell_ref ho hi hk (qk_in (cs := csA a7 i) (qf_in ho hi) k)
  simp only [ref30_First_b2, Int.toNat_natCast, hE, hL, decide_eq_true g1, decide_true, cond_true, g0, g1, Int.natCast_nonneg, and_self, if_true, rnext_eq (N := N) (by omega), hs, Option.isSome_some, Option.getD_some, g2, Int.natCast_succ]
  rfl
 ·
  simp only [ref30_First_b2, Int.toNat_natCast, hL, decide_eq_false (Int.lt_irrefl _), cond_false, g0, Int.natCast_nonneg, and_self, if_true]
  rfl
theorem rfirst_ok {N : Nat} (hN : 10000 < N) (a1 a2 a3 : Int) (a4 : Bool) {a5 : Int} {a6 : List Int} {a7 : List RowT} (a8 : Int) (h : lightP a6 a7) (ho : okQ a7 a5) : ref30_First N a1 a2 a3 a4 a5 a6 a7 a8 = some (firstA a7 a5 a7.length) := by
 unfold ref30_First
 have h30 := h.2.1
 have hit : iter (ref30_First_b1 N a7) N (0, a5, 0, 0, []) = some (a7.length, a7.length, firstA a7 a5 a7.length) := by
  refine iter_to (fun i => (i, qst a7 a5 i, ((i : Nat) : Int), i, firstA a7 a5 i)) a7.length rfl ?_ ?_ (by omega)
  ·
   intro i hi
   have g1 : (i : Int) < (a7.length : Int) := by omega
   have g2 := inS (i := i) (by omega)
   have g3 : (i + 1) * 8 ≤ 140737488355328 := by omega
   have g4 : i + 1 ≤ 9223372036854775807 := by omega
   have hw := rfirst2 (N := N) (by omega) ho hi (light_len h i) i (qst a7 a5 i) (i, firstA a7 a5 i)
   have hqf : (bif (a7.getD i r0).1 then (a7.getD i r0).2.2.1 else qst a7 a5 i) = qf a7 a5 i := rfl
   simp only [ref30_First_b1, decide_eq_true g1, decide_true, cond_true, g1, Int.natCast_nonneg, and_self, if_true, Int.toNat_natCast, implies_true, hqf, Nat.le_refl, g3, g4, hw, Option.bind_some, g2, Int.natCast_succ, firstA_succ]
   rfl
  ·
   simp only [ref30_First_b1, decide_eq_false (Int.lt_irrefl _), cond_false]
 rw [hit]
 simp [firstA_len]
theorem rof2 {N : Nat} (hN : 1000 < N) {a7 : List RowT} {a5 : Int} (ho : okQ a7 a5) {i : Nat} (hi : i < a7.length) (hl : (csA a7 i).length ≤ 200) {n : Nat} (hn : n ≤ 10000) (l : List Int) :
  iter (ref30_Of_b2 N a7 (n, (i : Int), n, l)) N (n, qf a7 a5 i, 0, n, l) = some (n + (csA a7 i).length, qst a7 a5 (i + 1), ((csA a7 i).length : Int), ((csA a7 i).length : Int), false, n + (csA a7 i).length, l ++ rowq a7 a5 i (csA a7 i).length) := by
 have hL : (a7.getD i r0).2.2.2.length = (csA a7 i).length := rfl
 have g0 : (i : Int) < (a7.length : Int) := by omega
 refine iter_to (fun k => (n + k, qk (csA a7 i) (qf a7 a5 i) k, ((k : Nat) : Int), n + k, l ++ rowq a7 a5 i k)) (csA a7 i).length (by simp [rowq, qk]) ?_ ?_ (by omega)
 ·
  intro k hk
  have hE : (a7.getD i r0).2.2.2.getD k c0 = clA a7 i k := rfl
  have g1 : (k : Int) < ((csA a7 i).length : Int) := by omega
  have g2 := inS (i := k) (by omega)
  have g3 : (n + k + 1) * 8 ≤ 140737488355328 := by omega
  have g4 : n + k + 1 ≤ 9223372036854775807 := by omega
  have hs := qcell_ref ho hi hk (qk_in (cs := csA a7 i) (qf_in ho hi) k)
  simp only [ref30_Of_b2, Int.toNat_natCast, hE, hL, decide_eq_true g1, decide_true, cond_true, g0, g1, Int.natCast_nonneg, and_self, if_true, rnext_eq (N := N) (by omega), hs, Option.isSome_some, Option.getD_some, Nat.le_refl, g3, g4, g2, Int.natCast_succ]
  rw [rowq_succ, ← List.append_assoc]
  rfl
 ·
  simp only [ref30_Of_b2, Int.toNat_natCast, hL, decide_eq_false (Int.lt_irrefl _), cond_false, g0, Int.natCast_nonneg, and_self, if_true]
  rfl
theorem rof_ok {N : Nat} (hN : 10000 < N) (a1 a2 a3 : Int) (a4 : Bool) {a5 : Int} {a6 : List Int} {a7 : List RowT} (a8 : Int) (h : lightP a6 a7) (ho : okQ a7 a5) : ref30_Of N a1 a2 a3 a4 a5 a6 a7 a8 = some (ofA a7 a5 a7.length) := by
 unfold ref30_Of
 have h30 := h.2.1
 rw [rfirst_ok hN a1 a2 a3 a4 a8 h ho]
 simp only [Option.isSome_some, if_true]
 have hit : iter (ref30_Of_b1 N a7 (some (firstA a7 a5 a7.length))) N (0, 0, 0, []) = some (cntA a7 a7.length, cntA a7 a7.length, ofA a7 a5 a7.length) := by
  refine iter_to (fun i => (cntA a7 i, ((i : Nat) : Int), cntA a7 i, ofA a7 a5 i)) a7.length rfl ?_ ?_ (by omega)
  ·
   intro i hi
   have g1 : (i : Int) < (a7.length : Int) := by omega
   have g2 := inS (i := i) (by omega)
   have hc := light_cnt h i (by omega)
   have g3 : (i : Int) < ((firstA a7 a5 a7.length).length : Int) := by rw [firstA_len]; exact g1
   have hw := rof2 (N := N) (by omega) ho hi (light_len h i) (n := cntA a7 i) (by omega) (ofA a7 a5 i)
   simp only [ref30_Of_b1, decide_eq_true g1, decide_true, cond_true, Option.getD_some, g3, Int.natCast_nonneg, and_self, if_true, Int.toNat_natCast, firstA_get a7 a5 hi, hw, Option.bind_some, g2, Int.natCast_succ]
   rfl
  ·
   simp only [ref30_Of_b1, decide_eq_false (Int.lt_irrefl _), cond_false]
 rw [hit]
 simp [ofA_len]
theorem rsame30 {N : Nat} {l : List Int} (hN : l.length < N) (hl : l.length ≤ 1000000) : ref30_Same_v2 N l l = some true := by
 unfold ref30_Same_v2
 have hit : iter (ref30_Same_v2_b1 N l l) N 0 = some (Sum.inr ()) := by
  refine iter_to (fun i => ((i : Nat) : Int)) l.length rfl (fun i hi => ?_) ?_ hN
  ·
   have g1 : (i : Int) < (l.length : Int) := by omega
   have g4 := inS (i := i) (by omega)
   simp only [ref30_Same_v2_b1, g1, decide_true, cond_true, Int.natCast_nonneg, Int.toNat_natCast, ne_eq, not_true, decide_false, cond_false, and_self, if_true, g4, Int.natCast_succ]
  ·
   simp only [ref30_Same_v2_b1, Int.lt_irrefl, decide_false, cond_false]
 rw [hit]
 simp
theorem lives30 (M : Nat) : law30_lives (M + 200) = some true := by kernel_rfl
theorem qof_law {M : Nat} (hM : 100000 ≤ M) (a1 a2 a3 : Int) (a4 : Bool) (a5 : Int) {a6 : List Int} {a7 : List RowT} (a8 : Int) (hw : ∀ i k, (clA a7 i k).2.2.2.2.1.length = 2 ∧ (clA a7 i k).2.2.2.2.2.1.length = 6) : law30_QuantsOf (M + 200) a1 a2 a3 a4 a5 a6 a7 a8 = some true := by
 have hv := lives30 M
 unfold law30_QuantsOf
 obtain ⟨b, hb, hB⟩ := light_ok (N := M + 200) (by omega) a1 a2 a3 a4 a5 a6 a7 a8
 rw [hb, hv]
 cases b with
 | false => rfl
 | true =>
  have h := hB rfl
  have hg : ∀ i k, goodC (clA a7 i k) := fun i k => ⟨(hw i k).1, (hw i k).2, light_few h i k⟩
  rw [qof_ok (M := M) (by omega) a1 a2 a3 a4 a5 a8 h hg, qfirst_ok (M := M) (by omega) a1 a2 a3 a4 a5 a8 h hg, rcheck_ok (M := M) (by omega) a1 a2 a3 a4 a5 a8 h hg]
  by_cases hc : checkA a1 a2 a3 a4 a5 a6 a7 a8 = 0
  ·
   obtain ⟨ho, _⟩ := check_okQ hc
   have hlen : (ofA a7 a5 a7.length).length ≤ 6000 := by rw [ofA_len]; exact light_cnt h _ h.2.1
   have hlen2 : (firstA a7 a5 a7.length).length ≤ 30 := by rw [firstA_len]; exact h.2.1
   rw [rof_ok (N := M + 200) (by omega) a1 a2 a3 a4 a8 h ho, rfirst_ok (N := M + 200) (by omega) a1 a2 a3 a4 a8 h ho]
   simp [hc, rsame30 (N := M + 200) (l := ofA a7 a5 a7.length) (by omega) (by omega), rsame30 (N := M + 200) (l := firstA a7 a5 a7.length) (by omega) (by omega)]
  ·
   have i0 : inK .i64 (0 : Int) := by decide
   simp [hc, i0]
theorem law_quantsOf (N : Nat) (hN : 1099511627776 ≤ N) (y0 : Sh.den (.pair (.int .i64) (.pair (.int .i64) (.pair (.int .i64) (.pair .bool (.pair (.int .i64) (.pair (.sl (.int .i64)) (.pair (.sl (.pair .bool (.pair (.int .i64) (.pair (.int .i64) (.sl (.pair (.int .i64) (.pair .bool (.pair (.int .i64) (.pair (.int .i64) (.pair (.arr 2 .i64) (.pair (.arr 6 .i64) (.arrS 6 (.pair .bool (.pair (.int .i64) (.int .i64))))))))))))))) (.int .i64))))))))) (w0 : Sh.wf (.pair (.int .i64) (.pair (.int .i64) (.pair (.int .i64) (.pair .bool (.pair (.int .i64) (.pair (.sl (.int .i64)) (.pair (.sl (.pair .bool (.pair (.int .i64) (.pair (.int .i64) (.sl (.pair (.int .i64) (.pair .bool (.pair (.int .i64) (.pair (.int .i64) (.pair (.arr 2 .i64) (.pair (.arr 6 .i64) (.arrS 6 (.pair .bool (.pair (.int .i64) (.int .i64))))))))))))))) (.int .i64)))))))) y0) : law30_QuantsOf N (y0.1) (y0.2.1) (y0.2.2.1) (y0.2.2.2.1) (y0.2.2.2.2.1) (y0.2.2.2.2.2.1) (y0.2.2.2.2.2.2.1) (y0.2.2.2.2.2.2.2) = some true := by
 obtain ⟨M, rfl⟩ : ∃ M, N = M + 200 := ⟨N - 200, by omega⟩
 exact qof_law (M := M) (by omega) _ _ _ _ _ _ (wf_cells fun r hr c hc => ⟨((w0.2.2.2.2.2.2.1.2 r hr).2.2.2.2 c hc).2.2.2.2.1.1, ((w0.2.2.2.2.2.2.1.2 r hr).2.2.2.2 c hc).2.2.2.2.2.1.1⟩)
end Go.Proofs.YtlcjjaglbcfbbaaDoor
