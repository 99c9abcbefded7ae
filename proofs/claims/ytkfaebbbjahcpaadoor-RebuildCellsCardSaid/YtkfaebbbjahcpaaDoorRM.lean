/- What the printed models answer: plain laws. -/
import Derived.Test.YtkfaebbbjahcpaaDoorRI
set_option linter.unusedVariables false
set_option linter.unusedSimpArgs false
namespace Go.Proofs.YtkfaebbbjahcpaaDoor
open Go.X

def rbR (f : Int) (ps : List (List Int)) (n : Int) (k q : Int) (mv dc : List Int) (evs : Evs) : List Int × Int :=
  bif intraB k then (sumT (List.replicate 384 0) (rsT k q dc evs), 0) else
  bif rightF f ps && hasF f n then bif mayF f n mv then (sumT (prT f ps n mv) (rsT k q dc evs), 0) else (List.replicate 384 0, 8) else (List.replicate 384 0, 1)
theorem rbcell_ok {M : Nat} (f : Int) {ps : List (List Int)} (n : Int) (st : Int) (sk : Bool) (k s : Int) {mv dc : List Int} {evs : Evs} (q : Int) (hm : mv.length = 2) (hd : dc.length = 6) (h : fewP evs) (hb : ∀ k, k < 3 → byteP (ps.getD k [])) :
    rebuild_Cell (M + 200) f ps n st sk k s mv dc evs q = some (bif rightB true st sk k s mv dc evs then rbR f ps n k q mv dc evs else (List.replicate 384 0, 12)) := by
  unfold rebuild_Cell
  rw [res_of st sk k s q hm hd h]
  obtain ⟨Z, hZ⟩ : ∃ Z, Z = List.replicate 384 (0 : Int) := ⟨_, rfl⟩
  have hk : (bif decide (k ≠ 3) then decide (k ≠ 4) else false) = !intraB k := by
    unfold intraB
    by_cases h3 : k = 3 <;> by_cases h4 : k = 4 <;> simp [h3, h4]
  cases hr : rightB true st sk k s mv dc evs
  · rfl
  · have hp := predict_ok (N := M + 200) (by omega) f n mv hb
    unfold rbR
    rw [hp, hk, ← hZ]
    simp only [Option.isSome_some, Option.getD_some, if_true, cond_true, ne_eq, not_true, decide_false, cond_false, implies_true]
    cases hi : intraB k
    · simp only [Bool.not_false, cond_true, cond_false]
      cases rightF f ps && hasF f n
      · rfl
      · simp only [cond_true]
        cases mayF f n mv
        · rfl
        · simp only [cond_true, ne_eq, not_true, decide_false, cond_false, sum_ok (N := M + 200) (by omega), Option.isSome_some, Option.getD_some, if_true]
    · simp only [Bool.not_true, cond_true, cond_false, ne_eq, not_true, decide_false, sum_ok (N := M + 200) (by omega), Option.isSome_some, Option.getD_some, if_true]
theorem rrbcell_ok {M : Nat} {f : Int} {ps : List (List Int)} {n : Int} (st : Int) (sk : Bool) {k : Int} (s : Int) {mv : List Int} (dc : List Int) {evs : Evs} (q : Int) (h : fewP evs) (hb : ∀ k, k < 3 → byteP (ps.getD k [])) (ho : ∀ i, i < 6 → okE (bif intraB k then 1 else 0) (evs.getD i []) = true)
    (hg : intraB k = true ∨ (rightF f ps && hasF f n) = true ∧ mayF f n mv = true) :
    ref31_Cell (M + 200) f ps n st sk k s mv dc evs q = some (rbR f ps n k q mv dc evs).1 := by
  have hc : ref21_Intra (M + 200) k = some (intraB k) := rfl
  unfold ref31_Cell rbR
  rw [hc, rref_of st sk k s mv dc q h ho]
  obtain ⟨Z, hZ⟩ : ∃ Z, Z = List.replicate 384 (0 : Int) := ⟨_, rfl⟩
  rw [← hZ]
  rcases hg with hi | ⟨h1, h2⟩
  · rw [hi]
    simp only [Option.isSome_some, Option.getD_some, if_true, Bool.not_true, cond_false, cond_true, Bool.false_eq_true, false_imp_iff, rsum_ok (N := M + 200) (by omega), and_self]
  · have h1' := h1
    simp only [Bool.and_eq_true] at h1'
    rw [rpredict_ok (N := M + 200) (by omega) hb h1'.1 h2, h1, h2]
    cases intraB k
    · simp only [Option.isSome_some, Option.getD_some, if_true, Bool.not_false, cond_false, cond_true, implies_true, rsum_ok (N := M + 200) (by omega), and_self]
    · simp only [Option.isSome_some, Option.getD_some, if_true, Bool.not_true, cond_false, cond_true, Bool.false_eq_true, false_imp_iff, rsum_ok (N := M + 200) (by omega), and_self]
theorem lives31 (M : Nat) : law31_lives (M + 200) = some true := by kernel_rfl
theorem few_loop {body : Int → Option (Int ⊕ (Bool ⊕ Unit))} {N : Nat} (hN : 6 < N) {evs : Evs} (hb : ∀ i : Nat, i < 6 → body (i : Int) = bif decide ((evs.getD i []).length ≤ 100) then some (.inl ((i : Int) + 1)) else some (.inr (.inl true))) (he : body (6 : Int) = some (.inr (.inr ()))) :
    (fewP evs → iter body N 0 = some (.inr ())) ∧ (¬ fewP evs → iter body N 0 = some (.inl true)) := by
  obtain ⟨hy, hn⟩ := iter_try (body := body) (fun i => (i : Int)) 6 N (fun i => decide ((evs.getD i []).length ≤ 100)) (fun _ => .inl true) (.inr ()) (s0 := 0) rfl
    (fun i hi hP => by
      show body (i : Int) = _
      rw [hb i hi, hP, cond_true, Int.natCast_succ])
    (fun i hi hP => by
      show body (i : Int) = _
      rw [hb i hi, hP, cond_false]) he hN
  refine ⟨fun h => hy (List.all_eq_true.2 fun i hi => decide_eq_true (h i (List.mem_range.1 hi))), fun h => ?_⟩
  cases hall : (List.range 6).all (fun i => decide ((evs.getD i []).length ≤ 100)) with
  | true => exact absurd (fun i hi => by simpa using List.all_eq_true.1 hall i (List.mem_range.2 hi)) h
  | false =>
    obtain ⟨j, _, _, hj⟩ := hn hall
    exact hj
theorem rbcells_law {M : Nat} (hM : 10000 ≤ M) (f : Int) {ps : List (List Int)} (n : Int) (st : Int) (sk : Bool) (k s : Int) {mv dc : List Int} {evs : Evs} (q : Int) (hm : mv.length = 2) (hd : dc.length = 6) (hb : ∀ k, k < 3 → byteP (ps.getD k [])) : law31_RebuildCells (M + 200) f ps n st sk k s mv dc evs q = some true := by
  have hl := lives31 M
  obtain ⟨hy, hn⟩ := few_loop (body := law31_RebuildCells_b1 (M + 200) evs) (N := M + 200) (by omega) (evs := evs) (fun i hi => by
    obtain ⟨g1, g2, g3⟩ := in5 hi
    have g4 := inS (i := i) (by omega)
    simp only [law31_RebuildCells_b1, g1, g2, hi, decide_true, cond_true, Int.toNat_natCast, and_self, if_true, g4, hl, Option.isSome_some, Option.getD_some]
    by_cases hh : (evs.getD i []).length ≤ 100
    · have : ¬ (100 : Int) < ((evs.getD i []).length : Int) := by omega
      simp only [hh, this, decide_true, decide_false, cond_true, cond_false]
    · have : (100 : Int) < ((evs.getD i []).length : Int) := by omega
      simp only [hh, this, decide_true, decide_false, cond_true, cond_false]) (by simp [law31_RebuildCells_b1])
  unfold law31_RebuildCells
  by_cases hf : ¬ fewP evs
  · rw [hn hf]; rfl
  replace hf := Classical.not_not.1 hf
  rw [hy hf]
  simp only [Option.bind_some, Sum.elim_inr]
  obtain ⟨b, hlt⟩ : ∃ b, law17_Light (M + 200) f ps = some b := ⟨_, rfl⟩
  rw [hlt, hl]
  cases b
  · rfl
  have hc : ref21_Intra (M + 200) k = some (intraB k) := rfl
  rw [rbcell_ok f n st sk k s q hm hd hf hb, rright_ok (by omega) true st sk k s hm hd hf, hc, rpright_ok (by omega), rmany_eq, rmay_okF (by omega)]
  obtain ⟨Z, hZ⟩ : ∃ Z, Z = List.replicate 384 (0 : Int) := ⟨_, rfl⟩
  have key : (bif (bif (!rightF f ps) then true else decide (n < 0)) then true else decide (fA f * fD f ≤ n)) = !(rightF f ps && hasF f n) := by
    unfold hasF
    cases rightF f ps
    · rfl
    · by_cases h1 : n < 0
      · have : ¬ 0 ≤ n := by omega
        simp [h1, this]
      · have h2 : 0 ≤ n := by omega
        by_cases h3 : fA f * fD f ≤ n
        · have : ¬ n < fA f * fD f := by omega
          simp [h1, h3, this]
        · have : n < fA f * fD f := by omega
          simp [h1, h2, h3, this]
  cases hr : rightB true st sk k s mv dc evs
  · rw [← hZ]
    simp only [Option.isSome_some, Option.getD_some, if_true, Bool.not_true, Bool.not_false, cond_false, cond_true, Bool.true_eq_false, false_imp_iff, and_self, decide_true, implies_true, show decide ((12 : Int) ≠ 0) = true from rfl]
  · have ho := right_okE hr
    have hrb : (intraB k = true ∨ (rightF f ps && hasF f n) = true ∧ mayF f n mv = true) → ref31_Cell (M + 200) f ps n st sk k s mv dc evs q = some (rbR f ps n k q mv dc evs).1 := fun hg => rrbcell_ok st sk s dc q hf hb ho hg
    simp only [Option.isSome_some, Option.getD_some, if_true, Bool.not_true, Bool.not_false, cond_false, cond_true, implies_true, key, and_self]
    cases hi : intraB k
    · cases hrh : (rightF f ps && hasF f n)
      · have e : rbR f ps n k q mv dc evs = (List.replicate 384 0, 1) := by unfold rbR; rw [hi, hrh]; rfl
        rw [e, ← hZ]
        simp only [Bool.not_false, cond_true, show decide ((1 : Int) ≠ 0) = true from rfl, decide_true, implies_true, if_true]
      · cases hmy : mayF f n mv
        · have e : rbR f ps n k q mv dc evs = (List.replicate 384 0, 8) := by unfold rbR; rw [hi, hrh, hmy]; rfl
          rw [e, ← hZ]
          simp only [Bool.not_false, Bool.not_true, cond_true, cond_false, show decide ((8 : Int) ≠ 0) = true from rfl, decide_true, implies_true, if_true]
        · have e : rbR f ps n k q mv dc evs = (sumT (prT f ps n mv) (rsT k q dc evs), 0) := by unfold rbR; rw [hi, hrh, hmy]; rfl
          rw [hrb (.inr ⟨hrh, hmy⟩), e]
          simp only [Bool.not_false, Bool.not_true, cond_true, cond_false, show decide ((0 : Int) ≠ 0) = false from rfl, decide_true, implies_true, if_true, Option.isSome_some, Option.getD_some, and_self]
    · have e : rbR f ps n k q mv dc evs = (sumT (List.replicate 384 0) (rsT k q dc evs), 0) := by unfold rbR; rw [hi]; rfl
      rw [hrb (.inl hi), e, ← hZ]
      simp only [Bool.not_false, Bool.not_true, cond_true, cond_false, show decide ((0 : Int) ≠ 0) = false from rfl, decide_true, implies_true, if_true, Option.isSome_some, Option.getD_some, and_self]
theorem bytes_of {ps : List (List Int)} (h : ∀ xs, xs ∈ ps → ∀ x, x ∈ xs → inK .u8 x) (k : Nat) : byteP (ps.getD k []) := by
  refine byteP_of fun x hx => ?_
  rw [List.getD_eq_getElem?_getD] at hx
  cases hi : ps[k]? with
  | none => rw [hi] at hx; cases hx
  | some xs =>
    rw [hi] at hx
    exact h xs (List.mem_of_getElem? hi) x hx
theorem law_rebuildCells (N : Nat) (hN : 1099511627776 ≤ N) (y0 : Sh.den (.pair (.int .i64) (.arrS 3 (.int .u8)))) (w0 : Sh.wf (.pair (.int .i64) (.arrS 3 (.int .u8))) y0) (y1 : Sh.den (.int .i64)) (w1 : Sh.wf (.int .i64) y1) (y2 : Sh.den (.pair (.pair (.int .i64) (.pair .bool (.pair (.int .i64) (.pair (.int .i64) (.pair (.arr 2 .i64) (.pair (.arr 6 .i64) (.arrS 6 (.pair .bool (.pair (.int .i64) (.int .i64)))))))))) (.int .i64))) (w2 : Sh.wf (.pair (.pair (.int .i64) (.pair .bool (.pair (.int .i64) (.pair (.int .i64) (.pair (.arr 2 .i64) (.pair (.arr 6 .i64) (.arrS 6 (.pair .bool (.pair (.int .i64) (.int .i64)))))))))) (.int .i64)) y2) : law31_RebuildCells N (y0.1) (y0.2) y1 (y2.1.1) (y2.1.2.1) (y2.1.2.2.1) (y2.1.2.2.2.1) (y2.1.2.2.2.2.1) (y2.1.2.2.2.2.2.1) (y2.1.2.2.2.2.2.2) (y2.2) = some true := by
  obtain ⟨f, ps⟩ := y0
  obtain ⟨_, _, hps⟩ := w0
  obtain ⟨⟨st, sk, k, s, mv, dc, evs⟩, q⟩ := y2
  obtain ⟨⟨_, _, _, _, ⟨hm, _⟩, ⟨hd, _⟩, _⟩, _⟩ := w2
  obtain ⟨M, rfl⟩ : ∃ M, N = M + 200 := ⟨N - 200, by omega⟩
  exact rbcells_law (by omega) f y1 st sk k s q hm hd fun k _ => bytes_of (fun xs hx x hi => (hps xs hx).2 x hi) k
end Go.Proofs.YtkfaebbbjahcpaaDoor
