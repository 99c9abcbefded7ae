/- What the printed models answer: plain laws. -/
import Derived.Test.YtkfaebbbjahcpaaDoorKP
set_option linter.unusedVariables false
set_option linter.unusedSimpArgs false
namespace Go.Proofs.YtkfaebbbjahcpaaDoor
open Go.X

theorem rightB_mayB {st k s : Int} {mv dc : List Int} {evs : Evs} (h : rightB true st false k s mv dc evs = true) : (kindB true k = true ∧ stepB k s = true ∧ vecB k mv = true) ∧ ∀ i, i < 6 → mayB (intraB k) (dc.getD i 0) (evs.getD i []) = true := by
  unfold rightB at h
  simp only [Bool.and_eq_true, cond_false] at h
  obtain ⟨_, h1, h2, h3, h4⟩ := h
  exact ⟨⟨h1, h2, h3⟩, fun i hi => List.all_eq_true.1 h4 i (List.mem_range.2 hi)⟩
theorem intra_kindR (k step : Int) (hk : kindB true k = true) : intraB (kindR k step) = intraB k ∧ kindB true (kindR k step) = true ∧ steppedB (kindR k step) = decide (step ≠ 0) := by
  unfold kindR
  cases hi : intraB k <;> by_cases h : step = 0
  · subst h; exact ⟨rfl, rfl, rfl⟩
  · simp only [cond_false, h, ne_eq, not_false_eq_true, if_true, decide_true]; exact ⟨rfl, rfl, rfl⟩
  · subst h; exact ⟨rfl, rfl, rfl⟩
  · simp only [cond_true, h, ne_eq, not_false_eq_true, if_true, decide_true]; exact ⟨rfl, rfl, rfl⟩
theorem okR_right {st : Int} {sk : Bool} {k s step : Int} {mv dc : List Int} {evs : Evs} {xs : List Int} (hr : rightB true st sk k s mv dc evs = true) (hst : (!stB step && decide (step ≠ 0)) = false) (hall : (List.range 6).all (bok k xs) = true) :
    rightB true 0 false (kindR k step) step mv dc (pevs k xs) = true := by
  have hb : ∀ i, i < 6 → (evts (fB k) (bL xs i)).2 = 0 := fun i hi => by
    have := List.all_eq_true.1 hall i (List.mem_range.2 hi)
    unfold bok at this
    simp only [Bool.and_eq_true, decide_eq_true_eq] at this
    exact this.1
  have key : (kindB true k = true ∧ vecB k mv = true) ∧ ∀ i, i < 6 → (bif intraB k then decide (1 ≤ dc.getD i 0 ∧ dc.getD i 0 ≤ 254) else decide (dc.getD i 0 = 0)) = true := by
    cases sk
    · obtain ⟨⟨h1, h2, h3⟩, h4⟩ := rightB_mayB hr
      refine ⟨⟨h1, h3⟩, fun i hi => ?_⟩
      have := h4 i hi
      unfold mayB at this
      simp only [Bool.and_eq_true] at this
      exact this.2
    · unfold rightB at hr
      simp only [Bool.and_eq_true, cond_true, decide_eq_true_eq] at hr
      obtain ⟨_, _, h1, h2, h3, h4, _⟩ := hr
      subst h1 h3 h4
      refine ⟨⟨rfl, rfl⟩, ?_⟩
      decide
  obtain ⟨⟨h1, h2⟩, h3⟩ := key
  obtain ⟨k1, k2, k3⟩ := intra_kindR k step h1
  unfold rightB
  simp only [cond_false, Bool.and_eq_true]
  refine ⟨by decide, k2, ?_, ?_, ?_⟩
  · unfold stepB
    rw [k3]
    by_cases h : step = 0
    · simp [h]
    · simpa [h] using hst
  · unfold vecB
    rw [k1]
    exact h2
  · unfold may6
    refine List.all_eq_true.2 fun i hi => ?_
    have hi := List.mem_range.1 hi
    rw [k1]
    unfold mayB pevs
    rw [tab_get _ _ hi, fBd, (evts_back (fB_or k) (hb i hi)).1, h3 i hi]
    rfl
theorem may_law {M : Nat} (hM : 10000 ≤ M) (st : Int) (sk : Bool) (k s : Int) {mv dc : List Int} {evs : Evs} {xs : List Int} (step : Int) (hm : mv.length = 2) (hd : dc.length = 6) (hx : xs.length = 384) : law36_PatternMay (M + 200) st sk k s mv dc evs xs step = some true := by
  unfold law36_PatternMay
  rw [few_ok (by omega), lives36]
  by_cases hf : fewP evs
  · rw [decide_eq_true hf, pcell_ok st sk k s step hm hd hf hx]
    simp only [Option.isSome_some, Option.getD_some, if_true, Bool.not_true, cond_false, implies_true]
    cases hr : rightB true st sk k s mv dc evs
    · simp only [cond_false]
      rw [show decide ((Zc 12).2.2.2.2.2.2.2 ≠ 0) = true from rfl, cond_true]
      rfl
    · simp only [cond_true]
      unfold okR
      cases hst : (!stB step && decide (step ≠ 0))
      · simp only [cond_false]
        cases hall : (List.range 6).all (bok k xs)
        · simp only [cond_false]
          rw [show decide ((Zc 7).2.2.2.2.2.2.2 ≠ 0) = true from rfl, cond_true]
          rfl
        · simp only [cond_true]
          cases hsk : skipB k step xs mv
          · -- a cell with levels
            have hR := okR_right hr hst hall
            have hlen : (pevs k xs).length = 6 := tab_len _ _
            have hfw : fewP (pevs k xs) := fun i hi => by
              unfold pevs; rw [tab_get _ _ hi]; exact Nat.le_trans (evts_len _ _) (by omega)
            have hkk : kindB true k = true := by
              cases sk
              · exact (rightB_mayB hr).1.1
              · unfold rightB at hr
                simp only [Bool.and_eq_true, cond_true, decide_eq_true_eq] at hr
                obtain ⟨_, _, h1, _⟩ := hr
                subst h1; rfl
            obtain ⟨k1, k2, k3⟩ := intra_kindR k step hkk
            have hb : ∀ i, i < 6 → (evts (fB k) (bL xs i)).2 = 0 ∧ (intraB k = true → xs.getD (64 * i) 0 = 0) := fun i hi => by
              have := List.all_eq_true.1 hall i (List.mem_range.2 hi)
              unfold bok at this
              simp only [Bool.and_eq_true, decide_eq_true_eq] at this
              refine ⟨this.1, fun h => ?_⟩
              have h2 := this.2
              rw [h] at h2
              simpa using h2
            have ho : ∀ i, i < 6 → okE (bif intraB (kindR k step) then 1 else 0) ((pevs k xs).getD i []) = true := fun i hi => by
              unfold pevs
              rw [k1, tab_get _ _ hi, fBd]
              exact (evts_back (fB_or k) (hb i hi).1).1
            have hlv := rlevels_cell (M := M) 0 false (kindR k step) step hm hd hfw hR ho
            have hxs : (tab 384 fun j => (lvs (bif intraB (kindR k step) then 1 else 0) ((pevs k xs).getD (j / 64) []) ((pevs k xs).getD (j / 64) []).length).getD (lp (j % 64)) 0) = xs := by
              rw [tab_of 0 hx]
              refine tab_ext fun j hj => ?_
              have hj6 : j / 64 < 6 := by omega
              obtain ⟨hp1, hp2⟩ := lp_facts (j % 64) (by omega)
              have hv : (pevs k xs).getD (j / 64) [] = (evts (fB k) (bL xs (j / 64))).1 := tab_get _ _ hj6
              rw [k1, fBd, ← tab_of 0 hx, hv, (evts_back (fB_or k) (hb _ hj6).1).2.2, tab_get _ _ hp1]
              have hval : bL xs (j / 64) (lp (j % 64)) = xs.getD j 0 := by
                unfold bL
                rw [hp2, Nat.div_add_mod]
              by_cases hle : fB k ≤ (lp (j % 64) : Int)
              · rw [if_pos hle, hval]
              · rw [if_neg hle]
                have h1 : fB k = 1 := by rcases fB_or k with h | h <;> omega
                have h0 : lp (j % 64) = 0 := by omega
                have hi : intraB k = true := by
                  unfold fB at h1
                  cases h : intraB k
                  · rw [h] at h1; cases h1
                  · rfl
                have hj0 : j % 64 = 0 := by rw [← hp2, h0]; rfl
                have := (hb _ hj6).2 hi
                rw [show j = 64 * (j / 64) by omega]
                exact this.symm
            have hrt := right_ok (M := M) true 0 false (kindR k step) step hm hd hfw
            simp only [cond_false, ne_eq, not_true, decide_false, hlv, hxs, hrt, hR, Option.isSome_some, Option.getD_some, if_true, Bool.not_true, decide_true, Bool.false_eq_true, false_imp_iff, and_self, Bool.false_and]
            have k4 : (bif decide (kindR k step = 3) then true else decide (kindR k step = 4)) = (bif decide (k = 3) then true else decide (k = 4)) := k1
            rw [k4]
            simp
          · have hsk' := hsk
            unfold skipB at hsk'
            simp only [Bool.and_eq_true, decide_eq_true_eq, Bool.not_eq_true'] at hsk'
            obtain ⟨h1, h2, h3, h4⟩ := hsk'
            have hfw : fewP (List.replicate 6 []) := fun i hi => by rw [rep_tab, tab_get _ _ hi]; simp
            have hR : rightB true 0 true 0 0 (List.replicate 2 0) (List.replicate 6 0) (List.replicate 6 []) = true := by decide
            have hrt := right_ok (M := M) true 0 true 0 0 (mv := List.replicate 2 0) (dc := List.replicate 6 0) rfl rfl hfw
            have hlv := rlevels_cell (M := M) 0 true 0 0 (mv := List.replicate 2 0) (dc := List.replicate 6 0) rfl rfl hfw hR (by decide)
            have hxs : (tab 384 fun j => (lvs (bif intraB 0 then 1 else 0) ((List.replicate 6 ([] : List Ev)).getD (j / 64) []) ((List.replicate 6 ([] : List Ev)).getD (j / 64) []).length).getD (lp (j % 64)) 0) = List.replicate 384 0 := by
              refine Eq.trans ?_ (rep_tab 384 (0 : Int)).symm
              refine tab_ext fun j hj => ?_
              have : (List.replicate 6 ([] : List Ev)).getD (j / 64) [] = [] := by rw [rep_tab, tab_get _ _ (by omega)]
              rw [this]
              show (List.replicate 64 (0 : Int)).getD (lp (j % 64)) 0 = 0
              rw [rep_tab, tab_get _ _ (lp_facts _ (by omega)).1]
            rw [← h2] at hxs
            rw [← h2]
            rw [show (List.replicate 2 (0 : Int)) = mv from h3.symm] at *
            have k4 : (bif decide (k = 3) then true else decide (k = 4)) = false := h1
            simp only [cond_true, ne_eq, not_true, decide_false, hlv, hxs, hrt, hR, h4, Option.isSome_some, Option.getD_some, if_true, Bool.not_true, decide_true, cond_false, k4, Bool.true_and, Bool.not_false, implies_true, and_self]
            rfl
      · simp only [cond_true]
        rw [show decide ((Zc 9).2.2.2.2.2.2.2 ≠ 0) = true from rfl, cond_true]
        rfl
  · rw [decide_eq_false hf]; rfl
theorem law_patternCells (N : Nat) (hN : 1099511627776 ≤ N) (y0 : Sh.den (.pair (.int .i64) (.pair .bool (.pair (.int .i64) (.pair (.int .i64) (.pair (.arr 2 .i64) (.pair (.arr 6 .i64) (.arrS 6 (.pair .bool (.pair (.int .i64) (.int .i64))))))))))) (w0 : Sh.wf (.pair (.int .i64) (.pair .bool (.pair (.int .i64) (.pair (.int .i64) (.pair (.arr 2 .i64) (.pair (.arr 6 .i64) (.arrS 6 (.pair .bool (.pair (.int .i64) (.int .i64)))))))))) y0) (y1 : Sh.den (.arr 384 .i64)) (w1 : Sh.wf (.arr 384 .i64) y1) (y2 : Sh.den (.int .i64)) (w2 : Sh.wf (.int .i64) y2) : law36_PatternCells N (y0.1) (y0.2.1) (y0.2.2.1) (y0.2.2.2.1) (y0.2.2.2.2.1) (y0.2.2.2.2.2.1) (y0.2.2.2.2.2.2) y1 y2 = some true := by
  obtain ⟨st, sk, k, s, mv, dc, evs⟩ := y0
  obtain ⟨_, _, _, _, ⟨hm, _⟩, ⟨hd, _⟩, _⟩ := w0
  obtain ⟨M, rfl⟩ : ∃ M, N = M + 200 := ⟨N - 200, by omega⟩
  exact cells_law (by omega) st sk k s y2 hm hd w1.1
theorem law_patternMay (N : Nat) (hN : 1099511627776 ≤ N) (y0 : Sh.den (.pair (.int .i64) (.pair .bool (.pair (.int .i64) (.pair (.int .i64) (.pair (.arr 2 .i64) (.pair (.arr 6 .i64) (.arrS 6 (.pair .bool (.pair (.int .i64) (.int .i64))))))))))) (w0 : Sh.wf (.pair (.int .i64) (.pair .bool (.pair (.int .i64) (.pair (.int .i64) (.pair (.arr 2 .i64) (.pair (.arr 6 .i64) (.arrS 6 (.pair .bool (.pair (.int .i64) (.int .i64)))))))))) y0) (y1 : Sh.den (.arr 384 .i64)) (w1 : Sh.wf (.arr 384 .i64) y1) (y2 : Sh.den (.int .i64)) (w2 : Sh.wf (.int .i64) y2) : law36_PatternMay N (y0.1) (y0.2.1) (y0.2.2.1) (y0.2.2.2.1) (y0.2.2.2.2.1) (y0.2.2.2.2.2.1) (y0.2.2.2.2.2.2) y1 y2 = some true := by
  obtain ⟨st, sk, k, s, mv, dc, evs⟩ := y0
  obtain ⟨_, _, _, _, ⟨hm, _⟩, ⟨hd, _⟩, _⟩ := w0
  obtain ⟨M, rfl⟩ : ∃ M, N = M + 200 := ⟨N - 200, by omega⟩
  exact may_law (by omega) st sk k s y2 hm hd w1.1
end Go.Proofs.YtkfaebbbjahcpaaDoor
