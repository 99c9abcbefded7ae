/- What the printed models answer: plain laws. -/
import Derived.Test.YtkfaebbbjahcpaaDoorKD
set_option linter.unusedVariables false
set_option linter.unusedSimpArgs false
namespace Go.Proofs.YtkfaebbbjahcpaaDoor
open Go.X

theorem posn_congr (f : Int) {l l' : List Ev} : ∀ i, (∀ j, j < i → (ev l j).2 = (ev l' j).2) → posn f l i = posn f l' i ∧ lvs f l i = lvs f l' i := by
  intro i
  induction i with
  | zero => intro _; exact ⟨rfl, rfl⟩
  | succ i ih =>
    intro h
    obtain ⟨h1, h2⟩ := ih fun j hj => h j (by omega)
    simp only [posn, lvs]
    rw [h1, h2, h i (by omega)]
    exact ⟨rfl, rfl⟩
theorem ev_app {l : List Ev} {e : Ev} {j : Nat} (h : j < l.length) : ev (l ++ [e]) j = ev l j := by
  unfold ev
  rw [List.getD_eq_getElem?_getD, List.getElem?_append_left h, ← List.getD_eq_getElem?_getD]
theorem ev_end {l : List Ev} {e : Ev} : ev (l ++ [e]) l.length = e := by
  unfold ev
  rw [List.getD_eq_getElem?_getD, List.getElem?_append_right (Nat.le_refl _)]
  simp
theorem ev_last {out : List Ev} (h : ∀ j, (ev out j).1 = false) : (setLast out).length = out.length ∧ (∀ j, j < out.length → (ev (setLast out) j).1 = decide (j + 1 = out.length)) ∧ ∀ j, j < out.length → (ev (setLast out) j).2 = (ev out j).2 := by
  have ht := setLast_tab h
  refine ⟨by rw [ht, tab_len], fun j hj => ?_, fun j hj => ?_⟩
  · unfold ev
    rw [ht, tab_get _ _ hj]
    exact decide_eq_decide.2 (by omega)
  · show (List.getD (setLast out) j _).2 = _
    rw [ht, tab_get _ _ hj]
theorem acc_pos {f : Int} (hf : f = 0 ∨ f = 1) (L : Nat → Int) : ∀ i, i ≤ 64 → (∀ j, j < i → lok f L j = true) →
    (f ≤ i → posn f (acc f L i).2 (acc f L i).2.length = i - (acc f L i).1) ∧ lvs f (acc f L i).2 (acc f L i).2.length = (tab 64 fun k => if f ≤ (k : Int) ∧ k < i then L k else 0) ∧
    ∀ j, j < (acc f L i).2.length → rgt (ev (acc f L i).2 j).2.1 (ev (acc f L i).2 j).2.2 ∧ posn f (acc f L i).2 j + (ev (acc f L i).2 j).2.1 ≤ 63 := by
  intro i
  induction i with
  | zero =>
    intro _ _
    refine ⟨fun h => ?_, ?_, fun j hj => ?_⟩
    · simp only [acc, posn, List.length_nil]; omega
    · simp only [acc, lvs, List.length_nil]
      rw [rep_tab]
      exact tab_ext fun k hk => by rw [if_neg (by omega)]
    · simp [acc] at hj
  | succ i ih =>
    intro hi hok
    obtain ⟨h1, h2, h3⟩ := ih (by omega) fun j hj => hok j (by omega)
    obtain ⟨b1, b2, b3, _⟩ := acc_bnd f L i
    have hoki := hok i (by omega)
    simp only [acc]
    by_cases hfi : (i : Int) < f
    · rw [if_pos hfi]
      refine ⟨fun hh => ?_, ?_, h3⟩
      · have : i = 0 := by omega
        subst this
        simp only [acc, posn, List.length_nil]; omega
      · rw [h2]
        exact tab_ext fun k hk => by
          by_cases hc : f ≤ (k : Int) ∧ k < i
          · rw [if_pos hc, if_pos ⟨hc.1, by omega⟩]
          · rw [if_neg hc, if_neg (by omega)]
    · rw [if_neg hfi]
      have h1 := h1 (by omega)
      by_cases hz : L i = 0
      · rw [if_pos hz]
        refine ⟨fun _ => ?_, ?_, h3⟩
        · show posn f (acc f L i).2 (acc f L i).2.length = ((i + 1 : Nat) : Int) - ((acc f L i).1 + 1)
          rw [h1]; omega
        · show lvs f (acc f L i).2 (acc f L i).2.length = _
          rw [h2]
          exact tab_ext fun k hk => by
            by_cases hki : k = i
            · subst hki; rw [if_neg (by omega), if_pos (by omega), hz]
            · by_cases hc : f ≤ (k : Int) ∧ k < i
              · rw [if_pos hc, if_pos ⟨hc.1, by omega⟩]
              · rw [if_neg hc, if_neg (by omega)]
      · rw [if_neg hz]
        unfold lok at hoki
        simp only [Bool.or_eq_true, decide_eq_true_eq, hfi, false_or] at hoki
        generalize (acc f L i).1 = run at *
        generalize (acc f L i).2 = out at *
        have hE : ev (out ++ [(false, (run, L i))]) out.length = (false, (run, L i)) := ev_end
        obtain ⟨c1, c2⟩ := posn_congr f (l := out ++ [(false, (run, L i))]) (l' := out) out.length fun j hj => by rw [ev_app hj]
        have hlen : (out ++ [(false, (run, L i))]).length = out.length + 1 := by simp
        show (f ≤ _ → posn f (out ++ [(false, (run, L i))]) (out ++ [(false, (run, L i))]).length = ((i + 1 : Nat) : Int) - 0) ∧ lvs f (out ++ [(false, (run, L i))]) (out ++ [(false, (run, L i))]).length = _ ∧ ∀ j, j < (out ++ [(false, (run, L i))]).length → rgt (ev (out ++ [(false, (run, L i))]) j).2.1 (ev (out ++ [(false, (run, L i))]) j).2.2 ∧ posn f (out ++ [(false, (run, L i))]) j + (ev (out ++ [(false, (run, L i))]) j).2.1 ≤ 63
        rw [hlen]
        refine ⟨fun _ => ?_, ?_, fun j hj => ?_⟩
        · simp only [posn]; rw [c1, h1, hE]; show (i : Int) - run + run + 1 = _; omega
        · simp only [lvs]; rw [c1, c2, h1, h2, hE]
          show (tab 64 _).set ((i : Int) - run + run).toNat (L i) = _
          rw [show ((i : Int) - run + run).toNat = i by omega, tab_set]
          exact tab_ext fun k hk => by
            by_cases hki : k = i
            · subst hki; rw [if_pos rfl, if_pos (by omega)]
            · rw [if_neg hki]
              by_cases hc : f ≤ (k : Int) ∧ k < i
              · rw [if_pos hc, if_pos ⟨hc.1, by omega⟩]
              · rw [if_neg hc, if_neg (by omega)]
        · by_cases hjl : j < out.length
          · rw [ev_app hjl, (posn_congr f (l := out ++ [(false, (run, L i))]) (l' := out) j fun m hm => by rw [ev_app (by omega)]).1]
            exact h3 j hjl
          · have : j = out.length := by omega
            subst this
            rw [hE, c1, h1]
            refine ⟨⟨b1, ?_, hz, hoki.1, hoki.2⟩, ?_⟩
            · show run ≤ 63; omega
            · show (i : Int) - run + run ≤ 63; omega
/-- Levels of the events of levels. -/
theorem evts_back {f : Int} (hf : f = 0 ∨ f = 1) {L : Nat → Int} (h : (evts f L).2 = 0) : okE f (evts f L).1 = true ∧ (evts f L).1.length ≤ 64 ∧ lvs f (evts f L).1 (evts f L).1.length = tab 64 fun k => if f ≤ (k : Int) then L k else 0 := by
  unfold evts at h ⊢
  cases hall : (List.range 64).all (lok f L) with
  | false => rw [hall] at h; cases h
  | true =>
    simp only [cond_true]
    obtain ⟨_, _, b3, b4⟩ := acc_bnd f L 64
    obtain ⟨_, h2, h3⟩ := acc_pos hf L 64 (Nat.le_refl _) fun j hj => List.all_eq_true.1 hall j (List.mem_range.2 hj)
    obtain ⟨e1, e2, e3⟩ := ev_last b4
    refine ⟨okE_iff.2 fun i hi => ?_, by omega, ?_⟩
    · rw [e1] at hi
      unfold gdAt gd
      rw [e2 i hi, e3 i hi, e1, (posn_congr f (l := setLast (acc f L 64).2) (l' := (acc f L 64).2) i fun j hj => e3 j (by omega)).1]
      exact ⟨(h3 i hi).1, rfl, (h3 i hi).2⟩
    · rw [e1, (posn_congr f (l := setLast (acc f L 64).2) (l' := (acc f L 64).2) _ fun j hj => e3 j hj).2, h2]
      exact tab_ext fun k hk => by
        by_cases hc : f ≤ (k : Int)
        · rw [if_pos ⟨hc, hk⟩, if_pos hc]
        · rw [if_neg (by omega), if_neg hc]
theorem evts_ext {f : Int} {L L' : Nat → Int} (h : ∀ k, k < 64 → L k = L' k) : evts f L = evts f L' := by
  have ha : ∀ i, i ≤ 64 → acc f L i = acc f L' i := by
    intro i
    induction i with
    | zero => intro _; rfl
    | succ i ih => intro hi; simp only [acc]; rw [ih (by omega), h i (by omega)]
  have hl : (List.range 64).all (lok f L) = (List.range 64).all (lok f L') := by
    rw [Bool.eq_iff_iff, List.all_eq_true, List.all_eq_true]
    constructor
    · intro hh i hi
      have := hh i hi
      unfold lok at this ⊢
      rwa [← h i (List.mem_range.1 hi)]
    · intro hh i hi
      have := hh i hi
      unfold lok at this ⊢
      rwa [h i (List.mem_range.1 hi)]
  unfold evts
  rw [hl, ha 64 (Nat.le_refl _)]
theorem evts_err (f : Int) (L : Nat → Int) : (evts f L).2 = 0 ∨ (evts f L).2 = 7 := by
  unfold evts
  cases (List.range 64).all (lok f L)
  · exact .inr rfl
  · exact .inl rfl
theorem evts_len (f : Int) (L : Nat → Int) : (evts f L).1.length ≤ 64 := by
  unfold evts
  cases (List.range 64).all (lok f L)
  · simp
  · obtain ⟨_, _, b3, b4⟩ := acc_bnd f L 64
    have := (ev_last b4).1
    simp only [cond_true]; omega
theorem same_ok {N : Nat} {l : List Ev} (hl : l.length < 4294967296) (hN : l.length < N) : ref10_Same N l l = some true := by
  unfold ref10_Same
  have := iter_all (body := ref10_Same_b1 N l l) l.length N (fun _ => true) (fun i hi => by
    have g1 : (i : Int) < (l.length : Int) := by omega
    have g2 := inS (i := i) (by omega)
    simp [ref10_Same_b1, g1, g2, -List.getD_eq_getElem?_getD]) (by simp [ref10_Same_b1]) hN
  rw [this, show (List.range l.length).all (fun _ => true) = true by simp]
  simp
theorem csame_ok {N : Nat} (hN : 2000 < N) (st : Int) (sk : Bool) (k s : Int) (mv dc : List Int) {evs : Evs} (h : ∀ i, i < 6 → (evs.getD i []).length ≤ 1000) : ref21_Same N st sk k s mv dc evs st sk k s mv dc evs = some true := by
  unfold ref21_Same
  have := iter_all (body := ref21_Same_b1 N evs evs) 6 N (fun _ => true) (fun i hi => by
    obtain ⟨g1, g2, g3⟩ := in5 hi
    have g4 := inS (i := i) (by omega)
    have hl := h i hi
    simp only [ref21_Same_b1, g1, g2, hi, decide_true, cond_true, Int.toNat_natCast, same_ok (N := N) (l := evs.getD i []) (by omega) (by omega), Option.isSome_some, Option.getD_some, and_self, if_true, Bool.not_true, cond_false, g4]) (by simp [ref21_Same_b1]) (by omega)
  rw [this, show (List.range 6).all (fun _ => true) = true by simp]
  simp
theorem rlev_ok {N : Nat} (hN : 100 < N) (st : Int) (sk : Bool) (k s : Int) (mv dc : List Int) {evs : Evs} {i : Nat} (hi : i < 6) (q : Int) (hl : (evs.getD i []).length ≤ 100) (ho : okE (bif intraB k then 1 else 0) (evs.getD i []) = true) :
    overspill_residue_cell_levels N st sk k s mv dc evs q (i : Int) = some (tab 64 fun j => (lvs (bif intraB k then 1 else 0) (evs.getD i []) (evs.getD i []).length).getD (lp j) 0) := by
  unfold overspill_residue_cell_levels
  have hc : overspill_residue_cell_intra N st sk k s mv dc evs q = some (intraB k) := rfl
  obtain ⟨g1, g2, g3⟩ := in5 hi
  have hf : (bif intraB k then (1 : Int) else 0) = 0 ∨ (bif intraB k then (1 : Int) else 0) = 1 := by cases intraB k <;> simp
  simp only [hc, Option.isSome_some, Option.getD_some, if_true, Int.toNat_natCast, levels_ok (N := N) hf (show (evs.getD i []).length < 4294967296 by omega) (by omega), ho, g1, g2, hi, and_self, raster_eq (N := N) (by omega)]
theorem rlevels_cell {M : Nat} (st : Int) (sk : Bool) (k s : Int) {mv dc : List Int} {evs : Evs} (hm : mv.length = 2) (hd : dc.length = 6) (h : fewP evs) (hr : rightB true st sk k s mv dc evs = true) (ho : ∀ i, i < 6 → okE (bif intraB k then 1 else 0) (evs.getD i []) = true) :
    residue_Levels (M + 200) st sk k s mv dc evs = some (tab 384 fun j => (lvs (bif intraB k then 1 else 0) (evs.getD (j / 64) []) (evs.getD (j / 64) []).length).getD (lp (j % 64)) 0, 0) := by
  have hit : iter (residue_every_b1 (M + 200) st sk k s mv dc evs 0) (M + 200) (0, (List.replicate 384 0)) = some (tab 384 fun j => (lvs (bif intraB k then 1 else 0) (evs.getD (j / 64) []) (evs.getD (j / 64) []).length).getD (lp (j % 64)) 0) := by
    refine iter_to (fun i => ((i : Int), tab 384 fun j => if j / 64 < i then (lvs (bif intraB k then 1 else 0) (evs.getD (j / 64) []) (evs.getD (j / 64) []).length).getD (lp (j % 64)) 0 else 0)) 6 ?_ ?_ ?_ (by omega)
    · rw [rep_tab]; simp
    · intro i hi
      obtain ⟨g1, g2, g3⟩ := in5 hi
      have g4 := inS (i := i) (by omega)
      have g5 : 64 * i + 64 ≤ 384 := by omega
      simp only [residue_every_b1, g1, g2, decide_true, cond_true, Int.toNat_natCast, rlev_ok (N := M + 200) (by omega) st sk k s mv dc hi 0 (h i hi) (ho i hi), Option.isSome_some, Option.getD_some, and_self, if_true, g4, g5]
      refine congrArg (fun z => some (Sum.inl z)) (Prod.ext (Int.natCast_succ i).symm ?_)
      show layL (tab 384 _) (64 * i) (tab 64 _) 64 = tab 384 (fun j => if j / 64 < i + 1 then (lvs (bif intraB k then 1 else 0) (evs.getD (j / 64) []) (evs.getD (j / 64) []).length).getD (lp (j % 64)) 0 else 0)
      rw [lay_tab hi]
      refine tab_ext fun j hj => ?_
      by_cases hji : j / 64 = i
      · rw [if_pos hji, if_pos (by omega), hji]
      · by_cases hlt : j / 64 < i
        · rw [if_neg hji, if_pos hlt, if_pos (by omega)]
        · rw [if_neg hji, if_neg hlt, if_neg (by omega)]
    · simp only [residue_every_b1]
      refine congrArg (fun z => some (Sum.inr z)) (tab_ext fun j hj => ?_)
      rw [if_pos (by omega)]
  unfold residue_Levels residue_every
  rw [right_ok true st sk k s hm hd h, hr]
  simp only [Option.isSome_some, Option.getD_some, if_true, Bool.not_true, cond_false, hit, Option.bind_some]
theorem rlevels_no {M : Nat} (st : Int) (sk : Bool) (k s : Int) {mv dc : List Int} {evs : Evs} (hm : mv.length = 2) (hd : dc.length = 6) (h : fewP evs) (hr : rightB true st sk k s mv dc evs = false) :
    residue_Levels (M + 200) st sk k s mv dc evs = some (List.replicate 384 0, 12) := by
  unfold residue_Levels residue_every
  rw [right_ok true st sk k s hm hd h, hr]
  simp only [Option.isSome_some, Option.getD_some, if_true, Bool.not_false, cond_true]
end Go.Proofs.YtkfaebbbjahcpaaDoor
