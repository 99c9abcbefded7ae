/- What the printed models answer: plain laws. -/
import Derived.Test.YtkfaebbbjahcpaaDoorTI
set_option linter.unusedVariables false
set_option linter.unusedSimpArgs false
namespace Go.Proofs.YtkfaebbbjahcpaaDoor
open Go.X

def rbR (f : Int) (ps : List (List Int)) (n : Int) (k q : Int) (mv dc : List Int) (evs : Evs) : List Int × Int :=
  bif intraB k then (sumT (List.replicate 384 0) (rsT k q dc evs), 0) else
  bif rightF f ps && hasF f n then bif mayF f n mv then (sumT (prT f ps n mv) (rsT k q dc evs), 0) else (List.replicate 384 0, 8) else (List.replicate 384 0, 1)
theorem rbcell_ok {M : Nat} (f : Int) {ps : List (List Int)} (n : Int) (st : Int) (sk : Bool) (k s : Int) {mv dc : List Int} {evs : Evs} (q : Int) (hm : mv.length = 2) (hd : dc.length = 6) (h : fewP evs) (hb : ∀ k, k < 3 → byteP (ps.getD k [])) :
    rebuild_Cell (M + 200) f ps n st sk k s mv dc evs q = some (bif rightB true st sk k s mv dc evs then rbR f ps n k q mv dc evs else (List.replicate 384 0, 12)) := by
  unfold rebuild_Cell
  rw [res_of st sk k s q hm hd h]
  obtain ⟨Z, hZ⟩ : ∃ Z, Z = List.replicate 384 (0 : Int) := ⟨_, rfl⟩
  have hk : (bif decide (k ≠ 3) then decide (k ≠ 4) else false) = !intraB k := by
    unfold intraB
    by_cases h3 : k = 3 <;> by_cases h4 : k = 4 <;> simp [h3, h4]
  cases hr : rightB true st sk k s mv dc evs
  · rfl
  · have hp := predict_ok (N := M + 200) (by omega) f n mv hb
    unfold rbR
    rw [hp, hk, ← hZ]
    simp only [Option.isSome_some, Option.getD_some, if_true, cond_true, ne_eq, not_true, decide_false, cond_false, implies_true]
    cases hi : intraB k
    · simp only [Bool.not_false, cond_true, cond_false]
      cases rightF f ps && hasF f n
      · rfl
      · simp only [cond_true]
        cases mayF f n mv
        · rfl
        · simp only [cond_true, ne_eq, not_true, decide_false, cond_false, sum_ok (N := M + 200) (by omega), Option.isSome_some, Option.getD_some, if_true]
    · simp only [Bool.not_true, cond_true, cond_false, ne_eq, not_true, decide_false, sum_ok (N := M + 200) (by omega), Option.isSome_some, Option.getD_some, if_true]
theorem lives31 (M : Nat) : law31_lives (M + 200) = some true := by kernel_rfl
theorem few_loop {body : Int → Option (Int ⊕ (Bool ⊕ Unit))} {N : Nat} (hN : 6 < N) {evs : Evs} (hb : ∀ i : Nat, i < 6 → body (i : Int) = bif decide ((evs.getD i []).length ≤ 100) then some (.inl ((i : Int) + 1)) else some (.inr (.inl true))) (he : body (6 : Int) = some (.inr (.inr ()))) :
    (fewP evs → iter body N 0 = some (.inr ())) ∧ (¬ fewP evs → iter body N 0 = some (.inl true)) := by
  obtain ⟨hy, hn⟩ := iter_try (body := body) (fun i => (i : Int)) 6 N (fun i => decide ((evs.getD i []).length ≤ 100)) (fun _ => .inl true) (.inr ()) (s0 := 0) rfl
    (fun i hi hP => by
      show body (i : Int) = _
      rw [hb i hi, hP, cond_true, Int.natCast_succ])
    (fun i hi hP => by
      show body (i : Int) = _
      rw [hb i hi, hP, cond_false]) he hN
  refine ⟨fun h => hy (List.all_eq_true.2 fun i hi => decide_eq_true (h i (List.mem_range.1 hi))), fun h => ?_⟩
  cases hall : (List.range 6).all (fun i => decide ((evs.getD i []).length ≤ 100)) with
  | true => exact absurd (fun i hi => by simpa using List.all_eq_true.1 hall i (List.mem_range.2 hi)) h
  | false =>
    obtain ⟨j, _, _, hj⟩ := hn hall
    exact hj
theorem sum_still {f : Int} {ps : List (List Int)} {n : Int} (hb : ∀ k, k < 3 → byteP (ps.getD k [])) : sumT (prT f ps n [0, 0]) (List.replicate 384 0) = cuT f ps n := by
  unfold sumT cuT prT
  refine tab_ext fun j hj => ?_
  rw [tab_get _ _ hj, rep_tab, tab_get _ _ hj, cut_pr]
  have hk3 : pk (j / 64) < 3 := by unfold pk; omega
  have hbn := hv_bnd (hb (pk (j / 64)) hk3) (wid f (pk (j / 64))) (xb f n [0, 0] (j / 64) + 2 * ((j % 64 % 8 : Nat) : Int)) (yb f n [0, 0] (j / 64) + 2 * ((j % 64 / 8 : Nat) : Int))
  have he : hv (ps.getD (pk (j / 64)) []) (wid f (pk (j / 64))) (xb f n [0, 0] (j / 64) + 2 * ((j % 64 % 8 : Nat) : Int)) (yb f n [0, 0] (j / 64) + 2 * ((j % 64 / 8 : Nat) : Int)) = cuF f ps n (j / 64) (j % 64) := cut_pr f ps n (j / 64) (j % 64)
  rw [he] at hbn
  unfold sumF
  have e1 := clip_id (a := cuF f ps n (j / 64) (j % 64)) (lo := -1024) (hi := 1024) (by omega) (by omega)
  rw [e1, show clip 0 (-1024) 1024 = 0 from rfl, Int.add_zero, clip_id hbn.1 hbn.2]
theorem tab_past {n i : Nat} (f : Nat → Int) (h : n ≤ i) : (tab n f).getD i 0 = 0 := by
  rw [List.getD_eq_getElem?_getD, tab_at, if_neg (by omega)]; rfl
theorem rbR_bnd (f : Int) (ps : List (List Int)) (n k q : Int) (mv dc : List Int) (evs : Evs) (j : Nat) : 0 ≤ (rbR f ps n k q mv dc evs).1.getD j 0 ∧ (rbR f ps n k q mv dc evs).1.getD j 0 ≤ 255 := by
  have hs : ∀ p r : List Int, 0 ≤ (sumT p r).getD j 0 ∧ (sumT p r).getD j 0 ≤ 255 := fun p r => by
    unfold sumT
    by_cases hj : j < 384
    · rw [tab_get _ _ hj]; exact ⟨clip_ge (by decide), clip_le (by decide)⟩
    · rw [tab_past _ (by omega)]; decide
  have hz : 0 ≤ (List.replicate 384 (0 : Int)).getD j 0 ∧ (List.replicate 384 (0 : Int)).getD j 0 ≤ 255 := by
    rw [rep_tab]
    by_cases hj : j < 384
    · rw [tab_get _ _ hj]; decide
    · rw [tab_past _ (by omega)]; decide
  unfold rbR
  cases intraB k
  · cases rightF f ps && hasF f n
    · exact hz
    · cases mayF f n mv
      · exact hz
      · exact hs _ _
  · exact hs _ _
theorem rbskips_law {M : Nat} (hM : 10000 ≤ M) (f : Int) {ps : List (List Int)} (n : Int) (st : Int) (sk : Bool) (k s : Int) {mv dc : List Int} {evs : Evs} (q : Int) (hm : mv.length = 2) (hd : dc.length = 6) (hb : ∀ k, k < 3 → byteP (ps.getD k [])) : law31_RebuildSkips (M + 200) f ps n st sk k s mv dc evs q = some true := by
  have hl := lives31 M
  obtain ⟨hy, hn⟩ := few_loop (body := law31_RebuildSkips_b3 (M + 200) evs) (N := M + 200) (by omega) (evs := evs) (fun i hi => by
    obtain ⟨g1, g2, g3⟩ := in5 hi
    have g4 := inS (i := i) (by omega)
    simp only [law31_RebuildSkips_b3, g1, g2, hi, decide_true, cond_true, Int.toNat_natCast, and_self, if_true, g4, hl, Option.isSome_some, Option.getD_some]
    by_cases hh : (evs.getD i []).length ≤ 100
    · have : ¬ (100 : Int) < ((evs.getD i []).length : Int) := by omega
      simp only [hh, this, decide_true, decide_false, cond_true, cond_false]
    · have : (100 : Int) < ((evs.getD i []).length : Int) := by omega
      simp only [hh, this, decide_true, decide_false, cond_true, cond_false]) (by simp [law31_RebuildSkips_b3])
  unfold law31_RebuildSkips
  by_cases hf : ¬ fewP evs
  · rw [hn hf]; rfl
  replace hf := Classical.not_not.1 hf
  rw [hy hf]
  simp only [Option.bind_some, Sum.elim_inr]
  obtain ⟨b, hlt⟩ : ∃ b, law17_Light (M + 200) f ps = some b := ⟨_, rfl⟩
  rw [hlt, hl]
  cases b
  · rfl
  have hz : ∀ i, i < 6 → (List.replicate 6 ([] : List Ev)).getD i [] = [] := fun i hi => by rw [rep_tab, tab_get _ _ hi]
  have hfz : fewP (List.replicate 6 []) := fun i hi => by rw [hz i hi]; simp
  have q1 := rbcell_ok (M := M) f n 0 true 0 0 (mv := List.replicate 2 0) (dc := List.replicate 6 0) (evs := List.replicate 6 []) q rfl rfl hfz hb
  rw [show rightB true 0 true 0 0 (List.replicate 2 0) (List.replicate 6 0) (List.replicate 6 []) = true by decide, cond_true] at q1
  have q2 : rbR f ps n 0 q (List.replicate 2 0) (List.replicate 6 0) (List.replicate 6 []) = bif rightF f ps && hasF f n then (cuT f ps n, 0) else (List.replicate 384 0, 1) := by
    unfold rbR
    rw [show intraB 0 = false from rfl, cond_false, rsT_zero rfl q _ hz]
    cases hrh : (rightF f ps && hasF f n)
    · rfl
    · simp only [Bool.and_eq_true] at hrh
      simp only [cond_true]
      rw [show (List.replicate 2 (0 : Int)) = [0, 0] from rfl, may_still hrh.2, cond_true, sum_still hb]
  have q3 := rbcell_ok (M := M) f n st sk k s q hm hd hf hb
  obtain ⟨S, hS, hSb⟩ : ∃ S : List Int × Int, rebuild_Cell (M + 200) f ps n st sk k s mv dc evs q = some S ∧ ∀ j, 0 ≤ S.1.getD j 0 ∧ S.1.getD j 0 ≤ 255 := by
    refine ⟨_, q3, fun j => ?_⟩
    cases rightB true st sk k s mv dc evs
    · show 0 ≤ (List.replicate 384 (0 : Int)).getD j 0 ∧ (List.replicate 384 (0 : Int)).getD j 0 ≤ 255
      rw [rep_tab]
      by_cases hj : j < 384
      · rw [tab_get _ _ hj]; decide
      · rw [tab_past _ (by omega)]; decide
    · exact rbR_bnd f ps n k q mv dc evs j
  have inner : ∀ b : Nat, b < 6 → iter (law31_RebuildSkips_b2 (M + 200) (some S) (b : Int)) (M + 200) 0 = some (.inr (64, 64, false)) := fun b hb6 => by
    obtain ⟨g1, g2, g3⟩ := in5 hb6
    refine iter_to (fun i => (i : Int)) 64 rfl (fun i hi => ?_) (by simp [law31_RebuildSkips_b2]) (by omega)
    have h1 : (i : Int) < 64 := by omega
    have h2 := inS (i := i) (by omega)
    have h3 : b * 64 + i < 384 := by omega
    obtain ⟨v1, v2⟩ := hSb (b * 64 + i)
    have v3 : ¬ S.1.getD (b * 64 + i) 0 < 0 := by omega
    have v4 : ¬ (255 : Int) < S.1.getD (b * 64 + i) 0 := by omega
    simp only [law31_RebuildSkips_b2, h1, h2, h3, g1, g2, v3, v4, decide_true, decide_false, cond_true, cond_false, Option.getD_some, Int.natCast_nonneg, Int.toNat_natCast, implies_true, and_self, if_true]
    rw [Int.natCast_succ]
  have outer : iter (law31_RebuildSkips_b1 (M + 200) (some S)) (M + 200) 0 = some (.inr ()) := by
    refine iter_to (fun i => (i : Int)) 6 rfl (fun i hi => ?_) (by simp [law31_RebuildSkips_b1]) (by omega)
    obtain ⟨g1, g2, g3⟩ := in5 hi
    have g4 := inS (i := i) (by omega)
    simp only [law31_RebuildSkips_b1, g2, decide_true, cond_true, inner i hi, Option.bind_some, Sum.elim_inr, g4, if_true]
    rw [Int.natCast_succ]
  rw [q1, q2, cut_ok (N := M + 200) (by omega) f n hb, hS]
  simp only [Option.isSome_some, Option.getD_some, if_true, Bool.not_true, cond_false, decide_true, ne_eq, not_true, decide_false, outer, Option.bind_some, Sum.elim_inr]
theorem bytes_of {ps : List (List Int)} (h : ∀ xs, xs ∈ ps → ∀ x, x ∈ xs → inK .u8 x) (k : Nat) : byteP (ps.getD k []) := by
  refine byteP_of fun x hx => ?_
  rw [List.getD_eq_getElem?_getD] at hx
  cases hi : ps[k]? with
  | none => rw [hi] at hx; cases hx
  | some xs =>
    rw [hi] at hx
    exact h xs (List.mem_of_getElem? hi) x hx
theorem law_rebuildSkips (N : Nat) (hN : 1099511627776 ≤ N) (y0 : Sh.den (.pair (.int .i64) (.arrS 3 (.int .u8)))) (w0 : Sh.wf (.pair (.int .i64) (.arrS 3 (.int .u8))) y0) (y1 : Sh.den (.int .i64)) (w1 : Sh.wf (.int .i64) y1) (y2 : Sh.den (.pair (.pair (.int .i64) (.pair .bool (.pair (.int .i64) (.pair (.int .i64) (.pair (.arr 2 .i64) (.pair (.arr 6 .i64) (.arrS 6 (.pair .bool (.pair (.int .i64) (.int .i64)))))))))) (.int .i64))) (w2 : Sh.wf (.pair (.pair (.int .i64) (.pair .bool (.pair (.int .i64) (.pair (.int .i64) (.pair (.arr 2 .i64) (.pair (.arr 6 .i64) (.arrS 6 (.pair .bool (.pair (.int .i64) (.int .i64)))))))))) (.int .i64)) y2) : law31_RebuildSkips N (y0.1) (y0.2) y1 (y2.1.1) (y2.1.2.1) (y2.1.2.2.1) (y2.1.2.2.2.1) (y2.1.2.2.2.2.1) (y2.1.2.2.2.2.2.1) (y2.1.2.2.2.2.2.2) (y2.2) = some true := by
  obtain ⟨f, ps⟩ := y0
  obtain ⟨_, _, hps⟩ := w0
  obtain ⟨⟨st, sk, k, s, mv, dc, evs⟩, q⟩ := y2
  obtain ⟨⟨_, _, _, _, ⟨hm, _⟩, ⟨hd, _⟩, _⟩, _⟩ := w2
  obtain ⟨M, rfl⟩ : ∃ M, N = M + 200 := ⟨N - 200, by omega⟩
  exact rbskips_law (by omega) f y1 st sk k s q hm hd fun k _ => bytes_of (fun xs hx x hi => (hps xs hx).2 x hi) k
end Go.Proofs.YtkfaebbbjahcpaaDoor
