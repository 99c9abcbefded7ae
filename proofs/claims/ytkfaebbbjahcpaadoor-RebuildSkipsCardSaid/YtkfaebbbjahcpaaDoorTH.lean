/- What the printed models answer: plain laws. -/
import Derived.Test.YtkfaebbbjahcpaaDoorTF
set_option linter.unusedVariables false
set_option linter.unusedSimpArgs false
namespace Go.Proofs.YtkfaebbbjahcpaaDoor
open Go.X

/-- A loop that lays six blocks. -/
theorem iter_lay {body : Int × List Int → Option ((Int × List Int) ⊕ List Int)} {N : Nat} (hN : 6 < N) (g : Nat → Nat → Int) (X0 : Nat → Int)
    (hs : ∀ i : Nat, i < 6 → body ((i : Int), tab 384 fun k => if k / 64 < i then g (k / 64) (k % 64) else X0 k) = some (.inl ((i : Int) + 1, layL (tab 384 fun k => if k / 64 < i then g (k / 64) (k % 64) else X0 k) (64 * i) (tab 64 (g i)) 64)))
    (he : ∀ xs, body ((6 : Int), xs) = some (.inr xs)) : iter body N (0, tab 384 X0) = some (tab 384 fun k => g (k / 64) (k % 64)) := by
  refine iter_to (fun i => ((i : Int), tab 384 fun k => if k / 64 < i then g (k / 64) (k % 64) else X0 k)) 6 ?_ ?_ ?_ hN
  · simp
  · intro i hi
    show body ((i : Int), _) = _
    rw [hs i hi]
    refine congrArg (fun z => some (Sum.inl z)) (Prod.ext (Int.natCast_succ i).symm ?_)
    show layL (tab 384 _) (64 * i) (tab 64 _) 64 = tab 384 (fun k => if k / 64 < i + 1 then g (k / 64) (k % 64) else X0 k)
    rw [lay_tab hi]
    refine tab_ext fun j hj => ?_
    by_cases hji : j / 64 = i
    · rw [if_pos hji, if_pos (by omega), hji]
    · by_cases hlt : j / 64 < i
      · rw [if_neg hji, if_pos hlt, if_pos (by omega)]
      · rw [if_neg hji, if_neg hlt, if_neg (by omega)]
  · show body ((6 : Int), _) = _
    rw [he]
    refine congrArg (fun z => some (Sum.inr z)) (tab_ext fun j hj => ?_)
    rw [if_pos (by omega)]
def LVc (k : Int) (evs : Evs) (i j : Nat) : Int := (lvs (bif intraB k then 1 else 0) (evs.getD i []) (evs.getD i []).length).getD (lp j) 0
def rsT (k q : Int) (dc : List Int) (evs : Evs) : List Int := tab 384 fun j => dctB (svb (intraB k) (dc.getD (j / 64) 0) (LVc k evs (j / 64)) q) (j % 64)
theorem right_okE {st : Int} {sk : Bool} {k s : Int} {mv dc : List Int} {evs : Evs} (h : rightB true st sk k s mv dc evs = true) : ∀ i, i < 6 → okE (bif intraB k then 1 else 0) (evs.getD i []) = true := by
  intro i hi
  unfold rightB at h
  simp only [Bool.and_eq_true] at h
  obtain ⟨_, h⟩ := h
  cases sk
  · simp only [cond_false, Bool.and_eq_true] at h
    have := List.all_eq_true.1 h.2.2.2 i (List.mem_range.2 hi)
    unfold mayB at this
    simp only [Bool.and_eq_true] at this
    exact this.1
  · simp only [cond_true, Bool.and_eq_true, decide_eq_true_eq] at h
    rw [h.2.2.2.2.2 i hi]
    cases intraB k <;> rfl
theorem dctb_zero {X : Nat → Int} (h : ∀ k, k < 64 → X k = 0) {k : Nat} (hk : k < 64) : dctB X k = 0 := by
  have h0 : ∀ k, k < 64 → clip (X k) (-2048) 2047 = 0 := fun k hk => by rw [h k hk]; rfl
  have p1 : ∀ Y : Nat → Int, (∀ k, k < 64 → Y k = 0) → ∀ k, k < 64 → passB Y k = 0 := fun Y hY k hk => psum_zero fun c hc => by
    show wt c (k / 8) * Y (8 * (k % 8) + c) = 0
    rw [hY _ (by omega)]; exact Int.mul_zero _
  unfold dctB
  rw [p1 _ (p1 _ h0) k hk]; rfl
theorem sv_zero (q : Int) : sv 0 q = 0 := rfl
theorem rsT_zero {k : Int} (hk : intraB k = false) (q : Int) (dc : List Int) {evs : Evs} (h : ∀ i, i < 6 → evs.getD i [] = []) : rsT k q dc evs = List.replicate 384 0 := by
  refine Eq.trans ?_ (rep_tab 384 (0 : Int)).symm
  unfold rsT
  refine tab_ext fun j hj => dctb_zero (fun i hi => ?_) (by omega)
  unfold svb LVc
  rw [hk, h _ (by omega)]
  show sv ((List.replicate 64 (0 : Int)).getD (lp i) 0) q = 0
  rw [rep_tab, tab_get _ _ (lp_facts i hi).1]
  exact sv_zero q
theorem rval_ok {N : Nat} (hN : 100 < N) (st : Int) (sk : Bool) (k s : Int) (mv dc : List Int) {evs : Evs} {i : Nat} (hi : i < 6) (q : Int) (hl : (evs.getD i []).length ≤ 100) (ho : okE (bif intraB k then 1 else 0) (evs.getD i []) = true) :
    overspill_residue_cell_values N st sk k s mv dc evs q (i : Int) = some (tab 64 (svb (intraB k) (dc.getD i 0) (LVc k evs i) q)) := by
  unfold overspill_residue_cell_values
  have hc : overspill_residue_cell_intra N st sk k s mv dc evs q = some (intraB k) := rfl
  obtain ⟨g1, g2, g3⟩ := in5 hi
  have hb := block_eqb (N := N) (by omega) (LVc k evs i) q (intraB k) (dc.getD i 0)
  simp only [hc, rlev_ok hN st sk k s mv dc hi q hl ho, Option.isSome_some, Option.getD_some, Int.toNat_natCast, hi, g1, g2, and_self, if_true]
  rw [show (tab 64 fun j => (lvs (bif intraB k then 1 else 0) (evs.getD i []) (evs.getD i []).length).getD (lp j) 0) = tab 64 (LVc k evs i) from rfl, hb]
  rfl
theorem rres_ok {N : Nat} (hN : 100 < N) (st : Int) (sk : Bool) (k s : Int) (mv dc : List Int) {evs : Evs} {i : Nat} (hi : i < 6) (q : Int) (hl : (evs.getD i []).length ≤ 100) (ho : okE (bif intraB k then 1 else 0) (evs.getD i []) = true) :
    overspill_residue_cell_residue N st sk k s mv dc evs q (i : Int) = some (tab 64 (dctB (svb (intraB k) (dc.getD i 0) (LVc k evs i) q))) := by
  unfold overspill_residue_cell_residue
  simp only [rval_ok hN st sk k s mv dc hi q hl ho, Option.isSome_some, Option.getD_some, inverse_eq (N := N) (by omega), and_self, if_true]
theorem res_of {M : Nat} (st : Int) (sk : Bool) (k s : Int) {mv dc : List Int} {evs : Evs} (q : Int) (hm : mv.length = 2) (hd : dc.length = 6) (h : fewP evs) :
    residue_Of (M + 200) st sk k s mv dc evs q = some (bif rightB true st sk k s mv dc evs then (rsT k q dc evs, 0) else (List.replicate 384 0, 12)) := by
  unfold residue_Of residue_every_residue
  rw [right_ok true st sk k s hm hd h]
  cases hr : rightB true st sk k s mv dc evs
  · rfl
  · have ho := right_okE hr
    have hit := iter_lay (body := residue_every_residue_b1 (M + 200) st sk k s mv dc evs q) (N := M + 200) (by omega) (fun i => dctB (svb (intraB k) (dc.getD i 0) (LVc k evs i) q)) (fun _ => 0) (fun i hi => by
      obtain ⟨g1, g2, g3⟩ := in5 hi
      have g4 := inS (i := i) (by omega)
      have g5 : 64 * i + 64 ≤ 384 := by omega
      simp only [residue_every_residue_b1, g1, g2, decide_true, cond_true, Int.toNat_natCast, rres_ok (N := M + 200) (by omega) st sk k s mv dc hi q (h i hi) (ho i hi), Option.isSome_some, Option.getD_some, and_self, if_true, g4, g5]) (fun xs => by simp [residue_every_residue_b1])
    rw [← rep_tab] at hit
    simp only [Option.isSome_some, Option.getD_some, if_true, Bool.not_true, cond_false, cond_true, hit, Option.bind_some]
    rfl
end Go.Proofs.YtkfaebbbjahcpaaDoor
