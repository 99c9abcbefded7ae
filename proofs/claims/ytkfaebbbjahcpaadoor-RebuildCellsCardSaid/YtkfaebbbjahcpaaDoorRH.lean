/- What the printed models answer: plain laws. -/
import Derived.Test.YtkfaebbbjahcpaaDoorRF
set_option linter.unusedVariables false
set_option linter.unusedSimpArgs false
namespace Go.Proofs.YtkfaebbbjahcpaaDoor
open Go.X

theorem blkT {i : Nat} (hi : i < 6) (F : Nat → Int) : ((tab 384 F).drop (64 * i)).take 64 = tab 64 fun k => F (64 * i + k) := by
  rw [blk_tab (tab_len _ _) hi]
  refine tab_ext fun k hk => ?_
  rw [tab_get _ _ (by omega)]
/-- A loop that lays six blocks. -/
theorem iter_lay {body : Int × List Int → Option ((Int × List Int) ⊕ List Int)} {N : Nat} (hN : 6 < N) (g : Nat → Nat → Int) (X0 : Nat → Int)
    (hs : ∀ i : Nat, i < 6 → body ((i : Int), tab 384 fun k => if k / 64 < i then g (k / 64) (k % 64) else X0 k) = some (.inl ((i : Int) + 1, layL (tab 384 fun k => if k / 64 < i then g (k / 64) (k % 64) else X0 k) (64 * i) (tab 64 (g i)) 64)))
    (he : ∀ xs, body ((6 : Int), xs) = some (.inr xs)) : iter body N (0, tab 384 X0) = some (tab 384 fun k => g (k / 64) (k % 64)) := by
  refine iter_to (fun i => ((i : Int), tab 384 fun k => if k / 64 < i then g (k / 64) (k % 64) else X0 k)) 6 ?_ ?_ ?_ hN
  · simp
  · intro i hi
    show body ((i : Int), _) = _
    rw [hs i hi]
    refine congrArg (fun z => some (Sum.inl z)) (Prod.ext (Int.natCast_succ i).symm ?_)
    show layL (tab 384 _) (64 * i) (tab 64 _) 64 = tab 384 (fun k => if k / 64 < i + 1 then g (k / 64) (k % 64) else X0 k)
    rw [lay_tab hi]
    refine tab_ext fun j hj => ?_
    by_cases hji : j / 64 = i
    · rw [if_pos hji, if_pos (by omega), hji]
    · by_cases hlt : j / 64 < i
      · rw [if_neg hji, if_pos hlt, if_pos (by omega)]
      · rw [if_neg hji, if_neg hlt, if_neg (by omega)]
  · show body ((6 : Int), _) = _
    rw [he]
    refine congrArg (fun z => some (Sum.inr z)) (tab_ext fun j hj => ?_)
    rw [if_pos (by omega)]
theorem blkS {i : Nat} (hi : i < 6) (g : Nat → Nat → Int) (X0 : Nat → Int) : ((tab 384 fun k => if k / 64 < i then g (k / 64) (k % 64) else X0 k).drop (64 * i)).take 64 = tab 64 fun k => X0 (64 * i + k) := by
  rw [blkT hi]
  refine tab_ext fun k hk => ?_
  rw [if_neg (by omega)]
def LVc (k : Int) (evs : Evs) (i j : Nat) : Int := (lvs (bif intraB k then 1 else 0) (evs.getD i []) (evs.getD i []).length).getD (lp j) 0
def lvT (k : Int) (evs : Evs) : List Int := tab 384 fun j => LVc k evs (j / 64) (j % 64)
def vlT (k q : Int) (dc : List Int) (evs : Evs) : List Int := tab 384 fun j => svb (intraB k) (dc.getD (j / 64) 0) (LVc k evs (j / 64)) q (j % 64)
def rsT (k q : Int) (dc : List Int) (evs : Evs) : List Int := tab 384 fun j => dctB (svb (intraB k) (dc.getD (j / 64) 0) (LVc k evs (j / 64)) q) (j % 64)
theorem right_okE {st : Int} {sk : Bool} {k s : Int} {mv dc : List Int} {evs : Evs} (h : rightB true st sk k s mv dc evs = true) : ∀ i, i < 6 → okE (bif intraB k then 1 else 0) (evs.getD i []) = true := by
  intro i hi
  unfold rightB at h
  simp only [Bool.and_eq_true] at h
  obtain ⟨_, h⟩ := h
  cases sk
  · simp only [cond_false, Bool.and_eq_true] at h
    have := List.all_eq_true.1 h.2.2.2 i (List.mem_range.2 hi)
    unfold mayB at this
    simp only [Bool.and_eq_true] at this
    exact this.1
  · simp only [cond_true, Bool.and_eq_true, decide_eq_true_eq] at h
    rw [h.2.2.2.2.2 i hi]
    cases intraB k <;> rfl
theorem rval_ok {N : Nat} (hN : 100 < N) (st : Int) (sk : Bool) (k s : Int) (mv dc : List Int) {evs : Evs} {i : Nat} (hi : i < 6) (q : Int) (hl : (evs.getD i []).length ≤ 100) (ho : okE (bif intraB k then 1 else 0) (evs.getD i []) = true) :
    overspill_residue_cell_values N st sk k s mv dc evs q (i : Int) = some (tab 64 (svb (intraB k) (dc.getD i 0) (LVc k evs i) q)) := by
  unfold overspill_residue_cell_values
  have hc : overspill_residue_cell_intra N st sk k s mv dc evs q = some (intraB k) := rfl
  obtain ⟨g1, g2, g3⟩ := in5 hi
  have hb := block_eqb (N := N) (by omega) (LVc k evs i) q (intraB k) (dc.getD i 0)
  simp only [hc, rlev_ok hN st sk k s mv dc hi q hl ho, Option.isSome_some, Option.getD_some, Int.toNat_natCast, hi, g1, g2, and_self, if_true]
  rw [show (tab 64 fun j => (lvs (bif intraB k then 1 else 0) (evs.getD i []) (evs.getD i []).length).getD (lp j) 0) = tab 64 (LVc k evs i) from rfl, hb]
  rfl
theorem rres_ok {N : Nat} (hN : 100 < N) (st : Int) (sk : Bool) (k s : Int) (mv dc : List Int) {evs : Evs} {i : Nat} (hi : i < 6) (q : Int) (hl : (evs.getD i []).length ≤ 100) (ho : okE (bif intraB k then 1 else 0) (evs.getD i []) = true) :
    overspill_residue_cell_residue N st sk k s mv dc evs q (i : Int) = some (tab 64 (dctB (svb (intraB k) (dc.getD i 0) (LVc k evs i) q))) := by
  unfold overspill_residue_cell_residue
  simp only [rval_ok hN st sk k s mv dc hi q hl ho, Option.isSome_some, Option.getD_some, inverse_eq (N := N) (by omega), and_self, if_true]
theorem res_of {M : Nat} (st : Int) (sk : Bool) (k s : Int) {mv dc : List Int} {evs : Evs} (q : Int) (hm : mv.length = 2) (hd : dc.length = 6) (h : fewP evs) :
    residue_Of (M + 200) st sk k s mv dc evs q = some (bif rightB true st sk k s mv dc evs then (rsT k q dc evs, 0) else (List.replicate 384 0, 12)) := by
  unfold residue_Of residue_every_residue
  rw [right_ok true st sk k s hm hd h]
  cases hr : rightB true st sk k s mv dc evs
  · rfl
  · have ho := right_okE hr
    have hit := iter_lay (body := residue_every_residue_b1 (M + 200) st sk k s mv dc evs q) (N := M + 200) (by omega) (fun i => dctB (svb (intraB k) (dc.getD i 0) (LVc k evs i) q)) (fun _ => 0) (fun i hi => by
      obtain ⟨g1, g2, g3⟩ := in5 hi
      have g4 := inS (i := i) (by omega)
      have g5 : 64 * i + 64 ≤ 384 := by omega
      simp only [residue_every_residue_b1, g1, g2, decide_true, cond_true, Int.toNat_natCast, rres_ok (N := M + 200) (by omega) st sk k s mv dc hi q (h i hi) (ho i hi), Option.isSome_some, Option.getD_some, and_self, if_true, g4, g5]) (fun xs => by simp [residue_every_residue_b1])
    rw [← rep_tab] at hit
    simp only [Option.isSome_some, Option.getD_some, if_true, Bool.not_true, cond_false, cond_true, hit, Option.bind_some]
    rfl
theorem rref_levels {M : Nat} (st : Int) (sk : Bool) (k s : Int) (mv dc : List Int) {evs : Evs} (h : fewP evs) (ho : ∀ i, i < 6 → okE (bif intraB k then 1 else 0) (evs.getD i []) = true) :
    ref29_Levels (M + 200) st sk k s mv dc evs = some (lvT k evs) := by
  have hc : ref21_Intra (M + 200) k = some (intraB k) := rfl
  have hf : (bif intraB k then (1 : Int) else 0) = 0 ∨ (bif intraB k then (1 : Int) else 0) = 1 := by cases intraB k <;> simp
  have hit := iter_lay (body := ref29_Levels_b1 (M + 200) evs (some (intraB k))) (N := M + 200) (by omega) (fun i => LVc k evs i) (fun _ => 0) (fun i hi => by
    obtain ⟨g1, g2, g3⟩ := in5 hi
    have g4 := inS (i := i) (by omega)
    have g5 : 64 * i + 64 ≤ 384 := by omega
    have hl := h i hi
    simp only [ref29_Levels_b1, g1, g2, decide_true, cond_true, Int.toNat_natCast, Option.getD_some, rlevels_ok (N := M + 200) hf (show (evs.getD i []).length < 4294967296 by omega) (by omega), ho i hi, Option.isSome_some, and_self, if_true, g4, g5, hi, rraster_eq]
    rfl) (fun xs => by simp [ref29_Levels_b1])
  rw [← rep_tab] at hit
  unfold ref29_Levels
  simp only [hc, Option.isSome_some, if_true, hit, Option.bind_some]
  rfl
theorem rref_values {M : Nat} (st : Int) (sk : Bool) (k s : Int) (mv dc : List Int) {evs : Evs} (q : Int) (h : fewP evs) (ho : ∀ i, i < 6 → okE (bif intraB k then 1 else 0) (evs.getD i []) = true) :
    ref29_Values (M + 200) st sk k s mv dc evs q = some (vlT k q dc evs) := by
  have hc : ref21_Intra (M + 200) k = some (intraB k) := rfl
  have hit := iter_lay (body := ref29_Values_b1 (M + 200) k dc q) (N := M + 200) (by omega) (fun i => svb (intraB k) (dc.getD i 0) (LVc k evs i) q) (fun j => LVc k evs (j / 64) (j % 64)) (fun i hi => by
    obtain ⟨g1, g2, g3⟩ := in5 hi
    have g4 := inS (i := i) (by omega)
    have g5 : 64 * i + 64 ≤ 384 := by omega
    have he : (tab 64 fun j => LVc k evs ((64 * i + j) / 64) ((64 * i + j) % 64)) = tab 64 (LVc k evs i) := tab_ext fun j hj => by
      rw [show (64 * i + j) / 64 = i by omega, show (64 * i + j) % 64 = j by omega]
    have hb := blkS hi (fun i => svb (intraB k) (dc.getD i 0) (LVc k evs i) q) (fun j => LVc k evs (j / 64) (j % 64))
    simp only [he] at hb
    simp only [ref29_Values_b1, g1, g2, decide_true, cond_true, Int.toNat_natCast, hc, Option.getD_some, hb, rblock_eqb (N := M + 200) (by omega), Option.isSome_some, and_self, if_true, g4, g5, hi]) (fun xs => by simp [ref29_Values_b1])
  unfold ref29_Values
  simp only [rref_levels st sk k s mv dc h ho, Option.isSome_some, Option.getD_some, if_true]
  unfold lvT
  rw [hit]
  rfl
theorem rref_of {M : Nat} (st : Int) (sk : Bool) (k s : Int) (mv dc : List Int) {evs : Evs} (q : Int) (h : fewP evs) (ho : ∀ i, i < 6 → okE (bif intraB k then 1 else 0) (evs.getD i []) = true) :
    ref29_Of (M + 200) st sk k s mv dc evs q = some (rsT k q dc evs) := by
  have hit := iter_lay (body := ref29_Of_b1 (M + 200)) (N := M + 200) (by omega) (fun i => dctB (svb (intraB k) (dc.getD i 0) (LVc k evs i) q)) (fun j => svb (intraB k) (dc.getD (j / 64) 0) (LVc k evs (j / 64)) q (j % 64)) (fun i hi => by
    obtain ⟨g1, g2, g3⟩ := in5 hi
    have g4 := inS (i := i) (by omega)
    have g5 : 64 * i + 64 ≤ 384 := by omega
    have he : (tab 64 fun j => svb (intraB k) (dc.getD ((64 * i + j) / 64) 0) (LVc k evs ((64 * i + j) / 64)) q ((64 * i + j) % 64)) = tab 64 (svb (intraB k) (dc.getD i 0) (LVc k evs i) q) := tab_ext fun j hj => by
      rw [show (64 * i + j) / 64 = i by omega, show (64 * i + j) % 64 = j by omega]
    have hb := blkS hi (fun i => dctB (svb (intraB k) (dc.getD i 0) (LVc k evs i) q)) (fun j => svb (intraB k) (dc.getD (j / 64) 0) (LVc k evs (j / 64)) q (j % 64))
    simp only [he] at hb
    simp only [ref29_Of_b1, g1, g2, decide_true, cond_true, Int.toNat_natCast, Option.getD_some, hb, rinverse_eq (N := M + 200) (by omega), Option.isSome_some, and_self, if_true, g4, g5, hi]) (fun xs => by simp [ref29_Of_b1])
  unfold ref29_Of
  simp only [rref_values st sk k s mv dc q h ho, Option.isSome_some, Option.getD_some, if_true]
  unfold vlT
  rw [hit]
  rfl
end Go.Proofs.YtkfaebbbjahcpaaDoor
