/- What the printed models answer: plain laws. -/
import Derived.Test.YtkfaebbbjahcpaaDoorHF
set_option linter.unusedVariables false
set_option linter.unusedSimpArgs false
namespace Go.Proofs.YtkfaebbbjahcpaaDoor
open Go.X

theorem blkT {i : Nat} (hi : i < 6) (F : Nat → Int) : ((tab 384 F).drop (64 * i)).take 64 = tab 64 fun k => F (64 * i + k) := by
  rw [blk_tab (tab_len _ _) hi]
  refine tab_ext fun k hk => ?_
  rw [tab_get _ _ (by omega)]
/-- A loop that lays six blocks. -/
theorem iter_lay {body : Int × List Int → Option ((Int × List Int) ⊕ List Int)} {N : Nat} (hN : 6 < N) (g : Nat → Nat → Int) (X0 : Nat → Int)
    (hs : ∀ i : Nat, i < 6 → body ((i : Int), tab 384 fun k => if k / 64 < i then g (k / 64) (k % 64) else X0 k) = some (.inl ((i : Int) + 1, layL (tab 384 fun k => if k / 64 < i then g (k / 64) (k % 64) else X0 k) (64 * i) (tab 64 (g i)) 64)))
    (he : ∀ xs, body ((6 : Int), xs) = some (.inr xs)) : iter body N (0, tab 384 X0) = some (tab 384 fun k => g (k / 64) (k % 64)) := by
  refine iter_to (fun i => ((i : Int), tab 384 fun k => if k / 64 < i then g (k / 64) (k % 64) else X0 k)) 6 ?_ ?_ ?_ hN
  · simp
  · intro i hi
    show body ((i : Int), _) = _
    rw [hs i hi]
    refine congrArg (fun z => some (Sum.inl z)) (Prod.ext (Int.natCast_succ i).symm ?_)
    show layL (tab 384 _) (64 * i) (tab 64 _) 64 = tab 384 (fun k => if k / 64 < i + 1 then g (k / 64) (k % 64) else X0 k)
    rw [lay_tab hi]
    refine tab_ext fun j hj => ?_
    by_cases hji : j / 64 = i
    · rw [if_pos hji, if_pos (by omega), hji]
    · by_cases hlt : j / 64 < i
      · rw [if_neg hji, if_pos hlt, if_pos (by omega)]
      · rw [if_neg hji, if_neg hlt, if_neg (by omega)]
  · show body ((6 : Int), _) = _
    rw [he]
    refine congrArg (fun z => some (Sum.inr z)) (tab_ext fun j hj => ?_)
    rw [if_pos (by omega)]
theorem blkS {i : Nat} (hi : i < 6) (g : Nat → Nat → Int) (X0 : Nat → Int) : ((tab 384 fun k => if k / 64 < i then g (k / 64) (k % 64) else X0 k).drop (64 * i)).take 64 = tab 64 fun k => X0 (64 * i + k) := by
  rw [blkT hi]
  refine tab_ext fun k hk => ?_
  rw [if_neg (by omega)]
def LVc (k : Int) (evs : Evs) (i j : Nat) : Int := (lvs (bif intraB k then 1 else 0) (evs.getD i []) (evs.getD i []).length).getD (lp j) 0
def lvT (k : Int) (evs : Evs) : List Int := tab 384 fun j => LVc k evs (j / 64) (j % 64)
def vlT (k q : Int) (dc : List Int) (evs : Evs) : List Int := tab 384 fun j => svb (intraB k) (dc.getD (j / 64) 0) (LVc k evs (j / 64)) q (j % 64)
def rsT (k q : Int) (dc : List Int) (evs : Evs) : List Int := tab 384 fun j => dctB (svb (intraB k) (dc.getD (j / 64) 0) (LVc k evs (j / 64)) q) (j % 64)
theorem right_okE {st : Int} {sk : Bool} {k s : Int} {mv dc : List Int} {evs : Evs} (h : rightB true st sk k s mv dc evs = true) : ∀ i, i < 6 → okE (bif intraB k then 1 else 0) (evs.getD i []) = true := by
  intro i hi
  unfold rightB at h
  simp only [Bool.and_eq_true] at h
  obtain ⟨_, h⟩ := h
  cases sk
  · simp only [cond_false, Bool.and_eq_true] at h
    have := List.all_eq_true.1 h.2.2.2 i (List.mem_range.2 hi)
    unfold mayB at this
    simp only [Bool.and_eq_true] at this
    exact this.1
  · simp only [cond_true, Bool.and_eq_true, decide_eq_true_eq] at h
    rw [h.2.2.2.2.2 i hi]
    cases intraB k <;> rfl
theorem dctb_zero {X : Nat → Int} (h : ∀ k, k < 64 → X k = 0) {k : Nat} (hk : k < 64) : dctB X k = 0 := by
  have h0 : ∀ k, k < 64 → clip (X k) (-2048) 2047 = 0 := fun k hk => by rw [h k hk]; rfl
  have p1 : ∀ Y : Nat → Int, (∀ k, k < 64 → Y k = 0) → ∀ k, k < 64 → passB Y k = 0 := fun Y hY k hk => psum_zero fun c hc => by
    show wt c (k / 8) * Y (8 * (k % 8) + c) = 0
    rw [hY _ (by omega)]; exact Int.mul_zero _
  unfold dctB
  rw [p1 _ (p1 _ h0) k hk]; rfl
theorem sv_zero (q : Int) : sv 0 q = 0 := rfl
theorem res_levels {M : Nat} (st : Int) (sk : Bool) (k s : Int) {mv dc : List Int} {evs : Evs} (hm : mv.length = 2) (hd : dc.length = 6) (h : fewP evs) :
    residue_Levels (M + 200) st sk k s mv dc evs = some (bif rightB true st sk k s mv dc evs then (lvT k evs, 0) else (List.replicate 384 0, 12)) := by
  cases hr : rightB true st sk k s mv dc evs
  · exact rlevels_no st sk k s hm hd h hr
  · exact rlevels_cell st sk k s hm hd h hr (right_okE hr)
theorem rval_ok {N : Nat} (hN : 100 < N) (st : Int) (sk : Bool) (k s : Int) (mv dc : List Int) {evs : Evs} {i : Nat} (hi : i < 6) (q : Int) (hl : (evs.getD i []).length ≤ 100) (ho : okE (bif intraB k then 1 else 0) (evs.getD i []) = true) :
    overspill_residue_cell_values N st sk k s mv dc evs q (i : Int) = some (tab 64 (svb (intraB k) (dc.getD i 0) (LVc k evs i) q)) := by
  unfold overspill_residue_cell_values
  have hc : overspill_residue_cell_intra N st sk k s mv dc evs q = some (intraB k) := rfl
  obtain ⟨g1, g2, g3⟩ := in5 hi
  have hb := block_eqb (N := N) (by omega) (LVc k evs i) q (intraB k) (dc.getD i 0)
  simp only [hc, rlev_ok hN st sk k s mv dc hi q hl ho, Option.isSome_some, Option.getD_some, Int.toNat_natCast, hi, g1, g2, and_self, if_true]
  rw [show (tab 64 fun j => (lvs (bif intraB k then 1 else 0) (evs.getD i []) (evs.getD i []).length).getD (lp j) 0) = tab 64 (LVc k evs i) from rfl, hb]
  rfl
theorem res_values {M : Nat} (st : Int) (sk : Bool) (k s : Int) {mv dc : List Int} {evs : Evs} (q : Int) (hm : mv.length = 2) (hd : dc.length = 6) (h : fewP evs) :
    residue_Values (M + 200) st sk k s mv dc evs q = some (bif rightB true st sk k s mv dc evs then (vlT k q dc evs, 0) else (List.replicate 384 0, 12)) := by
  unfold residue_Values residue_every_values
  rw [right_ok true st sk k s hm hd h]
  cases hr : rightB true st sk k s mv dc evs
  · rfl
  · have ho := right_okE hr
    have hit := iter_lay (body := residue_every_values_b1 (M + 200) st sk k s mv dc evs q) (N := M + 200) (by omega) (fun i => svb (intraB k) (dc.getD i 0) (LVc k evs i) q) (fun _ => 0) (fun i hi => by
      obtain ⟨g1, g2, g3⟩ := in5 hi
      have g4 := inS (i := i) (by omega)
      have g5 : 64 * i + 64 ≤ 384 := by omega
      simp only [residue_every_values_b1, g1, g2, decide_true, cond_true, Int.toNat_natCast, rval_ok (N := M + 200) (by omega) st sk k s mv dc hi q (h i hi) (ho i hi), Option.isSome_some, Option.getD_some, and_self, if_true, g4, g5]) (fun xs => by simp [residue_every_values_b1])
    rw [← rep_tab] at hit
    simp only [Option.isSome_some, Option.getD_some, if_true, Bool.not_true, cond_false, cond_true, hit, Option.bind_some]
    rfl
theorem rres_ok {N : Nat} (hN : 100 < N) (st : Int) (sk : Bool) (k s : Int) (mv dc : List Int) {evs : Evs} {i : Nat} (hi : i < 6) (q : Int) (hl : (evs.getD i []).length ≤ 100) (ho : okE (bif intraB k then 1 else 0) (evs.getD i []) = true) :
    overspill_residue_cell_residue N st sk k s mv dc evs q (i : Int) = some (tab 64 (dctB (svb (intraB k) (dc.getD i 0) (LVc k evs i) q))) := by
  unfold overspill_residue_cell_residue
  simp only [rval_ok hN st sk k s mv dc hi q hl ho, Option.isSome_some, Option.getD_some, inverse_eq (N := N) (by omega), and_self, if_true]
theorem res_of {M : Nat} (st : Int) (sk : Bool) (k s : Int) {mv dc : List Int} {evs : Evs} (q : Int) (hm : mv.length = 2) (hd : dc.length = 6) (h : fewP evs) :
    residue_Of (M + 200) st sk k s mv dc evs q = some (bif rightB true st sk k s mv dc evs then (rsT k q dc evs, 0) else (List.replicate 384 0, 12)) := by
  unfold residue_Of residue_every_residue
  rw [right_ok true st sk k s hm hd h]
  cases hr : rightB true st sk k s mv dc evs
  · rfl
  · have ho := right_okE hr
    have hit := iter_lay (body := residue_every_residue_b1 (M + 200) st sk k s mv dc evs q) (N := M + 200) (by omega) (fun i => dctB (svb (intraB k) (dc.getD i 0) (LVc k evs i) q)) (fun _ => 0) (fun i hi => by
      obtain ⟨g1, g2, g3⟩ := in5 hi
      have g4 := inS (i := i) (by omega)
      have g5 : 64 * i + 64 ≤ 384 := by omega
      simp only [residue_every_residue_b1, g1, g2, decide_true, cond_true, Int.toNat_natCast, rres_ok (N := M + 200) (by omega) st sk k s mv dc hi q (h i hi) (ho i hi), Option.isSome_some, Option.getD_some, and_self, if_true, g4, g5]) (fun xs => by simp [residue_every_residue_b1])
    rw [← rep_tab] at hit
    simp only [Option.isSome_some, Option.getD_some, if_true, Bool.not_true, cond_false, cond_true, hit, Option.bind_some]
    rfl
theorem rref_levels {M : Nat} (st : Int) (sk : Bool) (k s : Int) (mv dc : List Int) {evs : Evs} (h : fewP evs) (ho : ∀ i, i < 6 → okE (bif intraB k then 1 else 0) (evs.getD i []) = true) :
    ref29_Levels (M + 200) st sk k s mv dc evs = some (lvT k evs) := by
  have hc : ref21_Intra (M + 200) k = some (intraB k) := rfl
  have hf : (bif intraB k then (1 : Int) else 0) = 0 ∨ (bif intraB k then (1 : Int) else 0) = 1 := by cases intraB k <;> simp
  have hit := iter_lay (body := ref29_Levels_b1 (M + 200) evs (some (intraB k))) (N := M + 200) (by omega) (fun i => LVc k evs i) (fun _ => 0) (fun i hi => by
    obtain ⟨g1, g2, g3⟩ := in5 hi
    have g4 := inS (i := i) (by omega)
    have g5 : 64 * i + 64 ≤ 384 := by omega
    have hl := h i hi
    simp only [ref29_Levels_b1, g1, g2, decide_true, cond_true, Int.toNat_natCast, Option.getD_some, rlevels_ok (N := M + 200) hf (show (evs.getD i []).length < 4294967296 by omega) (by omega), ho i hi, Option.isSome_some, and_self, if_true, g4, g5, hi, rraster_eq]
    rfl) (fun xs => by simp [ref29_Levels_b1])
  rw [← rep_tab] at hit
  unfold ref29_Levels
  simp only [hc, Option.isSome_some, if_true, hit, Option.bind_some]
  rfl
theorem rref_values {M : Nat} (st : Int) (sk : Bool) (k s : Int) (mv dc : List Int) {evs : Evs} (q : Int) (h : fewP evs) (ho : ∀ i, i < 6 → okE (bif intraB k then 1 else 0) (evs.getD i []) = true) :
    ref29_Values (M + 200) st sk k s mv dc evs q = some (vlT k q dc evs) := by
  have hc : ref21_Intra (M + 200) k = some (intraB k) := rfl
  have hit := iter_lay (body := ref29_Values_b1 (M + 200) k dc q) (N := M + 200) (by omega) (fun i => svb (intraB k) (dc.getD i 0) (LVc k evs i) q) (fun j => LVc k evs (j / 64) (j % 64)) (fun i hi => by
    obtain ⟨g1, g2, g3⟩ := in5 hi
    have g4 := inS (i := i) (by omega)
    have g5 : 64 * i + 64 ≤ 384 := by omega
    have he : (tab 64 fun j => LVc k evs ((64 * i + j) / 64) ((64 * i + j) % 64)) = tab 64 (LVc k evs i) := tab_ext fun j hj => by
      rw [show (64 * i + j) / 64 = i by omega, show (64 * i + j) % 64 = j by omega]
    have hb := blkS hi (fun i => svb (intraB k) (dc.getD i 0) (LVc k evs i) q) (fun j => LVc k evs (j / 64) (j % 64))
    simp only [he] at hb
    simp only [ref29_Values_b1, g1, g2, decide_true, cond_true, Int.toNat_natCast, hc, Option.getD_some, hb, rblock_eqb (N := M + 200) (by omega), Option.isSome_some, and_self, if_true, g4, g5, hi]) (fun xs => by simp [ref29_Values_b1])
  unfold ref29_Values
  simp only [rref_levels st sk k s mv dc h ho, Option.isSome_some, Option.getD_some, if_true]
  unfold lvT
  rw [hit]
  rfl
theorem rref_of {M : Nat} (st : Int) (sk : Bool) (k s : Int) (mv dc : List Int) {evs : Evs} (q : Int) (h : fewP evs) (ho : ∀ i, i < 6 → okE (bif intraB k then 1 else 0) (evs.getD i []) = true) :
    ref29_Of (M + 200) st sk k s mv dc evs q = some (rsT k q dc evs) := by
  have hit := iter_lay (body := ref29_Of_b1 (M + 200)) (N := M + 200) (by omega) (fun i => dctB (svb (intraB k) (dc.getD i 0) (LVc k evs i) q)) (fun j => svb (intraB k) (dc.getD (j / 64) 0) (LVc k evs (j / 64)) q (j % 64)) (fun i hi => by
    obtain ⟨g1, g2, g3⟩ := in5 hi
    have g4 := inS (i := i) (by omega)
    have g5 : 64 * i + 64 ≤ 384 := by omega
    have he : (tab 64 fun j => svb (intraB k) (dc.getD ((64 * i + j) / 64) 0) (LVc k evs ((64 * i + j) / 64)) q ((64 * i + j) % 64)) = tab 64 (svb (intraB k) (dc.getD i 0) (LVc k evs i) q) := tab_ext fun j hj => by
      rw [show (64 * i + j) / 64 = i by omega, show (64 * i + j) % 64 = j by omega]
    have hb := blkS hi (fun i => dctB (svb (intraB k) (dc.getD i 0) (LVc k evs i) q)) (fun j => svb (intraB k) (dc.getD (j / 64) 0) (LVc k evs (j / 64)) q (j % 64))
    simp only [he] at hb
    simp only [ref29_Of_b1, g1, g2, decide_true, cond_true, Int.toNat_natCast, Option.getD_some, hb, rinverse_eq (N := M + 200) (by omega), Option.isSome_some, and_self, if_true, g4, g5, hi]) (fun xs => by simp [ref29_Of_b1])
  unfold ref29_Of
  simp only [rref_values st sk k s mv dc q h ho, Option.isSome_some, Option.getD_some, if_true]
  unfold vlT
  rw [hit]
  rfl
theorem lives29 (M : Nat) : law29_lives (M + 200) = some true := by kernel_rfl
instance (evs : Evs) : Decidable (fewP evs) := by unfold fewP; infer_instance
theorem few29 {N : Nat} (hN : 10 < N) (st : Int) (sk : Bool) (k s : Int) (mv dc : List Int) (evs : Evs) : law29_few N st sk k s mv dc evs = some (decide (fewP evs)) := by
  have := iter_all (body := law29_few_b1 N evs) 6 N (fun i => decide ((evs.getD i []).length ≤ 100)) (fun i hi => by
    obtain ⟨g1, g2, g3⟩ := in5 hi
    have g4 := inS (i := i) (by omega)
    simp only [law29_few_b1, g1, g2, hi, decide_true, cond_true, Int.toNat_natCast, and_self, if_true, g4]
    by_cases hl : (evs.getD i []).length ≤ 100
    · have : ¬ (100 : Int) < ((evs.getD i []).length : Int) := by omega
      simp only [this, hl, decide_false, decide_true, cond_false, cond_true]
    · have : (100 : Int) < ((evs.getD i []).length : Int) := by omega
      simp only [this, hl, decide_false, decide_true, cond_false, cond_true]) (by simp [law29_few_b1]) (by omega)
  unfold law29_few
  rw [this, Option.bind_some]
  have hall : (List.range 6).all (fun i => decide ((evs.getD i []).length ≤ 100)) = decide (fewP evs) := by
    rw [Bool.eq_iff_iff, decide_eq_true_eq]
    simp only [List.all_eq_true, List.mem_range, decide_eq_true_eq]
    rfl
  rw [hall]
  cases decide (fewP evs) <;> rfl
theorem reslev_law {M : Nat} (hM : 10000 ≤ M) (st : Int) (sk : Bool) (k s : Int) {mv dc : List Int} {evs : Evs} (q : Int) (hm : mv.length = 2) (hd : dc.length = 6) : law29_ResidueLevels (M + 200) st sk k s mv dc evs q = some true := by
  unfold law29_ResidueLevels
  rw [few29 (by omega), lives29]
  by_cases hf : fewP evs
  · rw [decide_eq_true hf, res_levels st sk k s hm hd hf, res_values st sk k s q hm hd hf]
    rw [rright_ok (by omega) true st sk k s hm hd hf]
    obtain ⟨Z, hZ⟩ : ∃ Z, Z = List.replicate 384 (0 : Int) := ⟨_, rfl⟩
    rw [← hZ]
    cases hr : rightB true st sk k s mv dc evs
    · simp only [Option.isSome_some, Option.getD_some, if_true, Bool.not_true, Bool.not_false, cond_false, cond_true, decide_true, implies_true]
    · rw [rref_levels st sk k s mv dc hf (right_okE hr), rref_values st sk k s mv dc q hf (right_okE hr)]
      simp only [Option.isSome_some, Option.getD_some, if_true, Bool.not_true, Bool.not_false, cond_false, cond_true, decide_true, implies_true, and_self]
  · rw [decide_eq_false hf]; rfl
theorem rsT_zero {k : Int} (hk : intraB k = false) (q : Int) (dc : List Int) {evs : Evs} (h : ∀ i, i < 6 → evs.getD i [] = []) : rsT k q dc evs = List.replicate 384 0 := by
  refine Eq.trans ?_ (rep_tab 384 (0 : Int)).symm
  unfold rsT
  refine tab_ext fun j hj => dctb_zero (fun i hi => ?_) (by omega)
  unfold svb LVc
  rw [hk, h _ (by omega)]
  show sv ((List.replicate 64 (0 : Int)).getD (lp i) 0) q = 0
  rw [rep_tab, tab_get _ _ (lp_facts i hi).1]
  exact sv_zero q
theorem resof_law {M : Nat} (hM : 10000 ≤ M) (st : Int) (sk : Bool) (k s : Int) {mv dc : List Int} {evs : Evs} (q : Int) (hm : mv.length = 2) (hd : dc.length = 6) : law29_ResidueOf (M + 200) st sk k s mv dc evs q = some true := by
  unfold law29_ResidueOf
  rw [few29 (by omega), lives29]
  by_cases hf : fewP evs
  · have hz : ∀ i, i < 6 → (List.replicate 6 ([] : List Ev)).getD i [] = [] := fun i hi => by rw [rep_tab, tab_get _ _ hi]
    have hfz : fewP (List.replicate 6 []) := fun i hi => by rw [hz i hi]; simp
    have hmk : maskB 63 = true := rfl
    have hmk2 : maskB 31 = true := rfl
    obtain ⟨a, b, rfl⟩ := len2 hm
    have q1 := res_of (M := M) (st % (63 + 1)) true 0 0 (mv := List.replicate 2 0) (dc := List.replicate 6 0) (evs := List.replicate 6 []) q rfl rfl hfz
    have r1 : rightB true (st % (63 + 1)) true 0 0 (List.replicate 2 0) (List.replicate 6 0) (List.replicate 6 []) = true := by
      unfold rightB
      rw [decide_eq_true (show 0 ≤ st % (63 + 1) ∧ st % (63 + 1) ≤ 64 by omega)]
      decide
    have q2 := res_of (M := M) 0 false 0 0 (mv := ((List.replicate 2 (0 : Int)).set 0 (a % (31 + 1))).set 1 (-1)) (dc := List.replicate 6 0) (evs := List.replicate 6 []) q rfl rfl hfz
    have r2 : rightB true 0 false 0 0 (((List.replicate 2 (0 : Int)).set 0 (a % (31 + 1))).set 1 (-1)) (List.replicate 6 0) (List.replicate 6 []) = true := by
      have hv : vecB 0 (((List.replicate 2 (0 : Int)).set 0 (a % (31 + 1))).set 1 (-1)) = true := by
        show (decide (-32 ≤ a % (31 + 1) ∧ a % (31 + 1) ≤ 31) && decide ((-32 : Int) ≤ -1 ∧ (-1 : Int) ≤ 31)) = true
        rw [decide_eq_true (show -32 ≤ a % (31 + 1) ∧ a % (31 + 1) ≤ 31 by omega)]
        rfl
      unfold rightB
      rw [hv]
      rfl
    rw [r1, cond_true, rsT_zero rfl q _ hz] at q1
    rw [r2, cond_true, rsT_zero rfl q _ hz] at q2
    rw [decide_eq_true hf, res_of st sk k s q hm hd hf, rright_ok (by omega) true st sk k s hm hd hf]
    have ea : [a, b].getD 0 0 = a := rfl
    rw [ea]
    simp only [Option.isSome_some, Option.getD_some, if_true, Bool.not_true, Bool.not_false, cond_false, cond_true]
    rw [q1, q2]
    obtain ⟨Z, hZ⟩ : ∃ Z, Z = List.replicate 384 (0 : Int) := ⟨_, rfl⟩
    rw [← hZ]
    cases hr : rightB true st sk k s [a, b] dc evs
    · simp only [Option.isSome_some, Option.getD_some, if_true, Bool.not_true, Bool.not_false, cond_false, cond_true, decide_true, implies_true, hmk, hmk2, and_self, ne_eq, not_true, decide_false]
    · rw [rref_of st sk k s [a, b] dc q hf (right_okE hr)]
      simp only [Option.isSome_some, Option.getD_some, if_true, Bool.not_true, Bool.not_false, cond_false, cond_true, decide_true, implies_true, hmk, hmk2, and_self, ne_eq, not_true, decide_false]
  · rw [decide_eq_false hf]; rfl
theorem law_residueOf (N : Nat) (hN : 1099511627776 ≤ N) (y0 : Sh.den (.pair (.int .i64) (.pair .bool (.pair (.int .i64) (.pair (.int .i64) (.pair (.arr 2 .i64) (.pair (.arr 6 .i64) (.arrS 6 (.pair .bool (.pair (.int .i64) (.int .i64))))))))))) (w0 : Sh.wf (.pair (.int .i64) (.pair .bool (.pair (.int .i64) (.pair (.int .i64) (.pair (.arr 2 .i64) (.pair (.arr 6 .i64) (.arrS 6 (.pair .bool (.pair (.int .i64) (.int .i64)))))))))) y0) (y1 : Sh.den (.int .i64)) (w1 : Sh.wf (.int .i64) y1) : law29_ResidueOf N (y0.1) (y0.2.1) (y0.2.2.1) (y0.2.2.2.1) (y0.2.2.2.2.1) (y0.2.2.2.2.2.1) (y0.2.2.2.2.2.2) y1 = some true := by
  obtain ⟨st, sk, k, s, mv, dc, evs⟩ := y0
  obtain ⟨_, _, _, _, ⟨hm, _⟩, ⟨hd, _⟩, _⟩ := w0
  obtain ⟨M, rfl⟩ : ∃ M, N = M + 200 := ⟨N - 200, by omega⟩
  exact resof_law (by omega) st sk k s y1 hm hd
theorem law_residueLevels (N : Nat) (hN : 1099511627776 ≤ N) (y0 : Sh.den (.pair (.int .i64) (.pair .bool (.pair (.int .i64) (.pair (.int .i64) (.pair (.arr 2 .i64) (.pair (.arr 6 .i64) (.arrS 6 (.pair .bool (.pair (.int .i64) (.int .i64))))))))))) (w0 : Sh.wf (.pair (.int .i64) (.pair .bool (.pair (.int .i64) (.pair (.int .i64) (.pair (.arr 2 .i64) (.pair (.arr 6 .i64) (.arrS 6 (.pair .bool (.pair (.int .i64) (.int .i64)))))))))) y0) (y1 : Sh.den (.int .i64)) (w1 : Sh.wf (.int .i64) y1) : law29_ResidueLevels N (y0.1) (y0.2.1) (y0.2.2.1) (y0.2.2.2.1) (y0.2.2.2.2.1) (y0.2.2.2.2.2.1) (y0.2.2.2.2.2.2) y1 = some true := by
  obtain ⟨st, sk, k, s, mv, dc, evs⟩ := y0
  obtain ⟨_, _, _, _, ⟨hm, _⟩, ⟨hd, _⟩, _⟩ := w0
  obtain ⟨M, rfl⟩ : ∃ M, N = M + 200 := ⟨N - 200, by omega⟩
  exact reslev_law (by omega) st sk k s y1 hm hd
end Go.Proofs.YtkfaebbbjahcpaaDoor
