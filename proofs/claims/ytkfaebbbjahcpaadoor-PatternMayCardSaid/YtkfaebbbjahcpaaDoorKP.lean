/- What the printed models answer: plain laws. -/
import Derived.Test.YtkfaebbbjahcpaaDoorKE
set_option linter.unusedVariables false
set_option linter.unusedSimpArgs false
namespace Go.Proofs.YtkfaebbbjahcpaaDoor
open Go.X

abbrev CellR := Int × Bool × Int × Int × List Int × List Int × Evs × Int
def Zc (e : Int) : CellR := (0, false, 0, 0, List.replicate 2 0, List.replicate 6 0, List.replicate 6 [], e)
def bL (xs : List Int) (b : Nat) (k : Nat) : Int := xs.getD (64 * b + pl k) 0
def fB (k : Int) : Int := bif intraB k then 1 else 0
theorem fB_or (k : Int) : fB k = 0 ∨ fB k = 1 := by unfold fB; cases intraB k <;> simp
def bok (k : Int) (xs : List Int) (b : Nat) : Bool := decide ((evts (fB k) (bL xs b)).2 = 0) && !(intraB k && decide (xs.getD (64 * b) 0 ≠ 0))
def pevs (k : Int) (xs : List Int) : Evs := tab 6 fun b => (evts (fB k) (bL xs b)).1
def kindR (k step : Int) : Int := (bif intraB k then 3 else 0) + if step ≠ 0 then 1 else 0
def skipB (k step : Int) (xs mv : List Int) : Bool := !intraB k && (decide (xs = List.replicate 384 0) && (decide (mv = [0, 0]) && decide (step = 0)))
def okR (k : Int) (mv dc xs : List Int) (step : Int) : CellR :=
  bif !stB step && decide (step ≠ 0) then Zc 9 else
  bif (List.range 6).all (bok k xs) then bif skipB k step xs mv then (0, true, 0, 0, List.replicate 2 0, List.replicate 6 0, List.replicate 6 [], 0) else (0, false, kindR k step, step, mv, dc, pevs k xs, 0) else Zc 7
theorem fB1 (k : Int) (inst : Decidable (fB k = 1)) : @decide (fB k = 1) inst = intraB k := by
  rw [Bool.eq_iff_iff, decide_eq_true_eq]; unfold fB; cases intraB k <;> simp
theorem fB0 (k : Int) (inst : Decidable (fB k = 0)) : @decide (fB k = 0) inst = !intraB k := by
  rw [Bool.eq_iff_iff, decide_eq_true_eq]; unfold fB; cases intraB k <;> simp
theorem fBd (k : Int) : (bif intraB k then (1 : Int) else 0) = fB k := by cases h : intraB k <;> simp [fB, h]
theorem head_blk {xs : List Int} (hx : xs.length = 384) {b : Nat} (hb : b < 6) : ((xs.drop (64 * b)).take 64).getD 0 0 = xs.getD (64 * b) 0 := by
  rw [blk_tab hx hb, tab_get _ _ (by omega)]; rfl
theorem blk_L {xs : List Int} (hx : xs.length = 384) {b : Nat} (hb : b < 6) : (tab 64 fun k => ((xs.drop (64 * b)).take 64).getD (pl k) 0) = tab 64 (bL xs b) := by
  refine tab_ext fun k hk => ?_
  rw [blk_tab hx hb, tab_get _ _ (pl_lt hk)]; rfl
theorem evts_blk (f : Int) (xs : List Int) (b : Nat) : evts f (fun k => (tab 64 (bL xs b)).getD k 0) = evts f (bL xs b) := evts_ext fun k hk => tab_get _ _ hk
theorem pevents_ok {N : Nat} (hN : 100 < N) (st : Int) (sk : Bool) (k s : Int) (mv dc : List Int) (evs : Evs) {xs : List Int} (hx : xs.length = 384) :
    ((List.range 6).all (bok k xs) = true → pattern_events N st sk k s mv dc evs xs = some (pevs k xs, true)) ∧ ((List.range 6).all (bok k xs) = false → ∃ o, pattern_events N st sk k s mv dc evs xs = some (o, false)) := by
  have hc : pattern_intra N st sk k s mv dc evs = some (intraB k) := rfl
  have step : ∀ i : Nat, i < 6 → pattern_events_b1 N xs (some (intraB k)) ((i : Int), tab 6 fun b => if b < i then (evts (fB k) (bL xs b)).1 else []) = some (bif bok k xs i then .inl ((i : Int) + 1, (tab 6 fun b => if b < i then (evts (fB k) (bL xs b)).1 else []).set i (evts (fB k) (bL xs i)).1) else .inr (.inl (tab 6 fun b => if b < i then (evts (fB k) (bL xs b)).1 else []))) := fun i hi => by
    obtain ⟨g1, g2, g3⟩ := in5 hi
    have g4 := inS (i := i) (by omega)
    have g5 : 64 * i + 64 ≤ 384 := by omega
    have t1 : ∀ (a b : Bool), (!a) = true → (b = true → ((!a) && b) = true) := by intro a b; cases a <;> cases b <;> simp
    simp only [pattern_events_b1, g1, g2, decide_true, cond_true, Int.toNat_natCast, Option.getD_some, fBd, told_eq (N := N) (by omega), blk_L hx hi, events_eq (N := N) (by omega) (fB_or k), evts_blk, head_blk hx hi, Option.isSome_some, and_self, if_true, g5, fB1, hi, g4]
    rw [if_pos (t1 _ _)]
    unfold bok
    rcases evts_err (fB k) (bL xs i) with h | h
    · rw [h]
      cases intraB k <;> by_cases h0 : xs.getD (64 * i) 0 = 0 <;> simp [h0, -List.getD_eq_getElem?_getD]
    · rw [h]
      simp
  obtain ⟨hy, hn⟩ := iter_try (body := pattern_events_b1 N xs (some (intraB k))) (fun i => ((i : Int), tab 6 fun b => if b < i then (evts (fB k) (bL xs b)).1 else [])) 6 N (bok k xs) (fun i => .inl (tab 6 fun b => if b < i then (evts (fB k) (bL xs b)).1 else [])) (.inr (pevs k xs)) (s0 := (0, List.replicate 6 [])) (by rw [rep_tab]; simp)
    (fun i hi hP => by
      show pattern_events_b1 N xs (some (intraB k)) ((i : Int), _) = _
      rw [step i hi, hP]
      refine congrArg (fun z => some (Sum.inl z)) (Prod.ext (Int.natCast_succ i).symm ?_)
      show (tab 6 _).set i _ = tab 6 (fun b => if b < i + 1 then (evts (fB k) (bL xs b)).1 else [])
      rw [tab_set]
      refine tab_ext fun j hj => ?_
      by_cases h1 : j = i
      · rw [if_pos h1, if_pos (by omega), h1]
      · by_cases h2 : j < i
        · rw [if_neg h1, if_pos h2, if_pos (by omega)]
        · rw [if_neg h1, if_neg h2, if_neg (by omega)])
    (fun i hi hP => by
      show pattern_events_b1 N xs (some (intraB k)) ((i : Int), _) = _
      rw [step i hi, hP]; rfl)
    (by
      simp only [pattern_events_b1]
      refine congrArg (fun z => some (Sum.inr (Sum.inr z))) (tab_ext fun j hj => ?_)
      rw [if_pos hj]) (by omega)
  refine ⟨fun h => ?_, fun h => ?_⟩
  · unfold pattern_events
    simp only [hc, Option.isSome_some, if_true, hy h, Option.bind_some, Sum.elim_inr]
  · obtain ⟨j, _, _, hj⟩ := hn h
    refine ⟨tab 6 fun b => if b < j then (evts (fB k) (bL xs b)).1 else [], ?_⟩
    unfold pattern_events
    simp only [hc, Option.isSome_some, if_true, hj, Option.bind_some, Sum.elim_inl]
theorem pkind_ok (N : Nat) (st : Int) (sk : Bool) (k s : Int) (mv dc : List Int) (evs : Evs) (step : Int) : pattern_kind N st sk k s mv dc evs step = some (kindR k step) := by
  unfold pattern_kind kindR
  have hc : pattern_intra N st sk k s mv dc evs = some (intraB k) := rfl
  simp only [hc, Option.isSome_some, if_true, Option.getD_some]
  by_cases h : step = 0 <;> cases intraB k <;> simp [h]
theorem pcell_ok {M : Nat} (st : Int) (sk : Bool) (k s : Int) {mv dc : List Int} {evs : Evs} {xs : List Int} (step : Int) (hm : mv.length = 2) (hd : dc.length = 6) (h : fewP evs) (hx : xs.length = 384) :
    pattern_Cell (M + 200) st sk k s mv dc evs xs step = some (bif rightB true st sk k s mv dc evs then okR k mv dc xs step else Zc 12) := by
  unfold pattern_Cell
  rw [right_ok true st sk k s hm hd h]
  cases rightB true st sk k s mv dc evs
  · rfl
  · obtain ⟨r, hr⟩ := steps_eq (M + 200) step
    have hc : pattern_intra (M + 200) st sk k s mv dc evs = some (intraB k) := rfl
    have he : pattern_Empty (M + 200) xs = some (decide (xs = List.replicate 384 0)) := rfl
    obtain ⟨hy, hn⟩ := pevents_ok (N := M + 200) (by omega) st sk k s mv dc evs hx
    unfold okR
    simp only [Option.isSome_some, Option.getD_some, if_true, Bool.not_true, cond_false, cond_true, hr, hc, he, pkind_ok]
    have k1 : (bif (!stB step) then decide (step ≠ 0) else false) = (!stB step && decide (step ≠ 0)) := by cases stB step <;> simp
    rw [k1]
    cases (!stB step && decide (step ≠ 0))
    · simp only [cond_false]
      cases hall : (List.range 6).all (bok k xs) with
      | false => obtain ⟨o, ho⟩ := hn hall; rw [ho]; rfl
      | true =>
        rw [hy hall]
        simp only [Option.isSome_some, Option.getD_some, if_true, Bool.not_true, cond_false, cond_true, implies_true, and_self]
        have k2 : (bif (bif (bif (!intraB k) then decide (xs = List.replicate 384 0) else false) then decide (mv = List.replicate 2 0) else false) then decide (step = 0) else false) = skipB k step xs mv := by
          unfold skipB
          rw [show (List.replicate 2 (0 : Int)) = [0, 0] from rfl]
          cases intraB k <;> cases decide (xs = List.replicate 384 0) <;> cases decide (mv = [0, 0]) <;> rfl
        rw [k2]
        cases skipB k step xs mv <;> rfl
    · rfl
theorem rempty_ok {N : Nat} (hN : 100 < N) {xs : List Int} (hx : xs.length = 384) : ref36_Empty N xs = some (decide (xs = List.replicate 384 0)) := by
  have inner : ∀ b : Nat, b < 6 → iter (ref36_Empty_b2 N xs (b : Int)) N 0 = some (bif (List.range 64).all (fun i => decide (xs.getD (64 * b + i) 0 = 0)) then .inr (64, 64, false) else .inl ()) := fun b hb => by
    obtain ⟨g1, g2, g3⟩ := in5 hb
    obtain ⟨hy, hn⟩ := iter_try (body := ref36_Empty_b2 N xs (b : Int)) (fun i => (i : Int)) 64 N (fun i => decide (xs.getD (64 * b + i) 0 = 0)) (fun _ => .inl ()) (.inr (64, 64, false)) (s0 := 0) rfl
      (fun i hi hP => by
        have h1 : (i : Int) < 64 := by omega
        have h2 := inS (i := i) (by omega)
        have h3 : b * 64 + i < 384 := by omega
        have h4 : xs.getD (b * 64 + i) 0 = 0 := by rw [Nat.mul_comm b 64]; simpa using hP
        simp only [ref36_Empty_b2, h1, h2, h3, h4, g1, g2, decide_true, cond_true, Int.natCast_nonneg, Int.toNat_natCast, and_self, if_true, ne_eq, not_true, decide_false, cond_false]
        rw [Int.natCast_succ])
      (fun i hi hP => by
        have h1 : (i : Int) < 64 := by omega
        have h3 : b * 64 + i < 384 := by omega
        have h4 : ¬ xs.getD (b * 64 + i) 0 = 0 := by rw [Nat.mul_comm b 64]; simpa using hP
        simp only [ref36_Empty_b2, h1, h3, h4, g1, g2, decide_true, cond_true, Int.natCast_nonneg, Int.toNat_natCast, and_self, if_true, ne_eq, not_false_eq_true])
      (by simp [ref36_Empty_b2]) (by omega)
    cases hall : (List.range 64).all (fun i => decide (xs.getD (64 * b + i) 0 = 0)) with
    | true => exact hy hall
    | false => obtain ⟨_, _, _, h⟩ := hn hall; exact h
  have outer := iter_all (body := ref36_Empty_b1 N xs) 6 N (fun b => (List.range 64).all (fun i => decide (xs.getD (64 * b + i) 0 = 0))) (fun b hb => by
    obtain ⟨g1, g2, g3⟩ := in5 hb
    have g4 := inS (i := b) (by omega)
    simp only [ref36_Empty_b1, g2, decide_true, cond_true, inner b hb]
    cases (List.range 64).all (fun i => decide (xs.getD (64 * b + i) 0 = 0))
    · rfl
    · simp only [cond_true, Option.bind_some, Sum.elim_inr, g4, if_true]) (by simp [ref36_Empty_b1]) (by omega)
  unfold ref36_Empty
  rw [outer, Option.bind_some]
  have hall : (List.range 6).all (fun b => (List.range 64).all (fun i => decide (xs.getD (64 * b + i) 0 = 0))) = decide (xs = List.replicate 384 0) := by
    rw [Bool.eq_iff_iff, decide_eq_true_eq]
    simp only [List.all_eq_true, List.mem_range, decide_eq_true_eq]
    constructor
    · intro h
      rw [tab_of 0 hx, rep_tab]
      refine tab_ext fun k hk => ?_
      have := h (k / 64) (by omega) (k % 64) (by omega)
      rwa [Nat.div_add_mod] at this
    · intro h b hb i hi
      rw [h, rep_tab, tab_get _ _ (by omega)]
  rw [hall]
  cases decide (xs = List.replicate 384 0) <;> rfl
theorem rcell_ok {M : Nat} (st : Int) (sk : Bool) (k s : Int) {mv dc : List Int} {evs : Evs} {xs : List Int} (step : Int) (hm : mv.length = 2) (hx : xs.length = 384) :
    ref36_Cell (M + 200) st sk k s mv dc evs xs step = some (okR k mv dc xs step) := by
  have hc : ref21_Intra (M + 200) k = some (intraB k) := rfl
  have stp : ∀ i : Nat, i < 6 → ref36_Cell_b1 (M + 200) xs (some (intraB k)) ((i : Int), tab 6 fun b => if b < i then (evts (fB k) (bL xs b)).1 else []) = some (bif bok k xs i then .inl ((i : Int) + 1, (tab 6 fun b => if b < i then (evts (fB k) (bL xs b)).1 else []).set i (evts (fB k) (bL xs i)).1) else .inr (.inl ())) := fun i hi => by
    obtain ⟨g1, g2, g3⟩ := in5 hi
    have g4 := inS (i := i) (by omega)
    have g5 : 64 * i + 64 ≤ 384 := by omega
    have g6 : 64 * i < 384 := by omega
    simp only [ref36_Cell_b1, g1, g2, decide_true, cond_true, Int.toNat_natCast, Option.getD_some, fBd, rtold_eq, blk_L hx hi, revents_eq (N := M + 200) (by omega) (fB_or k), evts_blk, Option.isSome_some, and_self, if_true, g5, g6, fB1, hi, g4, implies_true]
    unfold bok
    rcases evts_err (fB k) (bL xs i) with h | h
    · rw [h]
      cases intraB k <;> by_cases h0 : xs.getD (64 * i) 0 = 0 <;> simp [h0, -List.getD_eq_getElem?_getD]
    · rw [h]
      cases intraB k <;> by_cases h0 : xs.getD (64 * i) 0 = 0 <;> simp [h0, -List.getD_eq_getElem?_getD]
  obtain ⟨hy, hn⟩ := iter_try (body := ref36_Cell_b1 (M + 200) xs (some (intraB k))) (fun i => ((i : Int), tab 6 fun b => if b < i then (evts (fB k) (bL xs b)).1 else [])) 6 (M + 200) (bok k xs) (fun i => .inl ()) (.inr (pevs k xs)) (s0 := (0, List.replicate 6 [])) (by rw [rep_tab]; simp)
    (fun i hi hP => by
      show ref36_Cell_b1 (M + 200) xs (some (intraB k)) ((i : Int), _) = _
      rw [stp i hi, hP]
      refine congrArg (fun z => some (Sum.inl z)) (Prod.ext (Int.natCast_succ i).symm ?_)
      show (tab 6 _).set i _ = tab 6 (fun b => if b < i + 1 then (evts (fB k) (bL xs b)).1 else [])
      rw [tab_set]
      refine tab_ext fun j hj => ?_
      by_cases h1 : j = i
      · rw [if_pos h1, if_pos (by omega), h1]
      · by_cases h2 : j < i
        · rw [if_neg h1, if_pos h2, if_pos (by omega)]
        · rw [if_neg h1, if_neg h2, if_neg (by omega)])
    (fun i hi hP => by
      show ref36_Cell_b1 (M + 200) xs (some (intraB k)) ((i : Int), _) = _
      rw [stp i hi, hP]; rfl)
    (by
      simp only [ref36_Cell_b1]
      refine congrArg (fun z => some (Sum.inr (Sum.inr z))) (tab_ext fun j hj => ?_)
      rw [if_pos hj]) (by omega)
  unfold ref36_Cell okR
  have k1 : (bif decide (step < -2) then true else decide ((2 : Int) < step)) = (!stB step && decide (step ≠ 0)) := by
    unfold stB
    by_cases h1 : step < -2
    · have : step ≠ -1 := by omega
      have : step ≠ -2 := by omega
      have : step ≠ 1 := by omega
      have : step ≠ 2 := by omega
      have : step ≠ 0 := by omega
      simp [*]
    · by_cases h2 : 2 < step
      · have : step ≠ -1 := by omega
        have : step ≠ -2 := by omega
        have : step ≠ 1 := by omega
        have : step ≠ 2 := by omega
        have : step ≠ 0 := by omega
        simp [*]
      · have hs : step = -2 ∨ step = -1 ∨ step = 0 ∨ step = 1 ∨ step = 2 := by omega
        rcases hs with rfl | rfl | rfl | rfl | rfl <;> rfl
  rw [k1]
  cases (!stB step && decide (step ≠ 0))
  · have i1 : decide (step ≠ 0) = true → inK .i64 ((bif intraB k then (3 : Int) else 0) + 1) := fun _ => by cases intraB k <;> exact in64 (by decide) (by decide)
    simp only [cond_false, hc, Option.isSome_some, if_true, Option.getD_some, fBd]
    rw [if_pos i1]
    cases hall : (List.range 6).all (bok k xs) with
    | false =>
      obtain ⟨j, _, _, hj⟩ := hn hall
      rw [hj]; rfl
    | true =>
      rw [hy hall]
      simp only [Option.bind_some, Sum.elim_inr, rempty_ok (N := M + 200) (by omega) hx, Option.isSome_some, Option.getD_some, implies_true, if_true, cond_true, fB0]
      obtain ⟨m0, m1, rfl⟩ := len2 hm
      have k2 : (bif (bif (bif (bif (!intraB k) then decide (step = 0) else false) then decide (xs = List.replicate 384 0) else false) then decide (([m0, m1].getD 0 0) = 0) else false) then decide (([m0, m1].getD 1 0) = 0) else false) = skipB k step xs [m0, m1] := by
        unfold skipB
        show (bif (bif (bif (bif (!intraB k) then decide (step = 0) else false) then decide (xs = List.replicate 384 0) else false) then decide (m0 = 0) else false) then decide (m1 = 0) else false) = _
        by_cases h0 : m0 = 0 <;> by_cases h1 : m1 = 0 <;> by_cases h2 : step = 0 <;> cases intraB k <;> cases decide (xs = List.replicate 384 0) <;> simp [h0, h1, h2]
      rw [k2]
      have k3 : (bif decide (step ≠ 0) then (bif intraB k then (3 : Int) else 0) + 1 else (bif intraB k then (3 : Int) else 0)) = kindR k step := by
        unfold kindR
        by_cases h2 : step = 0 <;> simp [h2]
      rw [k3]
      cases skipB k step xs [m0, m1] <;> rfl
  · rfl
theorem lives36 (M : Nat) : law36_lives (M + 200) = some true := by kernel_rfl
instance (evs : Evs) : Decidable (fewP evs) := by unfold fewP; infer_instance
theorem few_ok {N : Nat} (hN : 10 < N) (st : Int) (sk : Bool) (k s : Int) (mv dc : List Int) (evs : Evs) : law36_few N st sk k s mv dc evs = some (decide (fewP evs)) := by
  have := iter_all (body := law36_few_b1 N evs) 6 N (fun i => decide ((evs.getD i []).length ≤ 100)) (fun i hi => by
    obtain ⟨g1, g2, g3⟩ := in5 hi
    have g4 := inS (i := i) (by omega)
    simp only [law36_few_b1, g1, g2, hi, decide_true, cond_true, Int.toNat_natCast, and_self, if_true, g4]
    by_cases hl : (evs.getD i []).length ≤ 100
    · have : ¬ (100 : Int) < ((evs.getD i []).length : Int) := by omega
      simp only [this, hl, decide_false, decide_true, cond_false, cond_true]
    · have : (100 : Int) < ((evs.getD i []).length : Int) := by omega
      simp only [this, hl, decide_false, decide_true, cond_false, cond_true]) (by simp [law36_few_b1]) (by omega)
  unfold law36_few
  rw [this, Option.bind_some]
  have hall : (List.range 6).all (fun i => decide ((evs.getD i []).length ≤ 100)) = decide (fewP evs) := by
    rw [Bool.eq_iff_iff, decide_eq_true_eq]
    simp only [List.all_eq_true, List.mem_range, decide_eq_true_eq]
    rfl
  rw [hall]
  cases decide (fewP evs) <;> rfl
theorem okR_len (k : Int) (mv dc xs : List Int) (step : Int) : ∀ i, i < 6 → ((okR k mv dc xs step).2.2.2.2.2.2.1.getD i []).length ≤ 64 := by
  have hz : ∀ i, i < 6 → ((List.replicate 6 ([] : List Ev)).getD i []).length ≤ 64 := by
    intro i hi
    rw [rep_tab, tab_get _ _ hi]; simp
  intro i hi
  unfold okR
  cases (!stB step && decide (step ≠ 0))
  · cases (List.range 6).all (bok k xs)
    · exact hz i hi
    · cases skipB k step xs mv
      · simp only [cond_false, cond_true]
        unfold pevs
        rw [tab_get _ _ hi]
        exact evts_len _ _
      · exact hz i hi
  · exact hz i hi
theorem cells_law {M : Nat} (hM : 10000 ≤ M) (st : Int) (sk : Bool) (k s : Int) {mv dc : List Int} {evs : Evs} {xs : List Int} (step : Int) (hm : mv.length = 2) (hd : dc.length = 6) (hx : xs.length = 384) : law36_PatternCells (M + 200) st sk k s mv dc evs xs step = some true := by
  unfold law36_PatternCells
  rw [few_ok (by omega), lives36]
  by_cases hf : fewP evs
  · have he : pattern_Empty (M + 200) xs = some (decide (xs = List.replicate 384 0)) := rfl
    rw [decide_eq_true hf, pcell_ok st sk k s step hm hd hf hx, rright_ok (by omega) true st sk k s hm hd hf, rempty_ok (by omega) hx, he]
    cases rightB true st sk k s mv dc evs
    · have hz : ∀ i, i < 6 → ((List.replicate 6 ([] : List Ev)).getD i []).length ≤ 1000 := by
        intro i hi
        rw [rep_tab, tab_get _ _ hi]; simp
      have hs := csame_ok (N := M + 200) (by omega) 0 false 0 0 (List.replicate 2 0) (List.replicate 6 0) hz
      simp only [Option.isSome_some, Option.getD_some, if_true, Bool.not_true, Bool.not_false, cond_false, cond_true, and_self, beq_self_eq_true, Zc, hs, decide_true, implies_true]
    · rw [rcell_ok st sk k s step hm hx]
      have hs := csame_ok (N := M + 200) (by omega) (okR k mv dc xs step).1 (okR k mv dc xs step).2.1 (okR k mv dc xs step).2.2.1 (okR k mv dc xs step).2.2.2.1 (okR k mv dc xs step).2.2.2.2.1 (okR k mv dc xs step).2.2.2.2.2.1 (fun i hi => Nat.le_trans (okR_len k mv dc xs step i hi) (by omega))
      simp only [Option.isSome_some, Option.getD_some, if_true, Bool.not_true, Bool.not_false, cond_false, cond_true, and_self, beq_self_eq_true, hs, decide_true, implies_true]
  · rw [decide_eq_false hf]; rfl
end Go.Proofs.YtkfaebbbjahcpaaDoor
