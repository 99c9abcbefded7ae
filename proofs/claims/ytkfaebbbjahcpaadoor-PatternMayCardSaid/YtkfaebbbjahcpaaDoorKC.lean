/- What the printed models answer: plain laws. -/
import Derived.Test.YtkfaebbbjahcpaaDoorKB
set_option linter.unusedVariables false
set_option linter.unusedSimpArgs false
namespace Go.Proofs.YtkfaebbbjahcpaaDoor
open Go.X

abbrev Evs := List (List Ev)
def intraB (k : Int) : Bool := bif decide (k = 3) then true else decide (k = 4)
def may6 (k : Int) (dc : List Int) (evs : Evs) : Bool := (List.range 6).all fun i => mayB (intraB k) (dc.getD i 0) (evs.getD i [])
def fewP (evs : Evs) : Prop := ∀ i, i < 6 → (evs.getD i []).length ≤ 100
def bareP (k s : Int) (mv dc : List Int) (evs : Evs) : Prop := k = 0 ∧ s = 0 ∧ mv = [0, 0] ∧ dc = [0, 0, 0, 0, 0, 0] ∧ ∀ i, i < 6 → evs.getD i [] = []
instance (k s : Int) (mv dc : List Int) (evs : Evs) : Decidable (bareP k s mv dc evs) := by unfold bareP; infer_instance
def stB (s : Int) : Bool := decide (s = -1) || (decide (s = -2) || (decide (s = 1) || decide (s = 2)))
def steppedB (k : Int) : Bool := bif decide (k = 1) then true else decide (k = 4)
def vecB (k : Int) (mv : List Int) : Bool := bif intraB k then decide (mv = [0, 0]) else decide (-32 ≤ mv.getD 0 0 ∧ mv.getD 0 0 ≤ 31) && decide (-32 ≤ mv.getD 1 0 ∧ mv.getD 1 0 ≤ 31)
def stepB (k s : Int) : Bool := bif steppedB k then stB s else decide (s = 0)
def kindB (inter : Bool) (k : Int) : Bool := intraB k || (inter && (decide (k = 0) || decide (k = 1)))
def rightB (inter : Bool) (st : Int) (sk : Bool) (k s : Int) (mv dc : List Int) (evs : Evs) : Bool :=
  decide (0 ≤ st ∧ st ≤ 64) && bif sk then inter && decide (bareP k s mv dc evs) else kindB inter k && (stepB k s && (vecB k mv && may6 k dc evs))
theorem len2 {xs : List Int} (h : xs.length = 2) : ∃ a b, xs = [a, b] := by
  match xs, h with
  | [a, b], _ => exact ⟨a, b, rfl⟩
theorem len6 {xs : List Int} (h : xs.length = 6) : ∃ a b c d e f, xs = [a, b, c, d, e, f] := by
  match xs, h with
  | [a, b, c, d, e, f], _ => exact ⟨a, b, c, d, e, f, rfl⟩
theorem in5 {i : Nat} (h : i < 6) : (0 : Int) ≤ (i : Int) ∧ (i : Int) < 6 ∧ ((i : Int)).toNat < 6 := ⟨by omega, by omega, by omega⟩
theorem steps_eq (N : Nat) (s : Int) : ∃ r, steps_Row N s = some (r, stB s) := by
  unfold steps_Row stB
  by_cases h1 : s = -1
  · exact ⟨⟨#[48, 48]⟩, by subst h1; rfl⟩
  · by_cases h2 : s = -2
    · exact ⟨⟨#[48, 49]⟩, by subst h2; rfl⟩
    · by_cases h3 : s = 1
      · exact ⟨⟨#[49, 48]⟩, by subst h3; rfl⟩
      · by_cases h4 : s = 2
        · exact ⟨⟨#[49, 49]⟩, by subst h4; rfl⟩
        · exact ⟨⟨#[]⟩, by simp [h1, h2, h3, h4]⟩
theorem wrap_eq (N : Nat) (a : Int) : ∃ w, whole_Wrap N a = some w ∧ decide (w = a) = decide (-32 ≤ a ∧ a ≤ 31) := by
  unfold whole_Wrap
  have h64 := Int.tmod_lt_of_pos a (show (0 : Int) < 64 by decide)
  have hl64 := Int.lt_tmod_of_pos a (show (0 : Int) < 64 by decide)
  have hd : (64 : Int) ∣ a - a.tmod 64 := ⟨a.tdiv 64, by have := Int.mul_tdiv_add_tmod a 64; omega⟩
  obtain ⟨k, hk⟩ := hd
  generalize a.tmod 64 = m at *
  by_cases h1 : m < -32
  · have i1 : inK .i64 (m + 64) := in64 (by omega) (by omega)
    refine ⟨m + 64, by simp [h1, i1], decide_eq_decide.2 ?_⟩
    omega
  · by_cases h2 : 32 ≤ m
    · have i1 : inK .i64 (m - 64) := in64 (by omega) (by omega)
      refine ⟨m - 64, by simp [h1, h2, i1], decide_eq_decide.2 ?_⟩
      omega
    · refine ⟨m, by simp [h1, h2], decide_eq_decide.2 ?_⟩
      omega
theorem vector_eq (N : Nat) (st : Int) (sk : Bool) (k s : Int) {mv : List Int} (dc : List Int) (evs : Evs) (hm : mv.length = 2) : cellout_vector N st sk k s mv dc evs = some (vecB k mv) := by
  unfold cellout_vector vecB
  simp only [show cellout_intra N k = some (intraB k) from rfl, Option.isSome_some, if_true, Option.getD_some]
  cases intraB k
  · obtain ⟨w0, h0, e0⟩ := wrap_eq N (mv.getD 0 0)
    obtain ⟨w1, h1, e1⟩ := wrap_eq N (mv.getD 1 0)
    simp only [h0, h1, Option.getD_some, Option.isSome_some, e0, e1, cond_false, true_and, implies_true, if_true]
    cases decide (-32 ≤ mv.getD 0 0 ∧ mv.getD 0 0 ≤ 31) <;> rfl
  · rfl
theorem bare_eq {N : Nat} (hN : 6 < N) (st : Int) (sk : Bool) (k s : Int) {mv dc : List Int} (evs : Evs) (hm : mv.length = 2) (hd : dc.length = 6) : cellout_bare N st sk k s mv dc evs = some (decide (bareP k s mv dc evs)) := by
  unfold cellout_bare
  have key : ∀ x : Bool, iter (cellout_bare_b1 N evs) N (x, 0) = some (x && (List.range 6).all fun i => decide (evs.getD i [] = [])) := fun x => by
    refine iter_to (fun i => (x && (List.range i).all (fun i => decide (evs.getD i [] = [])), (i : Int))) 6 ?_ ?_ ?_ hN
    · simp
    · intro i hi
      obtain ⟨g1, g2, g3⟩ := in5 hi
      have g4 := inS (i := i) (by omega)
      simp only [cellout_bare_b1, g1, g2, hi, and_self, if_true, g4, Int.toNat_natCast, decide_true, cond_true]
      refine congrArg (fun z => some (Sum.inl z)) (Prod.ext ?_ ?_)
      rotate_left
      · show (i : Int) + 1 = ((i + 1 : Nat) : Int)
        omega
      rw [List.range_succ, List.all_append]
      have : decide (((evs.getD i []).length : Int) = 0) = decide (evs.getD i [] = []) := decide_eq_decide.2 (by rw [← List.length_eq_zero_iff]; omega)
      show (bif (x && _) then _ else false) = _
      rw [this]
      cases x <;> simp
    · simp [cellout_bare_b1]
  obtain ⟨m0, m1, rfl⟩ := len2 hm
  obtain ⟨d0, d1, d2, d3, d4, d5, rfl⟩ := len6 hd
  rw [show (List.replicate 2 (0 : Int)) = [0, 0] from rfl, show (List.replicate 6 (0 : Int)) = [0, 0, 0, 0, 0, 0] from rfl]
  simp only [key, Option.bind_some]
  refine congrArg some ?_
  rw [Bool.eq_iff_iff]
  unfold bareP
  by_cases h1 : k = 0 <;> by_cases h2 : s = 0 <;> simp [h1, h2, -List.getD_eq_getElem?_getD, and_assoc]
theorem zero_eq {N : Nat} (hN : 6 < N) (st : Int) (sk : Bool) (k s : Int) {mv dc : List Int} (evs : Evs) (hm : mv.length = 2) (hd : dc.length = 6) : ref22_zero N st sk k s mv dc evs = some (decide (bareP k s mv dc evs)) := by
  unfold ref22_zero
  have key := iter_all (body := ref22_zero_b1 N dc evs) 6 N (fun i => decide (evs.getD i [] = []) && decide (dc.getD i 0 = 0)) (fun i hi => by
    obtain ⟨g1, g2, g3⟩ := in5 hi
    have g4 := inS (i := i) (by omega)
    have : decide ((0 : Int) < ((evs.getD i []).length : Int)) = !decide (evs.getD i [] = []) := by
      rw [← decide_not]
      exact decide_eq_decide.2 (by rw [← List.length_eq_zero_iff]; omega)
    simp only [ref22_zero_b1, decide_eq_true g2, cond_true, Int.toNat_natCast, this, g1, g2, hi, and_self, implies_true, if_true, g4]
    by_cases h1 : evs.getD i [] = [] <;> by_cases h2 : dc.getD i 0 = 0 <;> simp [h1, h2, -List.getD_eq_getElem?_getD]) (by simp [ref22_zero_b1]) hN
  obtain ⟨m0, m1, rfl⟩ := len2 hm
  obtain ⟨d0, d1, d2, d3, d4, d5, rfl⟩ := len6 hd
  rw [key, Option.bind_some]
  have hall : (List.range 6).all (fun i => decide (evs.getD i [] = []) && decide ([d0, d1, d2, d3, d4, d5].getD i 0 = 0)) = true ↔ ([d0, d1, d2, d3, d4, d5] = [0, 0, 0, 0, 0, 0] ∧ ∀ i, i < 6 → evs.getD i [] = []) := by
    simp only [List.all_eq_true, List.mem_range, Bool.and_eq_true, decide_eq_true_eq]
    constructor
    · intro h
      refine ⟨?_, fun i hi => (h i hi).1⟩
      have h0 := (h 0 (by omega)).2
      have h1 := (h 1 (by omega)).2
      have h2 := (h 2 (by omega)).2
      have h3 := (h 3 (by omega)).2
      have h4 := (h 4 (by omega)).2
      have h5 := (h 5 (by omega)).2
      simp only [List.getD_cons_zero, List.getD_cons_succ] at h0 h1 h2 h3 h4 h5
      rw [h0, h1, h2, h3, h4, h5]
    · intro ⟨h1, h2⟩ i hi
      refine ⟨h2 i hi, ?_⟩
      rw [h1]
      revert i
      decide
  cases hq : (List.range 6).all (fun i => decide (evs.getD i [] = []) && decide ([d0, d1, d2, d3, d4, d5].getD i 0 = 0)) with
  | true =>
    obtain ⟨q1, q2⟩ := hall.1 hq
    simp only [cond_true, Sum.elim_inr]
    refine congrArg some ?_
    rw [Bool.eq_iff_iff, decide_eq_true_eq]
    unfold bareP
    rw [q1]
    by_cases h1 : k = 0 <;> by_cases h2 : s = 0 <;> simp [h1, h2, -List.getD_eq_getElem?_getD, List.getD_cons_zero, List.getD_cons_succ]
    exact fun h h' => q2
  | false =>
    refine congrArg some ?_
    symm
    exact decide_eq_false fun h => (by rw [hall.2 ⟨h.2.2.2.1, h.2.2.2.2⟩] at hq; cases hq)
theorem right_loop {M : Nat} {k : Int} {dc : List Int} {evs : Evs} (h : fewP evs) : iter (cellout_Right_b1 (M + 200) k dc evs) (M + 200) 0 = some (bif may6 k dc evs then .inr () else .inl ()) :=
  iter_all 6 (M + 200) (fun i => mayB (intraB k) (dc.getD i 0) (evs.getD i [])) (fun i hi => by
    obtain ⟨g1, g2, g3⟩ := in5 hi
    have g4 := inS (i := i) (by omega)
    have hn : outbits_New (M + 200) = some [] := rfl
    have hc : cellout_intra (M + 200) k = some (intraB k) := rfl
    have hp := bput_ok (M := M) (b := intraB k) (dc := dc.getD i 0) (bits := []) (h i hi) (by simp)
    simp only [cellout_Right_b1, decide_eq_true g2, cond_true, Int.toNat_natCast, hn, hc, Option.getD_some, Option.isSome_some, hp, g1, g2, hi, and_self, if_true, g4]
    cases mayB (intraB k) (dc.getD i 0) (evs.getD i []) <;> rfl) (by simp [cellout_Right_b1]) (by omega)
theorem right_ok {M : Nat} (inter : Bool) (st : Int) (sk : Bool) (k s : Int) {mv dc : List Int} {evs : Evs} (hm : mv.length = 2) (hd : dc.length = 6) (h : fewP evs) : cellout_Right (M + 200) inter st sk k s mv dc evs = some (rightB inter st sk k s mv dc evs) := by
  unfold cellout_Right rightB
  by_cases h1 : 0 ≤ st
  · by_cases h2 : st ≤ 64
    · have e1 : ¬ st < 0 := by omega
      have e2 : ¬ (64 : Int) < st := by omega
      rw [decide_eq_false e1, cond_false, decide_eq_false e2, cond_false, decide_eq_true (show 0 ≤ st ∧ st ≤ 64 from ⟨h1, h2⟩), Bool.true_and]
      cases sk
      · simp only [cond_false]
        have hc : cellout_intra (M + 200) k = some (intraB k) := rfl
        have hst : cellout_stepped (M + 200) k = some (steppedB k) := rfl
        obtain ⟨r, hr⟩ := steps_eq (M + 200) s
        have hv := vector_eq (M + 200) st false k s dc evs hm
        simp only [hc, hst, hr, hv, Option.getD_some, Option.isSome_some, right_loop h, Option.bind_some]
        have key : (bif (!intraB k) then (bif (!inter) then true else (bif decide (k ≠ 0) then decide (k ≠ 1) else false)) else false) = !kindB inter k := by
          unfold kindB
          by_cases k0 : k = 0
          · subst k0; cases inter <;> rfl
          · by_cases k1 : k = 1
            · subst k1; cases inter <;> rfl
            · cases inter <;> cases intraB k <;> simp [k0, k1]
        have key2 : (bif (bif (!(stB s == steppedB k)) then true else (bif (!stB s) then decide (s ≠ 0) else false)) then true else (!vecB k mv)) = !(stepB k s && vecB k mv) := by
          unfold stepB
          by_cases s0 : s = 0
          · subst s0
            have : stB 0 = false := rfl
            rw [this]
            cases steppedB k <;> cases vecB k mv <;> rfl
          · cases hs : stB s <;> cases steppedB k <;> cases vecB k mv <;> simp [s0]
        rw [key, key2]
        have t1 : ∀ (a b : Bool) (p : Bool), ((!a && !!b) = true → ((p = true → ((!a && !!b) && p) = true))) := by intro a b p; cases a <;> cases b <;> cases p <;> simp
        have t2 : ∀ (a b : Bool), (!a) = true → ((!b) = false → (!a && !!b) = true) := by intro a b; cases a <;> cases b <;> simp
        have t3 : ∀ (a b : Bool), (!a) = true → ((!b) = true → ((!a) && (!b)) = true) := by intro a b; cases a <;> cases b <;> simp
        rw [if_pos ⟨trivial, t1 _ _ _, t2 _ _⟩]
        cases kindB inter k
        · rfl
        · simp only [Bool.not_true, cond_false, if_true, Bool.true_and]
          rw [if_pos ⟨trivial, t3 _ _, fun _ => trivial⟩]
          generalize stepB k s = x
          generalize vecB k mv = y
          generalize may6 k dc evs = z
          cases x <;> cases y <;> cases z <;> rfl
      · have hb := bare_eq (N := M + 200) (by omega) st true k s evs hm hd
        simp only [cond_true, hb, Option.isSome_some, implies_true, if_true, Option.getD_some]
        cases inter <;> simp
    · have e2 : (64 : Int) < st := by omega
      simp [h2, e2]
  · have e1 : st < 0 := by omega
    simp [h1, e1]
theorem rstep_eq (N : Nat) (s : Int) : ∃ r, ref20_Row N s = some r ∧ decide (ByteArray.toList r = ByteArray.toList ⟨#[]⟩) = !stB s := by
  by_cases h1 : s < -2
  · refine ⟨⟨#[]⟩, by unfold ref20_Row; simp [h1], ?_⟩
    have : stB s = false := by unfold stB; simp; omega
    rw [this]; simp
  · by_cases h2 : 2 < s
    · refine ⟨⟨#[]⟩, by unfold ref20_Row; simp [h1, h2], ?_⟩
      have : stB s = false := by unfold stB; simp; omega
      rw [this]; simp
    · have hs : s = -2 ∨ s = -1 ∨ s = 0 ∨ s = 1 ∨ s = 2 := by omega
      have one : ∀ x y : UInt8, decide (ByteArray.toList ⟨#[x, y]⟩ = ByteArray.toList ⟨#[]⟩) = false := by
        intro x y
        rw [strEq]
        exact decide_eq_false (by simp [bl])
      rcases hs with rfl | rfl | rfl | rfl | rfl
      · exact ⟨⟨#[48, 49]⟩, rfl, one _ _⟩
      · exact ⟨⟨#[48, 48]⟩, rfl, one _ _⟩
      · exact ⟨⟨#[]⟩, rfl, by simp [stB]⟩
      · exact ⟨⟨#[49, 48]⟩, rfl, one _ _⟩
      · exact ⟨⟨#[49, 49]⟩, rfl, one _ _⟩
theorem rright_loop {N : Nat} (hN : 200 < N) {k : Int} {dc : List Int} {evs : Evs} (h : fewP evs) : iter (ref22_Right_b1 N k dc evs) N 0 = some (bif may6 k dc evs then .inr () else .inl ()) :=
  iter_all 6 N (fun i => mayB (intraB k) (dc.getD i 0) (evs.getD i [])) (fun i hi => by
    obtain ⟨g1, g2, g3⟩ := in5 hi
    have g4 := inS (i := i) (by omega)
    have hc : ref21_Intra N k = some (intraB k) := rfl
    have hl := h i hi
    have hp := rmay_ok (N := N) (b := intraB k) (dc := dc.getD i 0) (l := evs.getD i []) (by omega) (by omega)
    simp only [ref22_Right_b1, decide_eq_true g2, cond_true, Int.toNat_natCast, hc, Option.getD_some, Option.isSome_some, hp, g1, g2, hi, and_self, if_true, g4]
    cases mayB (intraB k) (dc.getD i 0) (evs.getD i []) <;> rfl) (by simp [ref22_Right_b1]) (by omega)
theorem rvec_loop {N : Nat} (hN : 200 < N) {k : Int} (hk : k = 0 ∨ k = 1 ∨ k = 3 ∨ k = 4) {mv : List Int} (hm : mv.length = 2) : iter (ref22_Right_b2 N k mv) N 0 = some (bif vecB k mv then .inr () else .inl ()) := by
  have h3 : decide ((2 : Int) < k) = intraB k := by rcases hk with rfl | rfl | rfl | rfl <;> rfl
  have := iter_all (body := ref22_Right_b2 N k mv) 2 N (fun i => decide (-32 ≤ mv.getD i 0 ∧ mv.getD i 0 ≤ 31) && (!intraB k || decide (mv.getD i 0 = 0))) (fun i hi => by
    have g1 : (0 : Int) ≤ (i : Int) := by omega
    have g2 : (i : Int) < 2 := by omega
    have g4 := inS (i := i) (by omega)
    simp only [ref22_Right_b2, decide_eq_true g2, cond_true, Int.toNat_natCast, h3, g1, g2, hi, and_self, implies_true, true_and]
    have t1 : ∀ (a b : Bool), a = true → (b = true → (a && b) = true) := by intro a b; cases a <;> cases b <;> simp
    rw [if_pos (t1 _ _)]
    by_cases h1 : mv.getD i 0 < -32
    · have : ¬ (-32 ≤ mv.getD i 0) := by omega
      simp [h1, this, -List.getD_eq_getElem?_getD]
    · by_cases h2 : (31 : Int) < mv.getD i 0
      · have : ¬ (mv.getD i 0 ≤ 31) := by omega
        simp [h1, h2, this, -List.getD_eq_getElem?_getD]
      · have e1 : -32 ≤ mv.getD i 0 := by omega
        have e2 : mv.getD i 0 ≤ 31 := by omega
        by_cases e3 : mv.getD i 0 = 0 <;> cases intraB k <;> simp [h1, h2, e1, e2, e3, g4, -List.getD_eq_getElem?_getD]) (by simp [ref22_Right_b2]) (by omega)
  rw [this]
  obtain ⟨a, b, rfl⟩ := len2 hm
  refine congrArg some (congrArg (fun z : Bool => bif z then Sum.inr () else Sum.inl ()) ?_)
  rw [Bool.eq_iff_iff]
  unfold vecB
  have hr : List.range 2 = [0, 1] := rfl
  rw [hr]
  cases intraB k
  · simp
  · simp
    constructor
    · intro h; exact ⟨h.1.2, h.2.2⟩
    · intro h; rw [h.1, h.2]; decide
theorem rright_ok {N : Nat} (hN : 200 < N) (inter : Bool) (st : Int) (sk : Bool) (k s : Int) {mv dc : List Int} {evs : Evs} (hm : mv.length = 2) (hd : dc.length = 6) (h : fewP evs) : ref22_Right N inter st sk k s mv dc evs = some (rightB inter st sk k s mv dc evs) := by
  unfold ref22_Right rightB
  by_cases h1 : 0 ≤ st
  · by_cases h2 : st ≤ 64
    · have e1 : ¬ st < 0 := by omega
      have e2 : ¬ (64 : Int) < st := by omega
      rw [decide_eq_false e1, cond_false, decide_eq_false e2, cond_false, decide_eq_true (show 0 ≤ st ∧ st ≤ 64 from ⟨h1, h2⟩), Bool.true_and]
      cases sk
      · simp only [cond_false]
        have t1 : ∀ (a b : Bool), (!a) = true → (b = true → ((!a) && b) = true) := by intro a b; cases a <;> cases b <;> simp
        rw [if_pos (t1 _ _)]
        obtain ⟨r, hr, hr'⟩ := rstep_eq N s
        by_cases hk : k = 0 ∨ k = 1 ∨ k = 3 ∨ k = 4
        · have key : (bif (bif (bif decide (k < 0) then true else decide ((4 : Int) < k)) then true else decide (k = 2)) then true else (bif decide (k < 2) then (!inter) else false)) = !kindB inter k := by
            rcases hk with rfl | rfl | rfl | rfl <;> cases inter <;> rfl
          rw [key]
          cases kindB inter k
          · rfl
          · simp only [Bool.not_true, cond_false, Bool.true_and, joinK, rvec_loop hN hk hm, rright_loop hN h, Option.bind_some, hr, hr', Option.isSome_some, Option.getD_some, if_true]
            unfold stepB
            show (bif steppedB k then _ else _) = _
            cases steppedB k
            · by_cases s0 : s = 0
              · subst s0; cases vecB k mv <;> cases may6 k dc evs <;> rfl
              · simp [s0]
            · cases stB s <;> cases vecB k mv <;> cases may6 k dc evs <;> rfl
        · have e3 : (bif (bif decide (k < 0) then true else decide ((4 : Int) < k)) then true else decide (k = 2)) = true := by
            by_cases k0 : k < 0
            · simp [k0]
            · by_cases k4 : (4 : Int) < k
              · simp [k4]
              · have : k = 2 := by omega
                simp [this]
          have e4 : kindB inter k = false := by
            unfold kindB intraB
            have : k ≠ 3 := fun e => hk (by omega)
            have : k ≠ 4 := fun e => hk (by omega)
            have : k ≠ 0 := fun e => hk (by omega)
            have : k ≠ 1 := fun e => hk (by omega)
            simp [*]
          rw [e3, e4]; rfl
      · have hb := zero_eq (N := N) (by omega) st true k s evs hm hd
        simp only [cond_true, hb, Option.isSome_some, implies_true, if_true, Option.getD_some]
        cases inter <;> simp
    · have e2 : (64 : Int) < st := by omega
      simp [h2, e2]
  · have e1 : st < 0 := by omega
    simp [h1, e1]
end Go.Proofs.YtkfaebbbjahcpaaDoor
