/- What the printed models answer: plain laws. -/
import Derived.Test.YtlcjjaglbcfbbaaDoorSE
set_option linter.unusedVariables false
set_option linter.unusedSimpArgs false
namespace Go.Proofs.YtlcjjaglbcfbbaaDoor
open Go.X

/-! ### sheets that are the same -/
theorem notS {α β : Type} {e : Bool} {x y : α ⊕ β} : (bif !e then some y else some x) = some (bif e then x else y) := by cases e <;> rfl
theorem elimS (b : Bool) : ((some (bif b then (Sum.inr () : Unit ⊕ Unit) else .inl ())).bind fun w1 => (Sum.elim (fun _ => some false) (fun _ => some true) w1)) = some b := by cases b <;> rfl
theorem decN {p : Prop} [Decidable p] : decide (¬ p) = !decide p := by by_cases h : p <;> simp [h]
theorem iter_allG {γ : Type} {body : Int → Option (Int ⊕ (Unit ⊕ γ))} {o : γ} (n N : Nat) (P : Nat → Bool) (hs : ∀ i, i < n → body (i : Int) = some (bif P i then .inl ((i : Int) + 1) else .inr (.inl ()))) (he : body (n : Int) = some (.inr (.inr o))) (hN : n < N) :
  iter body N 0 = some (bif (List.range n).all P then .inr o else .inl ()) := by
 rcases first_or (fun j => P j = false) n with h | ⟨k, h1, h2, h3⟩
 ·
  have hP : ∀ i, i < n → P i = true := fun i hi => by simpa using h i hi
  have : (List.range n).all P = true := List.all_eq_true.2 fun i hi => hP i (List.mem_range.1 hi)
  rw [this]
  exact iter_to (fun i => (i : Int)) n rfl (fun i hi => by rw [hs i hi, hP i hi]; rfl) he hN
 ·
  have : (List.range n).all P = false := by
   cases hh : (List.range n).all P with
   | false => rfl
   | true => rw [List.all_eq_true.1 hh k (List.mem_range.2 h1)] at h2; cases h2
  rw [this]
  exact iter_to (fun i => (i : Int)) k rfl (fun i hi => by rw [hs i (by omega), show P i = true by simpa using h3 i hi]; rfl) (by rw [hs k h1, h2]; rfl) (by omega)
abbrev e0 : Ev := (false, ((0 : Int), (0 : Int)))
def ev1 (x y : Ev) : Bool := (x.1 == y.1) && (decide (x.2.1 = y.2.1) && (decide (x.2.2 = y.2.2) && true))
def evB (a b : List Ev) : Bool := decide (a.length = b.length) && (List.range a.length).all fun i => ev1 (a.getD i e0) (b.getD i e0)
theorem rev_ok {N : Nat} (hN : 1000 < N) {a b : List Ev} (ha : a.length ≤ 1000) : ref10_Same N a b = some (evB a b) := by
 unfold ref10_Same evB
 by_cases hl : a.length = b.length
 ·
  have hd : decide ((a.length : Int) ≠ (b.length : Int)) = false := decide_eq_false (by omega)
  have hit := iter_all (body := ref10_Same_b1 N a b) a.length N (fun i => ev1 (a.getD i e0) (b.getD i e0)) (fun i hi => by
   have g1 : (i : Int) < (a.length : Int) := by omega
   have g2 : (i : Int) < (b.length : Int) := by omega
   have g3 := inS (i := i) (by omega)
   simp only [ref10_Same_b1, decide_true, cond_true, Int.toNat_natCast, Int.natCast_nonneg, g1, g2, and_self, if_true, g3]
   exact notS) (by simp only [ref10_Same_b1, Int.lt_irrefl, decide_false, cond_false]) (by omega)
  rw [hd, cond_false, hit, decide_eq_true hl, Bool.true_and]
  exact elimS _
 ·
  rw [decide_eq_true (show (a.length : Int) ≠ (b.length : Int) by omega), decide_eq_false hl]; rfl
theorem evB_refl (a : List Ev) : evB a a = true := by
 unfold evB ev1; simp
def evsB (a b : Evs) : Bool := (List.range 6).all fun i => evB (a.getD i []) (b.getD i [])
theorem evsB_refl (a : Evs) : evsB a a = true := by
 unfold evsB; simp only [evB_refl]; rfl
def cellE (c d : CellT) : Bool := ((((((decide (c.1 = d.1) && (c.2.1 == d.2.1)) && decide (c.2.2.1 = d.2.2.1)) && decide (c.2.2.2.1 = d.2.2.2.1)) && decide (c.2.2.2.2.1 = d.2.2.2.2.1)) && decide (c.2.2.2.2.2.1 = d.2.2.2.2.2.1)) && evsB c.2.2.2.2.2.2 d.2.2.2.2.2.2)
theorem cellE_refl (c : CellT) : cellE c c = true := by unfold cellE; simp [evsB_refl]
theorem r21_ok {N : Nat} (hN : 1000 < N) {c : CellT} (d : CellT) (hc : fewP c.2.2.2.2.2.2) : ref21_Same N c.1 c.2.1 c.2.2.1 c.2.2.2.1 c.2.2.2.2.1 c.2.2.2.2.2.1 c.2.2.2.2.2.2 d.1 d.2.1 d.2.2.1 d.2.2.2.1 d.2.2.2.2.1 d.2.2.2.2.2.1 d.2.2.2.2.2.2 = some (cellE c d) := by
 have hit : iter (ref21_Same_b1 N c.2.2.2.2.2.2 d.2.2.2.2.2.2) N 0 = some (bif evsB c.2.2.2.2.2.2 d.2.2.2.2.2.2 then .inr () else .inl ()) :=
  iter_all 6 N (fun i => evB (c.2.2.2.2.2.2.getD i []) (d.2.2.2.2.2.2.getD i [])) (fun i hi => by
   have g1 : (i : Int) < 6 := by omega
   have g3 := inS (i := i) (by omega)
   have he := rev_ok hN (a := c.2.2.2.2.2.2.getD i []) (b := d.2.2.2.2.2.2.getD i []) (by have := hc i hi; omega)
   simp only [ref21_Same_b1, decide_true, cond_true, Int.toNat_natCast, Int.natCast_nonneg, g1, hi, he, Option.isSome_some, Option.getD_some, and_self, if_true, g3]
   exact notS) (by show ref21_Same_b1 N _ _ 6 = _; simp only [ref21_Same_b1, Int.lt_irrefl, decide_false, cond_false]) (by omega)
 unfold ref21_Same cellE
 rw [hit]
 generalize evsB c.2.2.2.2.2.2 d.2.2.2.2.2.2 = p7
 simp only [ne_eq, decN]
 generalize decide (c.1 = d.1) = p1
 generalize (c.2.1 == d.2.1) = p2
 generalize decide (c.2.2.1 = d.2.2.1) = p3
 generalize decide (c.2.2.2.1 = d.2.2.2.1) = p4
 generalize decide (c.2.2.2.2.1 = d.2.2.2.2.1) = p5
 generalize decide (c.2.2.2.2.2.1 = d.2.2.2.2.2.1) = p6
 cases p1 <;> cases p2 <;> cases p3 <;> cases p4 <;> cases p5 <;> cases p6 <;> cases p7 <;> rfl
theorem sev_ok {N : Nat} (hN : 1000 < N) {a b : List Ev} (ha : a.length ≤ 1000) : slices_Equal_overspill_api_Event_overspill_api_Event N a b = some (evB a b) := rev_ok hN ha
theorem cin_ok {N : Nat} (hN : 1000 < N) {c : CellT} (d : CellT) (hc : fewP c.2.2.2.2.2.2) : cellin_Same N c.1 c.2.1 c.2.2.1 c.2.2.2.1 c.2.2.2.2.1 c.2.2.2.2.2.1 c.2.2.2.2.2.2 d.1 d.2.1 d.2.2.1 d.2.2.2.1 d.2.2.2.2.1 d.2.2.2.2.2.1 d.2.2.2.2.2.2 = some (cellE c d) := by
 have hit : ∀ h : Bool, iter (cellin_Same_b1 N c.2.2.2.2.2.2 d.2.2.2.2.2.2) N (h, 0) = some (h && evsB c.2.2.2.2.2.2 d.2.2.2.2.2.2) := fun h => by
  refine iter_to (fun j => (h && (List.range j).all fun i => evB (c.2.2.2.2.2.2.getD i []) (d.2.2.2.2.2.2.getD i []), ((j : Nat) : Int))) 6 (by simp) (fun i hi => ?_) ?_ (by omega)
  ·
   have g1 : (i : Int) < 6 := by omega
   have g3 := inS (i := i) (by omega)
   have he := sev_ok hN (a := c.2.2.2.2.2.2.getD i []) (b := d.2.2.2.2.2.2.getD i []) (by have := hc i hi; omega)
   simp only [cellin_Same_b1, decide_true, cond_true, Int.toNat_natCast, Int.natCast_nonneg, g1, hi, he, Option.isSome_some, Option.getD_some, implies_true, and_self, if_true, g3, condF]
   refine congrArg (fun s => some (Sum.inl s)) (Prod.ext ?_ (Int.natCast_succ i).symm)
   simp only [all_succ, Bool.and_assoc]
  ·
   show cellin_Same_b1 N _ _ (_, 6) = _
   simp only [cellin_Same_b1, Int.lt_irrefl, decide_false, cond_false]
   rfl
 unfold cellin_Same cellE
 simp only [hit, condF, Option.bind_some]
def cellsE (a b : List CellT) : Bool := decide (a.length = b.length) && (List.range a.length).all fun i => cellE (a.getD i c0) (b.getD i c0)
theorem cellsE_refl (a : List CellT) : cellsE a a = true := by unfold cellsE; simp only [cellE_refl]; simp
theorem csE_ok {N : Nat} (hN : 10000 < N) {a b : List CellT} (ha : a.length ≤ 6000) (hf : ∀ i, fewP (a.getD i c0).2.2.2.2.2.2) : slices_EqualFunc_overspill_api_Cell_overspill_api_Cell_overspill_api_Cell_overspill_api_Cell_Same N a b = some (cellsE a b) := by
 unfold slices_EqualFunc_overspill_api_Cell_overspill_api_Cell_overspill_api_Cell_overspill_api_Cell_Same cellsE
 by_cases hl : a.length = b.length
 ·
  have hd : decide ((a.length : Int) ≠ (b.length : Int)) = false := decide_eq_false (by omega)
  have hit := iter_all (body := slices_EqualFunc_overspill_api_Cell_overspill_api_Cell_overspill_api_Cell_overspill_api_Cell_Same_b1 N a b) a.length N (fun i => cellE (a.getD i c0) (b.getD i c0)) (fun i hi => by
   have g1 : (i : Int) < (a.length : Int) := by omega
   have g2 : (i : Int) < (b.length : Int) := by omega
   have g3 := inS (i := i) (by omega)
   have hc := cin_ok (N := N) (by omega) (c := a.getD i c0) (b.getD i c0) (hf i)
   simp only [slices_EqualFunc_overspill_api_Cell_overspill_api_Cell_overspill_api_Cell_overspill_api_Cell_Same_b1, decide_true, cond_true, Int.toNat_natCast, Int.natCast_nonneg, g1, g2, and_self, if_true, g3, hc, Option.isSome_some, Option.getD_some]
   exact notS) (by simp only [slices_EqualFunc_overspill_api_Cell_overspill_api_Cell_overspill_api_Cell_overspill_api_Cell_Same_b1, Int.lt_irrefl, decide_false, cond_false]) (by omega)
  rw [hd, cond_false, hit, decide_eq_true hl, Bool.true_and]
  exact elimS _
 ·
  rw [decide_eq_true (show (a.length : Int) ≠ (b.length : Int) by omega), decide_eq_false hl]; rfl
def rowE (r s : RowT) : Bool := (((r.1 == s.1) && decide (r.2.1 = s.2.1)) && decide (r.2.2.1 = s.2.2.1)) && cellsE r.2.2.2 s.2.2.2
theorem rowE_refl (r : RowT) : rowE r r = true := by unfold rowE; simp [cellsE_refl]
theorem rowS_ok {N : Nat} (hN : 10000 < N) {r : RowT} (s : RowT) (ha : r.2.2.2.length ≤ 6000) (hf : ∀ i, fewP (r.2.2.2.getD i c0).2.2.2.2.2.2) : sound_rowsSame N r.1 r.2.1 r.2.2.1 r.2.2.2 s.1 s.2.1 s.2.2.1 s.2.2.2 = some (rowE r s) := by
 unfold sound_rowsSame rowE
 simp only [csE_ok hN ha hf, Option.isSome_some, Option.getD_some, implies_true, if_true, condF]
def rowsE (a b : List RowT) : Bool := decide (a.length = b.length) && (List.range a.length).all fun i => rowE (a.getD i r0) (b.getD i r0)
theorem rowsE_refl (a : List RowT) : rowsE a a = true := by unfold rowsE; simp only [rowE_refl]; simp
theorem rsE_ok {N : Nat} (hN : 10000 < N) {a6 : List Int} {a : List RowT} (b : List RowT) (h : lightP a6 a) : slices_EqualFunc_overspill_api_Row_overspill_api_Row_overspill_api_Row_overspill_api_Row_rowsSame N a b = some (rowsE a b) := by
 have h30 := h.2.1
 unfold slices_EqualFunc_overspill_api_Row_overspill_api_Row_overspill_api_Row_overspill_api_Row_rowsSame rowsE
 by_cases hl : a.length = b.length
 ·
  have hd : decide ((a.length : Int) ≠ (b.length : Int)) = false := decide_eq_false (by omega)
  have hit := iter_all (body := slices_EqualFunc_overspill_api_Row_overspill_api_Row_overspill_api_Row_overspill_api_Row_rowsSame_b1 N a b) a.length N (fun i => rowE (a.getD i r0) (b.getD i r0)) (fun i hi => by
   have g1 : (i : Int) < (a.length : Int) := by omega
   have g2 : (i : Int) < (b.length : Int) := by omega
   have g3 := inS (i := i) (by omega)
   have hc := rowS_ok (N := N) hN (r := a.getD i r0) (b.getD i r0) (by have := light_len h i; unfold csA at this; omega) (fun k => light_few h i k)
   simp only [slices_EqualFunc_overspill_api_Row_overspill_api_Row_overspill_api_Row_overspill_api_Row_rowsSame_b1, decide_true, cond_true, Int.toNat_natCast, Int.natCast_nonneg, g1, g2, and_self, if_true, g3, hc, Option.isSome_some, Option.getD_some]
   exact notS) (by simp only [slices_EqualFunc_overspill_api_Row_overspill_api_Row_overspill_api_Row_overspill_api_Row_rowsSame_b1, Int.lt_irrefl, decide_false, cond_false]) (by omega)
  rw [hd, cond_false, hit, decide_eq_true hl, Bool.true_and]
  exact elimS _
 ·
  rw [decide_eq_true (show (a.length : Int) ≠ (b.length : Int) by omega), decide_eq_false hl]; rfl
def intsE (a b : List Int) : Bool := decide (a.length = b.length) && (List.range a.length).all fun i => decide (a.getD i 0 = b.getD i 0)
theorem intsE_refl (a : List Int) : intsE a a = true := by unfold intsE; simp
theorem ints_ok {N : Nat} (hN : 1000 < N) {a : List Int} (b : List Int) (ha : a.length ≤ 100) : slices_Equal_int_int N a b = some (intsE a b) := by
 unfold slices_Equal_int_int intsE
 by_cases hl : a.length = b.length
 ·
  have hd : decide ((a.length : Int) ≠ (b.length : Int)) = false := decide_eq_false (by omega)
  have hit := iter_all (body := slices_Equal_int_int_b1 N a b) a.length N (fun i => decide (a.getD i 0 = b.getD i 0)) (fun i hi => by
   have g1 : (i : Int) < (a.length : Int) := by omega
   have g2 : (i : Int) < (b.length : Int) := by omega
   have g3 := inS (i := i) (by omega)
   simp only [slices_Equal_int_int_b1, decide_true, cond_true, Int.toNat_natCast, Int.natCast_nonneg, g1, g2, and_self, if_true, g3, ne_eq, decN]
   exact notS) (by simp only [slices_Equal_int_int_b1, Int.lt_irrefl, decide_false, cond_false]) (by omega)
  rw [hd, cond_false, hit, decide_eq_true hl, Bool.true_and]
  exact elimS _
 ·
  rw [decide_eq_true (show (a.length : Int) ≠ (b.length : Int) by omega), decide_eq_false hl]; rfl
def sheetE (a1 a2 a3 : Int) (a4 : Bool) (a5 : Int) (a6 : List Int) (a7 : List RowT) (a8 : Int) (b1 b2 b3 : Int) (b4 : Bool) (b5 : Int) (b6 : List Int) (b7 : List RowT) (b8 : Int) : Bool := ((((((decide (a1 = b1) && decide (a2 = b2)) && decide (a3 = b3)) && (a4 == b4)) && decide (a5 = b5)) && decide (a8 = b8)) && intsE a6 b6) && rowsE a7 b7
theorem sheetE_refl (a1 a2 a3 : Int) (a4 : Bool) (a5 : Int) (a6 : List Int) (a7 : List RowT) (a8 : Int) : sheetE a1 a2 a3 a4 a5 a6 a7 a8 a1 a2 a3 a4 a5 a6 a7 a8 = true := by unfold sheetE; simp [intsE_refl, rowsE_refl]
theorem ssame_ok {N : Nat} (hN : 10000 < N) (a1 a2 a3 : Int) (a4 : Bool) (a5 : Int) {a6 : List Int} {a7 : List RowT} (a8 : Int) (b1 b2 b3 : Int) (b4 : Bool) (b5 : Int) (b6 : List Int) (b7 : List RowT) (b8 : Int) (h : lightP a6 a7) : sound_Same N a1 a2 a3 a4 a5 a6 a7 a8 b1 b2 b3 b4 b5 b6 b7 b8 = some (sheetE a1 a2 a3 a4 a5 a6 a7 a8 b1 b2 b3 b4 b5 b6 b7 b8) := by
 have i1 := ints_ok (N := N) (by omega) (a := a6) b6 h.1
 have i2 := rsE_ok hN b7 h
 unfold sound_Same sheetE
 simp only [i1, i2, Option.isSome_some, Option.getD_some, implies_true, and_self, if_true, condF]
theorem r24_ok {N : Nat} (hN : 10000 < N) (a1 a2 a3 : Int) (a4 : Bool) (a5 : Int) {a6 : List Int} (a7 : List RowT) (a8 : Int) (b1 b2 b3 : Int) (b4 : Bool) (b5 : Int) (b6 : List Int) (b7 : List RowT) (b8 : Int) (h : a6.length ≤ 100) : ref24_Same N a1 a2 a3 a4 a5 a6 a7 a8 b1 b2 b3 b4 b5 b6 b7 b8 = some (((((decide (a1 = b1) && decide (a2 = b2)) && decide (a3 = b3)) && (a4 == b4)) && decide (a5 = b5)) && intsE a6 b6) := by
 have hi : (bif decide ((a6.length : Int) ≠ (b6.length : Int)) then some false else (iter (ref24_Same_b1 N a6 b6) N 0).bind fun w1 => (Sum.elim (fun _ => some false) (fun _ => some true) w1)) = some (intsE a6 b6) := ints_ok (N := N) (by omega) b6 h
 unfold ref24_Same
 generalize hX : (iter (ref24_Same_b1 N a6 b6) N 0).bind (fun w1 => (Sum.elim (fun _ => some false) (fun _ => some true) w1)) = X at hi ⊢
 simp only [ne_eq, decN] at hi ⊢
 generalize intsE a6 b6 = p7 at hi ⊢
 generalize decide ((a6.length : Int) = (b6.length : Int)) = p6 at hi ⊢
 generalize decide (a1 = b1) = p1
 generalize decide (a2 = b2) = p2
 generalize decide (a3 = b3) = p3
 generalize (a4 == b4) = p4
 generalize decide (a5 = b5) = p5
 cases p1 <;> cases p2 <;> cases p3 <;> cases p4 <;> cases p5 <;> first | rfl | exact hi
theorem rrow2_ok {N : Nat} (hN : 10000 < N) {a6 : List Int} {a : List RowT} {b : List RowT} (h : lightP a6 a) {i : Nat} (hi : i < a.length) (hib : i < b.length) (hl : (csA a i).length = (csA b i).length) : iter (ref25_Same_b2 N a b (i : Int)) N 0 = some (bif (List.range (csA a i).length).all (fun k => cellE (clA a i k) (clA b i k)) then .inr (((csA a i).length : Int), ((csA a i).length : Int), false) else .inl ()) := by
 have hll := light_len h i
 refine iter_allG (csA a i).length N (fun k => cellE (clA a i k) (clA b i k)) (fun k hk => ?_) ?_ (by omega)
 ·
  have g1 : (k : Int) < ((a.getD i r0).2.2.2.length : Int) := by unfold csA at hk; omega
  have g2 : (k : Int) < ((b.getD i r0).2.2.2.length : Int) := by unfold csA at hk hl; omega
  have g3 := inS (i := k) (by omega)
  have hc := r21_ok (N := N) (by omega) (c := (a.getD i r0).2.2.2.getD k c0) ((b.getD i r0).2.2.2.getD k c0) (light_few h i k)
  simp only [ref25_Same_b2, decide_true, cond_true, Int.toNat_natCast, Int.natCast_nonneg, g1, g2, and_self, if_true, g3, hc, Option.isSome_some, Option.getD_some]
  exact notS
 ·
  have g1 : ((csA a i).length : Int) = ((a.getD i r0).2.2.2.length : Int) := rfl
  simp only [ref25_Same_b2, Int.toNat_natCast, g1, Int.lt_irrefl, decide_false, cond_false]
theorem rsame_ok {N : Nat} (hN : 10000 < N) (a1 a2 a3 : Int) (a4 : Bool) (a5 : Int) {a6 : List Int} {a7 : List RowT} (a8 : Int) (b1 b2 b3 : Int) (b4 : Bool) (b5 : Int) (b6 : List Int) (b7 : List RowT) (b8 : Int) (h : lightP a6 a7) : ref25_Same N a1 a2 a3 a4 a5 a6 a7 a8 b1 b2 b3 b4 b5 b6 b7 b8 = some (sheetE a1 a2 a3 a4 a5 a6 a7 a8 b1 b2 b3 b4 b5 b6 b7 b8) := by
 have h30 := h.2.1
 unfold ref25_Same
 rw [r24_ok hN a1 a2 a3 a4 a5 a7 a8 b1 b2 b3 b4 b5 b6 b7 b8 h.1]
 have hl : decide ((a7.length : Int) ≠ (b7.length : Int)) = !decide (a7.length = b7.length) := by
  by_cases hh : a7.length = b7.length
  ·
   rw [decide_eq_true hh, decide_eq_false (by omega)]; rfl
  ·
   rw [decide_eq_false hh, decide_eq_true (by omega)]; rfl
 have hrow : a7.length = b7.length → iter (ref25_Same_b1 N a7 b7) N 0 = some (bif (List.range a7.length).all (fun i => rowE (a7.getD i r0) (b7.getD i r0)) then .inr () else .inl ()) := fun hh => by
  refine iter_all a7.length N (fun i => rowE (a7.getD i r0) (b7.getD i r0)) (fun i hi => ?_) (by simp only [ref25_Same_b1, Int.lt_irrefl, decide_false, cond_false]) (by omega)
  have g1 : (i : Int) < (a7.length : Int) := by omega
  have g2 : (i : Int) < (b7.length : Int) := by omega
  have g3 := inS (i := i) (by omega)
  have hL : (a7.getD i r0).2.2.2 = csA a7 i := rfl
  have hL' : (b7.getD i r0).2.2.2 = csA b7 i := rfl
  have hE : rowE (a7.getD i r0) (b7.getD i r0) = (((((a7.getD i r0).1 == (b7.getD i r0).1) && decide ((a7.getD i r0).2.1 = (b7.getD i r0).2.1)) && decide ((a7.getD i r0).2.2.1 = (b7.getD i r0).2.2.1)) && cellsE (csA a7 i) (csA b7 i)) := rfl
  have hcE : cellsE (csA a7 i) (csA b7 i) = (decide ((csA a7 i).length = (csA b7 i).length) && (List.range (csA a7 i).length).all (fun k => cellE (clA a7 i k) (clA b7 i k))) := rfl
  have hlen : decide (((csA a7 i).length : Int) ≠ ((csA b7 i).length : Int)) = !decide ((csA a7 i).length = (csA b7 i).length) := by
   by_cases hk : (csA a7 i).length = (csA b7 i).length
   ·
    rw [decide_eq_true hk, decide_eq_false (by omega)]; rfl
   ·
    rw [decide_eq_false hk, decide_eq_true (by omega)]; rfl
  rw [hE, hcE]
  simp only [ref25_Same_b1, decide_true, cond_true, Int.toNat_natCast, Int.natCast_nonneg, g1, g2, and_self, if_true, g3, hL, hL', hlen]
  simp only [ne_eq, decN]
  generalize ((a7.getD i r0).1 == (b7.getD i r0).1) = p1
  generalize decide ((a7.getD i r0).2.1 = (b7.getD i r0).2.1) = p2
  generalize decide ((a7.getD i r0).2.2.1 = (b7.getD i r0).2.2.1) = p3
  by_cases hk : (csA a7 i).length = (csA b7 i).length
  ·
   rw [rrow2_ok hN h hi (by omega) hk, decide_eq_true hk]
   generalize (List.range (csA a7 i).length).all (fun k => cellE (clA a7 i k) (clA b7 i k)) = p5
   cases p1 <;> cases p2 <;> cases p3 <;> cases p5 <;> rfl
  ·
   rw [decide_eq_false hk]
   cases p1 <;> cases p2 <;> cases p3 <;> rfl
 simp only [Option.isSome_some, Option.getD_some, if_true, hl]
 unfold sheetE rowsE
 simp only [ne_eq, decN]
 generalize decide (a1 = b1) = p1
 generalize decide (a2 = b2) = p2
 generalize decide (a3 = b3) = p3
 generalize (a4 == b4) = p4
 generalize decide (a5 = b5) = p5
 generalize decide (a8 = b8) = p6
 generalize intsE a6 b6 = p7
 by_cases hh : a7.length = b7.length
 ·
  rw [hrow hh, decide_eq_true hh]
  generalize (List.range a7.length).all (fun i => rowE (a7.getD i r0) (b7.getD i r0)) = p8
  cases p1 <;> cases p2 <;> cases p3 <;> cases p4 <;> cases p5 <;> cases p6 <;> cases p7 <;> cases p8 <;> rfl
 ·
  rw [decide_eq_false hh]
  cases p1 <;> cases p2 <;> cases p3 <;> cases p4 <;> cases p5 <;> cases p6 <;> cases p7 <;> rfl
theorem check_cnt {a1 a2 a3 : Int} {a4 : Bool} {a5 : Int} {a6 : List Int} {a7 : List RowT} {a8 : Int} (h : checkA a1 a2 a3 a4 a5 a6 a7 a8 = 0) : ((cellsA a7 a7.length).length : Int) = fA a3 * fD a3 := by
 unfold checkA at h
 cases hX : (headB a1 a2 a3 a5 a6 && (decide (0 ≤ a8 ∧ a8 ≤ 262144) && (decide ((a7.length : Int) = fR a3) && (List.range a7.length).all fun i => rowB a3 a4 a7 i))) with
 | false => rw [hX] at h; cases h
 | true =>
  simp only [Bool.and_eq_true, decide_eq_true_eq, List.all_eq_true, List.mem_range] at hX
  obtain ⟨_, _, hR, hrow⟩ := hX
  have hc : ∀ n, n ≤ a7.length → (cntA a7 n : Int) = n * (fA a3 * fL a3) := by
   intro n
   induction n with
   | zero => intro _; simp [cntA]
   | succ n ih =>
    intro hn
    have h1 := hrow n (by omega)
    unfold rowB at h1
    simp only [Bool.and_eq_true, decide_eq_true_eq] at h1
    have h2 := ih (by omega)
    have h3 : (cntA a7 (n + 1) : Int) = (cntA a7 n : Int) + ((csA a7 n).length : Int) := by simp only [cntA, Int.natCast_add]
    rw [h3, h2, h1.1, Int.natCast_succ, Int.add_mul, Int.one_mul]
  rw [cellsA_len, hc a7.length (Nat.le_refl _), hR]
  have hD : fR a3 * (fA a3 * fL a3) = fA a3 * fD a3 := by
   unfold fR fA fL fD
   by_cases h1 : a3 = 1
   ·
    subst h1; decide
   by_cases h2 : a3 = 2
   ·
    subst h2; decide
   by_cases h3 : a3 = 3
   ·
    subst h3; decide
   by_cases h4 : a3 = 4
   ·
    subst h4; decide
   by_cases h5 : a3 = 5
   ·
    subst h5; decide
   by_cases h6 : a3 = 6
   ·
    subst h6; decide
   simp [h1, h2, h3, h4, h5, h6]
  exact hD
theorem vecs_ok {N : Nat} (hN : 10000 < N) (a1 a2 a3 : Int) (a4 : Bool) (a5 : Int) {a6 : List Int} {a7 : List RowT} (a8 : Int) (h : lightP a6 a7) : sound_Vectors N a1 a2 a3 a4 a5 a6 a7 a8 = some ((cellsA a7 a7.length).map fun c => c.2.2.2.2.1) := by
 have hcl : (cellsA a7 a7.length).length ≤ 6000 := by rw [cellsA_len]; exact light_cnt h _ h.2.1
 unfold sound_Vectors
 rw [cells_ok hN a1 a2 a3 a4 a5 a8 h]
 generalize hL : cellsA a7 a7.length = L at hcl
 have hit : iter (sound_Vectors_b1 N (some L)) N (0, 0, []) = some (L.length, L.map fun c => c.2.2.2.2.1) := by
  refine iter_to (fun j => (j, ((j : Nat) : Int), (L.take j).map fun c => c.2.2.2.2.1)) L.length rfl (fun j hj => ?_) ?_ (by omega)
  ·
   have g1 : (j : Int) < (L.length : Int) := by omega
   have g3 := inS (i := j) (by omega)
   have g4 : ((L.take j).map fun c => c.2.2.2.2.1).length = j := by rw [List.length_map, List.length_take]; omega
   have g5 : (j + 1) * 16 ≤ 140737488355328 := by omega
   have g6 : j + 1 ≤ 9223372036854775807 := by omega
   simp only [sound_Vectors_b1, Option.getD_some, decide_true, cond_true, Int.toNat_natCast, Int.natCast_nonneg, g1, g4, g5, g6, and_self, if_true, g3]
   refine congrArg (fun s => some (Sum.inl s)) (Prod.ext rfl (Prod.ext (Int.natCast_succ j).symm ?_))
   show _ ++ [(L.getD j c0).2.2.2.2.1] = _
   rw [List.take_add_one, List.map_append, List.getD_eq_getElem?_getD, List.getElem?_eq_getElem hj]; rfl
  ·
   simp only [sound_Vectors_b1, Option.getD_some, Int.lt_irrefl, decide_false, cond_false, List.take_length]
 simp only [Option.isSome_some, if_true, hit, Option.bind_some, List.length_map]
theorem cells_few {a6 : List Int} {a7 : List RowT} (h : lightP a6 a7) : ∀ n i, fewP ((cellsA a7 n).getD i c0).2.2.2.2.2.2
 | 0, i => by show fewP (([] : List CellT).getD i c0).2.2.2.2.2.2; rw [getD_out (by simp)]; exact few0
 | n + 1, i => by
  show fewP ((cellsA a7 n ++ csA a7 n).getD i c0).2.2.2.2.2.2
  by_cases hi : i < (cellsA a7 n).length
  ·
   rw [List.getD_eq_getElem?_getD, List.getElem?_append_left hi, ← List.getD_eq_getElem?_getD]; exact cells_few h n i
  ·
   rw [List.getD_eq_getElem?_getD, List.getElem?_append_right (by omega), ← List.getD_eq_getElem?_getD]; exact light_few h n _
theorem same_law {M : Nat} (hM : 20000 ≤ M) (a1 a2 a3 : Int) (a4 : Bool) (a5 : Int) {a6 : List Int} {a7 : List RowT} (a8 : Int) (b1 b2 b3 : Int) (b4 : Bool) (b5 : Int) (b6 : List Int) (b7 : List RowT) (b8 : Int) (hw : ∀ i k, (clA a7 i k).2.2.2.2.1.length = 2 ∧ (clA a7 i k).2.2.2.2.2.1.length = 6) : law25_SoundSame (M + 200) a1 a2 a3 a4 a5 a6 a7 a8 b1 b2 b3 b4 b5 b6 b7 b8 = some true := by
 have hv : law25_lives (M + 200) = some true := lives25 M
 unfold law25_SoundSame
 obtain ⟨b, hb, hB⟩ := light_ok (N := M + 200) (by omega) a1 a2 a3 a4 a5 a6 a7 a8
 obtain ⟨b', hb', hB'⟩ := light_ok (N := M + 200) (by omega) b1 b2 b3 b4 b5 b6 b7 b8
 rw [hb, hb', hv]
 cases b with
 | false => simp only [Option.isSome_some, Option.getD_some, Bool.not_false, Bool.not_true, Bool.false_eq_true, false_implies, and_self, if_true, cond_true]
 | true =>
  cases b' with
  | false => simp only [Option.isSome_some, Option.getD_some, Bool.not_false, Bool.not_true, implies_true, and_self, if_true, cond_true, cond_false]
  | true =>
   have h := hB rfl
   have hg : ∀ i k, goodC (clA a7 i k) := fun i k => ⟨(hw i k).1, (hw i k).2, light_few h i k⟩
   have hcl : (cellsA a7 a7.length).length ≤ 6000 := by rw [cellsA_len]; exact light_cnt h _ h.2.1
   have k1 := cells_ok (N := M + 200) (by omega) a1 a2 a3 a4 a5 a8 h
   have k2 := rcells_ok (N := M + 200) (by omega) a1 a2 a3 a4 a5 a8 h
   have k3 := vecs_ok (N := M + 200) (by omega) a1 a2 a3 a4 a5 a8 h
   have k4 := check_ok (M := M) hM a1 a2 a3 a4 a5 a8 h hg
   have k5 := ssame_ok (N := M + 200) (by omega) a1 a2 a3 a4 a5 a8 b1 b2 b3 b4 b5 b6 b7 b8 h
   have k6 := rsame_ok (N := M + 200) (by omega) a1 a2 a3 a4 a5 a8 b1 b2 b3 b4 b5 b6 b7 b8 h
   have k7 := ssame_ok (N := M + 200) (by omega) a1 a2 a3 a4 a5 a8 a1 a2 a3 a4 a5 a6 a7 a8 h
   rw [sheetE_refl] at k7
   have hcnt : (bif decide (checkA a1 a2 a3 a4 a5 a6 a7 a8 = 0) then decide (((cellsA a7 a7.length).length : Int) ≠ fA a3 * fD a3) else false) = false := by
    by_cases hz : checkA a1 a2 a3 a4 a5 a6 a7 a8 = 0
    ·
     rw [decide_eq_true hz, cond_true, check_cnt hz]; simp
    ·
     rw [decide_eq_false hz, cond_false]
   have hf := fun i => cells_few h a7.length i
   have hit : iter (law25_SoundSame_b1 (M + 200) (some (cellsA a7 a7.length)) (some (cellsA a7 a7.length)) (some ((cellsA a7 a7.length).map fun c => c.2.2.2.2.1))) (M + 200) 0 = some (.inr ()) := by
    generalize cellsA a7 a7.length = L at hcl hf
    refine iter_to (fun j => ((j : Nat) : Int)) L.length rfl (fun j hj => ?_) ?_ (by omega)
    ·
     have g1 : (j : Int) < (L.length : Int) := by omega
     have g2 : (j : Int) < ((L.map fun c => c.2.2.2.2.1).length : Int) := by rw [List.length_map]; exact g1
     have g3 := inS (i := j) (by omega)
     have c1 := r21_ok (N := M + 200) (by omega) (c := L.getD j c0) (L.getD j c0) (hf j)
     have c2 := cin_ok (N := M + 200) (by omega) (c := L.getD j c0) (L.getD j c0) (hf j)
     rw [cellE_refl] at c1 c2
     have hm : decide ((L.map fun c => c.2.2.2.2.1).getD j (List.replicate 2 (0 : Int)) = (L.getD j c0).2.2.2.2.1) = true := by
      refine decide_eq_true ?_
      rw [List.getD_eq_getElem?_getD, List.getD_eq_getElem?_getD, List.getElem?_map, List.getElem?_eq_getElem hj]; rfl
     simp only [law25_SoundSame_b1, Option.getD_some, decide_true, cond_true, Int.toNat_natCast, Int.natCast_nonneg, g1, g2, c1, c2, hm, Option.isSome_some, Bool.not_true, cond_false, implies_true, and_self, if_true, g3, Int.natCast_succ]
    ·
     simp only [law25_SoundSame_b1, Option.getD_some, Int.lt_irrefl, decide_false, cond_false]
   rw [k1, k2, k3, k4, rmany_eq]
   simp only [Option.isSome_some, Option.getD_some, Bool.not_true, cond_false, implies_true, and_self, if_true, List.length_map, ne_eq, not_true, decide_false, hcnt, Bool.not_false, Bool.true_and]
   simp only [ne_eq] at hcnt
   simp only [hcnt, cond_false, hit, Option.bind_some, Sum.elim_inr, k5, k6, k7, Option.isSome_some, Option.getD_some, beq_self_eq_true, cond_true, implies_true, and_self, if_true]
   exact if_pos ⟨trivial, trivial, fun _ h => h⟩
theorem law_soundSame (N : Nat) (hN : 1099511627776 ≤ N) (y0 : Sh.den (.pair (.int .i64) (.pair (.int .i64) (.pair (.int .i64) (.pair .bool (.pair (.int .i64) (.pair (.sl (.int .i64)) (.pair (.sl (.pair .bool (.pair (.int .i64) (.pair (.int .i64) (.sl (.pair (.int .i64) (.pair .bool (.pair (.int .i64) (.pair (.int .i64) (.pair (.arr 2 .i64) (.pair (.arr 6 .i64) (.arrS 6 (.pair .bool (.pair (.int .i64) (.int .i64))))))))))))))) (.int .i64))))))))) (w0 : Sh.wf (.pair (.int .i64) (.pair (.int .i64) (.pair (.int .i64) (.pair .bool (.pair (.int .i64) (.pair (.sl (.int .i64)) (.pair (.sl (.pair .bool (.pair (.int .i64) (.pair (.int .i64) (.sl (.pair (.int .i64) (.pair .bool (.pair (.int .i64) (.pair (.int .i64) (.pair (.arr 2 .i64) (.pair (.arr 6 .i64) (.arrS 6 (.pair .bool (.pair (.int .i64) (.int .i64))))))))))))))) (.int .i64)))))))) y0) (y1 : Sh.den (.pair (.int .i64) (.pair (.int .i64) (.pair (.int .i64) (.pair .bool (.pair (.int .i64) (.pair (.sl (.int .i64)) (.pair (.sl (.pair .bool (.pair (.int .i64) (.pair (.int .i64) (.sl (.pair (.int .i64) (.pair .bool (.pair (.int .i64) (.pair (.int .i64) (.pair (.arr 2 .i64) (.pair (.arr 6 .i64) (.arrS 6 (.pair .bool (.pair (.int .i64) (.int .i64))))))))))))))) (.int .i64))))))))) (w1 : Sh.wf (.pair (.int .i64) (.pair (.int .i64) (.pair (.int .i64) (.pair .bool (.pair (.int .i64) (.pair (.sl (.int .i64)) (.pair (.sl (.pair .bool (.pair (.int .i64) (.pair (.int .i64) (.sl (.pair (.int .i64) (.pair .bool (.pair (.int .i64) (.pair (.int .i64) (.pair (.arr 2 .i64) (.pair (.arr 6 .i64) (.arrS 6 (.pair .bool (.pair (.int .i64) (.int .i64))))))))))))))) (.int .i64)))))))) y1) : law25_SoundSame N (y0.1) (y0.2.1) (y0.2.2.1) (y0.2.2.2.1) (y0.2.2.2.2.1) (y0.2.2.2.2.2.1) (y0.2.2.2.2.2.2.1) (y0.2.2.2.2.2.2.2) (y1.1) (y1.2.1) (y1.2.2.1) (y1.2.2.2.1) (y1.2.2.2.2.1) (y1.2.2.2.2.2.1) (y1.2.2.2.2.2.2.1) (y1.2.2.2.2.2.2.2) = some true := by
 obtain ⟨M, rfl⟩ : ∃ M, N = M + 200 := ⟨N - 200, by omega⟩
 exact same_law (M := M) (by omega) _ _ _ _ _ _ _ _ _ _ _ _ _ _ (wf_cells fun r hr c hc => ⟨((w0.2.2.2.2.2.2.1.2 r hr).2.2.2.2 c hc).2.2.2.2.1.1, ((w0.2.2.2.2.2.2.1.2 r hr).2.2.2.2 c hc).2.2.2.2.2.1.1⟩)
end Go.Proofs.YtlcjjaglbcfbbaaDoor
