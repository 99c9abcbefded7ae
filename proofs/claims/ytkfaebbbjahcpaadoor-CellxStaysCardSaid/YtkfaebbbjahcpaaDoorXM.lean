/- What the printed models answer: plain laws. -/
import Derived.Test.YtkfaebbbjahcpaaDoorXI
set_option linter.unusedVariables false
set_option linter.unusedSimpArgs false
namespace Go.Proofs.YtkfaebbbjahcpaaDoor
open Go.X

theorem getD_set_ne' {xs : List Int} {p j : Nat} {v : Int} (h : p ≠ j) : (xs.set p v).getD j 0 = xs.getD j 0 := by
 rw [List.getD_eq_getElem?_getD, List.getD_eq_getElem?_getD, List.getElem?_set, if_neg h]
theorem getD_set_eq' {xs : List Int} {p : Nat} {v : Int} (h : p < xs.length) : (xs.set p v).getD p 0 = v := by
 rw [List.getD_eq_getElem?_getD, List.getElem?_set, if_pos rfl, if_pos h]; rfl
theorem lvs_len (f : Int) (l : List Ev) : ∀ i, (lvs f l i).length = 64
 | 0 => by simp [lvs]
 | i + 1 => by simp only [lvs, List.length_set]; exact lvs_len f l i
section
variable {f : Int} {l : List Ev}
theorem posn_up (hg : ∀ j, j < l.length → gdAt f l j) : ∀ i, i < l.length → posn f l i ≤ posn f l i + (ev l i).2.1 ∧ posn f l (i + 1) = posn f l i + (ev l i).2.1 + 1 := fun i hi => by
 obtain ⟨⟨h3, _⟩, _, _⟩ := hg i hi
 exact ⟨by omega, rfl⟩
theorem lvs_hi (hf : f = 0 ∨ f = 1) (hg : ∀ j, j < l.length → gdAt f l j) : ∀ i, i ≤ l.length → ∀ j : Nat, posn f l i ≤ (j : Int) → (lvs f l i).getD j 0 = 0 := by
 intro i
 induction i with
 | zero =>
  intro _ j _
  simp only [lvs]
  rw [rep_tab]
  by_cases h : j < 64
  ·
   rw [tab_get _ _ h]
  ·
   rw [tab_out _ _ (by omega)]
 | succ i ih =>
  intro hi j hj
  obtain ⟨p0, _⟩ := posn_in (f := f) (l := l) (by omega) i fun j hj => hg j (by omega)
  obtain ⟨u1, u2⟩ := posn_up hg i (by omega)
  rw [u2] at hj
  simp only [lvs]
  rw [getD_set_ne' (by omega)]
  exact ih (by omega) j (by omega)
theorem lvs_lo (hf : f = 0 ∨ f = 1) (hg : ∀ j, j < l.length → gdAt f l j) (i : Nat) (j : Nat) (hj : (j : Int) < posn f l i) : ∀ d, i + d ≤ l.length → (lvs f l (i + d)).getD j 0 = (lvs f l i).getD j 0 ∧ (j : Int) < posn f l (i + d) := by
 intro d
 induction d with
 | zero => intro _; exact ⟨rfl, hj⟩
 | succ d ih =>
  intro hd
  obtain ⟨h1, h2⟩ := ih (by omega)
  obtain ⟨p0, _⟩ := posn_in (f := f) (l := l) (by omega) (i + d) fun j hj => hg j (by omega)
  obtain ⟨u1, u2⟩ := posn_up hg (i + d) (by omega)
  refine ⟨?_, by rw [← Nat.add_assoc, u2]; omega⟩
  rw [← Nat.add_assoc]
  simp only [lvs]
  rw [getD_set_ne' (by omega)]
  exact h1
theorem lvs_bnd (hg : ∀ j, j < l.length → gdAt f l j) : ∀ i, i ≤ l.length → ∀ j, -127 ≤ (lvs f l i).getD j 0 ∧ (lvs f l i).getD j 0 ≤ 127 := by
 intro i
 induction i with
 | zero =>
  intro _ j
  simp only [lvs]
  rw [rep_tab]
  by_cases h : j < 64
  ·
   rw [tab_get _ _ h]; decide
  ·
   rw [tab_out _ _ (by omega)]; decide
 | succ i ih =>
  intro hi j
  obtain ⟨⟨_, _, _, h4, h5⟩, _, _⟩ := hg i (by omega)
  simp only [lvs]
  by_cases hp : (posn f l i + (ev l i).2.1).toNat = j
  ·
   by_cases hj : j < 64
   ·
    rw [hp, getD_set_eq' (by rw [lvs_len]; exact hj)]; exact ⟨h4, h5⟩
   ·
    rw [List.getD_eq_getElem?_getD, List.getElem?_eq_none (by rw [List.length_set, lvs_len]; omega)]; decide
  ·
   rw [getD_set_ne' hp]; exact ih (by omega) j
theorem acc_run {L : Nat → Int} {a : Nat} (ha : f ≤ (a : Int)) : ∀ d, (∀ j, a ≤ j → j < a + d → L j = 0) → acc f L (a + d) = ((acc f L a).1 + (d : Int), (acc f L a).2) := by
 intro d
 induction d with
 | zero => intro _; show acc f L a = ((acc f L a).1 + 0, (acc f L a).2); rw [Int.add_zero]
 | succ d ih =>
  intro h
  have h1 := ih fun j h1 h2 => h j h1 (by omega)
  have h2 := h (a + d) (by omega) (by omega)
  rw [← Nat.add_assoc]
  simp only [acc]
  rw [if_neg (by omega), if_pos h2, h1]
  refine Prod.ext ?_ rfl
  show (acc f L a).1 + (d : Int) + 1 = (acc f L a).1 + ((d + 1 : Nat) : Int)
  omega
/-- Events of the levels of events. -/
theorem evts_levels (hf : f = 0 ∨ f = 1) (h : okE f l = true) : evts f (fun k => (lvs f l l.length).getD k 0) = (l, 0) := by
 have hg := okE_iff.1 h
 obtain ⟨L, hL⟩ : ∃ L : Nat → Int, L = fun k => (lvs f l l.length).getD k 0 := ⟨_, rfl⟩
 rw [← hL]
 have hLv : ∀ k, L k = (lvs f l l.length).getD k 0 := fun k => by rw [hL]
 have low : ∀ i, i ≤ l.length → ∀ j : Nat, (j : Int) < posn f l i → L j = (lvs f l i).getD j 0 := fun i hi j hj => by
  have := (lvs_lo hf hg i j hj (l.length - i) (by omega)).1
  rw [show i + (l.length - i) = l.length by omega] at this
  rw [hLv, this]
 have main : ∀ i, i ≤ l.length → acc f L (posn f l i).toNat = (0, (l.take i).map fun e => (false, e.2)) := by
  intro i
  induction i with
  | zero =>
   intro _
   show acc f L f.toNat = (0, [])
   rcases hf with rfl | rfl
   ·
    rfl
   ·
    show (if ((0 : Nat) : Int) < 1 then acc 1 L 0 else _) = _
    rw [if_pos (by omega)]; rfl
  | succ i ih =>
   intro hi
   have ih := ih (by omega)
   obtain ⟨p0, p1⟩ := posn_in (f := f) (l := l) (by omega) i fun j hj => hg j (by omega)
   obtain ⟨u1, u2⟩ := posn_up hg i (by omega)
   obtain ⟨⟨h3, h3', h4, h5, h6⟩, h7, h8⟩ := hg i (by omega)
   have hfp : f ≤ posn f l i := by
    have : ∀ m, m ≤ i → f ≤ posn f l m := fun m => by
     induction m with
     | zero => intro _; exact Int.le_refl f
     | succ m ihm =>
      intro hm
      have := ihm (by omega)
      obtain ⟨v1, v2⟩ := posn_up hg m (by omega)
      rw [v2]; omega
    exact this i (Nat.le_refl i)
   obtain ⟨rn, hrn⟩ : ∃ rn : Nat, (ev l i).2.1 = (rn : Int) := ⟨(ev l i).2.1.toNat, by omega⟩
   rw [hrn] at u1 u2 h8
   have hz : ∀ j, (posn f l i).toNat ≤ j → j < (posn f l i).toNat + rn → L j = 0 := fun j j1 j2 => by
    rw [low (i + 1) hi j (by rw [u2]; omega)]
    simp only [lvs]
    rw [getD_set_ne' (by rw [hrn]; omega)]
    exact lvs_hi hf hg i (by omega) j (by omega)
   have hv : L ((posn f l i).toNat + rn) = (ev l i).2.2 := by
    rw [low (i + 1) hi _ (by rw [u2]; omega)]
    simp only [lvs]
    rw [hrn, show (posn f l i + (rn : Int)).toNat = (posn f l i).toNat + rn by omega]
    exact getD_set_eq' (by rw [lvs_len]; omega)
   have hr := acc_run (f := f) (L := L) (a := (posn f l i).toNat) (by omega) rn hz
   rw [u2, show (posn f l i + (rn : Int) + 1).toNat = (posn f l i).toNat + rn + 1 by omega]
   simp only [acc]
   rw [if_neg (by omega), if_neg (by rw [hv]; exact h4), hr, ih, hv]
   refine Prod.ext rfl ?_
   show (List.take i l).map _ ++ [(false, ((0 : Int) + (rn : Int), (ev l i).2.2))] = _
   have he : l[i]? = some (ev l i) := by
    unfold ev
    rw [List.getD_eq_getElem?_getD, List.getElem?_eq_getElem (by omega)]; rfl
   rw [List.take_add_one, he, List.map_append, Int.zero_add, ← hrn]
   rfl
 obtain ⟨p0, p1⟩ := posn_in (f := f) (l := l) (by omega) l.length hg
 have hfp : f ≤ posn f l l.length := by
  have : ∀ m, m ≤ l.length → f ≤ posn f l m := fun m => by
   induction m with
   | zero => intro _; exact Int.le_refl f
   | succ m ihm =>
    intro hm
    have := ihm (by omega)
    obtain ⟨v1, v2⟩ := posn_up hg m (by omega)
    rw [v2]; omega
  exact this _ (Nat.le_refl _)
 have hend := acc_run (f := f) (L := L) (a := (posn f l l.length).toNat) (by omega) (64 - (posn f l l.length).toNat) fun j j1 j2 => by
  rw [hLv]
  exact lvs_hi hf hg l.length (Nat.le_refl _) j (by omega)
 rw [show (posn f l l.length).toNat + (64 - (posn f l l.length).toNat) = 64 by omega, main l.length (Nat.le_refl _), List.take_length] at hend
 have hall : (List.range 64).all (lok f L) = true := List.all_eq_true.2 fun j _ => by
  unfold lok
  rw [decide_eq_true (show -127 ≤ L j ∧ L j ≤ 127 by rw [hLv]; exact lvs_bnd hg _ (Nat.le_refl _) j), Bool.or_true]
 unfold evts
 rw [hall, cond_true, hend]
 refine Prod.ext ?_ rfl
 show setLast (l.map fun e => (false, e.2)) = l
 have hfe : ∀ j, (ev (l.map fun e => (false, e.2)) j).1 = false := fun j => by
  unfold ev
  rw [List.getD_eq_getElem?_getD, List.getElem?_map]
  cases l[j]? <;> rfl
 rw [setLast_tab hfe, List.length_map]
 refine Eq.trans (tab_ext fun k hk => ?_) (tab_of (false, ((0 : Int), (0 : Int))) (xs := l) rfl).symm
 obtain ⟨_, h7, _⟩ := hg k hk
 have e2 : (ev (l.map fun e => (false, e.2)) k).2 = (ev l k).2 := by
  unfold ev
  rw [List.getD_eq_getElem?_getD, List.getD_eq_getElem?_getD, List.getElem?_map]
  cases l[k]? <;> rfl
 refine Prod.ext ?_ e2
 show decide ((k : Int) + 1 = (l.length : Int)) = (ev l k).1
 rw [h7]
 exact decide_eq_decide.2 (by omega)
theorem lvs_dc (hf : f = 0 ∨ f = 1) (hg : ∀ j, j < l.length → gdAt f l j) {j : Nat} (hj : (j : Int) < f) : (lvs f l l.length).getD j 0 = 0 := by
 have := (lvs_lo hf hg 0 j hj l.length (by omega)).1
 rw [Nat.zero_add] at this
 rw [this]
 simp only [lvs]
 rw [rep_tab]
 by_cases h : j < 64
 ·
  rw [tab_get _ _ h]
 ·
  rw [tab_out _ _ (by omega)]
end
theorem lvT_get {k : Int} {evs : Evs} {b : Nat} (hb : b < 6) {i : Nat} (hi : i < 64) : (lvT k evs).getD (64 * b + i) 0 = LVc k evs b i := by
 unfold lvT
 rw [tab_get _ _ (by omega), show (64 * b + i) / 64 = b by omega, show (64 * b + i) % 64 = i by omega]
theorem LVc_pl (k : Int) (evs : Evs) (b : Nat) {i : Nat} (hi : i < 64) : LVc k evs b (pl i) = (lvs (fB k) (evs.getD b []) (evs.getD b []).length).getD i 0 := by
 unfold LVc fB
 rw [(pl_facts i hi).2.2]
theorem evts_lvT {k : Int} {evs : Evs} {b : Nat} (hb : b < 6) (ho : okE (fB k) (evs.getD b []) = true) : evts (fB k) (bL (lvT k evs) b) = (evs.getD b [], 0) := by
 rw [← evts_levels (fB_or k) ho]
 refine evts_ext fun i hi => ?_
 unfold bL
 rw [lvT_get hb (pl_lt hi), LVc_pl k evs b hi]
theorem bok_lvT {k : Int} {evs : Evs} {b : Nat} (hb : b < 6) (ho : okE (fB k) (evs.getD b []) = true) : bok k (lvT k evs) b = true := by
 unfold bok
 rw [evts_lvT hb ho]
 have e : (lvT k evs).getD (64 * b) 0 = LVc k evs b 0 := lvT_get (i := 0) hb (by omega)
 cases hk : intraB k
 ·
  rfl
 ·
  have h0 : LVc k evs b 0 = 0 := by
   have p0 : pl 0 = 0 := by decide
   have := LVc_pl k evs b (i := 0) (by omega)
   rw [p0] at this
   rw [this]
   exact lvs_dc (fB_or k) (okE_iff.1 ho) (by unfold fB; rw [hk]; decide)
  rw [e, h0]; rfl
theorem fcT_still {k : Int} {evs : Evs} (ho : ∀ b, b < 6 → okE (fB k) (evs.getD b []) = true) (q : Int) : fcT k evs (List.replicate 384 0) q q = lvT k evs := by
 unfold fcT lvT
 refine tab_ext fun j hj => ?_
 have hb : j / 64 < 6 := by omega
 have hz : isZ (fun i => bif intraB k then 0 else (fun i => (List.replicate 384 (0 : Int)).getD (64 * (j / 64) + i) 0) i) = true := isZ_iff.2 fun i hi => by
  cases intraB k
  ·
   show (List.replicate 384 (0 : Int)).getD (64 * (j / 64) + i) 0 = 0
   rw [rep_tab, tab_get _ _ (by omega)]
  ·
   rfl
 unfold fb
 rw [if_pos ⟨rfl, hz⟩]
 have hbd : ∀ i, i < 64 → -127 ≤ LVc k evs (j / 64) i ∧ LVc k evs (j / 64) i ≤ 127 := fun i hi => by
  unfold LVc
  exact lvs_bnd (okE_iff.1 (ho (j / 64) hb)) _ (Nat.le_refl _) _
 unfold zk levs
 cases hc : (intraB k && j % 64 == 0)
 ·
  rw [cond_false]
  have := hbd (j % 64) (by omega)
  exact clip_id this.1 this.2
 ·
  rw [cond_true]
  simp only [Bool.and_eq_true, beq_iff_eq] at hc
  have p0 : pl 0 = 0 := by decide
  have := LVc_pl k evs (j / 64) (i := 0) (by omega)
  rw [p0] at this
  rw [hc.2, this, lvs_dc (fB_or k) (okE_iff.1 (ho (j / 64) hb)) (by unfold fB; rw [hc.1]; decide)]
theorem lvT_none {k : Int} {evs : Evs} (h : ∀ b, b < 6 → evs.getD b [] = []) : lvT k evs = List.replicate 384 0 := by
 unfold lvT
 rw [rep_tab]
 refine tab_ext fun j hj => ?_
 unfold LVc
 rw [h (j / 64) (by omega)]
 simp only [lvs, List.length_nil]
 rw [rep_tab, tab_get _ _ (lp_facts _ (by omega)).1]
theorem lvT_some {k : Int} {evs : Evs} (ho : ∀ b, b < 6 → okE (fB k) (evs.getD b []) = true) (h : lvT k evs = List.replicate 384 0) : ∀ b, b < 6 → evs.getD b [] = [] := fun b hb => by
 have h1 := evts_lvT hb (ho b hb)
 have h2 : evts (fB k) (bL (lvT k evs) b) = ([], 0) := by
  have h3 := evts_levels (f := fB k) (l := []) (fB_or k) rfl
  rw [← h3]
  refine evts_ext fun i hi => ?_
  unfold bL
  rw [h, rep_tab, tab_get _ _ (by have := pl_lt hi; omega)]
  simp only [lvs, List.length_nil]
  rw [rep_tab, tab_get _ _ hi]
 rw [h1] at h2
 exact (Prod.mk.inj h2).1
theorem evself_ok {N : Nat} {a : List Ev} (hN : a.length < N) (hl : a.length < 4294967296) : slices_Equal_overspill_api_Event_overspill_api_Event N a a = some true := by
 unfold slices_Equal_overspill_api_Event_overspill_api_Event
 have h1 : decide ((a.length : Int) ≠ (a.length : Int)) = false := decide_eq_false (fun h => h rfl)
 rw [h1, cond_false]
 have hit : iter (slices_Equal_overspill_api_Event_overspill_api_Event_b1 N a a) N 0 = some (.inr ()) := by
  refine iter_to (fun i => (i : Int)) a.length rfl (fun i hi => ?_) ?_ hN
  ·
   have g1 : (i : Int) < (a.length : Int) := by omega
   have g4 := inS (i := i) (by omega)
   simp only [slices_Equal_overspill_api_Event_overspill_api_Event_b1, g1, decide_true, cond_true, cond_false, Int.natCast_nonneg, Int.toNat_natCast, beq_self_eq_true, Bool.and_self, Bool.not_true, and_self, if_true, g4]
   rw [Int.natCast_succ]
  ·
   simp only [slices_Equal_overspill_api_Event_overspill_api_Event_b1, Int.lt_irrefl, decide_false, cond_false]
 rw [hit]
 rfl
theorem csame_ok {N : Nat} (hN : 1000 < N) (st : Int) (sk : Bool) (k s : Int) (mv dc : List Int) {evs evs' : Evs} (he : ∀ b, b < 6 → evs.getD b [] = evs'.getD b []) (h : fewP evs) : cellin_Same N st sk k s mv dc evs st sk k s mv dc evs' = some true := by
 unfold cellin_Same
 simp only [decide_true, beq_self_eq_true, cond_true]
 have hit : iter (cellin_Same_b1 N evs evs') N (true, 0) = some true := by
  refine iter_to (fun i => (true, (i : Int))) 6 rfl (fun i hi => ?_) ?_ (by omega)
  ·
   obtain ⟨g1, g2, g3⟩ := in5 hi
   have g4 := inS (i := i) (by omega)
   have hl := h i hi
   have hs := evself_ok (N := N) (a := evs.getD i []) (by omega) (by omega)
   rw [he i hi] at hs
   simp only [cellin_Same_b1, g1, g2, hi, decide_true, cond_true, Int.toNat_natCast, he i hi, hs, Option.isSome_some, Option.getD_some, implies_true, and_self, if_true, g4]
   rw [Int.natCast_succ]
  ·
   show cellin_Same_b1 N evs evs' (true, (6 : Int)) = _
   simp only [cellin_Same_b1, Int.lt_irrefl, decide_false, cond_false]
 rw [hit]
 rfl
def dres (f g : Int) (ps zs : List (List Int)) (n : Int) (mv : List Int) : List Int × Int := bif rightF f ps && (sRight g zs && decide (f = g)) then (bif hasF f n then bif mayF f n mv then (driftT f ps zs n mv, 0) else (List.replicate 384 0, 8) else (List.replicate 384 0, 1)) else (List.replicate 384 0, 1)
theorem dres_len (f g : Int) (ps zs : List (List Int)) (n : Int) (mv : List Int) : (dres f g ps zs n mv).1.length = 384 := by
 unfold dres
 cases (rightF f ps && (sRight g zs && decide (f = g)))
 ·
  exact List.length_replicate
 ·
  cases hasF f n
  ·
   exact List.length_replicate
  ·
   cases mayF f n mv
   ·
    exact List.length_replicate
   ·
    exact tab_len _ _
def mkR (f g : Int) (ps zs : List (List Int)) (n : Int) (st : Int) (sk : Bool) (k s : Int) (mv dc : List Int) (evs : Evs) (p q step : Int) : CellR :=
 bif rightB true st sk k s mv dc evs then (bif intraB k then okR k mv dc (fcT k evs (List.replicate 384 0) p q) step else bif decide ((dres f g ps zs n mv).2 ≠ 0) then Zc (dres f g ps zs n mv).2 else okR k mv dc (fcT k evs (dres f g ps zs n mv).1 p q) step) else Zc 12
theorem cmake_ok {M : Nat} (hM : 40000 ≤ M) (f g : Int) {ps zs : List (List Int)} (n : Int) (st : Int) (sk : Bool) (k s : Int) {mv dc : List Int} {evs : Evs} (p q step : Int) (hm : mv.length = 2) (hd : dc.length = 6) (h : fewP evs) (hp : ∀ k, k < 3 → byteP (ps.getD k [])) (hl : ∀ k, k < 3 → (ps.getD k []).length ≤ 30000) (hz : ∀ k, k < 3 → (zs.getD k []).length ≤ 30000) :
  cellx_Make (M + 200) f ps g zs n st sk k s mv dc evs p q step = some (mkR f g ps zs n st sk k s mv dc evs p q step) := by
 unfold cellx_Make mkR
 have c4 := sdrift_ok (N := M + 200) (by omega) f g n mv hp hl hz
 rw [show (bif rightF f ps && (sRight g zs && decide (f = g)) then (bif hasF f n then bif mayF f n mv then (driftT f ps zs n mv, (0 : Int)) else (List.replicate 384 0, 8) else (List.replicate 384 0, 1)) else (List.replicate 384 0, 1)) = dres f g ps zs n mv from rfl] at c4
 have dl := dres_len f g ps zs n mv
 generalize dres f g ps zs n mv = d at *
 obtain ⟨Z, hZ⟩ : ∃ Z, Z = List.replicate 384 (0 : Int) := ⟨_, rfl⟩
 have hZl : Z.length = 384 := by rw [hZ]; exact List.length_replicate
 rw [res_levels st sk k s hm hd h, ← hZ, c4]
 cases hr : rightB true st sk k s mv dc evs
 ·
  rfl
 ·
  have e0 : decide ((0 : Int) ≠ 0) = false := rfl
  have ff : ∀ xs : List Int, xs.length = 384 → feed_Cell (M + 200) st sk k s mv dc evs xs p q = some (fcT k evs xs p q, 0) := fun xs hx => by
   rw [fcell_ok (by omega) st sk k s p q hm hd hx h, hr, cond_true]
  have pp : ∀ xs : List Int, xs.length = 384 → pattern_Cell (M + 200) st sk k s mv dc evs xs step = some (okR k mv dc xs step) := fun xs hx => by
   rw [pcell_ok st sk k s step hm hd h hx, hr, cond_true]
  have fl : ∀ xs : List Int, (fcT k evs xs p q).length = 384 := fun xs => tab_len _ _
  have hk : (bif decide (k ≠ 3) then decide (k ≠ 4) else false) = !intraB k := by
   unfold intraB
   by_cases h3 : k = 3
   ·
    subst h3; rfl
   ·
    by_cases h4 : k = 4
    ·
     subst h4; rfl
    ·
     simp [h3, h4]
  have jk' : ∀ (F : List Int → Option CellR) (G : (List Int → Option CellR) → Option CellR), joinK F G = G F := fun _ _ => rfl
  simp only [cond_true, cond_false, Option.isSome_some, Option.getD_some, if_true, e0, hk, jk', ff Z hZl, ff d.1 dl, pp _ (fl _)]
  cases intraB k
  ·
   cases decide (d.2 ≠ 0)
   ·
    rfl
   ·
    rfl
  ·
   rfl
theorem light_ok {N : Nat} (hN : 10 < N) (f : Int) (ps : List (List Int)) (g : Int) (zs : List (List Int)) (st : Int) (sk : Bool) (k s : Int) (mv dc : List Int) (evs : Evs) : ∃ b, law38_light N f ps g zs st sk k s mv dc evs = some b ∧ (b = true → fewP evs ∧ (∀ k, k < 3 → (ps.getD k []).length ≤ 30000) ∧ ∀ k, k < 3 → (zs.getD k []).length ≤ 30000) := by
 unfold law38_light
 obtain ⟨hy, hn⟩ := iter_try (body := law38_light_b1 N evs) (fun i => (i : Int)) 6 N (fun i => decide ((evs.getD i []).length ≤ 100)) (fun _ => .inl ()) (.inr ()) (s0 := 0) rfl
  (fun i hi hP => by
   obtain ⟨g1, g2, g3⟩ := in5 hi
   have g4 := inS (i := i) (by omega)
   simp only [decide_eq_true_eq] at hP
   have : ¬ (100 : Int) < ((evs.getD i []).length : Int) := by omega
   simp only [law38_light_b1, g1, g2, hi, decide_true, cond_true, Int.toNat_natCast, and_self, if_true, g4, this, decide_false, cond_false]
   rw [Int.natCast_succ])
  (fun i hi hP => by
   obtain ⟨g1, g2, g3⟩ := in5 hi
   simp only [decide_eq_false_iff_not] at hP
   have : (100 : Int) < ((evs.getD i []).length : Int) := by omega
   simp only [law38_light_b1, g1, g2, hi, decide_true, cond_true, Int.toNat_natCast, and_self, if_true, this])
  (by simp [law38_light_b1]) (by omega)
 cases hall : (List.range 6).all (fun i => decide ((evs.getD i []).length ≤ 100)) with
 | false =>
  obtain ⟨j, _, _, hj⟩ := hn hall
  rw [hj]
  exact ⟨false, rfl, fun h => by cases h⟩
 | true =>
  have hf : fewP evs := fun i hi => by simpa using List.all_eq_true.1 hall i (List.mem_range.2 hi)
  obtain ⟨b1, h1, l1⟩ := few_len17 (N := N) (f := f) (zs := ps)
  obtain ⟨b2, h2, l2⟩ := few_len (N := N) (f := g) (zs := zs)
  rw [hy hall, h1, h2]
  refine ⟨bif b1 then b2 else false, ?_, fun hb => ?_⟩
  ·
   simp only [Option.bind_some, Sum.elim_inr, Option.isSome_some, Option.getD_some, implies_true, and_self, if_true]
  ·
   cases b1
   ·
    cases hb
   ·
    cases b2
    ·
     cases hb
    ·
     exact ⟨hf, l1 rfl, l2 rfl⟩
theorem hv_flat {f n : Int} {mv : List Int} {c : Int} (hA : fA f ≠ 0) (hm : mayF f n mv = true) {b i : Nat} (hb : b < 6) (hi : i < 64) : (prT f (flatP f c) n mv).getD (b * 64 + i) 0 = c := by
 obtain ⟨e1, e2⟩ := blk_div (b := b) hi
 unfold prT
 rw [tab_get _ _ (by omega), e1, e2]
 unfold prF
 obtain ⟨x0, x1, y0, y1⟩ := in_plane hm hb hi
 have hk3 : pk b < 3 := by unfold pk; omega
 rw [flat_get _ _ hk3]
 generalize xb f n mv b + 2 * ((i % 8 : Nat) : Int) = x at *
 generalize yb f n mv b + 2 * ((i / 8 : Nat) : Int) = y at *
 have at_ : ∀ u v : Int, 0 ≤ u → u < wid f (pk b) → 0 ≤ v → v < hig f (pk b) → (tab (areaN f (pk b)) fun _ => c).getD (v * wid f (pk b) + u).toNat 0 = c := fun u v u0 u1 v0 v1 => by
  have := idx_lt u0 u1 v0 v1
  rw [tab_get _ _ (by unfold areaN; omega)]
 unfold hv
 rw [at_ (x / 2) (y / 2) (by omega) (by omega) (by omega) (by omega), at_ (x / 2 + x % 2) (y / 2) (by omega) (by omega) (by omega) (by omega), at_ (x / 2) (y / 2 + y % 2) (by omega) (by omega) (by omega) (by omega), at_ (x / 2 + x % 2) (y / 2 + y % 2) (by omega) (by omega) (by omega) (by omega)]
 omega
theorem drift10 : driftT 6 (flatP 6 100) (diffT (flatP 6 110) (flatP 6 100)) 0 [0, 0] = List.replicate 384 10 := by
 have hA : fA 6 ≠ 0 := by decide
 have hm : mayF 6 0 [0, 0] = true := may_still (by decide)
 have ha : ∀ k, k < 3 → (addT (flatP 6 100) (diffT (flatP 6 110) (flatP 6 100))).getD k [] = (flatP 6 110).getD k [] := fun k hk => by
  rw [add_get _ _ hk, diff_get _ _ hk, flat_get _ _ hk, flat_get _ _ hk, tab_len, tab_len]
  exact tab_ext fun i hi => by simp only [tab_get _ _ hi]; rfl
 have hp : prT 6 (addT (flatP 6 100) (diffT (flatP 6 110) (flatP 6 100))) 0 [0, 0] = prT 6 (flatP 6 110) 0 [0, 0] := by
  unfold prT prF
  exact tab_ext fun j hj => by rw [ha (pk (j / 64)) (by unfold pk; omega)]
 unfold driftT
 rw [rep_tab, hp]
 refine tab_ext fun j hj => ?_
 have e : j = j / 64 * 64 + j % 64 := by omega
 rw [e, hv_flat hA hm (by omega) (by omega), hv_flat hA hm (by omega) (by omega)]
 rfl
theorem fb_ext {L L' R R' : Nat → Int} (hL : ∀ i, i < 64 → L i = L' i) (hR : ∀ i, i < 64 → R i = R' i) (p q : Int) (b : Bool) {k : Nat} (hk : k < 64) : fb L R p q b k = fb L' R' p q b k := by
 have h1 := feed_eq (N := 1000) (by omega) L R p q b
 have h2 := feed_eq (N := 1000) (by omega) L' R' p q b
 rw [tab_ext hL, tab_ext hR, h2] at h1
 exact (tab_inj (Option.some.inj h1) k hk).symm
theorem fb10 : ∀ k, k < 64 → fb (fun _ => 0) (fun _ => 10) 5 5 false k = if k = 0 then 7 else 0 := by decide +kernel
theorem fc10 : fcT 0 (List.replicate 6 []) (List.replicate 384 10) 5 5 = tab 384 fun j => if j % 64 = 0 then 7 else 0 := by
 unfold fcT
 refine tab_ext fun j hj => ?_
 show fb _ _ 5 5 false _ = _
 have h1 : ∀ b, b < 6 → (List.replicate 6 ([] : List Ev)).getD b [] = [] := fun b hb => by rw [rep_tab, tab_get _ _ hb]
 rw [fb_ext (L' := fun _ => 0) (R' := fun _ => 10) (fun i hi => ?_) (fun i hi => ?_) 5 5 false (show j % 64 < 64 by omega), fb10 _ (by omega)]
 ·
  unfold LVc
  rw [h1 (j / 64) (by omega)]
  simp only [lvs, List.length_nil]
  rw [rep_tab, tab_get _ _ (lp_facts _ hi).1]
 ·
  show (List.replicate 384 (10 : Int)).getD (64 * (j / 64) + i) 0 = 10
  rw [rep_tab, tab_get _ _ (by omega)]
theorem ok10 : okR 0 (List.replicate 2 0) (List.replicate 6 0) (tab 384 fun j => if j % 64 = 0 then 7 else 0) 0 = (0, false, 0, 0, List.replicate 2 0, List.replicate 6 0, List.replicate 6 [(true, ((0 : Int), (7 : Int)))], 0) := by kernel_rfl
theorem lives38 {M : Nat} (hM : 50000 ≤ M) : law38_lives (M + 200) = some true := by
 have hA0 : fA 6 ≠ 0 := by decide
 have hA : decide (fA 6 ≠ 0) = true := decide_eq_true hA0
 have e100 : clip 100 0 255 = 100 := rfl
 have e110 : clip 110 0 255 = 110 := rfl
 have a0 : areaN 6 0 = 1024 := by decide
 have a1 : areaN 6 1 = 256 := by decide
 have a2 : areaN 6 2 = 256 := by decide
 have hl : ∀ s : Int, ∀ k, k < 3 → ((flatP 6 s).getD k []).length ≤ 30000 := fun s k hk => by
  rw [flat_get _ _ hk, tab_len]
  rcases (show k = 0 ∨ k = 1 ∨ k = 2 by omega) with rfl | rfl | rfl <;> omega
 have hb1 := flat_byte (f := 6) (s := 100) (by decide) (by decide)
 have hb2 := flat_byte (f := 6) (s := 110) (by decide) (by decide)
 have hd : ∀ k, k < 3 → ((diffT (flatP 6 110) (flatP 6 100)).getD k []).length ≤ 30000 := fun k hk => by
  rw [diff_get _ _ hk, tab_len]; exact hl 110 k hk
 have r1 := flat_right (s := 100) hA0
 have r2 := flat_right (s := 110) hA0
 have hs := diff_right r2 hb2 hb1
 have t : decide ((6 : Int) = 6) = true := rfl
 have hdr : dres 6 6 (flatP 6 100) (diffT (flatP 6 110) (flatP 6 100)) 0 (List.replicate 2 0) = (List.replicate 384 10, 0) := by
  unfold dres
  have hh : hasF 6 0 = true := by decide
  have hm : mayF 6 0 [0, 0] = true := may_still hh
  rw [show (List.replicate 2 (0 : Int)) = [0, 0] from rfl, r1, hs, t, hh, hm, drift10]
  rfl
 have hr : rightB true 0 true 0 0 (List.replicate 2 0) (List.replicate 6 0) (List.replicate 6 []) = true := by decide +kernel
 have hmk : mkR 6 6 (flatP 6 100) (diffT (flatP 6 110) (flatP 6 100)) 0 0 true 0 0 (List.replicate 2 0) (List.replicate 6 0) (List.replicate 6 []) 5 5 0 = (0, false, 0, 0, List.replicate 2 0, List.replicate 6 0, List.replicate 6 [(true, ((0 : Int), (7 : Int)))], 0) := by
  unfold mkR
  have hi : intraB 0 = false := rfl
  have d0 : decide ((0 : Int) ≠ 0) = false := rfl
  rw [hr, hdr, hi]
  simp only [cond_true, cond_false, d0]
  rw [fc10, ok10]
 have few : fewP (List.replicate 6 []) := fun i hi => by rw [rep_tab, tab_get _ _ hi]; exact Nat.zero_le _
 have c3 := sdiff_ok (N := M + 200) (by omega) 6 6 hb2 hb1 (hl 110)
 rw [r1, r2, t] at c3
 have c4 := cmake_ok (M := M) (by omega) 6 6 0 0 true 0 0 5 5 0 (mv := List.replicate 2 0) (dc := List.replicate 6 0) (evs := List.replicate 6 []) (by rfl) (by rfl) few hb1 (hl 100) hd
 rw [hmk] at c4
 unfold law38_lives
 simp only [pnew_ok (N := M + 200) (by omega), hA, cond_true, e100, e110, Option.isSome_some, Option.getD_some, if_true]
 rw [c3]
 generalize diffT (flatP 6 110) (flatP 6 100) = D at *
 simp only [Bool.and_self, cond_true, Option.isSome_some, Option.getD_some, if_true, c4]
 rfl
theorem bare_loop {N : Nat} (hN : 10 < N) (evs : Evs) (b0 : Bool) : iter (law38_CellxStays_b1 N evs) N (b0, 0) = some (b0 && (List.range 6).all fun j => decide (((evs.getD j []).length : Int) = 0)) := by
 refine iter_to (fun i => (b0 && (List.range i).all (fun j => decide (((evs.getD j []).length : Int) = 0)), (i : Int))) 6 ?_ ?_ ?_ (by omega)
 ·
  simp
 ·
  intro i hi
  obtain ⟨g1, g2, g3⟩ := in5 hi
  have g4 := inS (i := i) (by omega)
  simp only [law38_CellxStays_b1, g1, g2, hi, decide_true, cond_true, Int.toNat_natCast, implies_true, and_self, if_true, g4]
  refine congrArg (fun z => some (Sum.inl z)) ?_
  rw [List.range_succ, List.all_append, Int.natCast_succ]
  generalize (List.range i).all _ = r
  have e : ([i].all fun j => decide (((evs.getD j []).length : Int) = 0)) = decide (((evs.getD i []).length : Int) = 0) := by simp only [List.all_cons, List.all_nil, Bool.and_true]
  rw [e]
  cases b0 <;> cases r <;> rfl
 ·
  show law38_CellxStays_b1 N evs (_, (6 : Int)) = _
  simp only [law38_CellxStays_b1, Int.lt_irrefl, decide_false, cond_false]
theorem right_kind {st : Int} {sk : Bool} {k s : Int} {mv dc : List Int} {evs : Evs} (h : rightB true st sk k s mv dc evs = true) : k = 0 ∨ k = 1 ∨ k = 3 ∨ k = 4 := by
 unfold rightB at h
 simp only [Bool.and_eq_true] at h
 obtain ⟨_, h⟩ := h
 cases sk
 ·
  simp only [cond_false, Bool.and_eq_true] at h
  have h1 := h.1
  unfold kindB intraB at h1
  by_cases k3 : k = 3
  ·
   exact .inr (.inr (.inl k3))
  by_cases k4 : k = 4
  ·
   exact .inr (.inr (.inr k4))
  by_cases k0 : k = 0
  ·
   exact .inl k0
  by_cases k1 : k = 1
  ·
   exact .inr (.inl k1)
  simp [k3, k4, k0, k1] at h1
 ·
  simp only [cond_true, Bool.and_eq_true, decide_eq_true_eq] at h
  exact .inl h.2.1
theorem right_skip {st k s : Int} {mv dc : List Int} {evs : Evs} (h : rightB true st true k s mv dc evs = true) : k = 0 ∧ mv = [0, 0] ∧ ∀ i, i < 6 → evs.getD i [] = [] := by
 unfold rightB at h
 simp only [Bool.and_eq_true, cond_true, decide_eq_true_eq] at h
 exact ⟨h.2.2.1, h.2.2.2.2.1, h.2.2.2.2.2.2⟩
theorem allE {evs : Evs} : ((List.range 6).all fun j => decide (((evs.getD j []).length : Int) = 0)) = true ↔ ∀ b, b < 6 → evs.getD b [] = [] := by
 simp only [List.all_eq_true, List.mem_range, decide_eq_true_eq]
 constructor
 ·
  intro h b hb
  exact List.eq_nil_of_length_eq_zero (by have := h b hb; omega)
 ·
  intro h b hb
  rw [h b hb]; rfl
theorem x1_skip {st : Int} {sk : Bool} {k s : Int} {mv dc : List Int} {evs : Evs} (hm : mv.length = 2) (hr : rightB true st sk k s mv dc evs = true) :
  (bif (bif ((bif decide (k = 0) then true else decide (k = 1)) && (List.range 6).all fun j => decide (((evs.getD j []).length : Int) = 0)) then decide (mv.getD 0 0 = 0) else false) then decide (mv.getD 1 0 = 0) else false) = skipB k 0 (lvT k evs) mv := by
 have ho : ∀ b, b < 6 → okE (fB k) (evs.getD b []) = true := right_okE hr
 have hall : ((List.range 6).all fun j => decide (((evs.getD j []).length : Int) = 0)) = decide (lvT k evs = List.replicate 384 0) := by
  by_cases hz : lvT k evs = List.replicate 384 0
  ·
   rw [decide_eq_true hz]; exact allE.2 (lvT_some ho hz)
  ·
   rw [decide_eq_false hz]
   cases hh : (List.range 6).all fun j => decide (((evs.getD j []).length : Int) = 0) with
   | false => rfl
   | true => exact absurd (lvT_none (allE.1 hh)) hz
 rw [hall]
 unfold skipB
 obtain ⟨a, b, rfl⟩ := len2 hm
 have hmv : decide ([a, b] = [0, 0]) = (decide (a = 0) && decide (b = 0)) := by
  by_cases h1 : a = 0 <;> by_cases h2 : b = 0 <;> simp [h1, h2]
 rw [hmv]
 show (bif (bif _ && decide (lvT k evs = List.replicate 384 0) then decide (a = 0) else false) then decide (b = 0) else false) = _
 generalize decide (lvT k evs = List.replicate 384 0) = z
 generalize decide (a = 0) = u
 generalize decide (b = 0) = v
 rcases right_kind hr with rfl | rfl | rfl | rfl <;> cases z <;> cases u <;> cases v <;> rfl
theorem stays_law {M : Nat} (hM : 3000000 ≤ M) (f : Int) {ps : List (List Int)} (st : Int) (sk : Bool) (k s : Int) {mv dc : List Int} {evs : Evs} (two : List Int) (hm : mv.length = 2) (hd : dc.length = 6) (hp : ∀ k, k < 3 → byteP (ps.getD k [])) : law38_CellxStays (M + 200) f ps st sk k s mv dc evs two = some true := by
 unfold law38_CellxStays
 rw [lives38 (M := M) (by omega)]
 cases hG : (bif decide ((3 : Int) ≤ f) then decide (f ≤ 5) else false)
 case true => rfl
 have zs := csame_ok (N := M + 200) (by omega) 0 false 0 0 (List.replicate 2 0) (List.replicate 6 0) (evs := List.replicate 6 []) (evs' := List.replicate 6 []) (fun _ _ => rfl) (fun i hi => by rw [rep_tab, tab_get _ _ hi]; exact Nat.zero_le _)
 have d0 : decide ((0 : Int) ≠ 0) = false := rfl
 have d1 : decide ((1 : Int) ≠ 0) = true := rfl
 simp only [cond_false, snew_ok (N := M + 200) (by omega)]
 cases hA : decide (fA f ≠ 0)
 ·
  obtain ⟨b, hb, _⟩ := light_ok (N := M + 200) (by omega) f ps 0 (List.replicate 3 []) st sk k s mv dc evs
  simp only [cond_false, cond_true, Option.isSome_some, Option.getD_some, hb, d1, implies_true, if_true]
 ·
  obtain ⟨b, hb, hb2⟩ := light_ok (N := M + 200) (by omega) f ps f (flatP f 0) st sk k s mv dc evs
  simp only [cond_false, cond_true, Option.isSome_some, Option.getD_some, hb, d0, implies_true, if_true]
  cases b
  ·
   rfl
  ·
   obtain ⟨few, hl, hz⟩ := hb2 rfl
   have c5 := cmake_ok (M := M) (by omega) f f (two.getD 0 0) st sk k s (two.getD 1 0) (two.getD 1 0) 0 hm hd few hp hl hz
   have hcase : (∃ e, e ≠ 0 ∧ mkR f f ps (flatP f 0) (two.getD 0 0) st sk k s mv dc evs (two.getD 1 0) (two.getD 1 0) 0 = Zc e) ∨ (rightB true st sk k s mv dc evs = true ∧ mkR f f ps (flatP f 0) (two.getD 0 0) st sk k s mv dc evs (two.getD 1 0) (two.getD 1 0) 0 = okR k mv dc (lvT k evs) 0) := by
    unfold mkR
    cases hr : rightB true st sk k s mv dc evs
    ·
     exact .inl ⟨12, by decide, rfl⟩
    ·
     have ho : ∀ b, b < 6 → okE (fB k) (evs.getD b []) = true := right_okE hr
     have hst := fcT_still ho (two.getD 1 0)
     rw [cond_true]
     cases hi : intraB k
     ·
      have hdz : (dres f f ps (flatP f 0) (two.getD 0 0) mv) = (List.replicate 384 0, 0) ∨ ∃ e, e ≠ 0 ∧ (dres f f ps (flatP f 0) (two.getD 0 0) mv).2 = e := by
       unfold dres
       rw [drift_zero hp]
       cases (rightF f ps && (sRight f (flatP f 0) && decide (f = f)))
       ·
        exact .inr ⟨1, by decide, rfl⟩
       ·
        cases hasF f (two.getD 0 0)
        ·
         exact .inr ⟨1, by decide, rfl⟩
        ·
         cases mayF f (two.getD 0 0) mv
         ·
          exact .inr ⟨8, by decide, rfl⟩
         ·
          exact .inl rfl
      rcases hdz with hdz | ⟨e, he, hdz⟩
      ·
       refine .inr ⟨rfl, ?_⟩
       rw [hdz]
       show okR k mv dc (fcT k evs (List.replicate 384 0) _ _) 0 = _
       rw [hst]
      ·
       refine .inl ⟨e, he, ?_⟩
       rw [hdz, decide_eq_true he]; rfl
     ·
      refine .inr ⟨rfl, ?_⟩
      rw [cond_true, hst]
   rcases hcase with ⟨e, he, hmk⟩ | ⟨hr, hmk⟩
   ·
    rw [hmk] at c5
    have de : decide (e ≠ 0) = true := decide_eq_true he
    unfold Zc at c5
    simp only [Bool.not_true, cond_false, cond_true, c5, Option.isSome_some, Option.getD_some, de, zs, implies_true, and_self, if_true]
   ·
    have ho : ∀ b, b < 6 → okE (fB k) (evs.getD b []) = true := right_okE hr
    have hok : okR k mv dc (lvT k evs) 0 = bif skipB k 0 (lvT k evs) mv then (0, true, 0, 0, List.replicate 2 0, List.replicate 6 0, List.replicate 6 [], 0) else (0, false, kindR k 0, 0, mv, dc, pevs k (lvT k evs), 0) := by
     have hall : (List.range 6).all (bok k (lvT k evs)) = true := List.all_eq_true.2 fun b hb => bok_lvT (List.mem_range.1 hb) (ho b (List.mem_range.1 hb))
     unfold okR
     rw [hall]
     rfl
    rw [hmk, hok] at c5
    have hx := x1_skip hm hr
    have hbl := bare_loop (N := M + 200) (by omega) evs (bif decide (k = 0) then true else decide (k = 1))
    have hin : ((bif decide (k = 1) then true else decide (k = 4)) = true → inK .i64 (k - 1)) := fun _ => by
     rcases right_kind hr with rfl | rfl | rfl | rfl <;> decide
    have hkk : (bif (bif decide (k = 1) then true else decide (k = 4)) then k - 1 else k) = kindR k 0 := by
     rcases right_kind hr with rfl | rfl | rfl | rfl <;> rfl
    cases hsk : skipB k 0 (lvT k evs) mv
    ·
     rw [hsk] at c5 hx
     have hskf : sk = false := by
      cases sk with
      | false => rfl
      | true =>
       obtain ⟨k0, m0, e0⟩ := right_skip hr
       have hi : intraB 0 = false := rfl
       unfold skipB at hsk
       rw [lvT_none e0, k0, m0, hi, decide_eq_true rfl, decide_eq_true rfl, decide_eq_true rfl] at hsk
       cases hsk
     subst hskf
     have hpe : ∀ b, b < 6 → (pevs k (lvT k evs)).getD b [] = evs.getD b [] := fun b hb => by
      unfold pevs
      rw [tab_get _ _ hb, evts_lvT hb (ho b hb)]
     have c8 := csame_ok (N := M + 200) (by omega) 0 false (kindR k 0) 0 mv dc hpe (fun b hb => by rw [hpe b hb]; exact few b hb)
     simp only [cond_false] at c5
     simp only [Bool.not_true, cond_false, cond_true, c5, Option.isSome_some, Option.getD_some, d0, hbl, Option.bind_some, hx, hkk, c8, implies_true, and_self, if_true]
     rw [if_pos hin]
    ·
     rw [hsk] at c5 hx
     have c8 := csame_ok (N := M + 200) (by omega) 0 true 0 0 (List.replicate 2 0) (List.replicate 6 0) (evs := List.replicate 6 []) (evs' := List.replicate 6 []) (fun _ _ => rfl) (fun i hi => by rw [rep_tab, tab_get _ _ hi]; exact Nat.zero_le _)
     simp only [cond_true] at c5
     simp only [Bool.not_true, cond_false, cond_true, c5, Option.isSome_some, Option.getD_some, d0, hbl, Option.bind_some, hx, c8, implies_true, and_self, if_true]
     rw [if_pos hin]
theorem law_cellxStays (N : Nat) (hN : 1099511627776 ≤ N) (y0 : Sh.den (.pair (.int .i64) (.arrS 3 (.int .u8)))) (w0 : Sh.wf (.pair (.int .i64) (.arrS 3 (.int .u8))) y0) (y1 : Sh.den (.pair (.int .i64) (.pair .bool (.pair (.int .i64) (.pair (.int .i64) (.pair (.arr 2 .i64) (.pair (.arr 6 .i64) (.arrS 6 (.pair .bool (.pair (.int .i64) (.int .i64))))))))))) (w1 : Sh.wf (.pair (.int .i64) (.pair .bool (.pair (.int .i64) (.pair (.int .i64) (.pair (.arr 2 .i64) (.pair (.arr 6 .i64) (.arrS 6 (.pair .bool (.pair (.int .i64) (.int .i64)))))))))) y1) (y2 : Sh.den (.arr 2 .i64)) (w2 : Sh.wf (.arr 2 .i64) y2) : law38_CellxStays N (y0.1) (y0.2) (y1.1) (y1.2.1) (y1.2.2.1) (y1.2.2.2.1) (y1.2.2.2.2.1) (y1.2.2.2.2.2.1) (y1.2.2.2.2.2.2) y2 = some true := by
 obtain ⟨f, ps⟩ := y0
 obtain ⟨_, _, hps⟩ := w0
 obtain ⟨st, sk, k, s, mv, dc, evs⟩ := y1
 obtain ⟨_, _, _, _, ⟨hm, _⟩, ⟨hd, _⟩, _⟩ := w1
 obtain ⟨M, rfl⟩ : ∃ M, N = M + 200 := ⟨N - 200, by omega⟩
 exact stays_law (by omega) f st sk k s y2 hm hd (fun k _ => bytes_of3 (fun xs hx x hi => (hps xs hx).2 x hi) k)
end Go.Proofs.YtkfaebbbjahcpaaDoor
