/- BlocksPuts: what the models answer. -/
import Derived.Test.YtbcgkdigfkapcaaDoorGQ
set_option linter.unusedVariables false
set_option linter.unusedSimpArgs false
namespace Go.Proofs.YtbcgkdigfkapcaaDoor
open Go.X

abbrev Ev := Bool × (Int × Int)
def gd (la : Bool) (r v p : Int) (last : Bool) : Prop := rgt r v ∧ la = last ∧ p + r ≤ 63
instance (la : Bool) (r v p : Int) (last : Bool) : Decidable (gd la r v p last) := by unfold gd; infer_instance
theorem lvb {N : Nat} {l : List Ev} {i : Nat} {p : Int} {xs : List Int} {la : Bool} {r v : Int} (hi : i < l.length) (hl : l.length < 4294967296) (hE : l.getD i (false, ((0 : Int), (0 : Int))) = (la, r, v)) (hp : 0 ≤ p) (hp' : p ≤ 64) :
    runs_Levels_v1_b1 N l (p, (i : Int), xs) = if gd la r v p (decide (i + 1 = l.length)) then some (.inl (p + r + 1, (i : Int) + 1, xs.set (p + r).toNat v)) else some (.inr (.inl ())) := by
  have g1 : (i : Int) < (l.length : Int) := by omega
  have g2 := inS (i := i) (by omega)
  have g3 : inK .i64 ((l.length : Int) - 1) := in64 (by omega) (by omega)
  have hla : decide ((i : Int) = (l.length : Int) - 1) = decide (i + 1 = l.length) := decide_eq_decide.2 (by omega)
  unfold runs_Levels_v1_b1 gd
  simp only [decide_eq_true g1, cond_true, Int.natCast_nonneg, g1, and_self, if_true, Int.toNat_natCast, hE, right_eq, Option.getD_some, Option.isSome_some, hla, true_and]
  generalize decide (i + 1 = l.length) = last
  by_cases hr : rgt r v
  · have hrr := hr
    obtain ⟨h1, h2, h3, h4, h5⟩ := hr
    have i1 : inK .i64 (p + r) := in64 (by omega) (by omega)
    have i2 : inK .i64 (p + r + 1) := in64 (by omega) (by omega)
    by_cases hq : la = last
    · subst hq
      by_cases h6 : p + r ≤ 63
      · have h7 : ¬ (64 : Int) ≤ p + r := by omega
        have h8 : 0 ≤ p + r := by omega
        have h9 : p + r < 64 := by omega
        have h10 : (p + r).toNat < 64 := by omega
        simp [hrr, g3, i1, i2, h6, h7, h8, h9, h10, g2]
      · have h7 : (64 : Int) ≤ p + r := by omega
        simp [hrr, g3, i1, i2, h6, h7]
    · have : (la == last) = false := by simpa using hq
      simp [hrr, g3, i1, hq, this]
  · simp [hr]
theorem rlvb {N : Nat} {l : List Ev} {i : Nat} {p : Int} {xs : List Int} {la : Bool} {r v : Int} (hi : i < l.length) (hl : l.length < 4294967296) (hE : l.getD i (false, ((0 : Int), (0 : Int))) = (la, r, v)) (hp : 0 ≤ p) (hp' : p ≤ 64) :
    ref10_Levels_b1 N l (p - 1, (i : Int), xs) = if gd la r v p (decide (i + 1 = l.length)) then some (.inl (p + r + 1 - 1, (i : Int) + 1, xs.set (p + r).toNat v)) else some (.inr (.inl ())) := by
  have g1 : (i : Int) < (l.length : Int) := by omega
  have g2 := inS (i := i) (by omega)
  have hla : decide ((i : Int) + 1 = (l.length : Int)) = decide (i + 1 = l.length) := decide_eq_decide.2 (by omega)
  unfold ref10_Levels_b1 gd
  simp only [decide_eq_true g1, cond_true, Int.natCast_nonneg, g1, and_self, if_true, Int.toNat_natCast, hE, rright_eq, Option.getD_some, Option.isSome_some, hla, true_and, g2, implies_true]
  generalize decide (i + 1 = l.length) = last
  by_cases hr : rgt r v
  · have hrr := hr
    obtain ⟨h1, h2, h3, h4, h5⟩ := hr
    have e1 : p - 1 + r + 1 = p + r := by omega
    have e2 : p + r + 1 - 1 = p + r := by omega
    have i1 : inK .i64 (p - 1 + r) := in64 (by omega) (by omega)
    have i2 : inK .i64 (p + r) := in64 (by omega) (by omega)
    by_cases hq : la = last
    · subst hq
      by_cases h6 : p + r ≤ 63
      · have h7 : ¬ (63 : Int) < p + r := by omega
        have h8 : 0 ≤ p + r := by omega
        have h9 : p + r < 64 := by omega
        have h10 : (p + r).toNat < 64 := by omega
        simp [hrr, e1, e2, i1, i2, h6, h7, h8, h9, h10]
      · have h7 : (63 : Int) < p + r := by omega
        simp [hrr, e1, i1, i2, h6, h7]
    · have : (la == last) = false := by simpa using hq
      simp [hrr, hq, this]
  · simp [hr]

def ev (l : List Ev) (i : Nat) : Ev := l.getD i (false, ((0 : Int), (0 : Int)))
def posn (f : Int) (l : List Ev) : Nat → Int
  | 0 => f
  | i + 1 => posn f l i + (ev l i).2.1 + 1
def gdAt (f : Int) (l : List Ev) (i : Nat) : Prop := gd (ev l i).1 (ev l i).2.1 (ev l i).2.2 (posn f l i) (decide (i + 1 = l.length))
instance (f : Int) (l : List Ev) (i : Nat) : Decidable (gdAt f l i) := by unfold gdAt; infer_instance
theorem posn_in {f : Int} {l : List Ev} (hf : 0 ≤ f ∧ f ≤ 1) : ∀ i, (∀ j, j < i → gdAt f l j) → 0 ≤ posn f l i ∧ posn f l i ≤ 64 := by
  intro i
  induction i with
  | zero => intro _; simp only [posn]; omega
  | succ i ih =>
    intro h
    obtain ⟨h1, h2⟩ := ih fun j hj => h j (by omega)
    obtain ⟨⟨h3, h4, _⟩, _, h5⟩ := h i (by omega)
    simp only [posn]
    omega
def okE (f : Int) (l : List Ev) : Bool := (List.range l.length).all fun i => decide (gdAt f l i)
theorem okE_iff {f : Int} {l : List Ev} : okE f l = true ↔ ∀ i, i < l.length → gdAt f l i := by
  unfold okE
  simp only [List.all_eq_true, List.mem_range, decide_eq_true_eq]
def lvs (f : Int) (l : List Ev) : Nat → List Int
  | 0 => List.replicate 64 0
  | i + 1 => (lvs f l i).set (posn f l i + (ev l i).2.1).toNat (ev l i).2.2
theorem levels_ok {N : Nat} {f : Int} {l : List Ev} (hf : f = 0 ∨ f = 1) (hl : l.length < 4294967296) (hN : l.length < N) : ∃ lv, runs_Levels_v1 N l f = some (lv, if okE f l then 0 else 7) := by
  have st : ∀ i, i < l.length → (∀ j, j < i → gdAt f l j) → runs_Levels_v1_b1 N l (posn f l i, (i : Int), lvs f l i) = if gdAt f l i then some (.inl (posn f l (i + 1), ((i + 1 : Nat) : Int), lvs f l (i + 1))) else some (.inr (.inl ())) := by
    intro i hi hg
    obtain ⟨h1, h2⟩ := posn_in (f := f) (l := l) (by omega) i hg
    exact lvb hi hl (show ev l i = ((ev l i).1, (ev l i).2.1, (ev l i).2.2) from rfl) h1 h2
  have h0 : (bif (bif decide (f ≠ 0) then decide (f ≠ 1) else false) then some ((List.replicate 64 (0 : Int)), (1 : Int)) else (iter (runs_Levels_v1_b1 N l) N (f, 0, (List.replicate 64 0))).bind fun w1 => (Sum.elim (fun v1 => some ((List.replicate 64 (0 : Int)), (7 : Int))) (fun v2 => some (v2, 0))) w1) = (iter (runs_Levels_v1_b1 N l) N (f, 0, (List.replicate 64 0))).bind fun w1 => (Sum.elim (fun v1 => some ((List.replicate 64 (0 : Int)), (7 : Int))) (fun v2 => some (v2, 0))) w1 := by
    rcases hf with rfl | rfl <;> rfl
  unfold runs_Levels_v1
  rw [h0]
  rcases first_or (fun j => ¬ gdAt f l j) l.length with h | ⟨k, h1, h2, h3⟩
  · have hg : ∀ i, i < l.length → gdAt f l i := fun i hi => Classical.not_not.mp (h i hi)
    have hit : iter (runs_Levels_v1_b1 N l) N (f, 0, (List.replicate 64 0)) = some (.inr (lvs f l l.length)) := by
      refine iter_to (fun i => (posn f l i, (i : Int), lvs f l i)) l.length rfl (fun i hi => ?_) ?_ hN
      · rw [st i hi fun j hj => hg j (by omega), if_pos (hg i hi)]
      · simp [runs_Levels_v1_b1]
    rw [hit, okE_iff.2 hg]
    exact ⟨_, rfl⟩
  · have hit : iter (runs_Levels_v1_b1 N l) N (f, 0, (List.replicate 64 0)) = some (.inl ()) := by
      refine iter_to (fun i => (posn f l i, (i : Int), lvs f l i)) k rfl (fun i hi => ?_) ?_ (by omega)
      · rw [st i (by omega) fun j hj => Classical.not_not.mp (h3 j (by omega)), if_pos (Classical.not_not.mp (h3 i hi))]
      · rw [st k h1 fun j hj => Classical.not_not.mp (h3 j hj), if_neg h2]
    have hn : okE f l = false := by
      cases hh : okE f l with
      | false => rfl
      | true => exact absurd (okE_iff.1 hh k h1) h2
    rw [hit, hn]
    exact ⟨_, rfl⟩
theorem rlevels_ok {N : Nat} {f : Int} {l : List Ev} (hf : f = 0 ∨ f = 1) (hl : l.length < 4294967296) (hN : l.length < N) : ∃ lv, ref10_Levels N l f = some (lv, if okE f l then 0 else 7) := by
  have st : ∀ i, i < l.length → (∀ j, j < i → gdAt f l j) → ref10_Levels_b1 N l (posn f l i - 1, (i : Int), lvs f l i) = if gdAt f l i then some (.inl (posn f l (i + 1) - 1, ((i + 1 : Nat) : Int), lvs f l (i + 1))) else some (.inr (.inl ())) := by
    intro i hi hg
    obtain ⟨h1, h2⟩ := posn_in (f := f) (l := l) (by omega) i hg
    exact rlvb hi hl (show ev l i = ((ev l i).1, (ev l i).2.1, (ev l i).2.2) from rfl) h1 h2
  have i1 : inK .i64 (f - 1) := in64 (by omega) (by omega)
  have h0 : (bif (bif decide (f < 0) then true else decide ((1 : Int) < f)) then true else false) = false := by
    rcases hf with rfl | rfl <;> rfl
  have h0' : (bif decide (f < 0) then true else decide ((1 : Int) < f)) = false := by
    rcases hf with rfl | rfl <;> rfl
  unfold ref10_Levels
  rw [h0', cond_false, if_pos i1]
  rcases first_or (fun j => ¬ gdAt f l j) l.length with h | ⟨k, h1, h2, h3⟩
  · have hg : ∀ i, i < l.length → gdAt f l i := fun i hi => Classical.not_not.mp (h i hi)
    have hit : iter (ref10_Levels_b1 N l) N (f - 1, 0, (List.replicate 64 0)) = some (.inr (lvs f l l.length)) := by
      refine iter_to (fun i => (posn f l i - 1, (i : Int), lvs f l i)) l.length rfl (fun i hi => ?_) ?_ hN
      · rw [st i hi fun j hj => hg j (by omega), if_pos (hg i hi)]
      · simp [ref10_Levels_b1]
    rw [hit, okE_iff.2 hg]
    exact ⟨_, rfl⟩
  · have hit : iter (ref10_Levels_b1 N l) N (f - 1, 0, (List.replicate 64 0)) = some (.inl ()) := by
      refine iter_to (fun i => (posn f l i - 1, (i : Int), lvs f l i)) k rfl (fun i hi => ?_) ?_ (by omega)
      · rw [st i (by omega) fun j hj => Classical.not_not.mp (h3 j (by omega)), if_pos (Classical.not_not.mp (h3 i hi))]
      · rw [st k h1 fun j hj => Classical.not_not.mp (h3 j hj), if_neg h2]
    have hn : okE f l = false := by
      cases hh : okE f l with
      | false => rfl
      | true => exact absurd (okE_iff.1 hh k h1) h2
    rw [hit, hn]
    exact ⟨_, rfl⟩
def mayB (b : Bool) (dc : Int) (l : List Ev) : Bool := okE (bif b then 1 else 0) l && (bif b then decide (1 ≤ dc ∧ dc ≤ 254) else decide (dc = 0))
theorem may_ok {N : Nat} {b : Bool} {dc : Int} {l : List Ev} (hl : l.length < 4294967296) (hN : l.length < N) : blocks_may_v1 N b dc l = some (mayB b dc l) := by
  unfold blocks_may_v1 mayB blocks_from
  cases b
  · obtain ⟨lv, h⟩ := levels_ok (N := N) (f := 0) (l := l) (.inl rfl) hl hN
    simp only [cond_false, Option.getD_some, Option.isSome_some, h]
    by_cases h0 : dc = 0
    · subst h0
      cases okE 0 l <;> rfl
    · simp [h0]
  · obtain ⟨lv, h⟩ := levels_ok (N := N) (f := 1) (l := l) (.inr rfl) hl hN
    simp only [cond_true, Option.getD_some, Option.isSome_some, h]
    by_cases h1 : 1 ≤ dc
    · by_cases h2 : dc ≤ 254
      · have h3 : dc ≠ 0 := by omega
        have h4 : ¬ dc < 0 := by omega
        have h5 : ¬ (255 : Int) ≤ dc := by omega
        cases okE 1 l <;> simp [h1, h2, h3, h4, h5]
      · have h3 : dc ≠ 0 := by omega
        have h4 : ¬ dc < 0 := by omega
        have h5 : (255 : Int) ≤ dc := by omega
        simp [h2, h3, h4, h5]
    · by_cases h2 : dc = 0
      · subst h2; simp
      · have h4 : dc < 0 := by omega
        simp [h1, h2, h4]
theorem rmay_ok {N : Nat} {b : Bool} {dc : Int} {l : List Ev} (hl : l.length < 4294967296) (hN : l.length < N) : ref15_May N b dc l = some (mayB b dc l) := by
  unfold ref15_May mayB ref15_from
  cases b
  · obtain ⟨lv, h⟩ := rlevels_ok (N := N) (f := 0) (l := l) (.inl rfl) hl hN
    simp only [cond_false, Option.getD_some, Option.isSome_some, h, and_self, if_true]
    cases okE 0 l <;> simp
  · obtain ⟨lv, h⟩ := rlevels_ok (N := N) (f := 1) (l := l) (.inr rfl) hl hN
    simp only [cond_true, Option.getD_some, Option.isSome_some, h, and_self, if_true]
    cases okE 1 l <;> simp

/-! ### the rows of events, one behind the other -/
def RB (M : Nat) (e : Ev) : List Bool := bitsT (bl ((tcoef_Row (M + 200) e.1 e.2.1 e.2.2).getD default).1)
theorem rb_ok {M : Nat} {e : Ev} (h : rgt e.2.1 e.2.2) : tcoef_Row (M + 200) e.1 e.2.1 e.2.2 = some (rowT (RB M e), true) ∧ ref09_Row (M + 200) e.1 e.2.1 e.2.2 = some (rowT (RB M e)) ∧ 3 ≤ (RB M e).length ∧ (RB M e).length ≤ 22 := by
  obtain ⟨B, hrow, hcase⟩ := row_bits (M := M) (l := e.1) h
  obtain ⟨x, hx1, hx2, _⟩ := row_eq (M := M) (l := e.1) h
  have hx : x = rowT B := by
    rw [hrow] at hx1
    exact (Prod.mk.inj (Option.some.inj hx1)).1.symm
  have hB : RB M e = B := by
    unfold RB
    rw [hrow, Option.getD_some, bits_rowT]
  rw [hB, hrow, hx2, hx]
  refine ⟨rfl, rfl, ?_⟩
  rcases hcase with ⟨a, a1, _, a3, _⟩ | ⟨_, a3⟩
  · have hc : chkT (M + 200) a = true := List.all_eq_true.1 (ckT M) a (List.mem_range.2 a1)
    unfold chkT at hc
    simp only [Bool.and_eq_true, decide_eq_true_eq] at hc
    rw [a3, List.length_append, digits_length]
    simp only [List.length_cons, List.length_nil]
    omega
  · rw [a3]; simp [digits_length]
def cb (M : Nat) (l : List Ev) : Nat → List Bool
  | 0 => []
  | i + 1 => cb M l i ++ RB M (ev l i)
theorem cb_len {M : Nat} {l : List Ev} : ∀ i, (∀ j, j < i → rgt (ev l j).2.1 (ev l j).2.2) → (cb M l i).length ≤ 22 * i := by
  intro i
  induction i with
  | zero => intro _; simp [cb]
  | succ i ih =>
    intro h
    have h1 := ih fun j hj => h j (by omega)
    have h2 := (rb_ok (M := M) (h i (by omega))).2.2.2
    simp only [cb, List.length_append]
    omega
def hd (b : Bool) (dc : Int) : List Bool := bif b then digits (bif decide (dc = 128) then 255 else dc) 8 else []
theorem hd_len (b : Bool) (dc : Int) : (hd b dc).length ≤ 8 := by unfold hd; cases b <;> simp [digits_length]
theorem allR {b : Bool} {dc : Int} {l : List Ev} (h : mayB b dc l = true) : (∀ i, i < l.length → rgt (ev l i).2.1 (ev l i).2.2) ∧ (b = true → 1 ≤ dc ∧ dc ≤ 254) := by
  unfold mayB at h
  simp only [Bool.and_eq_true] at h
  refine ⟨fun i hi => (okE_iff.1 h.1 i hi).1, fun hb => ?_⟩
  subst hb
  simpa using h.2
theorem dcs {dc : Int} (h : 1 ≤ dc ∧ dc ≤ 254) : 0 ≤ (bif decide (dc = 128) then 255 else dc) ∧ (bif decide (dc = 128) then 255 else dc) < 2 ^ 8 := by
  by_cases e : dc = 128
  · rw [decide_eq_true e]; show (0 : Int) ≤ 255 ∧ (255 : Int) < 2 ^ 8; decide
  · rw [decide_eq_false e]; show 0 ≤ dc ∧ dc < 2 ^ 8; omega
theorem bput_ok {M : Nat} {b : Bool} {dc : Int} {l : List Ev} {bits : List Bool} (hl : l.length ≤ 100) (hb : bits.length ≤ 1000000) : blocks_Put_v1 (M + 200) b dc l bits = some (bif mayB b dc l then (0, bits ++ hd b dc ++ cb M l l.length) else (7, bits)) := by
  unfold blocks_Put_v1
  rw [may_ok (by omega) (by omega)]
  cases hm : mayB b dc l with
  | false => rfl
  | true =>
    obtain ⟨hr, hdc⟩ := allR hm
    have hput : b = true → overspill_outbits_Writer_Put (M + 200) (bif decide (dc = 128) then 255 else dc) 8 bits = some (0, bits ++ digits (bif decide (dc = 128) then 255 else dc) 8) := fun h => by
      obtain ⟨d1, d2⟩ := dcs (hdc h)
      exact put_ok (N := M + 200) (n := 8) (by omega) (by omega) (by decide) d1 d2
    have hst : (bif b then ((overspill_outbits_Writer_Put (M + 200) (bif decide (dc = 128) then 255 else dc) 8 bits).getD default).2 else bits) = bits ++ hd b dc := by
      unfold hd
      cases b
      · simp
      · rw [hput rfl]; rfl
    have hsome : (b = true → (overspill_outbits_Writer_Put (M + 200) (bif decide (dc = 128) then 255 else dc) 8 bits).isSome = true) := fun h => by rw [hput h]; rfl
    have hhl := hd_len b dc
    have hit : iter (blocks_Put_v1_b1 (M + 200) l) (M + 200) (0, bits ++ hd b dc) = some (bits ++ hd b dc ++ cb M l l.length) := by
      refine iter_to (fun i => ((i : Int), bits ++ hd b dc ++ cb M l i)) l.length (by simp [cb]) ?_ ?_ (by omega)
      · intro i hi
        have g1 : (i : Int) < (l.length : Int) := by omega
        have g2 := inS (i := i) (by omega)
        obtain ⟨r1, _, _, r4⟩ := rb_ok (M := M) (hr i hi)
        have hcl := cb_len (M := M) (l := l) i fun j hj => hr j (by omega)
        have hadd := add_ok (N := M + 200) (s := rowT (RB M (ev l i))) (bits := bits ++ hd b dc ++ cb M l i) (by rw [rowT_size]; omega) (by rw [rowT_size]; omega) (by rw [List.length_append, List.length_append]; omega) (plain_rowT _)
        rw [bits_rowT] at hadd
        have hE : l.getD i (false, ((0 : Int), (0 : Int))) = ev l i := rfl
        simp only [blocks_Put_v1_b1, decide_eq_true g1, cond_true, Int.natCast_nonneg, g1, and_self, if_true, Int.toNat_natCast, hE, r1, Option.getD_some, Option.isSome_some, hadd, g2]
        refine congrArg (fun s => some (Sum.inl s)) (Prod.ext (Int.natCast_succ i).symm ?_)
        show bits ++ hd b dc ++ cb M l i ++ RB M (ev l i) = bits ++ hd b dc ++ cb M l (i + 1)
        simp only [cb, List.append_assoc]
      · simp [blocks_Put_v1_b1]
    simp only [Option.isSome_some, Option.getD_some, if_true, Bool.not_true, cond_false, cond_true, hst, hit, Option.bind_some]
    rw [if_pos hsome]
theorem brow_ok {M : Nat} {b : Bool} {dc : Int} {l : List Ev} (hl : l.length ≤ 100) (hm : mayB b dc l = true) : ref15_Row (M + 200) b dc l = some (rowT (hd b dc ++ cb M l l.length)) := by
  obtain ⟨hr, hdc⟩ := allR hm
  have hhl := hd_len b dc
  have hit : iter (ref15_Row_b1 (M + 200) l) (M + 200) (rowT (hd b dc), 0) = some (rowT (hd b dc ++ cb M l l.length)) := by
    refine iter_to (fun i => (rowT (hd b dc ++ cb M l i), (i : Int))) l.length (by simp [cb]) ?_ ?_ (by omega)
    · intro i hi
      have g1 : (i : Int) < (l.length : Int) := by omega
      have g2 := inS (i := i) (by omega)
      obtain ⟨_, r2, _, r4⟩ := rb_ok (M := M) (hr i hi)
      have hcl := cb_len (M := M) (l := l) i fun j hj => hr j (by omega)
      have hE : l.getD i (false, ((0 : Int), (0 : Int))) = ev l i := rfl
      have g3 : ((rowT (hd b dc ++ cb M l i)).size : Int) + ((rowT (RB M (ev l i))).size : Int) ≤ 9223372036854775807 := by rw [rowT_size, rowT_size, List.length_append]; omega
      simp only [ref15_Row_b1, decide_eq_true g1, cond_true, Int.natCast_nonneg, g1, and_self, if_true, Int.toNat_natCast, hE, r2, Option.getD_some, Option.isSome_some, g2, g3]
      refine congrArg (fun s => some (Sum.inl s)) (Prod.ext ?_ (Int.natCast_succ i).symm)
      show rowT (hd b dc ++ cb M l i) ++ rowT (RB M (ev l i)) = rowT (hd b dc ++ cb M l (i + 1))
      rw [rowT_append]; simp only [cb, List.append_assoc]
    · simp [ref15_Row_b1]
  unfold ref15_Row
  dsimp only [joinK]
  cases b with
  | false =>
    have : (⟨#[]⟩ : ByteArray) = rowT (hd false dc) := rfl
    rw [cond_false, this, hit]; rfl
  | true =>
    obtain ⟨d1, d2⟩ := dcs (hdc rfl)
    have := rrow_ok (N := M + 200) (n := 8) (by omega) (by decide) d1
    have h8 : ref02_Row (M + 200) (bif decide (dc = 128) then 255 else dc) 8 = some (rowT (hd true dc)) := this
    simp only [cond_true, h8, Option.isSome_some, if_true, Option.getD_some, hit, Option.bind_some]
theorem lives15 (M : Nat) : law15_lives (M + 200) = some true := by kernel_rfl
theorem puts_law {M : Nat} (hM : 100000 ≤ M) (b : Bool) (dc : Int) (l : List Ev) (a : ByteArray) : law15_BlocksPuts (M + 200) b dc l a = some true := by
  unfold law15_BlocksPuts
  rw [lives15]
  by_cases h1 : (100 : Int) < (l.length : Int)
  · simp only [decide_eq_true h1, cond_true, Bool.not_true, Option.isSome_some, Option.getD_some, if_true]
    rw [if_pos (by intro h; cases h)]
  · by_cases h2 : (100 : Int) < (a.size : Int)
    · simp only [decide_eq_false h1, decide_eq_true h2, cond_true, cond_false, Bool.not_true, Option.isSome_some, Option.getD_some, if_true]
      rw [if_pos (by intro h; cases h)]
    · rw [plain_ok (N := M + 200) (by omega) (by omega)]
      simp only [decide_eq_false h1, decide_eq_false h2, cond_false, Option.isSome_some, Option.getD_some, implies_true, if_true]
      cases hp : plainL (bl a) with
      | false => rfl
      | true =>
        have hal : (bitsT (bl a)).length = a.size := by rw [bitsT_length, bl_length]
        have hadd := add_ok (N := M + 200) (s := a) (bits := []) (by omega) (by omega) (by simp) hp
        rw [List.nil_append] at hadd
        simp only [Bool.not_true, cond_false, outbits_New, Option.isSome_some, Option.getD_some, if_true, hadd, bput_ok (M := M) (b := b) (dc := dc) (l := l) (bits := bitsT (bl a)) (by omega) (by omega), blocks_Put_v2, ne_eq, not_true, decide_false, rmay_ok (N := M + 200) (b := b) (dc := dc) (l := l) (by omega) (by omega)]
        cases hm : mayB b dc l with
        | false =>
          have hlen := len_ok (N := M + 200) (bits := bitsT (bl a)) (by omega)
          have e : ((bitsT (bl a)).length : Int) = (a.size : Int) := by omega
          dsimp only [joinK]
          simp only [cond_false, Bool.not_false, cond_true, decide_true, hlen, Option.isSome_some, Option.getD_some, implies_true, if_true, decide_eq_true e]
        | true =>
          obtain ⟨hr, hdc⟩ := allR hm
          have hhl := hd_len b dc
          have hcl := cb_len (M := M) (l := l) l.length hr
          let T := bitsT (bl a) ++ hd b dc ++ cb M l l.length
          have hTl : T.length ≤ 3000 := by show (bitsT (bl a) ++ hd b dc ++ cb M l l.length).length ≤ 3000; rw [List.length_append, List.length_append]; omega
          have hlen := len_ok (N := M + 200) (bits := T) (by omega)
          have htxt := text_ok (N := M + 200) (bits := T) (by omega)
          have hrow := brow_ok (M := M) (by omega) hm
          have hcat : a ++ rowT (hd b dc ++ cb M l l.length) = rowT T := by
            show _ = rowT (bitsT (bl a) ++ hd b dc ++ cb M l l.length)
            rw [List.append_assoc, ← rowT_append (bitsT (bl a)), rowT_bits hp]
          have hpk : ref02_Pack (M + 200) (rowT T) = some (bytesOf (packB T)) := by
            have := pack_ok (N := M + 200) (s := rowT T) (by rw [rowT_size]; omega) (by rw [rowT_size]; omega) (plain_rowT _)
            rw [this, bits_rowT]
          have e : (T.length : Int) = ((rowT T).size : Int) := by rw [rowT_size]
          have z : (a.size : Int) + ((rowT (hd b dc ++ cb M l l.length)).size : Int) ≤ 9223372036854775807 := by rw [rowT_size, List.length_append]; omega
          dsimp only [joinK]
          simp only [cond_false, Bool.not_true, cond_true, hrow, Option.isSome_some, Option.getD_some, z, and_self, if_true, decide_true, hcat]
          show (if _ then _ else _) = _
          have hT : bitsT (bl a) ++ hd b dc ++ cb M l l.length = T := rfl
          simp only [hT, hlen, htxt, hpk, Option.isSome_some, Option.getD_some, implies_true, if_true, cond_true, decide_true, decide_eq_true e, and_self, true_and]
theorem law_blocksPuts (N : Nat) (hN : 1099511627776 ≤ N) (y0 : Sh.den (.pair .bool (.pair (.int .i64) (.sl (.pair .bool (.pair (.int .i64) (.int .i64))))))) (w0 : Sh.wf (.pair .bool (.pair (.int .i64) (.sl (.pair .bool (.pair (.int .i64) (.int .i64)))))) y0) (y1 : Sh.den .str) (w1 : Sh.wf .str y1) : law15_BlocksPuts N (y0.1) (y0.2.1) (y0.2.2) y1 = some true := by
  obtain ⟨M, rfl⟩ : ∃ M, N = M + 200 := ⟨N - 200, by omega⟩
  exact puts_law (by omega) _ _ _ _
end Go.Proofs.YtbcgkdigfkapcaaDoor
