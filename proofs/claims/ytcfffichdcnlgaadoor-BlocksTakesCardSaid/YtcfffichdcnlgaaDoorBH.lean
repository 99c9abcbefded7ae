/- What the printed models answer: plain laws. -/
import Derived.Test.YtcfffichdcnlgaaDoorBG
set_option linter.unusedVariables false
set_option linter.unusedSimpArgs false
namespace Go.Proofs.YtcfffichdcnlgaaDoor
open Go.X

theorem evrd {M : Nat} {s : ByteArray} (hs : s.size ≤ 1000) : ∀ (d q : Nat) (l : List Ev) (a : Int) (N1 N2 : Nat), q ≤ 8 * s.size → 8 * s.size - q ≤ d → d < N1 → d + 1 < N2 → (l.length : Int) ≤ a → a ≤ 64 →
    (∃ (e : Int) (q' : Nat), e ≠ 0 ∧ q' ≤ 8 * s.size ∧ iter (blocks_events_b1 (M + 200)) N1 (a, l.length, s, (q : Int), l) = some (.inl (e, s, (q' : Int))) ∧ iter (ref15_Take_b1 (M + 200) (rowT (unpack (bl s)))) N2 (true, (q : Int), l.length, a - 1, l) = some (.inl e)) ∨
    (∃ (l' : List Ev) (to : Nat), to ≤ 8 * s.size ∧ l'.length ≤ 64 ∧ iter (blocks_events_b1 (M + 200)) N1 (a, l.length, s, (q : Int), l) = some (.inr (l'.length, l', s, (to : Int))) ∧ iter (ref15_Take_b1 (M + 200) (rowT (unpack (bl s)))) N2 (true, (q : Int), l.length, a - 1, l) = some (.inr ((to : Int), l'.length, l'))) := by
  intro d
  induction d with
  | zero =>
    intro q l a N1 N2 hq hd h1 h2 hl ha
    obtain ⟨n1, rfl⟩ : ∃ n, N1 = n + 1 := ⟨N1 - 1, by omega⟩
    obtain ⟨n2, rfl⟩ : ∃ n, N2 = n + 1 := ⟨N2 - 1, by omega⟩
    obtain ⟨b, r, v, e, to, t1, t2, t3, t4, t5⟩ := take_eq (M := M) (s := s) (p := q) hs hq
    by_cases he : e = 0
    · have := (t4 he).1; omega
    · have de : decide (e ≠ 0) = true := decide_eq_true he
      refine .inl ⟨e, to, he, t3, iter_done ?_, iter_done ?_⟩
      · simp only [blocks_events_b1, t1, Option.isSome_some, Option.getD_some, if_true, de, cond_true]
      · simp only [ref15_Take_b1, t2, Option.isSome_some, Option.getD_some, if_true, de, cond_true]
  | succ d ih =>
    intro q l a N1 N2 hq hd h1 h2 hl ha
    obtain ⟨n1, rfl⟩ : ∃ n, N1 = n + 1 := ⟨N1 - 1, by omega⟩
    obtain ⟨n2, rfl⟩ : ∃ n, N2 = n + 1 := ⟨N2 - 1, by omega⟩
    obtain ⟨b, r, v, e, to, t1, t2, t3, t4, t5⟩ := take_eq (M := M) (s := s) (p := q) hs hq
    by_cases he : e = 0
    · subst he
      obtain ⟨u1, u2, u3⟩ := t4 rfl
      have d0 : decide ((0 : Int) ≠ 0) = false := rfl
      have i1 : inK .i64 (r + 1) := in64 (by omega) (by omega)
      have i2 : inK .i64 (a + (r + 1)) := in64 (by omega) (by omega)
      have i3 : inK .i64 (a - 1 + r) := in64 (by omega) (by omega)
      have i4 : inK .i64 (a - 1 + r + 1) := in64 (by omega) (by omega)
      have i4' : inK .i64 (a + (r + 1) - 1) := in64 (by omega) (by omega)
      by_cases h64 : (64 : Int) < a + (r + 1)
      · refine .inl ⟨7, to, by decide, t3, iter_done ?_, iter_done ?_⟩
        · simp only [blocks_events_b1, t1, Option.isSome_some, Option.getD_some, if_true, d0, cond_false, i1, i2, and_self, decide_eq_true h64, cond_true]
        · simp only [ref15_Take_b1, t2, Option.isSome_some, Option.getD_some, if_true, d0, cond_false, i3, i4, and_self, decide_eq_true (show (63 : Int) < a - 1 + r + 1 by omega), cond_true]
      · have l1 : (l.length + 1) * 24 ≤ 140737488355328 := by omega
        have l2 : l.length + 1 ≤ 9223372036854775807 := by omega
        have ea : a - 1 + r + 1 = a + (r + 1) - 1 := by omega
        have hlen : (l ++ [(b, r, v)]).length = l.length + 1 := by simp
        have step2 : ref15_Take_b1 (M + 200) (rowT (unpack (bl s))) (true, (q : Int), l.length, a - 1, l) = some (.inl ((!b), (to : Int), (l ++ [(b, r, v)]).length, a + (r + 1) - 1, l ++ [(b, r, v)])) := by
          simp only [ref15_Take_b1, t2, Option.isSome_some, Option.getD_some, if_true, d0, cond_false, i3, i4, i4', and_self, decide_eq_false (show ¬ (63 : Int) < a - 1 + r + 1 by omega), decide_eq_false (show ¬ (63 : Int) < a + (r + 1) - 1 by omega), cond_true, l1, l2, hlen, ea]
        cases b
        · have step1 : blocks_events_b1 (M + 200) (a, l.length, s, (q : Int), l) = some (.inl (a + (r + 1), (l ++ [(false, r, v)]).length, s, (to : Int), l ++ [(false, r, v)])) := by
            simp only [blocks_events_b1, t1, Option.isSome_some, Option.getD_some, if_true, d0, cond_false, i1, i2, and_self, decide_eq_false h64, l1, l2, hlen]
          rw [iter_next step1, iter_next step2]
          exact ih to (l ++ [(false, r, v)]) (a + (r + 1)) n1 n2 t3 (by omega) (by omega) (by omega) (by rw [hlen]; omega) (by omega)
        · refine .inr ⟨l ++ [(true, r, v)], to, t3, by rw [hlen]; omega, iter_done ?_, ?_⟩
          · simp only [blocks_events_b1, t1, Option.isSome_some, Option.getD_some, if_true, d0, cond_false, i1, i2, and_self, decide_eq_false h64, l1, l2, hlen, cond_true]
          · rw [iter_next step2]
            obtain ⟨n3, rfl⟩ : ∃ n, n2 = n + 1 := ⟨n2 - 1, by omega⟩
            refine iter_done ?_
            simp only [ref15_Take_b1, Bool.not_true, cond_false]
    · have de : decide (e ≠ 0) = true := decide_eq_true he
      refine .inl ⟨e, to, he, t3, iter_done ?_, iter_done ?_⟩
      · simp only [blocks_events_b1, t1, Option.isSome_some, Option.getD_some, if_true, de, cond_true]
      · simp only [ref15_Take_b1, t2, Option.isSome_some, Option.getD_some, if_true, de, cond_true]
/-- The events of a block, and what the page says they are. -/
theorem events_eq {M : Nat} (hM : 100000 ≤ M) {s : ByteArray} (hs : s.size ≤ 1000) {f : Int} (hf : 0 ≤ f ∧ f ≤ 1) {q : Nat} (hq : q ≤ 8 * s.size) :
    (∃ (e : Int) (q' : Nat), e ≠ 0 ∧ q' ≤ 8 * s.size ∧ blocks_events (M + 200) f s (q : Int) = some ([], e, s, (q' : Int)) ∧ iter (ref15_Take_b1 (M + 200) (rowT (unpack (bl s)))) (M + 200) (true, (q : Int), 0, f - 1, []) = some (.inl e)) ∨
    (∃ (l' : List Ev) (to : Nat), to ≤ 8 * s.size ∧ l'.length ≤ 64 ∧ blocks_events (M + 200) f s (q : Int) = some (l', 0, s, (to : Int)) ∧ iter (ref15_Take_b1 (M + 200) (rowT (unpack (bl s)))) (M + 200) (true, (q : Int), 0, f - 1, []) = some (.inr ((to : Int), l'.length, l'))) := by
  rcases evrd (M := M) hs (8 * s.size) q [] f (M + 200) (M + 200) hq (by omega) (by omega) (by omega) (by show (0 : Int) ≤ f; exact hf.1) (by omega) with ⟨e, q', h1, h2, h3, h4⟩ | ⟨l', to, h1, h2, h3, h4⟩
  · refine .inl ⟨e, q', h1, h2, ?_, h4⟩
    have h3' : iter (blocks_events_b1 (M + 200)) (M + 200) (f, 0, s, (q : Int), []) = some (.inl (e, s, (q' : Int))) := h3
    unfold blocks_events
    rw [h3']
    rfl
  · refine .inr ⟨l', to, h1, h2, ?_, h4⟩
    have h3' : iter (blocks_events_b1 (M + 200)) (M + 200) (f, 0, s, (q : Int), []) = some (.inr (l'.length, l', s, (to : Int))) := h3
    unfold blocks_events
    rw [h3']
    simp only [Option.bind_some, Sum.elim_inr, if_true]
theorem seek_ok (N : Nat) {s : ByteArray} {p : Nat} (hs : s.size ≤ 1000) (hp : p ≤ 8 * s.size) (q : Int) : overspill_inbits_Reader_Seek N (p : Int) s q = some (0, s, (p : Int)) := by
  have b1 : (bif decide ((p : Int) < 0) then true else decide (((8 : Int) * (s.size : Int)) < (p : Int))) = false := by
    rw [decide_eq_false (show ¬ (p : Int) < 0 by omega), decide_eq_false (show ¬ (8 : Int) * (s.size : Int) < (p : Int) by omega)]; rfl
  have b2 : ((!(decide ((p : Int) < 0))) = true → inK .i64 ((8 : Int) * (s.size : Int))) := fun _ => in64 (by omega) (by omega)
  unfold overspill_inbits_Reader_Seek
  simp only [b1, cond_false]
  rw [if_pos b2]
def firstV (v : Int) : Int := bif decide (v = 255) then 128 else v
theorem first_eq {M : Nat} {s : ByteArray} {p : Nat} (hs : s.size ≤ 1000) (hp : p ≤ 8 * s.size) {v : Int} (hv : v = numB (((unpack (bl s)).drop p).take 8)) :
    blocks_first (M + 200) s (p : Int) = some (bif decide (8 * s.size < p + 8) then (0, 2, s, (p : Int)) else bif (bif decide (v = 0) then true else decide (v = 128)) then (0, 7, s, ((p + 8 : Nat) : Int)) else (firstV v, 0, s, ((p + 8 : Nat) : Int))) := by
  have d0 : decide ((0 : Int) ≠ 0) = false := rfl
  unfold blocks_first
  by_cases h : 8 * s.size < p + 8
  · have ht := take_end (N := M + 200) (s := s) (p := p) (n := 8) (by omega) (by decide) (by omega) h
    rw [show ((8 : Nat) : Int) = 8 from rfl] at ht
    have d2 : decide ((2 : Int) ≠ 0) = true := rfl
    simp only [ht, Option.isSome_some, Option.getD_some, if_true, d2, cond_true, decide_eq_true h]
  · have ht := take_ok (N := M + 200) (by omega) (s := s) (p := p) (n := 8) (by omega) (by decide) (by omega)
    rw [← hv, show ((8 : Nat) : Int) = 8 from rfl] at ht
    have hx : (bif decide (v = 0) then decide (v = 0) else decide (v = 128)) = (bif decide (v = 0) then true else decide (v = 128)) := by cases decide (v = 0) <;> rfl
    simp only [ht, Option.isSome_some, Option.getD_some, if_true, d0, cond_false, decide_eq_false h, hx]
    cases (bif decide (v = 0) then true else decide (v = 128))
    · unfold firstV
      cases decide (v = 255) <;> rfl
    · rfl
theorem btake_eq {M : Nat} (hM : 100000 ≤ M) {s : ByteArray} {p : Nat} (hs : s.size ≤ 1000) (hp : p ≤ 8 * s.size) (i c : Bool) : ∃ (dc : Int) (l : List Ev) (e : Int) (to : Nat), blocks_Take (M + 200) i c s (p : Int) = some (dc, l, e, s, (to : Int)) ∧ ref15_Take (M + 200) (rowT (unpack (bl s))) (p : Int) i c = some (dc, l, (to : Int), e) ∧ l.length ≤ 64 := by
  have hUl : (unpack (bl s)).length = 8 * s.size := by rw [unpack_length, bl_length]
  have hsz : ((rowT (unpack (bl s))).size : Int) = 8 * (s.size : Int) := by rw [rowT_size, hUl]; omega
  have jk2 : ∀ {α β : Type} (F : α → Option β) (G : (α → Option β) → Option β), joinK F G = G F := fun _ _ => rfl
  have d0 : decide ((0 : Int) ≠ 0) = false := rfl
  have d00 : decide ((0 : Int) = 0) = true := rfl
  have i1 : inK .i64 ((1 : Int) - 1) := by decide
  have i2 : inK .i64 ((0 : Int) - 1) := by decide
  have stop : ∀ (q n : Int) , iter (ref15_Take_b1 (M + 200) (rowT (unpack (bl s)))) (M + 200) (false, q, 0, n, []) = some (.inr (q, 0, [])) := fun q n => by
    refine iter_done (N := M + 199) ?_
    simp only [ref15_Take_b1, cond_false]
  obtain ⟨v, hv⟩ : ∃ v, v = numB (((unpack (bl s)).drop p).take 8) := ⟨_, rfl⟩
  have hfi := first_eq (M := M) hs hp hv
  cases i
  · -- not intra
    have hb : blocks_from (M + 200) false = some 0 := rfl
    have hr : ref15_from (M + 200) false = some 0 := rfl
    cases c
    · refine ⟨0, [], 0, p, ?_, ?_, Nat.zero_le _⟩
      · unfold blocks_Take overspill_inbits_Reader_At
        simp only [Option.isSome_some, Option.getD_some, if_true, cond_false, Bool.false_eq_true, false_implies, d00, decide_true, cond_true, and_self, d0]
      · unfold ref15_Take
        simp only [jk2, cond_false, hr, Option.isSome_some, Option.getD_some, true_and, i2, if_true, stop, Option.bind_some, Sum.elim_inr, List.length_nil]
    · rcases events_eq hM hs (f := 0) (by decide) hp with ⟨e, q', h1, h2, h3, h4⟩ | ⟨l', to, h1, h2, h3, h4⟩
      · have de : decide (e ≠ 0) = true := decide_eq_true h1
        refine ⟨0, [], e, p, ?_, ?_, Nat.zero_le _⟩
        · unfold blocks_Take overspill_inbits_Reader_At
          simp only [Option.isSome_some, Option.getD_some, if_true, cond_false, Bool.false_eq_true, false_implies, d00, decide_true, cond_true, hb, h3, implies_true, and_self, de, seek_ok (M + 200) hs hp]
        · unfold ref15_Take
          simp only [jk2, cond_false, hr, Option.isSome_some, Option.getD_some, true_and, i2, if_true, h4, Option.bind_some, Sum.elim_inl]
      · refine ⟨0, l', 0, to, ?_, ?_, h2⟩
        · unfold blocks_Take overspill_inbits_Reader_At
          simp only [Option.isSome_some, Option.getD_some, if_true, cond_false, Bool.false_eq_true, false_implies, d00, decide_true, cond_true, hb, h3, implies_true, and_self, d0]
        · unfold ref15_Take
          simp only [jk2, cond_false, hr, Option.isSome_some, Option.getD_some, true_and, i2, if_true, h4, Option.bind_some, Sum.elim_inr]
  · -- intra
    have hb : blocks_from (M + 200) true = some 1 := rfl
    have hr : ref15_from (M + 200) true = some 1 := rfl
    have j1 : inK .i64 (8 * (s.size : Int) - (p : Int)) := in64 (by omega) (by omega)
    by_cases h8 : 8 * s.size < p + 8
    · rw [decide_eq_true h8, cond_true] at hfi
      have d2 : decide ((2 : Int) ≠ 0) = true := rfl
      have d20 : decide ((2 : Int) = 0) = false := rfl
      refine ⟨0, [], 2, p, ?_, ?_, Nat.zero_le _⟩
      · unfold blocks_Take overspill_inbits_Reader_At
        simp only [hfi, Option.isSome_some, Option.getD_some, if_true, implies_true, cond_true, d20, cond_false, Bool.false_eq_true, false_implies, and_self, d2, seek_ok (M + 200) hs hp]
      · have hlt : decide (8 * (s.size : Int) - (p : Int) < 8) = true := decide_eq_true (by omega)
        unfold ref15_Take
        simp only [jk2, cond_true, hsz, j1, if_true, hlt]
    · have hlt : decide (8 * (s.size : Int) - (p : Int) < 8) = false := decide_eq_false (by omega)
      have x8 : (((unpack (bl s)).drop p).take 8).length = 8 := by rw [List.length_take, List.length_drop, hUl]; omega
      have n8 := num_ok (N := M + 200) (by omega) (s := rowT (((unpack (bl s)).drop p).take 8)) (plain_rowT _) (by rw [rowT_size, x8]; decide)
      rw [bits_rowT, ← hv] at n8
      obtain ⟨k, hk⟩ : ∃ k : Nat, k = p + 8 := ⟨_, rfl⟩
      have hex : ByteArray.extract (rowT (unpack (bl s))) p k = rowT (((unpack (bl s)).drop p).take 8) := by rw [rowT_extract, hk]; congr 2; omega
      have j2 : inK .i64 (k : Int) := in64 (by omega) (by omega)
      have j3 : (p : Int) ≤ (k : Int) := by omega
      have j4 : (k : Int) ≤ 8 * (s.size : Int) := by omega
      have ep : (p : Int) + 8 = (k : Int) := by omega
      rw [decide_eq_false h8, cond_false, ← hk] at hfi
      cases hv7 : (bif decide (v = 0) then true else decide (v = 128))
      · rw [hv7, cond_false] at hfi
        have hfv : (bif decide (v = 255) then 128 else v) = firstV v := rfl
        cases c
        · refine ⟨firstV v, [], 0, k, ?_, ?_, Nat.zero_le _⟩
          · unfold blocks_Take overspill_inbits_Reader_At
            simp only [hfi, Option.isSome_some, Option.getD_some, if_true, implies_true, cond_true, d00, decide_true, cond_false, Bool.false_eq_true, false_implies, and_self, d0]
          · unfold ref15_Take
            simp only [jk2, cond_true, hsz, j1, if_true, hlt, cond_false, Int.toNat_natCast, hex, n8, j2, j3, j4, Int.natCast_nonneg, Option.isSome_some, Option.getD_some, and_self, hv7, hr, i1, stop, Option.bind_some, Sum.elim_inr, List.length_nil, hfv, ep]
        · rcases events_eq hM hs (f := 1) (by decide) (q := k) (by omega) with ⟨e, q', h1, h2, h3, h4⟩ | ⟨l', to, h1, h2, h3, h4⟩
          · have de : decide (e ≠ 0) = true := decide_eq_true h1
            refine ⟨0, [], e, p, ?_, ?_, Nat.zero_le _⟩
            · unfold blocks_Take overspill_inbits_Reader_At
              simp only [hfi, Option.isSome_some, Option.getD_some, if_true, implies_true, cond_true, d00, decide_true, hb, h3, and_self, de, seek_ok (M + 200) hs hp]
            · unfold ref15_Take
              simp only [jk2, cond_true, hsz, j1, if_true, hlt, cond_false, Int.toNat_natCast, hex, n8, j2, j3, j4, Int.natCast_nonneg, Option.isSome_some, Option.getD_some, and_self, hv7, hr, i1, h4, Option.bind_some, Sum.elim_inl, hfv, ep]
          · refine ⟨firstV v, l', 0, to, ?_, ?_, h2⟩
            · unfold blocks_Take overspill_inbits_Reader_At
              simp only [hfi, Option.isSome_some, Option.getD_some, if_true, implies_true, cond_true, d00, decide_true, hb, h3, and_self, d0, cond_false]
            · unfold ref15_Take
              simp only [jk2, cond_true, hsz, j1, if_true, hlt, cond_false, Int.toNat_natCast, hex, n8, j2, j3, j4, Int.natCast_nonneg, Option.isSome_some, Option.getD_some, and_self, hv7, hr, i1, h4, Option.bind_some, Sum.elim_inr, hfv, ep]
      · rw [hv7, cond_true] at hfi
        have d7 : decide ((7 : Int) ≠ 0) = true := rfl
        have d70 : decide ((7 : Int) = 0) = false := rfl
        refine ⟨0, [], 7, p, ?_, ?_, Nat.zero_le _⟩
        · unfold blocks_Take overspill_inbits_Reader_At
          simp only [hfi, Option.isSome_some, Option.getD_some, if_true, implies_true, cond_true, d70, cond_false, Bool.false_eq_true, false_implies, and_self, d7, seek_ok (M + 200) hs hp]
        · unfold ref15_Take
          simp only [jk2, cond_true, hsz, j1, if_true, hlt, cond_false, Int.toNat_natCast, hex, n8, j2, j3, j4, Int.natCast_nonneg, Option.isSome_some, Option.getD_some, and_self, hv7, ep]
theorem rsame_self {N : Nat} {l : List Ev} (hl : l.length < 4294967296) (hN : l.length < N) : ref10_Same N l l = some true := by
  unfold ref10_Same
  have h1 : decide ((l.length : Int) ≠ (l.length : Int)) = false := decide_eq_false (fun h => h rfl)
  rw [h1, cond_false]
  have hit : iter (ref10_Same_b1 N l l) N 0 = some (.inr ()) := by
    refine iter_to (fun i => (i : Int)) l.length rfl (fun i hi => ?_) ?_ hN
    · have g1 : (i : Int) < (l.length : Int) := by omega
      have g4 := inS (i := i) (by omega)
      simp only [ref10_Same_b1, g1, decide_true, cond_true, cond_false, Int.natCast_nonneg, Int.toNat_natCast, beq_self_eq_true, Bool.and_self, Bool.not_true, and_self, if_true, g4]
      rw [Int.natCast_succ]
    · simp only [ref10_Same_b1, Int.lt_irrefl, decide_false, cond_false]
  rw [hit]
  rfl
theorem lives15 (M : Nat) : law15_lives (M + 200) = some true := by kernel_rfl
theorem btakes_law {M : Nat} (hM : 100000 ≤ M) (s : ByteArray) (f : Int) (i c : Bool) : law15_BlocksTakes (M + 200) s f i c = some true := by
  unfold law15_BlocksTakes
  have jk2 : ∀ {α β : Type} (F : α → Option β) (G : (α → Option β) → Option β), joinK F G = G F := fun _ _ => rfl
  have c1 : inbits_New (M + 200) s = some (s, 0) := rfl
  have c8 : blocks_Take_v1 (M + 200) i c = some (0, 1) := rfl
  rw [lives15 M, c1, c8]
  simp only [jk2, Option.isSome_some, Option.getD_some, if_true]
  by_cases hs : (300 : Int) < (s.size : Int)
  · simp only [decide_eq_true hs, Bool.not_true, Bool.false_eq_true, false_implies, if_true, cond_false, cond_true]
  · have b2 : ((!(decide (f < 0))) = true → inK .i64 ((8 : Int) * (s.size : Int))) := fun _ => in64 (by omega) (by omega)
    by_cases hf : 0 ≤ f ∧ f ≤ 8 * (s.size : Int)
    · obtain ⟨p, rfl⟩ : ∃ p : Nat, f = p := ⟨f.toNat, by omega⟩
      have hsk := seek_ok (M + 200) (s := s) (p := p) (by omega) (by omega) 0
      obtain ⟨dc, l, e, to, t1, t2, t3⟩ := btake_eq hM (s := s) (p := p) (by omega) (by omega) i c
      have hsh := show_ok (N := M + 200) (s := s) (by omega) (by omega)
      have hsm := rsame_self (N := M + 200) (l := l) (by omega) (by omega)
      have d0 : decide ((0 : Int) ≠ 0) = false := rfl
      unfold overspill_inbits_Reader_At
      simp only [decide_eq_false hs, hsk, t1, t2, hsh, hsm, d0, Bool.not_false, Option.isSome_some, Option.getD_some, implies_true, if_true, cond_true, cond_false, decide_true, and_self]
    · have b1 : (bif decide (f < 0) then true else decide (((8 : Int) * (s.size : Int)) < f)) = true := by
        by_cases h1 : f < 0
        · rw [decide_eq_true h1]; rfl
        · rw [decide_eq_true (show (8 : Int) * (s.size : Int) < f by omega)]; cases decide (f < 0) <;> rfl
      have hsk : overspill_inbits_Reader_Seek (M + 200) f s 0 = some (1, s, 0) := by
        unfold overspill_inbits_Reader_Seek
        simp only [b1, cond_true]
        rw [if_pos b2]
      have d1 : decide ((1 : Int) ≠ 0) = true := rfl
      simp only [decide_eq_false hs, hsk, d1, Bool.not_false, Option.isSome_some, Option.getD_some, implies_true, if_true, cond_true, cond_false]
theorem law_blocksTakes (N : Nat) (hN : 1099511627776 ≤ N) (y0 : Sh.den .str) (w0 : Sh.wf .str y0) (y1 : Sh.den (.int .i64)) (w1 : Sh.wf (.int .i64) y1) (y2 : Sh.den (.pair .bool .bool)) (w2 : Sh.wf (.pair .bool .bool) y2) : law15_BlocksTakes N y0 y1 (y2.1) (y2.2) = some true := by
  obtain ⟨M, rfl⟩ : ∃ M, N = M + 200 := ⟨N - 200, by omega⟩
  exact btakes_law (by omega) y0 y1 _ _
end Go.Proofs.YtcfffichdcnlgaaDoor
