/- What the printed models answer: plain laws. -/
import Derived.Test.YtkfaebbbjahcpaaDoorHI
set_option linter.unusedVariables false
set_option linter.unusedSimpArgs false
namespace Go.Proofs.YtkfaebbbjahcpaaDoor
open Go.X

def fcT (k : Int) (evs : Evs) (xs : List Int) (p q : Int) : List Int := tab 384 fun j => fb (LVc k evs (j / 64)) (fun i => xs.getD (64 * (j / 64) + i) 0) p q (intraB k) (j % 64)
theorem fcell_ok {M : Nat} (hM : 1000 ≤ M) (st : Int) (sk : Bool) (k s : Int) {mv dc : List Int} {evs : Evs} {xs : List Int} (p q : Int) (hm : mv.length = 2) (hd : dc.length = 6) (hx : xs.length = 384) (h : fewP evs) :
    feed_Cell (M + 200) st sk k s mv dc evs xs p q = some (bif rightB true st sk k s mv dc evs then (fcT k evs xs p q, 0) else (List.replicate 384 0, 12)) := by
  unfold feed_Cell
  rw [res_levels st sk k s hm hd h]
  cases hr : rightB true st sk k s mv dc evs
  · rfl
  · have hit := iter_lay (body := feed_Cell_b1 (M + 200) k xs p q) (N := M + 200) (by omega) (fun i => fb (LVc k evs i) (fun j => xs.getD (64 * i + j) 0) p q (intraB k)) (fun j => LVc k evs (j / 64) (j % 64)) (fun i hi => by
      obtain ⟨g1, g2, g3⟩ := in5 hi
      have g4 := inS (i := i) (by omega)
      have g5 : 64 * i + 64 ≤ 384 := by omega
      have he : (tab 64 fun j => LVc k evs ((64 * i + j) / 64) ((64 * i + j) % 64)) = tab 64 (LVc k evs i) := tab_ext fun j hj => by
        rw [show (64 * i + j) / 64 = i by omega, show (64 * i + j) % 64 = j by omega]
      have hb := blkS hi (fun i => fb (LVc k evs i) (fun j => xs.getD (64 * i + j) 0) p q (intraB k)) (fun j => LVc k evs (j / 64) (j % 64))
      simp only [he] at hb
      have hc : (bif decide (k = 3) then true else decide (k = 4)) = intraB k := rfl
      simp only [feed_Cell_b1, g1, g2, decide_true, cond_true, Int.toNat_natCast, hb, blk_tab hx hi, hc, feed_eq (N := M + 200) (by omega), Option.getD_some, Option.isSome_some, and_self, if_true, g4, g5]) (fun xs => by simp [feed_Cell_b1])
    simp only [Option.isSome_some, Option.getD_some, if_true, cond_true, ne_eq, not_true, decide_false, cond_false]
    unfold lvT
    rw [hit]
    rfl
theorem rfcell_ok {M : Nat} (hM : 1000 ≤ M) (st : Int) (sk : Bool) (k s : Int) (mv dc : List Int) {evs : Evs} {xs : List Int} (p q : Int) (hx : xs.length = 384) (h : fewP evs) (ho : ∀ i, i < 6 → okE (bif intraB k then 1 else 0) (evs.getD i []) = true) :
    ref35_Cell (M + 200) st sk k s mv dc evs xs p q = some (fcT k evs xs p q) := by
  have hc : ref21_Intra (M + 200) k = some (intraB k) := rfl
  have hit := iter_lay (body := ref35_Cell_b1 (M + 200) k xs p q (some (lvT k evs))) (N := M + 200) (by omega) (fun i => fb (LVc k evs i) (fun j => xs.getD (64 * i + j) 0) p q (intraB k)) (fun _ => 0) (fun i hi => by
    obtain ⟨g1, g2, g3⟩ := in5 hi
    have g4 := inS (i := i) (by omega)
    have g5 : 64 * i + 64 ≤ 384 := by omega
    have hb : ((lvT k evs).drop (64 * i)).take 64 = tab 64 (LVc k evs i) := by
      unfold lvT
      rw [blkT hi]
      exact tab_ext fun j hj => by rw [show (64 * i + j) / 64 = i by omega, show (64 * i + j) % 64 = j by omega]
    simp only [ref35_Cell_b1, g1, g2, decide_true, cond_true, Int.toNat_natCast, hc, Option.getD_some, hb, blk_tab hx hi, rblk_eq (N := M + 200) (by omega), Option.isSome_some, and_self, if_true, g4, g5]) (fun xs => by simp [ref35_Cell_b1])
  rw [← rep_tab] at hit
  unfold ref35_Cell
  simp only [rref_levels st sk k s mv dc h ho, Option.isSome_some, if_true, hit, Option.bind_some]
  rfl
theorem feedcells_law {M : Nat} (hM : 10000 ≤ M) (st : Int) (sk : Bool) (k s : Int) {mv dc : List Int} {evs : Evs} {xs two : List Int} (hm : mv.length = 2) (hd : dc.length = 6) (hx : xs.length = 384) : law35_FeedCells (M + 200) st sk k s mv dc evs xs two = some true := by
  have hl := lives_eq (N := M + 200) (by omega)
  obtain ⟨hy, hn⟩ := iter_try (body := law35_FeedCells_b1 (M + 200) evs) (fun i => (i : Int)) 6 (M + 200) (fun i => decide ((evs.getD i []).length ≤ 100)) (fun _ => .inl true) (.inr ()) (s0 := 0) rfl
    (fun i hi hP => by
      obtain ⟨g1, g2, g3⟩ := in5 hi
      have g4 := inS (i := i) (by omega)
      simp only [decide_eq_true_eq] at hP
      have : ¬ (100 : Int) < ((evs.getD i []).length : Int) := by omega
      simp only [law35_FeedCells_b1, g1, g2, hi, decide_true, cond_true, Int.toNat_natCast, and_self, if_true, g4, this, decide_false, cond_false]
      rw [Int.natCast_succ])
    (fun i hi hP => by
      obtain ⟨g1, g2, g3⟩ := in5 hi
      simp only [decide_eq_false_iff_not] at hP
      have : (100 : Int) < ((evs.getD i []).length : Int) := by omega
      simp only [law35_FeedCells_b1, g1, g2, hi, decide_true, cond_true, Int.toNat_natCast, and_self, if_true, this, hl, Option.isSome_some, Option.getD_some])
    (by simp [law35_FeedCells_b1]) (by omega)
  unfold law35_FeedCells
  cases hall : (List.range 6).all (fun i => decide ((evs.getD i []).length ≤ 100)) with
  | false =>
    obtain ⟨j, _, _, hj⟩ := hn hall
    rw [hj]; rfl
  | true =>
    have hf : fewP evs := fun i hi => by simpa using List.all_eq_true.1 hall i (List.mem_range.2 hi)
    rw [hy hall]
    simp only [Option.bind_some, Sum.elim_inr]
    rw [fcell_ok (by omega) st sk k s _ _ hm hd hx hf, rright_ok (by omega) true st sk k s hm hd hf, hl]
    obtain ⟨Z, hZ⟩ : ∃ Z, Z = List.replicate 384 (0 : Int) := ⟨_, rfl⟩
    rw [← hZ]
    cases hr : rightB true st sk k s mv dc evs
    · simp only [Option.isSome_some, Option.getD_some, if_true, Bool.not_true, Bool.not_false, cond_false, cond_true, decide_true, implies_true]
    · rw [rfcell_ok (by omega) st sk k s mv dc _ _ hx hf (right_okE hr)]
      simp only [Option.isSome_some, Option.getD_some, if_true, Bool.not_true, Bool.not_false, cond_false, cond_true, decide_true, implies_true, and_self]
theorem law_feedCells (N : Nat) (hN : 1099511627776 ≤ N) (y0 : Sh.den (.pair (.int .i64) (.pair .bool (.pair (.int .i64) (.pair (.int .i64) (.pair (.arr 2 .i64) (.pair (.arr 6 .i64) (.arrS 6 (.pair .bool (.pair (.int .i64) (.int .i64))))))))))) (w0 : Sh.wf (.pair (.int .i64) (.pair .bool (.pair (.int .i64) (.pair (.int .i64) (.pair (.arr 2 .i64) (.pair (.arr 6 .i64) (.arrS 6 (.pair .bool (.pair (.int .i64) (.int .i64)))))))))) y0) (y1 : Sh.den (.arr 384 .i64)) (w1 : Sh.wf (.arr 384 .i64) y1) (y2 : Sh.den (.arr 2 .i64)) (w2 : Sh.wf (.arr 2 .i64) y2) : law35_FeedCells N (y0.1) (y0.2.1) (y0.2.2.1) (y0.2.2.2.1) (y0.2.2.2.2.1) (y0.2.2.2.2.2.1) (y0.2.2.2.2.2.2) y1 y2 = some true := by
  obtain ⟨st, sk, k, s, mv, dc, evs⟩ := y0
  obtain ⟨_, _, _, _, ⟨hm, _⟩, ⟨hd, _⟩, _⟩ := w0
  obtain ⟨M, rfl⟩ : ∃ M, N = M + 200 := ⟨N - 200, by omega⟩
  exact feedcells_law (by omega) st sk k s hm hd w1.1
end Go.Proofs.YtkfaebbbjahcpaaDoor
