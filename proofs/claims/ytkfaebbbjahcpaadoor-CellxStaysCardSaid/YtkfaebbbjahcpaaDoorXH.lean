/- What the printed models answer: plain laws. -/
import Derived.Test.YtkfaebbbjahcpaaDoorXF
set_option linter.unusedVariables false
set_option linter.unusedSimpArgs false
namespace Go.Proofs.YtkfaebbbjahcpaaDoor
open Go.X

theorem blkT {i : Nat} (hi : i < 6) (F : Nat → Int) : ((tab 384 F).drop (64 * i)).take 64 = tab 64 fun k => F (64 * i + k) := by
 rw [blk_tab (tab_len _ _) hi]
 refine tab_ext fun k hk => ?_
 rw [tab_get _ _ (by omega)]
/-- A loop that lays six blocks. -/
theorem iter_lay {body : Int × List Int → Option ((Int × List Int) ⊕ List Int)} {N : Nat} (hN : 6 < N) (g : Nat → Nat → Int) (X0 : Nat → Int)
  (hs : ∀ i : Nat, i < 6 → body ((i : Int), tab 384 fun k => if k / 64 < i then g (k / 64) (k % 64) else X0 k) = some (.inl ((i : Int) + 1, layL (tab 384 fun k => if k / 64 < i then g (k / 64) (k % 64) else X0 k) (64 * i) (tab 64 (g i)) 64)))
  (he : ∀ xs, body ((6 : Int), xs) = some (.inr xs)) : iter body N (0, tab 384 X0) = some (tab 384 fun k => g (k / 64) (k % 64)) := by
 refine iter_to (fun i => ((i : Int), tab 384 fun k => if k / 64 < i then g (k / 64) (k % 64) else X0 k)) 6 ?_ ?_ ?_ hN
 ·
  simp
 ·
  intro i hi
  show body ((i : Int), _) = _
  rw [hs i hi]
  refine congrArg (fun z => some (Sum.inl z)) (Prod.ext (Int.natCast_succ i).symm ?_)
  show layL (tab 384 _) (64 * i) (tab 64 _) 64 = tab 384 (fun k => if k / 64 < i + 1 then g (k / 64) (k % 64) else X0 k)
  rw [lay_tab hi]
  refine tab_ext fun j hj => ?_
  by_cases hji : j / 64 = i
  ·
   rw [if_pos hji, if_pos (by omega), hji]
  ·
   by_cases hlt : j / 64 < i
   ·
    rw [if_neg hji, if_pos hlt, if_pos (by omega)]
   ·
    rw [if_neg hji, if_neg hlt, if_neg (by omega)]
 ·
  show body ((6 : Int), _) = _
  rw [he]
  refine congrArg (fun z => some (Sum.inr z)) (tab_ext fun j hj => ?_)
  rw [if_pos (by omega)]
theorem blkS {i : Nat} (hi : i < 6) (g : Nat → Nat → Int) (X0 : Nat → Int) : ((tab 384 fun k => if k / 64 < i then g (k / 64) (k % 64) else X0 k).drop (64 * i)).take 64 = tab 64 fun k => X0 (64 * i + k) := by
 rw [blkT hi]
 refine tab_ext fun k hk => ?_
 rw [if_neg (by omega)]
def LVc (k : Int) (evs : Evs) (i j : Nat) : Int := (lvs (bif intraB k then 1 else 0) (evs.getD i []) (evs.getD i []).length).getD (lp j) 0
def lvT (k : Int) (evs : Evs) : List Int := tab 384 fun j => LVc k evs (j / 64) (j % 64)
theorem right_okE {st : Int} {sk : Bool} {k s : Int} {mv dc : List Int} {evs : Evs} (h : rightB true st sk k s mv dc evs = true) : ∀ i, i < 6 → okE (bif intraB k then 1 else 0) (evs.getD i []) = true := by
 intro i hi
 unfold rightB at h
 simp only [Bool.and_eq_true] at h
 obtain ⟨_, h⟩ := h
 cases sk
 ·
  simp only [cond_false, Bool.and_eq_true] at h
  have := List.all_eq_true.1 h.2.2.2 i (List.mem_range.2 hi)
  unfold mayB at this
  simp only [Bool.and_eq_true] at this
  exact this.1
 ·
  simp only [cond_true, Bool.and_eq_true, decide_eq_true_eq] at h
  rw [h.2.2.2.2.2 i hi]
  cases intraB k <;> rfl
theorem res_levels {M : Nat} (st : Int) (sk : Bool) (k s : Int) {mv dc : List Int} {evs : Evs} (hm : mv.length = 2) (hd : dc.length = 6) (h : fewP evs) :
  residue_Levels (M + 200) st sk k s mv dc evs = some (bif rightB true st sk k s mv dc evs then (lvT k evs, 0) else (List.replicate 384 0, 12)) := by
 cases hr : rightB true st sk k s mv dc evs
 ·
  exact rlevels_no st sk k s hm hd h hr
 ·
  exact rlevels_cell st sk k s hm hd h hr (right_okE hr)
theorem level_eq (N : Nat) {s v p : Int} (p1 : 1 ≤ p) (p2 : p ≤ 31) : coarse_level N s v p = some (if s < 0 then -lev v (2 * p) else lev v (2 * p)) := by
 have l1 := clip_ge (a := max v 0 / (2 * p)) (lo := 0) (hi := 127) (by decide)
 have l2 := clip_le (a := max v 0 / (2 * p)) (lo := 0) (hi := 127) (by decide)
 have i1 : inK .i64 (2 * p) := in64 (by omega) (by omega)
 have i2 : inK .i64 (-clip (max v 0 / (2 * p)) 0 127) := in64 (by omega) (by omega)
 have i3 : 0 ≤ max v 0 := by omega
 have i4 : 0 < 2 * p := by omega
 unfold coarse_level lev
 rw [whole_clip N (show (0 : Int) ≤ 127 by decide)]
 by_cases hs : s < 0 <;> simp only [hs, i1, i2, i3, i4, decide_true, decide_false, cond_true, cond_false, Option.isSome_some, Option.getD_some, and_self, if_true, if_false]
theorem intra_eq (N : Nat) (a q : Int) : coarse_Intra N a q = some (lvl a q true) := by
 have c1 := clip_ge (a := a) (lo := -2048) (hi := 2047) (by decide)
 have c2 := clip_le (a := a) (lo := -2048) (hi := 2047) (by decide)
 have p1 := clip_ge (a := q) (lo := 1) (hi := 31) (by decide)
 have p2 := clip_le (a := q) (lo := 1) (hi := 31) (by decide)
 unfold coarse_Intra lvl
 rw [whole_clip N (show (-2048 : Int) ≤ 2047 by decide), whole_clip N (show (1 : Int) ≤ 31 by decide)]
 simp only [Option.isSome_some, and_self, if_true, Option.getD_some]
 rw [level_eq N p1 p2]
 generalize clip a (-2048) 2047 = c at *
 have i1 : inK .i64 (-c) := in64 (by omega) (by omega)
 simp [i1]
theorem inter_eq (N : Nat) (a q : Int) : coarse_Inter N a q = some (lvl a q false) := by
 have c1 := clip_ge (a := a) (lo := -2048) (hi := 2047) (by decide)
 have c2 := clip_le (a := a) (lo := -2048) (hi := 2047) (by decide)
 have p1 := clip_ge (a := q) (lo := 1) (hi := 31) (by decide)
 have p2 := clip_le (a := q) (lo := 1) (hi := 31) (by decide)
 unfold coarse_Inter lvl
 rw [whole_clip N (show (-2048 : Int) ≤ 2047 by decide), whole_clip N (show (1 : Int) ≤ 31 by decide)]
 simp only [Option.isSome_some, and_self, if_true, Option.getD_some]
 rw [level_eq N p1 p2]
 generalize clip a (-2048) 2047 = c at *
 generalize clip q 1 31 = p at *
 have i1 : inK .i64 (-c) := in64 (by omega) (by omega)
 have i2 : 0 ≤ p := by omega
 have i3 : inK .i64 (max c (-c) - p / 2) := in64 (by omega) (by omega)
 simp [i1, i2, i3]
theorem cblock_eq {N : Nat} (hN : 64 < N) (X : Nat → Int) (q : Int) (b : Bool) : coarse_Block N (tab 64 X) q b = some (tab 64 fun k => bif b && k == 0 then 0 else lvl (X k) q b) := by
 unfold coarse_Block
 cases b
 ·
  simp only [cond_false]
  rw [rep_tab, iter_fill 64 N (fun k => lvl (X k) q false) _ ?_ ?_ hN]
  ·
   simp
  ·
   intro i hi
   have h1 : (i : Int) < 64 := by omega
   have h2 := inS (i := i) (by omega)
   simp [coarse_Block_b2, h1, h2, hi, tab_get, inter_eq, -List.getD_eq_getElem?_getD]
  ·
   intro xs
   simp [coarse_Block_b2]
 ·
  simp only [cond_true]
  rw [rep_tab, iter_fill 64 N (fun k => lvl (X k) q true) _ ?_ ?_ hN]
  ·
   simp only [Option.bind_some, tab_set]
   refine congrArg some (tab_ext fun k hk => ?_)
   by_cases h : k = 0
   ·
    simp [h]
   ·
    have hb : (k == 0) = false := by simpa using h
    simp [h, hb]
  ·
   intro i hi
   have h1 : (i : Int) < 64 := by omega
   have h2 := inS (i := i) (by omega)
   simp [coarse_Block_b1, h1, h2, hi, tab_get, intra_eq, -List.getD_eq_getElem?_getD]
  ·
   intro xs
   simp [coarse_Block_b1]
theorem plain_eq {N : Nat} (hN : 64 < N) (L R : Nat → Int) (p q : Int) (b : Bool) :
  feed_plain N (tab 64 L) (tab 64 R) p q b = some (tab 64 (fun k => bif b && k == 0 then 0 else levs L k), tab 64 (fun k => bif b then 0 else R k), clip p 1 31, clip q 1 31, b) := by
 unfold feed_plain
 rw [iter_fill 64 N (levs L) L ?_ ?_ hN]
 ·
  simp only [Option.bind_some, whole_clip N (show (1 : Int) ≤ 31 by decide), Option.isSome_some, and_self, if_true, Option.getD_some]
  cases b
  ·
   simp
  ·
   simp only [cond_true, tab_set, rep_tab, Bool.true_and]
   simp only [Option.some.injEq, Prod.mk.injEq, and_true]
   refine tab_ext fun k hk => ?_
   by_cases h : k = 0
   ·
    simp [h]
   ·
    have hb : (k == 0) = false := by simpa using h
    simp [h, hb]
 ·
  intro i hi
  have h1 : (i : Int) < 64 := by omega
  have h2 := inS (i := i) (by omega)
  simp [feed_plain_b1, h1, h2, hi, tab_get, whole_clip, levs, -List.getD_eq_getElem?_getD]
 ·
  intro xs
  simp [feed_plain_b1]

def zk (b : Bool) (f : Nat → Int) (k : Nat) : Int := bif b && k == 0 then 0 else f k
def isZ (R : Nat → Int) : Bool := decide (tab 64 R = tab 64 fun _ => 0)
theorem isZ_iff {R : Nat → Int} : isZ R = true ↔ ∀ k, k < 64 → R k = 0 := decide_eq_true_iff.trans tab_dec
def fb (L R : Nat → Int) (p q : Int) (b : Bool) : Nat → Int :=
 if clip p 1 31 = clip q 1 31 ∧ isZ (fun k => bif b then 0 else R k) = true then zk b (levs L)
 else zk b fun k => lvl (sv (zk b (levs L) k) (clip p 1 31) + dctF (fun k => bif b then 0 else R k) k) (clip q 1 31) b
theorem dct_bnd (X : Nat → Int) (k : Nat) : -2048 ≤ dctF X k ∧ dctF X k ≤ 2047 := ⟨clip_ge (by decide), clip_le (by decide)⟩
theorem feed_eq {N : Nat} (hN : 256 < N) (L R : Nat → Int) (p q : Int) (b : Bool) : feed_Block N (tab 64 L) (tab 64 R) p q b = some (tab 64 (fb L R p q b)) := by
 have hN' : 64 < N := by omega
 unfold feed_Block
 rw [plain_eq hN']
 simp only [Option.isSome_some, if_true, Option.getD_some, rep_tab]
 unfold fb
 have e0 : decide ((tab 64 fun k => bif b then 0 else R k) = tab 64 fun _ => 0) = isZ (fun k => bif b then 0 else R k) := rfl
 rw [e0]
 by_cases h : clip p 1 31 = clip q 1 31 ∧ isZ (fun k => bif b then 0 else R k) = true
 ·
  rw [if_pos h, decide_eq_true h.1, h.2]
  rfl
 ·
  rw [if_neg h]
  have hx : (bif decide (clip p 1 31 = clip q 1 31) then isZ (fun k => bif b then 0 else R k) else false) = false := by
   by_cases h1 : clip p 1 31 = clip q 1 31
   ·
    rw [decide_eq_true h1]
    cases h2 : isZ (fun k => bif b then 0 else R k)
    ·
     rfl
    ·
     exact absurd ⟨h1, h2⟩ h
   ·
    rw [decide_eq_false h1]; rfl
  rw [hx]
  simp only [cond_false, block_eq hN', forward_eq hN', Option.isSome_some, if_true, Option.getD_some]
  rw [iter_fill 64 N (fun k => sv (zk b (levs L) k) (clip p 1 31) + dctF (fun k => bif b then 0 else R k) k) _ ?_ ?_ hN']
  ·
   simp only [Option.bind_some, cblock_eq hN', Option.isSome_some, if_true, Option.getD_some]
   rfl
  ·
   intro i hi
   have h1 : (i : Int) < 64 := by omega
   have h2 := inS (i := i) (by omega)
   obtain ⟨s1, s2⟩ := sv_bnd (zk b (levs L) i) (clip p 1 31)
   obtain ⟨d1, d2⟩ := dct_bnd (fun k => bif b then 0 else R k) i
   have h3 : inK .i64 (sv (zk b (levs L) i) (clip p 1 31) + dctF (fun k => bif b then 0 else R k) i) := in64 (by omega) (by omega)
   have h4 : sv (bif b && i == 0 then 0 else levs L i) (clip p 1 31) = sv (zk b (levs L) i) (clip p 1 31) := rfl
   simp [feed_Block_b1, h1, h2, h3, h4, hi, tab_get, -List.getD_eq_getElem?_getD]
  ·
   intro xs
   simp [feed_Block_b1]
def fcT (k : Int) (evs : Evs) (xs : List Int) (p q : Int) : List Int := tab 384 fun j => fb (LVc k evs (j / 64)) (fun i => xs.getD (64 * (j / 64) + i) 0) p q (intraB k) (j % 64)
theorem fcell_ok {M : Nat} (hM : 1000 ≤ M) (st : Int) (sk : Bool) (k s : Int) {mv dc : List Int} {evs : Evs} {xs : List Int} (p q : Int) (hm : mv.length = 2) (hd : dc.length = 6) (hx : xs.length = 384) (h : fewP evs) :
  feed_Cell (M + 200) st sk k s mv dc evs xs p q = some (bif rightB true st sk k s mv dc evs then (fcT k evs xs p q, 0) else (List.replicate 384 0, 12)) := by
 unfold feed_Cell
 rw [res_levels st sk k s hm hd h]
 cases hr : rightB true st sk k s mv dc evs
 ·
  rfl
 ·
  have hit := iter_lay (body := feed_Cell_b1 (M + 200) k xs p q) (N := M + 200) (by omega) (fun i => fb (LVc k evs i) (fun j => xs.getD (64 * i + j) 0) p q (intraB k)) (fun j => LVc k evs (j / 64) (j % 64)) (fun i hi => by
   obtain ⟨g1, g2, g3⟩ := in5 hi
   have g4 := inS (i := i) (by omega)
   have g5 : 64 * i + 64 ≤ 384 := by omega
   have he : (tab 64 fun j => LVc k evs ((64 * i + j) / 64) ((64 * i + j) % 64)) = tab 64 (LVc k evs i) := tab_ext fun j hj => by
    rw [show (64 * i + j) / 64 = i by omega, show (64 * i + j) % 64 = j by omega]
   have hb := blkS hi (fun i => fb (LVc k evs i) (fun j => xs.getD (64 * i + j) 0) p q (intraB k)) (fun j => LVc k evs (j / 64) (j % 64))
   simp only [he] at hb
   have hc : (bif decide (k = 3) then true else decide (k = 4)) = intraB k := rfl
   simp only [feed_Cell_b1, g1, g2, decide_true, cond_true, Int.toNat_natCast, hb, blk_tab hx hi, hc, feed_eq (N := M + 200) (by omega), Option.getD_some, Option.isSome_some, and_self, if_true, g4, g5]) (fun xs => by simp [feed_Cell_b1])
  simp only [Option.isSome_some, Option.getD_some, if_true, cond_true, ne_eq, not_true, decide_false, cond_false]
  unfold lvT
  rw [hit]
  rfl
abbrev CellR := Int × Bool × Int × Int × List Int × List Int × Evs × Int
def Zc (e : Int) : CellR := (0, false, 0, 0, List.replicate 2 0, List.replicate 6 0, List.replicate 6 [], e)
def bL (xs : List Int) (b : Nat) (k : Nat) : Int := xs.getD (64 * b + pl k) 0
def fB (k : Int) : Int := bif intraB k then 1 else 0
theorem fB_or (k : Int) : fB k = 0 ∨ fB k = 1 := by unfold fB; cases intraB k <;> simp
def bok (k : Int) (xs : List Int) (b : Nat) : Bool := decide ((evts (fB k) (bL xs b)).2 = 0) && !(intraB k && decide (xs.getD (64 * b) 0 ≠ 0))
def pevs (k : Int) (xs : List Int) : Evs := tab 6 fun b => (evts (fB k) (bL xs b)).1
def kindR (k step : Int) : Int := (bif intraB k then 3 else 0) + if step ≠ 0 then 1 else 0
def skipB (k step : Int) (xs mv : List Int) : Bool := !intraB k && (decide (xs = List.replicate 384 0) && (decide (mv = [0, 0]) && decide (step = 0)))
def okR (k : Int) (mv dc xs : List Int) (step : Int) : CellR :=
 bif !stB step && decide (step ≠ 0) then Zc 9 else
 bif (List.range 6).all (bok k xs) then bif skipB k step xs mv then (0, true, 0, 0, List.replicate 2 0, List.replicate 6 0, List.replicate 6 [], 0) else (0, false, kindR k step, step, mv, dc, pevs k xs, 0) else Zc 7
theorem fB1 (k : Int) (inst : Decidable (fB k = 1)) : @decide (fB k = 1) inst = intraB k := by
 rw [Bool.eq_iff_iff, decide_eq_true_eq]; unfold fB; cases intraB k <;> simp
theorem fBd (k : Int) : (bif intraB k then (1 : Int) else 0) = fB k := by cases h : intraB k <;> simp [fB, h]
theorem head_blk {xs : List Int} (hx : xs.length = 384) {b : Nat} (hb : b < 6) : ((xs.drop (64 * b)).take 64).getD 0 0 = xs.getD (64 * b) 0 := by
 rw [blk_tab hx hb, tab_get _ _ (by omega)]; rfl
theorem blk_L {xs : List Int} (hx : xs.length = 384) {b : Nat} (hb : b < 6) : (tab 64 fun k => ((xs.drop (64 * b)).take 64).getD (pl k) 0) = tab 64 (bL xs b) := by
 refine tab_ext fun k hk => ?_
 rw [blk_tab hx hb, tab_get _ _ (pl_lt hk)]; rfl
theorem evts_blk (f : Int) (xs : List Int) (b : Nat) : evts f (fun k => (tab 64 (bL xs b)).getD k 0) = evts f (bL xs b) := evts_ext fun k hk => tab_get _ _ hk
theorem pevents_ok {N : Nat} (hN : 100 < N) (st : Int) (sk : Bool) (k s : Int) (mv dc : List Int) (evs : Evs) {xs : List Int} (hx : xs.length = 384) :
  ((List.range 6).all (bok k xs) = true → pattern_events N st sk k s mv dc evs xs = some (pevs k xs, true)) ∧ ((List.range 6).all (bok k xs) = false → ∃ o, pattern_events N st sk k s mv dc evs xs = some (o, false)) := by
 have hc : pattern_intra N st sk k s mv dc evs = some (intraB k) := rfl
 have step : ∀ i : Nat, i < 6 → pattern_events_b1 N xs (some (intraB k)) ((i : Int), tab 6 fun b => if b < i then (evts (fB k) (bL xs b)).1 else []) = some (bif bok k xs i then .inl ((i : Int) + 1, (tab 6 fun b => if b < i then (evts (fB k) (bL xs b)).1 else []).set i (evts (fB k) (bL xs i)).1) else .inr (.inl (tab 6 fun b => if b < i then (evts (fB k) (bL xs b)).1 else []))) := fun i hi => by
  obtain ⟨g1, g2, g3⟩ := in5 hi
  have g4 := inS (i := i) (by omega)
  have g5 : 64 * i + 64 ≤ 384 := by omega
  have t1 : ∀ (a b : Bool), (!a) = true → (b = true → ((!a) && b) = true) := by intro a b; cases a <;> cases b <;> simp
  simp only [pattern_events_b1, g1, g2, decide_true, cond_true, Int.toNat_natCast, Option.getD_some, fBd, told_eq (N := N) (by omega), blk_L hx hi, events_eq (N := N) (by omega) (fB_or k), evts_blk, head_blk hx hi, Option.isSome_some, and_self, if_true, g5, fB1, hi, g4]
  rw [if_pos (t1 _ _)]
  unfold bok
  rcases evts_err (fB k) (bL xs i) with h | h
  ·
   rw [h]
   cases intraB k <;> by_cases h0 : xs.getD (64 * i) 0 = 0 <;> simp [h0, -List.getD_eq_getElem?_getD]
  ·
   rw [h]
   simp
 obtain ⟨hy, hn⟩ := iter_try (body := pattern_events_b1 N xs (some (intraB k))) (fun i => ((i : Int), tab 6 fun b => if b < i then (evts (fB k) (bL xs b)).1 else [])) 6 N (bok k xs) (fun i => .inl (tab 6 fun b => if b < i then (evts (fB k) (bL xs b)).1 else [])) (.inr (pevs k xs)) (s0 := (0, List.replicate 6 [])) (by rw [rep_tab]; simp)
  (fun i hi hP => by
   show pattern_events_b1 N xs (some (intraB k)) ((i : Int), _) = _
   rw [step i hi, hP]
   refine congrArg (fun z => some (Sum.inl z)) (Prod.ext (Int.natCast_succ i).symm ?_)
   show (tab 6 _).set i _ = tab 6 (fun b => if b < i + 1 then (evts (fB k) (bL xs b)).1 else [])
   rw [tab_set]
   refine tab_ext fun j hj => ?_
   by_cases h1 : j = i
   ·
    rw [if_pos h1, if_pos (by omega), h1]
   ·
    by_cases h2 : j < i
    ·
     rw [if_neg h1, if_pos h2, if_pos (by omega)]
    ·
     rw [if_neg h1, if_neg h2, if_neg (by omega)])
  (fun i hi hP => by
   show pattern_events_b1 N xs (some (intraB k)) ((i : Int), _) = _
   rw [step i hi, hP]; rfl)
  (by
   simp only [pattern_events_b1]
   refine congrArg (fun z => some (Sum.inr (Sum.inr z))) (tab_ext fun j hj => ?_)
   rw [if_pos hj]) (by omega)
 refine ⟨fun h => ?_, fun h => ?_⟩
 ·
  unfold pattern_events
  simp only [hc, Option.isSome_some, if_true, hy h, Option.bind_some, Sum.elim_inr]
 ·
  obtain ⟨j, _, _, hj⟩ := hn h
  refine ⟨tab 6 fun b => if b < j then (evts (fB k) (bL xs b)).1 else [], ?_⟩
  unfold pattern_events
  simp only [hc, Option.isSome_some, if_true, hj, Option.bind_some, Sum.elim_inl]
theorem pkind_ok (N : Nat) (st : Int) (sk : Bool) (k s : Int) (mv dc : List Int) (evs : Evs) (step : Int) : pattern_kind N st sk k s mv dc evs step = some (kindR k step) := by
 unfold pattern_kind kindR
 have hc : pattern_intra N st sk k s mv dc evs = some (intraB k) := rfl
 simp only [hc, Option.isSome_some, if_true, Option.getD_some]
 by_cases h : step = 0 <;> cases intraB k <;> simp [h]
theorem pcell_ok {M : Nat} (st : Int) (sk : Bool) (k s : Int) {mv dc : List Int} {evs : Evs} {xs : List Int} (step : Int) (hm : mv.length = 2) (hd : dc.length = 6) (h : fewP evs) (hx : xs.length = 384) :
  pattern_Cell (M + 200) st sk k s mv dc evs xs step = some (bif rightB true st sk k s mv dc evs then okR k mv dc xs step else Zc 12) := by
 unfold pattern_Cell
 rw [right_ok true st sk k s hm hd h]
 cases rightB true st sk k s mv dc evs
 ·
  rfl
 ·
  obtain ⟨r, hr⟩ := steps_eq (M + 200) step
  have hc : pattern_intra (M + 200) st sk k s mv dc evs = some (intraB k) := rfl
  have he : pattern_Empty (M + 200) xs = some (decide (xs = List.replicate 384 0)) := rfl
  obtain ⟨hy, hn⟩ := pevents_ok (N := M + 200) (by omega) st sk k s mv dc evs hx
  unfold okR
  simp only [Option.isSome_some, Option.getD_some, if_true, Bool.not_true, cond_false, cond_true, hr, hc, he, pkind_ok]
  have k1 : (bif (!stB step) then decide (step ≠ 0) else false) = (!stB step && decide (step ≠ 0)) := by cases stB step <;> simp
  rw [k1]
  cases (!stB step && decide (step ≠ 0))
  ·
   simp only [cond_false]
   cases hall : (List.range 6).all (bok k xs) with
   | false => obtain ⟨o, ho⟩ := hn hall; rw [ho]; rfl
   | true =>
    rw [hy hall]
    simp only [Option.isSome_some, Option.getD_some, if_true, Bool.not_true, cond_false, cond_true, implies_true, and_self]
    have k2 : (bif (bif (bif (!intraB k) then decide (xs = List.replicate 384 0) else false) then decide (mv = List.replicate 2 0) else false) then decide (step = 0) else false) = skipB k step xs mv := by
     unfold skipB
     rw [show (List.replicate 2 (0 : Int)) = [0, 0] from rfl]
     cases intraB k <;> cases decide (xs = List.replicate 384 0) <;> cases decide (mv = [0, 0]) <;> rfl
    rw [k2]
    cases skipB k step xs mv <;> rfl
  ·
   rfl
end Go.Proofs.YtkfaebbbjahcpaaDoor
