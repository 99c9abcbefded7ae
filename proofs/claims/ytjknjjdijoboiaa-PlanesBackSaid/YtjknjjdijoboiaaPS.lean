/- What the printed models answer: plain laws. -/
import Derived.Test.YtjknjjdijoboiaaPI
set_option linter.unusedVariables false
set_option linter.unusedSimpArgs false
namespace Go.Proofs.Ytjknjjdijoboiaa
open Go.X

/-! ### frames and stores that are laid anew -/
def areaN (f : Int) (k : Nat) : Nat := (wid f k * hig f k).toNat
def flatP (f s : Int) : List (List Int) := tab 3 fun k => List.replicate (areaN f k) s
theorem area_bnd (f : Int) (k : Nat) : areaN f k ≤ 1622016 := by
  obtain ⟨_, _, _, _, b5, b6⟩ := wh_bnd f k
  unfold areaN
  omega
theorem area_of {f : Int} {ps : List (List Int)} (h : rightF f ps = true) {k : Nat} (hk : k < 3) : (ps.getD k []).length = areaN f k := by
  have := (rightF_len h).2 k hk
  unfold areaN
  omega
theorem rep_ok (N : Nat) {n c : Int} (h0 : 0 ≤ n) (h1 : n ≤ 281474976710656) (c0 : 0 ≤ c) (c1 : c ≤ 255) : rep N 1 n ((List.replicate 1 0).set 0 c) = some (n.toNat, n.toNat, List.replicate n.toNat c) := by
  have e : ((List.replicate 1 (0 : Int)).set 0 c) = [c] := rfl
  rw [e]
  unfold rep
  rw [if_pos ⟨rfl, rfl, h0, h1, by unfold inK; exact ⟨c0, c1⟩⟩]
  rfl
theorem pnew_ok {N : Nat} (hN : 10 < N) (f s : Int) : planes_New N f s = some (bif decide (fA f ≠ 0) then (f, flatP f (clip s 0 255), 0) else (0, List.replicate 3 [], 1)) := by
  unfold planes_New
  simp only [size_eq, Option.isSome_some, if_true, Option.getD_some]
  cases hA : decide (fA f ≠ 0)
  · rfl
  · simp only [Bool.not_true, cond_false, cond_true]
    have hit := iter_fill (body := planes_New_b1 N f s) 3 N (fun k => List.replicate (areaN f k) (clip s 0 255)) (fun _ => []) (fun i hi => by
      obtain ⟨g1, g2, g3⟩ := in2 hi
      have g4 := inS (i := i) (by omega)
      obtain ⟨_, _, _, _, b5, b6⟩ := wh_bnd f i
      have g5 : inK .i64 (wid f i * hig f i) := in64 (by omega) (by omega)
      have c1 := clip_ge (a := s) (lo := 0) (hi := 255) (by decide)
      have c2 := clip_le (a := s) (lo := 0) (hi := 255) (by decide)
      have g6 : inK .u8 (clip s 0 255) := by unfold inK; exact ⟨c1, c2⟩
      simp only [planes_New_b1, g1, g2, hi, decide_true, cond_true, Int.toNat_natCast, and_self, if_true, plane_eq N f hi, Option.isSome_some, Option.getD_some, whole_clip N (show (0 : Int) ≤ 255 by decide), rep_ok N b5 (by omega) c1 c2, g5, g6, g4, List.length_replicate]
      rfl) (fun xs => by simp [planes_New_b1]) (by omega)
    rw [← rep_tab] at hit
    rw [hit]
    rfl
theorem pnewo_ok (N : Nat) (f s : Int) : planes_New_own N f s = some (bif decide (fA f ≠ 0) then (f, areaN f 0, areaN f 1, areaN f 2, 0, areaN f 0, List.replicate (areaN f 0) (clip s 0 255), areaN f 1, List.replicate (areaN f 1) (clip s 0 255), areaN f 2, List.replicate (areaN f 2) (clip s 0 255)) else (0, 0, 0, 0, 1, 0, [], 0, [], 0, [])) := by
  unfold planes_New_own
  simp only [size_eq, Option.isSome_some, if_true, Option.getD_some]
  cases hA : decide (fA f ≠ 0)
  · rfl
  · have c1 := clip_ge (a := s) (lo := 0) (hi := 255) (by decide)
    have c2 := clip_le (a := s) (lo := 0) (hi := 255) (by decide)
    have g6 : inK .u8 (clip s 0 255) := by unfold inK; exact ⟨c1, c2⟩
    have p0 : formats_Plane N f 0 = some (wid f 0, hig f 0) := plane_eq N f (k := 0) (by omega)
    have p1 : formats_Plane N f 1 = some (wid f 1, hig f 1) := plane_eq N f (k := 1) (by omega)
    have p2 : formats_Plane N f 2 = some (wid f 2, hig f 2) := plane_eq N f (k := 2) (by omega)
    have q : ∀ k, 0 ≤ wid f k * hig f k ∧ wid f k * hig f k ≤ 281474976710656 ∧ inK .i64 (wid f k * hig f k) := fun k => by
      obtain ⟨_, _, _, _, b5, b6⟩ := wh_bnd f k
      exact ⟨b5, by omega, in64 (by omega) (by omega)⟩
    simp only [Bool.not_true, cond_false, cond_true, p0, p1, p2, Option.isSome_some, Option.getD_some, if_true, whole_clip N (show (0 : Int) ≤ 255 by decide), rep_ok N (q 0).1 (q 0).2.1 c1 c2, rep_ok N (q 1).1 (q 1).2.1 c1 c2, rep_ok N (q 2).1 (q 2).2.1 c1 c2, g6, (q 0).2.2, (q 1).2.2, (q 2).2.2, and_self]
    rfl
def eqB (a b : List Int) : Bool := decide (ByteArray.toList (bytesOf a) = ByteArray.toList (bytesOf b))
def sameF (f : Int) (ps : List (List Int)) (g : Int) (qs : List (List Int)) : Bool := decide (f = g) && (List.range 3).all fun k => eqB (ps.getD k []) (qs.getD k [])
theorem psame_ok {N : Nat} (hN : 10 < N) (f : Int) (ps : List (List Int)) (g : Int) (qs : List (List Int)) : planes_Same N f ps g qs = some (sameF f ps g qs) := by
  unfold planes_Same
  have hit : iter (planes_Same_b1 N ps qs) N (decide (f = g), 0) = some (sameF f ps g qs) := by
    refine iter_to (fun i => (decide (f = g) && (List.range i).all (fun k => eqB (ps.getD k []) (qs.getD k [])), (i : Int))) 3 ?_ ?_ ?_ (by omega)
    · simp
    · intro i hi
      obtain ⟨g1, g2, g3⟩ := in2 hi
      have g4 := inS (i := i) (by omega)
      simp only [planes_Same_b1, bytes_Equal, g1, g2, hi, decide_true, cond_true, Int.toNat_natCast, and_self, if_true, Option.isSome_some, Option.getD_some, implies_true, g4]
      refine congrArg (fun z => some (Sum.inl z)) ?_
      rw [List.range_succ, List.all_append, Int.natCast_succ]
      have e : eqB (ps.getD i []) (qs.getD i []) = decide (ByteArray.toList (bytesOf (ps.getD i [])) = ByteArray.toList (bytesOf (qs.getD i []))) := rfl
      generalize (List.range i).all _ = r
      rw [← e]
      cases decide (f = g) <;> cases r <;> simp
    · simp [planes_Same_b1, sameF]
  rw [hit]
  rfl
theorem bytes_of3 {ps : List (List Int)} (h : ∀ xs, xs ∈ ps → ∀ x, x ∈ xs → inK .u8 x) (k : Nat) : byteP (ps.getD k []) := by
  refine byteP_of fun x hx => ?_
  rw [List.getD_eq_getElem?_getD] at hx
  cases hi : ps[k]? with
  | none => rw [hi] at hx; cases hx
  | some xs =>
    rw [hi] at hx
    exact h xs (List.mem_of_getElem? hi) x hx
theorem few_len17 {N : Nat} {f : Int} {zs : List (List Int)} : ∃ b, law17_Light N f zs = some b ∧ (b = true → ∀ k, k < 3 → (zs.getD k []).length ≤ 30000) := ⟨_, rfl, fun h k hk => by
  simp only [Bool.cond_false_right, Bool.and_eq_true, decide_eq_true_eq] at h
  rcases (show k = 0 ∨ k = 1 ∨ k = 2 by omega) with rfl | rfl | rfl <;> omega⟩
/-- Where a sample of a cell stands in its plane. -/
def idxC (f n : Int) (b i : Nat) : Nat := ((yc f n b + ((i / 8 : Nat) : Int)) * wid f (pk b) + (xc f n b + ((i % 8 : Nat) : Int))).toNat
/-- The rows when so many samples of a patch are laid. -/
def layN (f n : Int) (p : List Int) (R : Nat → List Int) : Nat → Nat → List Int
  | 0 => R
  | t + 1 => fun m => if m = pk (t / 64) then (layN f n p R t m).set (idxC f n (t / 64) (t % 64)) (clip (p.getD t 0) 0 255) else layN f n p R t m
theorem layN_len (f n : Int) (p : List Int) (R : Nat → List Int) (m : Nat) : ∀ t, (layN f n p R t m).length = (R m).length
  | 0 => rfl
  | t + 1 => by
    simp only [layN]
    split
    · rw [List.length_set]; exact layN_len f n p R m t
    · exact layN_len f n p R m t
theorem pk_or {b : Nat} (hb : b < 6) : pk b = 0 ∨ pk b = 1 ∨ pk b = 2 := by unfold pk; omega
theorem idx_facts {f n : Int} (h : hasF f n = true) {b : Nat} (hb : b < 6) {i : Nat} (hi : i < 64) : idxC f n b i < areaN f (pk b) ∧ ((idxC f n b i : Nat) : Int) = (yc f n b + ((i / 8 : Nat) : Int)) * wid f (pk b) + (xc f n b + ((i % 8 : Nat) : Int)) := by
  obtain ⟨x0, x1, y0, y1, _, _⟩ := cut_in h hb hi
  have := idx_lt x0 x1 y0 y1
  unfold idxC areaN
  omega
theorem blk_get {p : List Int} (hp : p.length = 384) {b : Nat} (hb : b < 6) {i : Nat} (hi : i < 64) : ((p.drop (64 * b)).take 64).getD i 0 = p.getD (64 * b + i) 0 := by
  rw [blk_tab hp hb, tab_get _ _ hi]
theorem blk64 {b i : Nat} (hi : i < 64) : (64 * b + i) / 64 = b ∧ (64 * b + i) % 64 = i := by omega
theorem lay_row {l : List Int} {n : Nat} (h : l.length = n) : layL (List.replicate n 0) 0 ((l.take n).take (min n n)) (min n n) = l := by
  subst h
  unfold layL
  simp
theorem lay_ok {N : Nat} (hN : 100 < N) (f n : Int) {p : List Int} (hp : p.length = 384) (R : Nat → List Int) :
    overspill_planes_Canvas_Lay N n p f (areaN f 0) (areaN f 1) (areaN f 2) (areaN f 0) (R 0) (areaN f 1) (R 1) (areaN f 2) (R 2) = some (bif hasF f n then (0, areaN f 0, layN f n p R 384 0, areaN f 1, layN f n p R 384 1, areaN f 2, layN f n p R 384 2) else (1, areaN f 0, R 0, areaN f 1, R 1, areaN f 2, R 2)) := by
  unfold overspill_planes_Canvas_Lay
  rw [has_ok]
  cases hh : hasF f n
  · rfl
  · have wc : ∀ a, whole_Clip N a 0 255 = some (clip a 0 255) := fun a => whole_clip N (by decide)
    have g6 : ∀ a, inK .u8 (clip a 0 255) := fun a => by unfold inK; exact ⟨clip_ge (by decide), clip_le (by decide)⟩
    have hit : iter (overspill_planes_Canvas_Lay_b1 N n p f (areaN f 0) (areaN f 1) (areaN f 2) (areaN f 0) (areaN f 1) (areaN f 2)) N (0, R 0, R 1, R 2) = some (layN f n p R 384 0, layN f n p R 384 1, layN f n p R 384 2) := by
      refine iter_to (fun b => ((b : Int), layN f n p R (64 * b) 0, layN f n p R (64 * b) 1, layN f n p R (64 * b) 2)) 6 rfl (fun b hb => ?_) ?_ (by omega)
      · obtain ⟨q1, q2, q3⟩ := in5 hb
        have q4 := inS (i := b) (by omega)
        have q5 : 64 * b + 64 ≤ 384 := by omega
        have hin : iter (overspill_planes_Canvas_Lay_b2 N p (areaN f 0) (areaN f 1) (areaN f 2) (areaN f 0) (areaN f 1) (areaN f 2) ((b : Int), layN f n p R (64 * b) 0, layN f n p R (64 * b) 1, layN f n p R (64 * b) 2) (some (((pk b : Nat) : Int), yc f n b * wid f (pk b) + xc f n b, wid f (pk b)))) N (((pk b : Nat) : Int), ((pk b : Nat) : Int), ((pk b : Nat) : Int), ((pk b : Nat) : Int), 0, layN f n p R (64 * b) 0, layN f n p R (64 * b) 1, layN f n p R (64 * b) 2) = some (((pk b : Nat) : Int), ((pk b : Nat) : Int), ((pk b : Nat) : Int), ((pk b : Nat) : Int), (64 : Int), false, layN f n p R (64 * b + 64) 0, layN f n p R (64 * b + 64) 1, layN f n p R (64 * b + 64) 2) := by
          refine iter_to (fun i => (((pk b : Nat) : Int), ((pk b : Nat) : Int), ((pk b : Nat) : Int), ((pk b : Nat) : Int), (i : Int), layN f n p R (64 * b + i) 0, layN f n p R (64 * b + i) 1, layN f n p R (64 * b + i) 2)) 64 rfl (fun i hi => ?_) ?_ (by omega)
          · have h1 : (i : Int) < 64 := by omega
            have h2 := inS (i := i) (by omega)
            obtain ⟨x0, x1, y0, y1, xc0, yc0⟩ := cut_in hh hb hi
            obtain ⟨w1, w2, w3, w4, w5, w6⟩ := wh_bnd f (pk b)
            obtain ⟨k1, k2⟩ := idx_facts hh hb hi
            have ka := area_bnd f (pk b)
            have e8 : ((i : Int) / 8) = ((i / 8 : Nat) : Int) := by omega
            have m8 : ((i : Int) % 8) = ((i % 8 : Nat) : Int) := by omega
            have d1 := mul_le2 (a := ((i / 8 : Nat) : Int)) (b := wid f (pk b)) (c := 8) (d := 1408) (by omega) (by omega) w1 w2
            have d2 := mul_le2 (a := yc f n b) (b := wid f (pk b)) (c := 1152) (d := 1408) yc0 (by omega) w1 w2
            have ei : yc f n b * wid f (pk b) + xc f n b + ((i / 8 : Nat) : Int) * wid f (pk b) + ((i % 8 : Nat) : Int) = ((idxC f n b i : Nat) : Int) := by
              rw [k2, Int.add_mul]; omega
            have i1 : inK .i64 (((i / 8 : Nat) : Int) * wid f (pk b)) := in64 (by omega) (by omega)
            have i2 : inK .i64 (yc f n b * wid f (pk b) + xc f n b + ((i / 8 : Nat) : Int) * wid f (pk b)) := in64 (by omega) (by omega)
            have i3 : inK .i64 (((idxC f n b i : Nat) : Int)) := in64 (by omega) (by omega)
            have i4 : ((idxC f n b i : Nat) : Int) < ((areaN f (pk b) : Nat) : Int) := by omega
            obtain ⟨t1, t2⟩ := blk64 (b := b) hi
            have hl : ∀ m, layN f n p R (64 * b + i + 1) m = if m = pk b then (layN f n p R (64 * b + i) m).set (idxC f n b i) (clip (p.getD (64 * b + i) 0) 0 255) else layN f n p R (64 * b + i) m := fun m => by
              simp only [layN]
              rw [t1, t2]
            have hst : ∀ A B C : List Int, (((pk b : Nat) : Int), ((pk b : Nat) : Int), ((pk b : Nat) : Int), ((pk b : Nat) : Int), ((i + 1 : Nat) : Int), A, B, C) = (((pk b : Nat) : Int), ((pk b : Nat) : Int), ((pk b : Nat) : Int), ((pk b : Nat) : Int), (i : Int) + 1, A, B, C) := fun A B C => by rw [Int.natCast_succ]
            show _ = some (Sum.inl (_, _, _, _, _, layN f n p R (64 * b + i + 1) 0, layN f n p R (64 * b + i + 1) 1, layN f n p R (64 * b + i + 1) 2))
            rw [hst, hl 0, hl 1, hl 2]
            generalize layN f n p R (64 * b + i) 0 = r0
            generalize layN f n p R (64 * b + i) 1 = r1
            generalize layN f n p R (64 * b + i) 2 = r2
            rcases pk_or hb with hk | hk | hk <;> rw [hk] at i1 i2 i4 k1 ei ⊢
            · simp only [overspill_planes_Canvas_Lay_b2, h1, hi, decide_true, cond_true, Int.natCast_nonneg, Int.toNat_natCast, and_self, if_true, blk_get hp hb hi, wc, Option.isSome_some, Option.getD_some, e8, m8, ei, i1, i2, i3, i4, k1, g6, h2]
              rfl
            · have z0 : decide (((1 : Nat) : Int) = 0) = false := rfl
              simp only [overspill_planes_Canvas_Lay_b2, h1, hi, z0, decide_true, cond_true, cond_false, Int.natCast_nonneg, Int.toNat_natCast, and_self, if_true, blk_get hp hb hi, wc, Option.isSome_some, Option.getD_some, e8, m8, ei, i1, i2, i3, i4, k1, g6, h2]
              rfl
            · have z0 : decide (((2 : Nat) : Int) = 0) = false := rfl
              have z1 : decide (((2 : Nat) : Int) = 1) = false := rfl
              simp only [overspill_planes_Canvas_Lay_b2, h1, hi, z0, z1, decide_true, cond_true, cond_false, Int.natCast_nonneg, Int.toNat_natCast, and_self, if_true, blk_get hp hb hi, wc, Option.isSome_some, Option.getD_some, e8, m8, ei, i1, i2, i3, i4, k1, g6, h2]
              rfl
          · show overspill_planes_Canvas_Lay_b2 _ _ _ _ _ _ _ _ _ _ (_, _, _, _, (64 : Int), _) = _
            simp only [overspill_planes_Canvas_Lay_b2, Int.lt_irrefl, decide_false, cond_false]
        have hin2 := hin
        simp only [overspill_planes_Canvas_Lay_b1, q1, q2, q5, decide_true, cond_true, place_ok N hh hb, Option.isSome_some, Option.getD_some, Int.toNat_natCast, and_self, if_true, hin2, Option.bind_some, q4]
        rw [Int.natCast_succ, Nat.mul_succ]
      · show overspill_planes_Canvas_Lay_b1 _ _ _ _ _ _ _ _ _ _ ((6 : Int), _) = _
        simp only [overspill_planes_Canvas_Lay_b1, Int.lt_irrefl, decide_false, cond_false]
    simp only [Option.isSome_some, implies_true, if_true, Option.getD_some, Bool.not_true, cond_false, cond_true, hit, Option.bind_some]
theorem frame_ok (N : Nat) (f : Int) {R : Nat → List Int} (h : ∀ m, m < 3 → (R m).length = areaN f m) : overspill_planes_Canvas_Frame N f (areaN f 0) (areaN f 1) (areaN f 2) (areaN f 0) (R 0) (areaN f 1) (R 1) (areaN f 2) (R 2) = some (f, [R 0, R 1, R 2]) := by
  unfold overspill_planes_Canvas_Frame
  have b0 := area_bnd f 0
  have b1 := area_bnd f 1
  have b2 := area_bnd f 2
  have e : ∀ n : Nat, n ≤ 1622016 → (0 : Int) ≤ (n : Int) ∧ (n : Int) * 1 ≤ 140737488355328 ∧ 0 + min n n ≤ n := fun n hn => ⟨by omega, by omega, by omega⟩
  simp only [Int.toNat_natCast, lay_row (h 0 (by omega)), lay_row (h 1 (by omega)), lay_row (h 2 (by omega)), (e _ b0).1, (e _ b0).2.1, (e _ b0).2.2, (e _ b1).1, (e _ b1).2.1, (e _ b1).2.2, (e _ b2).1, (e _ b2).2.1, (e _ b2).2.2, Nat.le_refl, and_self, if_true]
  rw [if_pos ⟨(h 0 (by omega)).symm, (h 1 (by omega)).symm, (h 2 (by omega)).symm⟩]
theorem on_ok (N : Nat) {f : Int} (h : fA f ≠ 0) : planes_On_own_ptr N f = some (0, f, areaN f 0, areaN f 1, areaN f 2, areaN f 0, List.replicate (areaN f 0) 0, areaN f 1, List.replicate (areaN f 1) 0, areaN f 2, List.replicate (areaN f 2) 0) := by
  unfold planes_On_own_ptr
  have hc0 : clip 0 0 255 = 0 := rfl
  rw [pnewo_ok, decide_eq_true h, hc0]
  rfl
theorem cover {f : Int} (hA : fA f ≠ 0) {k : Nat} (hk : k < 3) {j : Nat} (hj : j < areaN f k) : ∃ (n : Nat) (b i : Nat), (n : Int) < fA f * fD f ∧ b < 6 ∧ i < 64 ∧ pk b = k ∧ idxC f n b i = j := by
  obtain ⟨a1, a2, a3, a4⟩ : 2 ≤ fA f ∧ fA f ≤ 88 ∧ 2 ≤ fD f ∧ fD f ≤ 72 := by
    rcases fmt_or f with ⟨h1, _⟩ | h
    · exact absurd h1 hA
    · exact h
  have gen : ∀ (cx cy : Int) (b i : Nat), 0 ≤ cx → cx < fA f → 0 ≤ cy → cy < fD f → b < 6 → i < 64 → pk b = k → (∀ n : Int, n % fA f = cx → n / fA f = cy → ∃ x y : Int, x = xc f n b + ((i % 8 : Nat) : Int) ∧ y = yc f n b + ((i / 8 : Nat) : Int) ∧ y * wid f k + x = (j : Int)) → ∃ (n : Nat) (b i : Nat), (n : Int) < fA f * fD f ∧ b < 6 ∧ i < 64 ∧ pk b = k ∧ idxC f n b i = j := fun cx cy b i h1 h2 h3 h4 hb hi hp hx => by
    have m1 : (cx + cy * fA f) % fA f = cx := by rw [Int.add_mul_emod_self_right, Int.emod_eq_of_lt h1 h2]
    have m2 : (cx + cy * fA f) / fA f = cy := by rw [Int.add_mul_ediv_right _ _ (by omega), Int.ediv_eq_zero_of_lt h1 h2, Int.zero_add]
    have h5 : 0 ≤ cy * fA f := Int.mul_nonneg h3 (by omega)
    have h6 : (cy + 1) * fA f ≤ fD f * fA f := Int.mul_le_mul_of_nonneg_right (by omega) (by omega)
    rw [Int.add_mul, Int.one_mul, Int.mul_comm (fD f)] at h6
    have hn : (((cx + cy * fA f).toNat : Nat) : Int) = cx + cy * fA f := Int.toNat_of_nonneg (by omega)
    obtain ⟨x, y, rx, ry, hxy⟩ := hx (cx + cy * fA f) m1 m2
    refine ⟨(cx + cy * fA f).toNat, b, i, by omega, hb, hi, hp, ?_⟩
    unfold idxC
    rw [hn, ← rx, ← ry, hp, hxy]
    omega
  have hw : 0 < wid f k := by unfold wid; split <;> omega
  have e1 := Int.emod_add_mul_ediv (j : Int) (wid f k)
  have e2 := Int.emod_nonneg (j : Int) (show wid f k ≠ 0 by omega)
  have e3 := Int.emod_lt_of_pos (j : Int) hw
  have e4 : 0 ≤ (j : Int) / wid f k := Int.ediv_nonneg (by omega) (by omega)
  have e5 : (j : Int) / wid f k < hig f k := Int.ediv_lt_of_lt_mul hw (by
    rw [Int.mul_comm]
    unfold areaN at hj
    omega)
  rw [Int.mul_comm] at e1
  generalize (j : Int) % wid f k = x at *
  generalize (j : Int) / wid f k = y at *
  by_cases hk0 : k = 0
  · subst hk0
    have ew : wid f 0 = 16 * fA f := rfl
    have eh : hig f 0 = 16 * fD f := rfl
    rw [ew] at e3
    rw [eh] at e5
    refine gen (x / 16) (y / 16) (((y % 16 / 8) * 2 + x % 16 / 8).toNat) (((y % 8) * 8 + x % 8).toNat) (by omega) (by omega) (by omega) (by omega) (by omega) (by omega) (by unfold pk; omega) fun n h1 h2 => ⟨x, y, ?_, ?_, by omega⟩
    · unfold xc
      rw [if_pos (by omega), h1]
      omega
    · unfold yc
      rw [if_pos (by omega), h2]
      omega
  · have ew : wid f k = 8 * fA f := by unfold wid; rw [if_neg hk0]
    have eh : hig f k = 8 * fD f := by unfold hig; rw [if_neg hk0]
    rw [ew] at e3
    rw [eh] at e5
    refine gen (x / 8) (y / 8) (k + 3) (((y % 8) * 8 + x % 8).toNat) (by omega) (by omega) (by omega) (by omega) (by omega) (by omega) (by unfold pk; omega) fun n h1 h2 => ⟨x, y, ?_, ?_, by omega⟩
    · unfold xc
      rw [if_neg (by omega), h1]
      omega
    · unfold yc
      rw [if_neg (by omega), h2]
      omega
theorem getS {l : List Int} {p j : Nat} {v : Int} : (l.set p v).getD j 0 = if p = j ∧ p < l.length then v else l.getD j 0 := by
  rw [List.getD_eq_getElem?_getD, List.getElem?_set]
  by_cases h : p = j
  · subst h
    by_cases hl : p < l.length
    · rw [if_pos rfl, if_pos hl, if_pos ⟨rfl, hl⟩]; rfl
    · rw [if_pos rfl, if_neg hl, if_neg (fun hh => hl hh.2), List.getD_eq_getElem?_getD, List.getElem?_eq_none (by omega)]
  · rw [if_neg h, if_neg (fun hh => h hh.1), List.getD_eq_getElem?_getD]
/-- What is laid of a frame's own cell is the frame's. -/
theorem lay_own {f n : Int} {ps : List (List Int)} (hb : ∀ k, k < 3 → byteP (ps.getD k [])) (h : hasF f n = true) {R : Nat → List Int} (hR : ∀ m, m < 3 → (R m).length = areaN f m) : ∀ t, t ≤ 384 →
    (∀ m j, m < 3 → (R m).getD j 0 = (ps.getD m []).getD j 0 → (layN f n (cuT f ps n) R t m).getD j 0 = (ps.getD m []).getD j 0) ∧ (∀ u, u < t → (layN f n (cuT f ps n) R t (pk (u / 64))).getD (idxC f n (u / 64) (u % 64)) 0 = (ps.getD (pk (u / 64)) []).getD (idxC f n (u / 64) (u % 64)) 0) := by
  intro t
  induction t with
  | zero => intro _; exact ⟨fun m j _ hh => hh, fun u hu => by omega⟩
  | succ t ih =>
    intro ht
    obtain ⟨h1, h2⟩ := ih (by omega)
    have hb6 : t / 64 < 6 := by omega
    have hi64 : t % 64 < 64 := by omega
    obtain ⟨k1, k2⟩ := idx_facts h hb6 hi64
    have hk3 : pk (t / 64) < 3 := by unfold pk; omega
    have hv : clip ((cuT f ps n).getD t 0) 0 255 = (ps.getD (pk (t / 64)) []).getD (idxC f n (t / 64) (t % 64)) 0 := by
      unfold cuT
      rw [tab_get _ _ (by omega)]
      unfold cuF
      have := hb (pk (t / 64)) hk3 (idxC f n (t / 64) (t % 64))
      exact clip_id this.1 this.2
    have step : ∀ m j, (layN f n (cuT f ps n) R (t + 1) m).getD j 0 = if m = pk (t / 64) ∧ idxC f n (t / 64) (t % 64) = j then (ps.getD m []).getD j 0 else (layN f n (cuT f ps n) R t m).getD j 0 := fun m j => by
      simp only [layN]
      by_cases hm : m = pk (t / 64)
      · rw [if_pos hm, getS, hv]
        by_cases hj : idxC f n (t / 64) (t % 64) = j
        · rw [if_pos ⟨hj, by rw [layN_len, hm, hR _ hk3]; exact k1⟩, if_pos ⟨hm, hj⟩, hm, hj]
        · rw [if_neg (fun hh => hj hh.1), if_neg (fun hh => hj hh.2)]
      · rw [if_neg hm, if_neg (fun hh => hm hh.1)]
    refine ⟨fun m j hm hh => ?_, fun u hu => ?_⟩
    · rw [step]
      split
      · rfl
      · exact h1 m j hm hh
    · rw [step]
      split
      · rfl
      · rename_i hne
        by_cases hut : u = t
        · subst hut
          exact absurd ⟨rfl, rfl⟩ hne
        · exact h2 u (by omega)
/-- The rows when so many cells are laid. -/
def seqR (f : Int) (ps : List (List Int)) (kk : Nat → Int) : Nat → Nat → List Int
  | 0 => fun m => List.replicate (areaN f m) 0
  | t + 1 => layN f (kk t) (cuT f ps (kk t)) (seqR f ps kk t) 384
theorem seqR_len (f : Int) (ps : List (List Int)) (kk : Nat → Int) (m : Nat) : ∀ t, (seqR f ps kk t m).length = areaN f m
  | 0 => by simp [seqR]
  | t + 1 => by
    simp only [seqR]
    rw [layN_len]; exact seqR_len f ps kk m t
theorem seqR_has {f : Int} {ps : List (List Int)} (hb : ∀ k, k < 3 → byteP (ps.getD k [])) {kk : Nat → Int} {T : Nat} (hh : ∀ t, t < T → hasF f (kk t) = true) : ∀ t, t ≤ T → ∀ u, u < t → ∀ b i, b < 6 → i < 64 → (seqR f ps kk t (pk b)).getD (idxC f (kk u) b i) 0 = (ps.getD (pk b) []).getD (idxC f (kk u) b i) 0 := by
  intro t
  induction t with
  | zero => intro _ u hu; omega
  | succ t ih =>
    intro ht u hu b i hb6 hi
    have hk3 : pk b < 3 := by unfold pk; omega
    obtain ⟨h1, h2⟩ := lay_own hb (hh t (by omega)) (fun m _ => seqR_len f ps kk m t) 384 (Nat.le_refl _)
    simp only [seqR]
    by_cases hut : u = t
    · subst hut
      have := h2 (64 * b + i) (by omega)
      rw [(blk64 (b := b) hi).1, (blk64 (b := b) hi).2] at this
      exact this
    · exact h1 _ _ hk3 (ih (by omega) u (by omega) b i hb6 hi)
theorem seqR_all {f : Int} {ps : List (List Int)} (hr : rightF f ps = true) (hb : ∀ k, k < 3 → byteP (ps.getD k [])) {kk : Nat → Int} {T : Nat} (hh : ∀ t, t < T → hasF f (kk t) = true) (hT : fA f * fD f ≤ (T : Int)) (hkk : ∀ t : Nat, (t : Int) < fA f * fD f → kk t = (t : Int)) : ∀ m, m < 3 → seqR f ps kk T m = ps.getD m [] := fun m hm => by
  have hA := (rightF_len hr).1
  refine (tab_of 0 (seqR_len f ps kk m T)).trans ((tab_ext fun j hj => ?_).trans (tab_of 0 (area_of hr hm)).symm)
  obtain ⟨n, b, i, hn, hb6, hi, hp, hid⟩ := cover hA hm hj
  have := seqR_has hb hh T (Nat.le_refl _) n (by omega) b i hb6 hi
  rw [hkk n hn, hp, hid] at this
  exact this
theorem lives17' (M : Nat) : law17_lives (M + 200) = some true := by
  unfold law17_lives
  rw [pnew_ok (N := M + 200) (by omega)]
  simp only [pright_ok (N := M + 200) (by omega)]
  kernel_rfl
theorem pback_law {M : Nat} (hM : 100000 ≤ M) (f : Int) {ps : List (List Int)} (od : List Int) (hb : ∀ k, k < 3 → byteP (ps.getD k [])) (ho : ∀ i : Nat, i < od.length → 0 ≤ od.getD i 0 ∧ od.getD i 0 ≤ 65535) : law17_PlanesBack_ptr (M + 200) f ps od = some true := by
  unfold law17_PlanesBack_ptr
  obtain ⟨b1, h1, hlp⟩ := few_len17 (N := M + 200) (f := f) (zs := ps)
  rw [h1, lives17' M, pright_ok (N := M + 200) (by omega)]
  simp only [Option.isSome_some, Option.getD_some, implies_true, and_self, if_true]
  cases b1
  · rfl
  cases hr : rightF f ps
  · rfl
  cases hod : decide ((200 : Int) < (od.length : Int))
  case true => rfl
  have hA := (rightF_len hr).1
  obtain ⟨a1, a2, a3, a4⟩ : 2 ≤ fA f ∧ fA f ≤ 88 ∧ 2 ≤ fD f ∧ fD f ≤ 72 := by
    rcases fmt_or f with ⟨h1, _⟩ | h
    · exact absurd h1 hA
    · exact h
  have hm := mul_le2 (a := fA f) (b := fD f) (c := 88) (d := 72) (by omega) a2 (by omega) a4
  have hpos : 0 < fA f * fD f := Int.mul_pos (by omega) (by omega)
  have hod' : (od.length : Int) ≤ 200 := by simpa using hod
  obtain ⟨n, hn⟩ : ∃ n : Nat, fA f * fD f = (n : Int) := ⟨(fA f * fD f).toNat, by omega⟩
  obtain ⟨kk, hkk⟩ : ∃ kk : Nat → Int, kk = fun t : Nat => bif decide ((n : Int) ≤ (t : Int)) then od.getD (t - n) 0 % (n : Int) else (t : Int) := ⟨_, rfl⟩
  have hhas : ∀ t, t < n + od.length → hasF f (kk t) = true := fun t ht => by
    rw [hkk]
    unfold hasF
    rw [hn]
    by_cases hnt : n ≤ t
    · have g1 := Int.emod_nonneg (od.getD (t - n) 0) (show (n : Int) ≠ 0 by omega)
      have g2 := Int.emod_lt_of_pos (od.getD (t - n) 0) (show 0 < (n : Int) by omega)
      simp only [decide_eq_true (show (n : Int) ≤ (t : Int) by omega), cond_true]
      rw [decide_eq_true g1, decide_eq_true g2]; rfl
    · simp only [decide_eq_false (show ¬ (n : Int) ≤ (t : Int) by omega), cond_false]
      rw [decide_eq_true (show (0 : Int) ≤ (t : Int) by omega), decide_eq_true (show (t : Int) < (n : Int) by omega)]; rfl
  have hall := seqR_all hr hb hhas (by omega) (fun t ht => by
    rw [hkk]
    simp only [decide_eq_false (show ¬ (n : Int) ≤ (t : Int) by omega), cond_false])
  have d0 : decide ((0 : Int) ≠ 0) = false := rfl
  simp only [Bool.not_true, cond_false, cond_true, on_ok (M + 200) hA, Option.isSome_some, Option.getD_some, if_true, d0, rmany_eq]
  rw [hn]
  have hit : iter (law17_PlanesBack_ptr_b1 (M + 200) f ps od (some (0, f, areaN f 0, areaN f 1, areaN f 2, areaN f 0, List.replicate (areaN f 0) 0, areaN f 1, List.replicate (areaN f 1) 0, areaN f 2, List.replicate (areaN f 2) 0)) (some (n : Int))) (M + 200) (0, areaN f 0, List.replicate (areaN f 0) 0, areaN f 1, List.replicate (areaN f 1) 0, areaN f 2, List.replicate (areaN f 2) 0) = some (.inr (areaN f 0, seqR f ps kk (n + od.length) 0, areaN f 1, seqR f ps kk (n + od.length) 1, areaN f 2, seqR f ps kk (n + od.length) 2)) := by
    refine iter_to (fun t => ((t : Int), areaN f 0, seqR f ps kk t 0, areaN f 1, seqR f ps kk t 1, areaN f 2, seqR f ps kk t 2)) (n + od.length) rfl (fun t ht => ?_) ?_ (by omega)
    · have q1 : inK .i64 ((n : Int) + (od.length : Int)) := in64 (by omega) (by omega)
      have q2 : (t : Int) < (n : Int) + (od.length : Int) := by omega
      have q3 : decide ((n : Int) ≤ (t : Int)) = true → inK .i64 ((t : Int) - (n : Int)) := fun _ => in64 (by omega) (by omega)
      have q4 : decide ((n : Int) ≤ (t : Int)) = true → (0 : Int) ≤ (t : Int) - (n : Int) := fun h => by have := of_decide_eq_true h; omega
      have q5 : decide ((n : Int) ≤ (t : Int)) = true → (t : Int) - (n : Int) < (od.length : Int) := fun _ => by omega
      have q0 : ((t : Int) - (n : Int)).toNat = t - n := by omega
      have q6 : decide ((n : Int) ≤ (t : Int)) = true → inK .i64 (od.getD (t - n) 0) := fun h => by
        have := of_decide_eq_true h
        have := ho (t - n) (by omega)
        exact in64 (by omega) (by omega)
      have q7 : decide ((n : Int) ≤ (t : Int)) = true → (0 : Int) ≤ od.getD (t - n) 0 := fun h => by
        have := of_decide_eq_true h
        exact (ho (t - n) (by omega)).1
      have q8 : decide ((n : Int) ≤ (t : Int)) = true → (0 : Int) < (n : Int) := fun _ => by omega
      have q9 := inS (i := t) (by omega)
      have hk : (bif decide ((n : Int) ≤ (t : Int)) then od.getD (t - n) 0 % (n : Int) else (t : Int)) = kk t := by rw [hkk]
      have hcut := cut_ok (N := M + 200) (by omega) f (kk t) hb
      rw [hr, hhas t ht] at hcut
      simp only [Bool.and_self, cond_true] at hcut
      have hlay := lay_ok (N := M + 200) (by omega) f (kk t) (p := cuT f ps (kk t)) (tab_len _ _) (seqR f ps kk t)
      rw [hhas t ht, cond_true] at hlay
      have jk2 : ∀ {α β : Type} (F : α → Option β) (G : (α → Option β) → Option β), joinK F G = G F := fun _ _ => rfl
      simp only [law17_PlanesBack_ptr_b1, Option.getD_some, q1, q2, q0, decide_true, cond_true, if_true]
      rw [if_pos ⟨q3, q4, q5, q6, q7, q8⟩]
      simp only [hk, hcut, hlay, d0, jk2, Option.isSome_some, Option.getD_some, if_true, implies_true, Bool.not_false, cond_true, cond_false, q9]
      rw [Int.natCast_succ]
      rfl
    · have q1 : inK .i64 ((n : Int) + (od.length : Int)) := in64 (by omega) (by omega)
      show law17_PlanesBack_ptr_b1 _ _ _ _ _ _ (((n + od.length : Nat) : Int), _) = _
      have q2 : ¬ (((n + od.length : Nat) : Int) < (n : Int) + (od.length : Int)) := by omega
      simp only [law17_PlanesBack_ptr_b1, Option.getD_some, q1, q2, decide_false, cond_false, if_true]
  have hfr := frame_ok (M + 200) f (R := seqR f ps kk (n + od.length)) (fun m _ => seqR_len f ps kk m _)
  have hsame : sameF f [seqR f ps kk (n + od.length) 0, seqR f ps kk (n + od.length) 1, seqR f ps kk (n + od.length) 2] f ps = true := by
    rw [hall 0 (by omega), hall 1 (by omega), hall 2 (by omega)]
    unfold sameF
    simp only [decide_true, Bool.true_and, List.all_eq_true, List.mem_range]
    intro k hk
    rcases (show k = 0 ∨ k = 1 ∨ k = 2 by omega) with rfl | rfl | rfl <;> (unfold eqB; simp)
  simp only [hit, Option.bind_some, Sum.elim_inr, hfr, psame_ok (N := M + 200) (by omega), hsame, Option.isSome_some, Option.getD_some, implies_true, and_self, if_true, cond_true]
theorem law_planesBack (N : Nat) (hN : 1099511627776 ≤ N) (y0 : Sh.den (.pair (.int .i64) (.arrS 3 (.int .u8)))) (w0 : Sh.wf (.pair (.int .i64) (.arrS 3 (.int .u8))) y0) (y1 : Sh.den (.sl (.int .u16))) (w1 : Sh.wf (.sl (.int .u16)) y1) : law17_PlanesBack_ptr N (y0.1) (y0.2) y1 = some true := by
  obtain ⟨f, ps⟩ := y0
  obtain ⟨_, _, hps⟩ := w0
  obtain ⟨M, rfl⟩ : ∃ M, N = M + 200 := ⟨N - 200, by omega⟩
  refine pback_law (by omega) f y1 (fun k _ => bytes_of3 (fun xs hx x hi => (hps xs hx).2 x hi) k) fun i hi => ?_
  have hw : ∀ x, x ∈ (show List Int from y1) → inK .u16 x := w1.2
  have := hw ((show List Int from y1).getD i 0) (by rw [List.getD_eq_getElem?_getD, List.getElem?_eq_getElem hi]; exact List.getElem_mem hi)
  exact ⟨this.1, this.2⟩
end Go.Proofs.Ytjknjjdijoboiaa
