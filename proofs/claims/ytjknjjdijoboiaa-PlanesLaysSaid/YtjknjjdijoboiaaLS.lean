/- What the printed models answer: plain laws. -/
import Derived.Test.YtjknjjdijoboiaaLI
set_option linter.unusedVariables false
set_option linter.unusedSimpArgs false
namespace Go.Proofs.Ytjknjjdijoboiaa
open Go.X

/-! ### frames and stores that are laid anew -/
def areaN (f : Int) (k : Nat) : Nat := (wid f k * hig f k).toNat
def flatP (f s : Int) : List (List Int) := tab 3 fun k => List.replicate (areaN f k) s
theorem area_bnd (f : Int) (k : Nat) : areaN f k ≤ 1622016 := by
  obtain ⟨_, _, _, _, b5, b6⟩ := wh_bnd f k
  unfold areaN
  omega
/-- A loop that lays a row number by number. -/
theorem row_fill {S O : Type} {body : S → Option (S ⊕ O)} (mk : Nat → List Int → S) (out : List Int → O) {n N : Nat} (F : Nat → Int) {z : List Int} (hz : z.length = n)
    (hs : ∀ i, i < n → ∀ xs, xs.length = n → body (mk i xs) = some (.inl (mk (i + 1) (xs.set i (F i))))) (he : ∀ xs, xs.length = n → body (mk n xs) = some (.inr (out xs))) (hN : n < N) : iter body N (mk 0 z) = some (out (tab n F)) := by
  refine iter_to (fun i => mk i (tab n fun k => if k < i then F k else z.getD k 0)) n ?_ ?_ ?_ hN
  · show mk 0 z = mk 0 _
    refine congrArg (mk 0) ?_
    refine (tab_of 0 hz).trans (tab_ext fun k hk => ?_)
    rw [if_neg (by omega)]
  · intro i hi
    show body (mk i _) = _
    rw [hs i hi _ (tab_len _ _), tab_set]
    refine congrArg (fun l => some (Sum.inl (mk (i + 1) l))) (tab_ext fun k hk => ?_)
    by_cases h1 : k = i
    · rw [if_pos h1, if_pos (by omega), h1]
    · by_cases h2 : k < i
      · rw [if_neg h1, if_pos h2, if_pos (by omega)]
      · rw [if_neg h1, if_neg h2, if_neg (by omega)]
  · show body (mk n _) = _
    rw [he _ (tab_len _ _)]
    refine congrArg (fun l => some (Sum.inr (out l))) (tab_ext fun k hk => ?_)
    rw [if_pos hk]
theorem rep_ok (N : Nat) {n c : Int} (h0 : 0 ≤ n) (h1 : n ≤ 281474976710656) (c0 : 0 ≤ c) (c1 : c ≤ 255) : rep N 1 n ((List.replicate 1 0).set 0 c) = some (n.toNat, n.toNat, List.replicate n.toNat c) := by
  have e : ((List.replicate 1 (0 : Int)).set 0 c) = [c] := rfl
  rw [e]
  unfold rep
  rw [if_pos ⟨rfl, rfl, h0, h1, by unfold inK; exact ⟨c0, c1⟩⟩]
  rfl
theorem pnew_ok {N : Nat} (hN : 10 < N) (f s : Int) : planes_New N f s = some (bif decide (fA f ≠ 0) then (f, flatP f (clip s 0 255), 0) else (0, List.replicate 3 [], 1)) := by
  unfold planes_New
  simp only [size_eq, Option.isSome_some, if_true, Option.getD_some]
  cases hA : decide (fA f ≠ 0)
  · rfl
  · simp only [Bool.not_true, cond_false, cond_true]
    have hit := iter_fill (body := planes_New_b1 N f s) 3 N (fun k => List.replicate (areaN f k) (clip s 0 255)) (fun _ => []) (fun i hi => by
      obtain ⟨g1, g2, g3⟩ := in2 hi
      have g4 := inS (i := i) (by omega)
      obtain ⟨_, _, _, _, b5, b6⟩ := wh_bnd f i
      have g5 : inK .i64 (wid f i * hig f i) := in64 (by omega) (by omega)
      have c1 := clip_ge (a := s) (lo := 0) (hi := 255) (by decide)
      have c2 := clip_le (a := s) (lo := 0) (hi := 255) (by decide)
      have g6 : inK .u8 (clip s 0 255) := by unfold inK; exact ⟨c1, c2⟩
      simp only [planes_New_b1, g1, g2, hi, decide_true, cond_true, Int.toNat_natCast, and_self, if_true, plane_eq N f hi, Option.isSome_some, Option.getD_some, whole_clip N (show (0 : Int) ≤ 255 by decide), rep_ok N b5 (by omega) c1 c2, g5, g6, g4, List.length_replicate]
      rfl) (fun xs => by simp [planes_New_b1]) (by omega)
    rw [← rep_tab] at hit
    rw [hit]
    rfl
theorem pnewo_ok (N : Nat) (f s : Int) : planes_New_own N f s = some (bif decide (fA f ≠ 0) then (f, areaN f 0, areaN f 1, areaN f 2, 0, areaN f 0, List.replicate (areaN f 0) (clip s 0 255), areaN f 1, List.replicate (areaN f 1) (clip s 0 255), areaN f 2, List.replicate (areaN f 2) (clip s 0 255)) else (0, 0, 0, 0, 1, 0, [], 0, [], 0, [])) := by
  unfold planes_New_own
  simp only [size_eq, Option.isSome_some, if_true, Option.getD_some]
  cases hA : decide (fA f ≠ 0)
  · rfl
  · have c1 := clip_ge (a := s) (lo := 0) (hi := 255) (by decide)
    have c2 := clip_le (a := s) (lo := 0) (hi := 255) (by decide)
    have g6 : inK .u8 (clip s 0 255) := by unfold inK; exact ⟨c1, c2⟩
    have p0 : formats_Plane N f 0 = some (wid f 0, hig f 0) := plane_eq N f (k := 0) (by omega)
    have p1 : formats_Plane N f 1 = some (wid f 1, hig f 1) := plane_eq N f (k := 1) (by omega)
    have p2 : formats_Plane N f 2 = some (wid f 2, hig f 2) := plane_eq N f (k := 2) (by omega)
    have q : ∀ k, 0 ≤ wid f k * hig f k ∧ wid f k * hig f k ≤ 281474976710656 ∧ inK .i64 (wid f k * hig f k) := fun k => by
      obtain ⟨_, _, _, _, b5, b6⟩ := wh_bnd f k
      exact ⟨b5, by omega, in64 (by omega) (by omega)⟩
    simp only [Bool.not_true, cond_false, cond_true, p0, p1, p2, Option.isSome_some, Option.getD_some, if_true, whole_clip N (show (0 : Int) ≤ 255 by decide), rep_ok N (q 0).1 (q 0).2.1 c1 c2, rep_ok N (q 1).1 (q 1).2.1 c1 c2, rep_ok N (q 2).1 (q 2).2.1 c1 c2, g6, (q 0).2.2, (q 1).2.2, (q 2).2.2, and_self]
    rfl
theorem rnewo_ok {N : Nat} (hN : 2000000 < N) (f s : Int) : ref17_New_own N f s = some (f, areaN f 0, areaN f 1, areaN f 2, areaN f 0, tab (areaN f 0) (fun _ => clip s 0 255), areaN f 1, tab (areaN f 1) (fun _ => clip s 0 255), areaN f 2, tab (areaN f 2) (fun _ => clip s 0 255)) := by
  have g6 : inK .u8 (clip s 0 255) := by unfold inK; exact ⟨clip_ge (by decide), clip_le (by decide)⟩
  have q : ∀ k, 0 ≤ wid f k * hig f k ∧ wid f k * hig f k * 1 ≤ 140737488355328 ∧ inK .i64 (wid f k * hig f k) := fun k => by
    obtain ⟨_, _, _, _, b5, b6⟩ := wh_bnd f k
    exact ⟨b5, by omega, in64 (by omega) (by omega)⟩
  have w0 : ref17_Wide N f 0 = some (wid f 0) := rwide_eq N f 0
  have w1 : ref17_Wide N f 1 = some (wid f 1) := rwide_eq N f 1
  have w2 : ref17_Wide N f 2 = some (wid f 2) := rwide_eq N f 2
  have h0 : ref17_High N f 0 = some (hig f 0) := rhigh_eq N f 0
  have h1 : ref17_High N f 1 = some (hig f 1) := rhigh_eq N f 1
  have h2 : ref17_High N f 2 = some (hig f 2) := rhigh_eq N f 2
  have gen : ∀ (body : Int → Option Int → Option Int → Int × List Int → Option ((Int × List Int) ⊕ List Int)) (k : Nat),
      (∀ i : Nat, i < areaN f k → ∀ xs, body s (some (wid f k)) (some (hig f k)) ((i : Int), xs) = some (.inl ((i : Int) + 1, xs.set i (clip s 0 255)))) →
      (∀ xs, body s (some (wid f k)) (some (hig f k)) (((areaN f k : Nat) : Int), xs) = some (.inr xs)) →
      iter (body s (some (wid f k)) (some (hig f k))) N (0, List.replicate (areaN f k) 0) = some (tab (areaN f k) fun _ => clip s 0 255) := fun body k e1 e2 =>
    row_fill (body := body s (some (wid f k)) (some (hig f k))) (fun i xs => ((i : Int), xs)) (fun xs => xs) (fun _ => clip s 0 255) (by simp) (fun i hi xs _ => by
      show body s _ _ ((i : Int), xs) = _
      rw [e1 i hi]; rfl) (fun xs _ => e2 xs) (by have := area_bnd f k; omega)
  have sl : ∀ k i : Nat, i < areaN f k → (i : Int) < ((wid f k * hig f k).toNat : Int) ∧ i < (wid f k * hig f k).toNat ∧ inK .i64 ((i : Int) + 1) := fun k i hi => by
    have := area_bnd f k
    unfold areaN at hi this
    exact ⟨by omega, hi, in64 (by omega) (by omega)⟩
  have l3 := gen (fun s c d => ref17_New_own_b3 N s c d) 0 (fun i hi xs => by
    obtain ⟨s1, s2, s3⟩ := sl 0 i hi
    simp only [ref17_New_own_b3, Option.getD_some, s1, s2, s3, decide_true, cond_true, ref01_clip N (show (0 : Int) ≤ 255 by decide), Option.isSome_some, g6, Int.natCast_nonneg, Int.toNat_natCast, and_self, if_true]) (fun xs => by
    show ref17_New_own_b3 N s _ _ (((wid f 0 * hig f 0).toNat : Int), xs) = _
    simp only [ref17_New_own_b3, Option.getD_some, Int.lt_irrefl, decide_false, cond_false])
  have l2 := gen (fun s c d => ref17_New_own_b2 N s c d) 1 (fun i hi xs => by
    obtain ⟨s1, s2, s3⟩ := sl 1 i hi
    simp only [ref17_New_own_b2, Option.getD_some, s1, s2, s3, decide_true, cond_true, ref01_clip N (show (0 : Int) ≤ 255 by decide), Option.isSome_some, g6, Int.natCast_nonneg, Int.toNat_natCast, and_self, if_true]) (fun xs => by
    show ref17_New_own_b2 N s _ _ (((wid f 1 * hig f 1).toNat : Int), xs) = _
    simp only [ref17_New_own_b2, Option.getD_some, Int.lt_irrefl, decide_false, cond_false])
  have l1 := gen (fun s c d => ref17_New_own_b1 N s c d) 2 (fun i hi xs => by
    obtain ⟨s1, s2, s3⟩ := sl 2 i hi
    simp only [ref17_New_own_b1, Option.getD_some, s1, s2, s3, decide_true, cond_true, ref01_clip N (show (0 : Int) ≤ 255 by decide), Option.isSome_some, g6, Int.natCast_nonneg, Int.toNat_natCast, and_self, if_true]) (fun xs => by
    show ref17_New_own_b1 N s _ _ (((wid f 2 * hig f 2).toNat : Int), xs) = _
    simp only [ref17_New_own_b1, Option.getD_some, Int.lt_irrefl, decide_false, cond_false])
  have a0 : (wid f 0 * hig f 0).toNat = areaN f 0 := rfl
  have a1 : (wid f 1 * hig f 1).toNat = areaN f 1 := rfl
  have a2 : (wid f 2 * hig f 2).toNat = areaN f 2 := rfl
  unfold ref17_New_own
  simp only [w0, w1, w2, h0, h1, h2, Option.isSome_some, Option.getD_some, (q 0).1, (q 0).2.1, (q 0).2.2, (q 1).1, (q 1).2.1, (q 1).2.2, (q 2).1, (q 2).2.1, (q 2).2.2, and_self, if_true, a0, a1, a2, l1, l2, l3, Option.bind_some]
/-! ### a canvas -/
/-- Where a sample of a cell stands in its plane. -/
def idxC (f n : Int) (b i : Nat) : Nat := ((yc f n b + ((i / 8 : Nat) : Int)) * wid f (pk b) + (xc f n b + ((i % 8 : Nat) : Int))).toNat
/-- The rows when so many samples of a patch are laid. -/
def layN (f n : Int) (p : List Int) (R : Nat → List Int) : Nat → Nat → List Int
  | 0 => R
  | t + 1 => fun m => if m = pk (t / 64) then (layN f n p R t m).set (idxC f n (t / 64) (t % 64)) (clip (p.getD t 0) 0 255) else layN f n p R t m
theorem layN_len (f n : Int) (p : List Int) (R : Nat → List Int) (m : Nat) : ∀ t, (layN f n p R t m).length = (R m).length
  | 0 => rfl
  | t + 1 => by
    simp only [layN]
    split
    · rw [List.length_set]; exact layN_len f n p R m t
    · exact layN_len f n p R m t
theorem pk_or {b : Nat} (hb : b < 6) : pk b = 0 ∨ pk b = 1 ∨ pk b = 2 := by unfold pk; omega
theorem idx_facts {f n : Int} (h : hasF f n = true) {b : Nat} (hb : b < 6) {i : Nat} (hi : i < 64) : idxC f n b i < areaN f (pk b) ∧ ((idxC f n b i : Nat) : Int) = (yc f n b + ((i / 8 : Nat) : Int)) * wid f (pk b) + (xc f n b + ((i % 8 : Nat) : Int)) := by
  obtain ⟨x0, x1, y0, y1, _, _⟩ := cut_in h hb hi
  have := idx_lt x0 x1 y0 y1
  unfold idxC areaN
  omega
theorem blk_get {p : List Int} (hp : p.length = 384) {b : Nat} (hb : b < 6) {i : Nat} (hi : i < 64) : ((p.drop (64 * b)).take 64).getD i 0 = p.getD (64 * b + i) 0 := by
  rw [blk_tab hp hb, tab_get _ _ hi]
theorem blk64 {b i : Nat} (hi : i < 64) : (64 * b + i) / 64 = b ∧ (64 * b + i) % 64 = i := by omega
theorem lay_row {l : List Int} {n : Nat} (h : l.length = n) : layL (List.replicate n 0) 0 ((l.take n).take (min n n)) (min n n) = l := by
  subst h
  unfold layL
  simp
theorem lay_ok {N : Nat} (hN : 100 < N) (f n : Int) {p : List Int} (hp : p.length = 384) (R : Nat → List Int) :
    overspill_planes_Canvas_Lay_v2 N n p f (areaN f 0) (areaN f 1) (areaN f 2) (areaN f 0) (R 0) (areaN f 1) (R 1) (areaN f 2) (R 2) = some (bif hasF f n then (0, areaN f 0, layN f n p R 384 0, areaN f 1, layN f n p R 384 1, areaN f 2, layN f n p R 384 2) else (1, areaN f 0, R 0, areaN f 1, R 1, areaN f 2, R 2)) := by
  unfold overspill_planes_Canvas_Lay_v2
  rw [has_ok]
  cases hh : hasF f n
  · rfl
  · have wc : ∀ a, whole_Clip N a 0 255 = some (clip a 0 255) := fun a => whole_clip N (by decide)
    have g6 : ∀ a, inK .u8 (clip a 0 255) := fun a => by unfold inK; exact ⟨clip_ge (by decide), clip_le (by decide)⟩
    have hit : iter (overspill_planes_Canvas_Lay_v2_b1 N n p f (areaN f 0) (areaN f 1) (areaN f 2) (areaN f 0) (areaN f 1) (areaN f 2)) N (0, R 0, R 1, R 2) = some (layN f n p R 384 0, layN f n p R 384 1, layN f n p R 384 2) := by
      refine iter_to (fun b => ((b : Int), layN f n p R (64 * b) 0, layN f n p R (64 * b) 1, layN f n p R (64 * b) 2)) 6 rfl (fun b hb => ?_) ?_ (by omega)
      · obtain ⟨q1, q2, q3⟩ := in5 hb
        have q4 := inS (i := b) (by omega)
        have q5 : 64 * b + 64 ≤ 384 := by omega
        have hin : iter (overspill_planes_Canvas_Lay_v2_b2 N p (areaN f 0) (areaN f 1) (areaN f 2) (areaN f 0) (areaN f 1) (areaN f 2) ((b : Int), layN f n p R (64 * b) 0, layN f n p R (64 * b) 1, layN f n p R (64 * b) 2) (some (((pk b : Nat) : Int), yc f n b * wid f (pk b) + xc f n b, wid f (pk b)))) N (((pk b : Nat) : Int), ((pk b : Nat) : Int), ((pk b : Nat) : Int), ((pk b : Nat) : Int), 0, layN f n p R (64 * b) 0, layN f n p R (64 * b) 1, layN f n p R (64 * b) 2) = some (((pk b : Nat) : Int), ((pk b : Nat) : Int), ((pk b : Nat) : Int), ((pk b : Nat) : Int), (64 : Int), false, layN f n p R (64 * b + 64) 0, layN f n p R (64 * b + 64) 1, layN f n p R (64 * b + 64) 2) := by
          refine iter_to (fun i => (((pk b : Nat) : Int), ((pk b : Nat) : Int), ((pk b : Nat) : Int), ((pk b : Nat) : Int), (i : Int), layN f n p R (64 * b + i) 0, layN f n p R (64 * b + i) 1, layN f n p R (64 * b + i) 2)) 64 rfl (fun i hi => ?_) ?_ (by omega)
          · have h1 : (i : Int) < 64 := by omega
            have h2 := inS (i := i) (by omega)
            obtain ⟨x0, x1, y0, y1, xc0, yc0⟩ := cut_in hh hb hi
            obtain ⟨w1, w2, w3, w4, w5, w6⟩ := wh_bnd f (pk b)
            obtain ⟨k1, k2⟩ := idx_facts hh hb hi
            have ka := area_bnd f (pk b)
            have e8 : ((i : Int) / 8) = ((i / 8 : Nat) : Int) := by omega
            have m8 : ((i : Int) % 8) = ((i % 8 : Nat) : Int) := by omega
            have d1 := mul_le2 (a := ((i / 8 : Nat) : Int)) (b := wid f (pk b)) (c := 8) (d := 1408) (by omega) (by omega) w1 w2
            have d2 := mul_le2 (a := yc f n b) (b := wid f (pk b)) (c := 1152) (d := 1408) yc0 (by omega) w1 w2
            have ei : yc f n b * wid f (pk b) + xc f n b + ((i / 8 : Nat) : Int) * wid f (pk b) + ((i % 8 : Nat) : Int) = ((idxC f n b i : Nat) : Int) := by
              rw [k2, Int.add_mul]; omega
            have i1 : inK .i64 (((i / 8 : Nat) : Int) * wid f (pk b)) := in64 (by omega) (by omega)
            have i2 : inK .i64 (yc f n b * wid f (pk b) + xc f n b + ((i / 8 : Nat) : Int) * wid f (pk b)) := in64 (by omega) (by omega)
            have i3 : inK .i64 (((idxC f n b i : Nat) : Int)) := in64 (by omega) (by omega)
            have i4 : ((idxC f n b i : Nat) : Int) < ((areaN f (pk b) : Nat) : Int) := by omega
            obtain ⟨t1, t2⟩ := blk64 (b := b) hi
            have hl : ∀ m, layN f n p R (64 * b + i + 1) m = if m = pk b then (layN f n p R (64 * b + i) m).set (idxC f n b i) (clip (p.getD (64 * b + i) 0) 0 255) else layN f n p R (64 * b + i) m := fun m => by
              simp only [layN]
              rw [t1, t2]
            have hst : ∀ A B C : List Int, (((pk b : Nat) : Int), ((pk b : Nat) : Int), ((pk b : Nat) : Int), ((pk b : Nat) : Int), ((i + 1 : Nat) : Int), A, B, C) = (((pk b : Nat) : Int), ((pk b : Nat) : Int), ((pk b : Nat) : Int), ((pk b : Nat) : Int), (i : Int) + 1, A, B, C) := fun A B C => by rw [Int.natCast_succ]
            show _ = some (Sum.inl (_, _, _, _, _, layN f n p R (64 * b + i + 1) 0, layN f n p R (64 * b + i + 1) 1, layN f n p R (64 * b + i + 1) 2))
            rw [hst, hl 0, hl 1, hl 2]
            generalize layN f n p R (64 * b + i) 0 = r0
            generalize layN f n p R (64 * b + i) 1 = r1
            generalize layN f n p R (64 * b + i) 2 = r2
            rcases pk_or hb with hk | hk | hk <;> rw [hk] at i1 i2 i4 k1 ei ⊢
            · simp only [overspill_planes_Canvas_Lay_v2_b2, h1, hi, decide_true, cond_true, Int.natCast_nonneg, Int.toNat_natCast, and_self, if_true, blk_get hp hb hi, wc, Option.isSome_some, Option.getD_some, e8, m8, ei, i1, i2, i3, i4, k1, g6, h2]
              rfl
            · have z0 : decide (((1 : Nat) : Int) = 0) = false := rfl
              simp only [overspill_planes_Canvas_Lay_v2_b2, h1, hi, z0, decide_true, cond_true, cond_false, Int.natCast_nonneg, Int.toNat_natCast, and_self, if_true, blk_get hp hb hi, wc, Option.isSome_some, Option.getD_some, e8, m8, ei, i1, i2, i3, i4, k1, g6, h2]
              rfl
            · have z0 : decide (((2 : Nat) : Int) = 0) = false := rfl
              have z1 : decide (((2 : Nat) : Int) = 1) = false := rfl
              simp only [overspill_planes_Canvas_Lay_v2_b2, h1, hi, z0, z1, decide_true, cond_true, cond_false, Int.natCast_nonneg, Int.toNat_natCast, and_self, if_true, blk_get hp hb hi, wc, Option.isSome_some, Option.getD_some, e8, m8, ei, i1, i2, i3, i4, k1, g6, h2]
              rfl
          · show overspill_planes_Canvas_Lay_v2_b2 _ _ _ _ _ _ _ _ _ _ (_, _, _, _, (64 : Int), _) = _
            simp only [overspill_planes_Canvas_Lay_v2_b2, Int.lt_irrefl, decide_false, cond_false]
        have hin2 := hin
        simp only [overspill_planes_Canvas_Lay_v2_b1, q1, q2, q5, decide_true, cond_true, place_ok N hh hb, Option.isSome_some, Option.getD_some, Int.toNat_natCast, and_self, if_true, hin2, Option.bind_some, q4]
        rw [Int.natCast_succ, Nat.mul_succ]
      · show overspill_planes_Canvas_Lay_v2_b1 _ _ _ _ _ _ _ _ _ _ ((6 : Int), _) = _
        simp only [overspill_planes_Canvas_Lay_v2_b1, Int.lt_irrefl, decide_false, cond_false]
    simp only [Option.isSome_some, implies_true, if_true, Option.getD_some, Bool.not_true, cond_false, cond_true, hit, Option.bind_some]
theorem frame_ok (N : Nat) (f : Int) {R : Nat → List Int} (h : ∀ m, m < 3 → (R m).length = areaN f m) : overspill_planes_Canvas_Frame_v2 N f (areaN f 0) (areaN f 1) (areaN f 2) (areaN f 0) (R 0) (areaN f 1) (R 1) (areaN f 2) (R 2) = some (f, [R 0, R 1, R 2]) := by
  unfold overspill_planes_Canvas_Frame_v2
  have b0 := area_bnd f 0
  have b1 := area_bnd f 1
  have b2 := area_bnd f 2
  have e : ∀ n : Nat, n ≤ 1622016 → (0 : Int) ≤ (n : Int) ∧ (n : Int) * 1 ≤ 140737488355328 ∧ 0 + min n n ≤ n := fun n hn => ⟨by omega, by omega, by omega⟩
  simp only [Int.toNat_natCast, lay_row (h 0 (by omega)), lay_row (h 1 (by omega)), lay_row (h 2 (by omega)), (e _ b0).1, (e _ b0).2.1, (e _ b0).2.2, (e _ b1).1, (e _ b1).2.1, (e _ b1).2.2, (e _ b2).1, (e _ b2).2.1, (e _ b2).2.2, Nat.le_refl, and_self, if_true]
  rw [if_pos ⟨(h 0 (by omega)).symm, (h 1 (by omega)).symm, (h 2 (by omega)).symm⟩]
theorem on_ok (N : Nat) {f : Int} (h : fA f ≠ 0) : planes_On_own_ptr N f = some (0, f, areaN f 0, areaN f 1, areaN f 2, areaN f 0, List.replicate (areaN f 0) 0, areaN f 1, List.replicate (areaN f 1) 0, areaN f 2, List.replicate (areaN f 2) 0) := by
  unfold planes_On_own_ptr
  have hc0 : clip 0 0 255 = 0 := rfl
  rw [pnewo_ok, decide_eq_true h, hc0]
  rfl
def ptL (vs : List Int) : Nat → List Int
  | 0 => List.replicate 384 0
  | i + 1 => (ptL vs i).set ((i / 64 % 6) * 64 + i % 64) (vs.getD i 0)
theorem ptL_len (vs : List Int) : ∀ i, (ptL vs i).length = 384
  | 0 => List.length_replicate
  | i + 1 => by simp only [ptL, List.length_set]; exact ptL_len vs i
theorem patch_ok {N : Nat} (n : Int) {vs : List Int} (hN : vs.length < N) (hl : (vs.length : Int) ≤ 9223372036854775807) : law17_patch N n vs = some (ptL vs vs.length) := by
  have hit : iter (law17_patch_b1 N vs) N (0, List.replicate 384 0) = some (ptL vs vs.length) := by
    refine iter_to (fun i => ((i : Int), ptL vs i)) vs.length rfl (fun i hi => ?_) ?_ hN
    · have g1 : (i : Int) < (vs.length : Int) := by omega
      have g2 : inK .i64 ((i : Int) + 1) := in64 (by omega) (by omega)
      have g3 : (0 : Int) ≤ (i : Int) / 64 := by omega
      have g4 : (0 : Int) ≤ (i : Int) / 64 % 6 := by omega
      have g5 : (i : Int) / 64 % 6 < 6 := by omega
      have g6 : (0 : Int) ≤ (i : Int) % 64 := by omega
      have g7 : (i : Int) % 64 < 64 := by omega
      have e1 : ((i : Int) / 64 % 6).toNat = i / 64 % 6 := by omega
      have e2 : ((i : Int) % 64).toNat = i % 64 := by omega
      have g8 : (i / 64 % 6) * 64 + i % 64 < 384 := by omega
      simp only [law17_patch_b1, g1, g2, g3, g4, g5, g6, g7, g8, e1, e2, decide_true, cond_true, Int.natCast_nonneg, Int.toNat_natCast, and_self, if_true]
      rw [Int.natCast_succ]
      rfl
    · simp only [law17_patch_b1, Int.lt_irrefl, decide_false, cond_false]
  unfold law17_patch
  rw [hit]
  rfl
theorem rplace_still (N : Nat) {f n : Int} (hh : hasF f n = true) {b : Nat} (hb6 : b < 6) {i : Nat} (hi : i < 64) : ref17_Place N f n (b : Int) (i : Int) = some (((pk b : Nat) : Int), xc f n b + ((i % 8 : Nat) : Int), yc f n b + ((i / 8 : Nat) : Int)) := by
  obtain ⟨X, Y, hpl, hlu, hch, X0, X1, Y0, Y1⟩ := rplace_ok N (may_still hh) hb6 hi
  have z0 : ([0, 0] : List Int).getD 0 0 = 0 := rfl
  have z1 : ([0, 0] : List Int).getD 1 0 = 0 := rfl
  have z2 : chr 0 = 0 := rfl
  have xs : xb f n [0, 0] b = 2 * xc f n b := by
    unfold xb xc
    show (if b < 4 then _ + (0 : Int) else _ + chr 0) = _
    rw [show chr 0 = 0 from rfl]
    split <;> omega
  have ys : yb f n [0, 0] b = 2 * yc f n b := by
    unfold yb yc
    show (if b < 4 then _ + (0 : Int) else _ + chr 0) = _
    rw [show chr 0 = 0 from rfl]
    split <;> omega
  rw [z0, z1, xs, ys] at hlu
  rw [z0, z1, z2, xs, ys] at hch
  have eX : X = xc f n b + ((i % 8 : Nat) : Int) := by
    by_cases hb4 : b < 4
    · have := (hlu hb4).1; omega
    · have := (hch hb4).1; omega
  have eY : Y = yc f n b + ((i / 8 : Nat) : Int) := by
    by_cases hb4 : b < 4
    · have := (hlu hb4).2; omega
    · have := (hch hb4).2; omega
  rw [hpl, eX, eY]
theorem rlay_ok {N : Nat} (hN : 100 < N) {f n : Int} (hh : hasF f n = true) (p : List Int) (R : Nat → List Int) :
    ref17_Lay N f (areaN f 0) (areaN f 1) (areaN f 2) n p (areaN f 0) (R 0) (areaN f 1) (R 1) (areaN f 2) (R 2) = some (areaN f 0, layN f n p R 384 0, areaN f 1, layN f n p R 384 1, areaN f 2, layN f n p R 384 2) := by
  unfold ref17_Lay
  have wc : ∀ a, ref01_Clip N a 0 255 = some (clip a 0 255) := fun a => ref01_clip N (by decide)
  have g6 : ∀ a, inK .u8 (clip a 0 255) := fun a => by unfold inK; exact ⟨clip_ge (by decide), clip_le (by decide)⟩
  have w0 : ref17_Wide N f 0 = some (wid f 0) := rwide_eq N f 0
  have w1 : ref17_Wide N f 1 = some (wid f 1) := rwide_eq N f 1
  have w2 : ref17_Wide N f 2 = some (wid f 2) := rwide_eq N f 2
  have hit : iter (ref17_Lay_b1 N f (areaN f 0) (areaN f 1) (areaN f 2) n p (areaN f 0) (areaN f 1) (areaN f 2)) N (0, R 0, R 1, R 2) = some (layN f n p R 384 0, layN f n p R 384 1, layN f n p R 384 2) := by
    refine iter_to (fun b => ((b : Int), layN f n p R (64 * b) 0, layN f n p R (64 * b) 1, layN f n p R (64 * b) 2)) 6 rfl (fun b hb => ?_) ?_ (by omega)
    · obtain ⟨q1, q2, q3⟩ := in5 hb
      have q4 := inS (i := b) (by omega)
      have hin : iter (ref17_Lay_b2 N f (areaN f 0) (areaN f 1) (areaN f 2) n p (areaN f 0) (areaN f 1) (areaN f 2) ((b : Int), layN f n p R (64 * b) 0, layN f n p R (64 * b) 1, layN f n p R (64 * b) 2)) N (0, layN f n p R (64 * b) 0, layN f n p R (64 * b) 1, layN f n p R (64 * b) 2) = some ((64 : Int), (64 : Int), false, layN f n p R (64 * b + 64) 0, layN f n p R (64 * b + 64) 1, layN f n p R (64 * b + 64) 2) := by
        refine iter_to (fun i => ((i : Int), layN f n p R (64 * b + i) 0, layN f n p R (64 * b + i) 1, layN f n p R (64 * b + i) 2)) 64 rfl (fun i hi => ?_) ?_ (by omega)
        · have h1 : (i : Int) < 64 := by omega
          have h2 := inS (i := i) (by omega)
          have h3 : 64 * b + i < 384 := by omega
          have h4 : b * 64 + i = 64 * b + i := by omega
          obtain ⟨x0, x1, y0, y1, xc0, yc0⟩ := cut_in hh hb hi
          obtain ⟨v1, v2, v3, v4, v5, v6⟩ := wh_bnd f (pk b)
          obtain ⟨k1, k2⟩ := idx_facts hh hb hi
          have ka := area_bnd f (pk b)
          have d2 := mul_le2 (a := yc f n b + ((i / 8 : Nat) : Int)) (b := wid f (pk b)) (c := 1152) (d := 1408) y0 (by omega) v1 v2
          have i1 : inK .i64 ((yc f n b + ((i / 8 : Nat) : Int)) * wid f (pk b)) := in64 (by omega) (by omega)
          have i3 : inK .i64 (((idxC f n b i : Nat) : Int)) := in64 (by omega) (by omega)
          have i4 : ((idxC f n b i : Nat) : Int) < ((areaN f (pk b) : Nat) : Int) := by omega
          obtain ⟨t1, t2⟩ := blk64 (b := b) hi
          have hl : ∀ m, layN f n p R (64 * b + i + 1) m = if m = pk b then (layN f n p R (64 * b + i) m).set (idxC f n b i) (clip (p.getD (64 * b + i) 0) 0 255) else layN f n p R (64 * b + i) m := fun m => by
            simp only [layN]
            rw [t1, t2]
          have hst : ∀ A B C : List Int, (((i + 1 : Nat) : Int), A, B, C) = ((i : Int) + 1, A, B, C) := fun A B C => by rw [Int.natCast_succ]
          show _ = some (Sum.inl (_, layN f n p R (64 * b + i + 1) 0, layN f n p R (64 * b + i + 1) 1, layN f n p R (64 * b + i + 1) 2))
          rw [hst, hl 0, hl 1, hl 2]
          have hpl := rplace_still N hh hb hi
          generalize layN f n p R (64 * b + i) 0 = r0
          generalize layN f n p R (64 * b + i) 1 = r1
          generalize layN f n p R (64 * b + i) 2 = r2
          rcases pk_or hb with hk | hk | hk <;> rw [hk] at i1 i4 k1 k2 hpl ⊢
          · have z0 : decide (((0 : Nat) : Int) = 0) = true := rfl
            simp only [ref17_Lay_b2, h1, h3, h4, q1, q2, hpl, w0, z0, decide_true, cond_true, Int.natCast_nonneg, Int.toNat_natCast, and_self, if_true, wc, Option.isSome_some, Option.getD_some, ← k2, i1, i3, i4, k1, g6, h2]
            rfl
          · have z0 : decide (((1 : Nat) : Int) = 0) = false := rfl
            have z1 : decide (((1 : Nat) : Int) = 1) = true := rfl
            simp only [ref17_Lay_b2, h1, h3, h4, q1, q2, hpl, w1, z0, z1, decide_true, cond_true, cond_false, Int.natCast_nonneg, Int.toNat_natCast, and_self, if_true, wc, Option.isSome_some, Option.getD_some, ← k2, i1, i3, i4, k1, g6, h2]
            rfl
          · have z0 : decide (((2 : Nat) : Int) = 0) = false := rfl
            have z1 : decide (((2 : Nat) : Int) = 1) = false := rfl
            have z2 : decide (((2 : Nat) : Int) = 2) = true := rfl
            simp only [ref17_Lay_b2, h1, h3, h4, q1, q2, hpl, w2, z0, z1, z2, decide_true, cond_true, cond_false, Int.natCast_nonneg, Int.toNat_natCast, and_self, if_true, wc, Option.isSome_some, Option.getD_some, ← k2, i1, i3, i4, k1, g6, h2]
            rfl
        · show ref17_Lay_b2 _ _ _ _ _ _ _ _ _ _ _ ((64 : Int), _) = _
          simp only [ref17_Lay_b2, Int.lt_irrefl, decide_false, cond_false]
      simp only [ref17_Lay_b1, q2, decide_true, cond_true, hin, Option.bind_some, q4, if_true]
      rw [Int.natCast_succ, Nat.mul_succ]
    · show ref17_Lay_b1 _ _ _ _ _ _ _ _ _ _ ((6 : Int), _) = _
      simp only [ref17_Lay_b1, Int.lt_irrefl, decide_false, cond_false]
  simp only [hit, Option.bind_some]
theorem rsameR_ok (N : Nat) (f : Int) {R : Nat → List Int} (h : ∀ m, m < 3 → (R m).length = areaN f m) : ref17_Same N f [R 0, R 1, R 2] f (areaN f 0) (areaN f 1) (areaN f 2) (areaN f 0) (R 0) (areaN f 1) (R 1) (areaN f 2) (R 2) = some true := by
  have b0 := area_bnd f 0
  have b1 := area_bnd f 1
  have b2 := area_bnd f 2
  have e : ∀ n : Nat, n ≤ 1622016 → (n : Int) ≤ 9223372036854775807 := fun n hn => by omega
  have t : ∀ m, m < 3 → (R m).take (areaN f m) = R m := fun m hm => by rw [← h m hm]; exact List.take_length
  have g0 : ([R 0, R 1, R 2] : List (List Int)).getD 0 [] = R 0 := rfl
  have g1 : ([R 0, R 1, R 2] : List (List Int)).getD 1 [] = R 1 := rfl
  have g2 : ([R 0, R 1, R 2] : List (List Int)).getD 2 [] = R 2 := rfl
  have hne : ∀ x : List Int, decide (ByteArray.toList (bytesOf x) ≠ ByteArray.toList (bytesOf x)) = false := fun x => decide_eq_false (fun h => h rfl)
  have hf : decide (f ≠ f) = false := decide_eq_false (fun h => h rfl)
  unfold ref17_Same
  simp only [hf, cond_false, g0, g1, g2, t 0 (by omega), t 1 (by omega), t 2 (by omega), hne, Nat.le_refl, e _ b0, e _ b1, e _ b2, and_self, if_true]
def canR (f : Int) (l : List (Int × List Int)) : Nat → Nat → List Int
  | 0 => fun m => List.replicate (areaN f m) 0
  | i + 1 => fun m => bif hasF f (l.getD i (0, [])).1 then layN f (l.getD i (0, [])).1 (ptL (l.getD i (0, [])).2 (l.getD i (0, [])).2.length) (canR f l i) 384 m else canR f l i m
theorem canR_len (f : Int) (l : List (Int × List Int)) (m : Nat) : ∀ t, (canR f l t m).length = areaN f m
  | 0 => by simp [canR]
  | t + 1 => by
    simp only [canR]
    cases hasF f (l.getD t (0, [])).1
    · exact canR_len f l m t
    · show (layN _ _ _ _ _ _).length = _
      rw [layN_len]; exact canR_len f l m t
theorem not_hasF (f n : Int) : (bif decide (n < 0) then true else decide (fA f * fD f ≤ n)) = !hasF f n := by
  unfold hasF
  by_cases h1 : n < 0
  · have : ¬ 0 ≤ n := by omega
    simp [h1, this]
  · have h2 : 0 ≤ n := by omega
    by_cases h3 : fA f * fD f ≤ n
    · have : ¬ n < fA f * fD f := by omega
      simp [h1, h3, this]
    · have : n < fA f * fD f := by omega
      simp [h1, h2, h3, this]
theorem lives17' (M : Nat) : law17_lives (M + 200) = some true := by
  unfold law17_lives
  rw [pnew_ok (N := M + 200) (by omega)]
  simp only [pright_ok (N := M + 200) (by omega)]
  kernel_rfl
theorem psame0 (M : Nat) : planes_Same (M + 200) 0 0 = some true := by kernel_rfl
theorem psame1 (M : Nat) : planes_Same_v1 (M + 200) 0 [[], [], []] 0 = some true := by kernel_rfl
theorem frame0 (N : Nat) : overspill_planes_Canvas_Frame_v1 N 0 = some (0, [[], [], []]) := by rfl
theorem layz (N : Nat) (Z : List Int) : overspill_planes_Canvas_Lay_v1 N 0 Z 0 = some 1 := by
  unfold overspill_planes_Canvas_Lay_v1
  rw [has_ok, show hasF 0 0 = false by decide]
  rfl
theorem laysP {M : Nat} (hM : 9223372036854775807 ≤ M) {f : Int} (hA : fA f ≠ 0) {l : List (Int × List Int)} (hl : ∀ x ∈ l, (x.2.length : Int) ≤ 9223372036854775807) : law17_PlanesLays_ptr (M + 200) f l = some true := by
  unfold law17_PlanesLays_ptr
  rw [lives17' M]
  have hobl : ((!(decide ((20 : Int) < (l.length : Int)))) = true → decide ((3 : Int) ≤ f) = true → ((!(decide ((20 : Int) < (l.length : Int)))) && decide ((3 : Int) ≤ f)) = true) := fun h1 h2 => by rw [h1, h2]; rfl
  rw [if_pos hobl]
  cases hG : (bif decide ((20 : Int) < (l.length : Int)) then true else (bif decide ((3 : Int) ≤ f) then decide (f ≤ 5) else false))
  case true => rfl
  have hlen : (l.length : Int) ≤ 20 := by
    by_cases h : (20 : Int) < (l.length : Int)
    · rw [decide_eq_true h] at hG; cases hG
    · omega
  obtain ⟨a1, a2, a3, a4⟩ : 2 ≤ fA f ∧ fA f ≤ 88 ∧ 2 ≤ fD f ∧ fD f ≤ 72 := by
    rcases fmt_or f with ⟨h1, _⟩ | h
    · exact absurd h1 hA
    · exact h
  have hpos : 0 < fA f * fD f := Int.mul_pos (by omega) (by omega)
  have hm0 : decide (fA f * fD f = 0) = false := decide_eq_false (by omega)
  have hc0 : clip 0 0 255 = 0 := rfl
  have c11 := rnewo_ok (N := M + 200) (by omega) f 0
  have ht : ∀ k, tab (areaN f k) (fun _ => (0 : Int)) = List.replicate (areaN f k) 0 := fun k => by rw [rep_tab]
  rw [hc0, ht 0, ht 1, ht 2] at c11
  obtain ⟨Z, hZ⟩ : ∃ Z, Z = List.replicate 384 (0 : Int) := ⟨_, rfl⟩
  rw [← hZ]
  have c3 : overspill_planes_Canvas_Lay (M + 200) 0 Z = some 1 := rfl
  have c4 := layz (M + 200) Z
  have c5 : overspill_planes_Canvas_Frame (M + 200) = some 0 := rfl
  have d0 : decide ((0 : Int) ≠ 0) = false := rfl
  have d1 : decide ((1 : Int) ≠ 1) = false := rfl
  have hit : iter (law17_PlanesLays_ptr_b1 (M + 200) f l (some (0, f, areaN f 0, areaN f 1, areaN f 2, areaN f 0, List.replicate (areaN f 0) 0, areaN f 1, List.replicate (areaN f 1) 0, areaN f 2, List.replicate (areaN f 2) 0)) (some (f, areaN f 0, areaN f 1, areaN f 2, areaN f 0, List.replicate (areaN f 0) 0, areaN f 1, List.replicate (areaN f 1) 0, areaN f 2, List.replicate (areaN f 2) 0))) (M + 200) (0, areaN f 0, List.replicate (areaN f 0) 0, areaN f 1, List.replicate (areaN f 1) 0, areaN f 2, List.replicate (areaN f 2) 0, areaN f 0, List.replicate (areaN f 0) 0, areaN f 1, List.replicate (areaN f 1) 0, areaN f 2, List.replicate (areaN f 2) 0) = some (.inr (areaN f 0, canR f l l.length 0, areaN f 1, canR f l l.length 1, areaN f 2, canR f l l.length 2, areaN f 0, canR f l l.length 0, areaN f 1, canR f l l.length 1, areaN f 2, canR f l l.length 2)) := by
    refine iter_to (fun i => ((i : Int), areaN f 0, canR f l i 0, areaN f 1, canR f l i 1, areaN f 2, canR f l i 2, areaN f 0, canR f l i 0, areaN f 1, canR f l i 1, areaN f 2, canR f l i 2)) l.length rfl (fun i hi => ?_) ?_ (by omega)
    · have g1 : (i : Int) < (l.length : Int) := by omega
      have g2 := inS (i := i) (by omega)
      have hfr := frame_ok (M + 200) f (R := canR f l i) (fun m _ => canR_len f l m i)
      have hsm := rsameR_ok (M + 200) f (R := canR f l i) (fun m _ => canR_len f l m i)
      have hst : ∀ m, canR f l (i + 1) m = bif hasF f (l.getD i ((0 : Int), [])).1 then layN f (l.getD i ((0 : Int), [])).1 (ptL (l.getD i ((0 : Int), [])).2 (l.getD i ((0 : Int), [])).2.length) (canR f l i) 384 m else canR f l i m := fun m => rfl
      have hmem : l.getD i ((0 : Int), []) ∈ l := by
        rw [List.getD_eq_getElem?_getD, List.getElem?_eq_getElem hi]; exact List.getElem_mem hi
      show _ = some (Sum.inl (((i + 1 : Nat) : Int), areaN f 0, canR f l (i + 1) 0, areaN f 1, canR f l (i + 1) 1, areaN f 2, canR f l (i + 1) 2, areaN f 0, canR f l (i + 1) 0, areaN f 1, canR f l (i + 1) 1, areaN f 2, canR f l (i + 1) 2))
      rw [hst 0, hst 1, hst 2, Int.natCast_succ]
      clear hst
      obtain ⟨q, hq⟩ : ∃ q, q = l.getD i ((0 : Int), []) := ⟨_, rfl⟩
      rw [← hq] at hmem ⊢
      have hql := hl q hmem
      have hpt := patch_ok (N := M + 200) q.1 (vs := q.2) (by omega) hql
      have hlay := lay_ok (N := M + 200) (by omega) f q.1 (p := ptL q.2 q.2.length) (ptL_len _ _) (canR f l i)
      cases hh : hasF f q.1
      · rw [hh, cond_false] at hlay
        simp only [law17_PlanesLays_ptr_b1, g1, decide_true, cond_true, cond_false, Int.toNat_natCast, Int.natCast_nonneg, ← hq, hfr, hpt, hlay, hsm, rmany_eq, not_hasF, hh, d1, g2, Bool.not_true, Bool.not_false, Option.isSome_some, Option.getD_some, implies_true, and_self, if_true]
      · rw [hh, cond_true] at hlay
        have hrl := rlay_ok (N := M + 200) (by omega) hh (ptL q.2 q.2.length) (canR f l i)
        simp only [law17_PlanesLays_ptr_b1, g1, decide_true, cond_true, cond_false, Int.toNat_natCast, Int.natCast_nonneg, ← hq, hfr, hpt, hlay, hrl, hsm, rmany_eq, not_hasF, hh, d0, g2, Bool.not_true, Bool.not_false, Option.isSome_some, Option.getD_some, implies_true, and_self, if_true]
    · show law17_PlanesLays_ptr_b1 _ _ _ _ _ ((l.length : Int), _) = _
      simp only [law17_PlanesLays_ptr_b1, Int.lt_irrefl, decide_false, cond_false]
  have hfr := frame_ok (M + 200) f (R := canR f l l.length) (fun m _ => canR_len f l m _)
  have hsm := rsameR_ok (M + 200) f (R := canR f l l.length) (fun m _ => canR_len f l m _)
  simp only [cond_false, on_ok (M + 200) hA, c3, c4, c5, frame0, psame0, psame1, d0, d1, rmany_eq, hm0, c11, hit, hfr, hsm, Option.isSome_some, Option.getD_some, Bool.not_true, cond_true, implies_true, and_self, if_true, Option.bind_some, Sum.elim_inr]
theorem laysN {M : Nat} {f : Int} (hA : fA f = 0) (l : List (Int × List Int)) : law17_PlanesLays_nil (M + 200) f l = some true := by
  unfold law17_PlanesLays_nil
  rw [lives17' M]
  have hobl : ((!(decide ((20 : Int) < (l.length : Int)))) = true → decide ((3 : Int) ≤ f) = true → ((!(decide ((20 : Int) < (l.length : Int)))) && decide ((3 : Int) ≤ f)) = true) := fun h1 h2 => by rw [h1, h2]; rfl
  rw [if_pos hobl]
  cases hG : (bif decide ((20 : Int) < (l.length : Int)) then true else (bif decide ((3 : Int) ≤ f) then decide (f ≤ 5) else false))
  case true => rfl
  have hA' : decide (fA f ≠ 0) = false := decide_eq_false (fun h => h hA)
  have hm0 : decide (fA f * fD f = 0) = true := decide_eq_true (by rw [hA, Int.zero_mul])
  obtain ⟨Z, hZ⟩ : ∃ Z, Z = List.replicate 384 (0 : Int) := ⟨_, rfl⟩
  rw [← hZ]
  have c2 : planes_On_own_nil (M + 200) f = some 1 := by
    unfold planes_On_own_nil
    rw [pnewo_ok, hA']
    rfl
  have c3 : overspill_planes_Canvas_Lay (M + 200) 0 Z = some 1 := rfl
  have c4 := layz (M + 200) Z
  have c5 : overspill_planes_Canvas_Frame (M + 200) = some 0 := rfl
  have d1 : decide ((1 : Int) ≠ 1) = false := rfl
  simp only [cond_false, c2, c3, c4, c5, frame0, psame0, psame1, d1, rmany_eq, hm0, Option.isSome_some, Option.getD_some, Bool.not_true, cond_true, implies_true, and_self, if_true, decide_true]
theorem law_planesLays (N : Nat) (hN : 18446744073709551616 ≤ N) (y0 : Sh.den (.int .i64)) (w0 : Sh.wf (.int .i64) y0) (y1 : Sh.den (.sl (.pair (.int .i64) (.sl (.int .i64))))) (w1 : Sh.wf (.sl (.pair (.int .i64) (.sl (.int .i64)))) y1) : law17_PlanesLays_ptr N y0 y1 = some true ∨ law17_PlanesLays_nil N y0 y1 = some true := by
  obtain ⟨M, rfl⟩ : ∃ M, N = M + 200 := ⟨N - 200, by omega⟩
  by_cases hA : fA y0 = 0
  · exact .inr (laysN hA y1)
  · exact .inl (laysP (by omega) hA fun x hx => (w1.2 x hx).2.1)
end Go.Proofs.Ytjknjjdijoboiaa
