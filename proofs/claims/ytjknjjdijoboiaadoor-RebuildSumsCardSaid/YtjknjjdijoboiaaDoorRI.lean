/- What the printed models answer: plain laws. -/
import Derived.Test.YtjknjjdijoboiaaDoorRD
set_option linter.unusedVariables false
set_option linter.unusedSimpArgs false
namespace Go.Proofs.YtjknjjdijoboiaaDoor
open Go.X

/-! ### formats and planes -/
/-- Two loops that fill six blocks number by number. -/
theorem iter_fill2 {O2 : Type} {b1 : Int × List Int → Option ((Int × List Int) ⊕ List Int)} {b2 : Int × List Int → Int × List Int → Option ((Int × List Int) ⊕ O2)} (mk : List Int → O2) (pj : O2 → List Int) (hmk : ∀ xs, pj (mk xs) = xs) {N : Nat} (hN : 64 < N) (F : Nat → Int)
    (h1 : ∀ b : Nat, b < 6 → ∀ xs, b1 ((b : Int), xs) = (iter (b2 ((b : Int), xs)) N (0, xs)).bind fun v => some (.inl ((b : Int) + 1, pj v)))
    (h2 : ∀ b : Nat, b < 6 → ∀ i : Nat, i < 64 → ∀ s1 xs, b2 ((b : Int), s1) ((i : Int), xs) = some (.inl ((i : Int) + 1, xs.set (b * 64 + i) (F (b * 64 + i)))))
    (h2e : ∀ b : Nat, ∀ s1 xs, b2 ((b : Int), s1) ((64 : Int), xs) = some (.inr (mk xs))) (h1e : ∀ xs, b1 ((6 : Int), xs) = some (.inr xs)) (X0 : Nat → Int) : iter b1 N (0, tab 384 X0) = some (tab 384 F) := by
  refine iter_to (fun b => ((b : Int), tab 384 fun k => if k < b * 64 then F k else X0 k)) 6 ?_ ?_ ?_ (by omega)
  · simp
  · intro b hb
    show b1 ((b : Int), _) = _
    rw [h1 b hb]
    have hit : iter (b2 ((b : Int), tab 384 fun k => if k < b * 64 then F k else X0 k)) N (0, tab 384 fun k => if k < b * 64 then F k else X0 k) = some (mk (tab 384 fun k => if k < (b + 1) * 64 then F k else X0 k)) := by
      refine iter_to (fun i => ((i : Int), tab 384 fun k => if k < b * 64 + i then F k else X0 k)) 64 ?_ ?_ ?_ hN
      · simp
      · intro i hi
        show b2 _ ((i : Int), _) = _
        rw [h2 b hb i hi]
        refine congrArg (fun z => some (Sum.inl z)) (Prod.ext (Int.natCast_succ i).symm ?_)
        show (tab 384 _).set (b * 64 + i) _ = tab 384 (fun k => if k < b * 64 + (i + 1) then F k else X0 k)
        rw [tab_set]
        refine tab_ext fun j hj => ?_
        by_cases hji : j = b * 64 + i
        · rw [if_pos hji, if_pos (by omega), hji]
        · by_cases hlt : j < b * 64 + i
          · rw [if_neg hji, if_pos hlt, if_pos (by omega)]
          · rw [if_neg hji, if_neg hlt, if_neg (by omega)]
      · show b2 _ ((64 : Int), _) = _
        rw [h2e]
        refine congrArg (fun z => some (Sum.inr (mk z))) (tab_ext fun j hj => ?_)
        rw [show b * 64 + 64 = (b + 1) * 64 by omega]
    rw [hit]
    simp only [Option.bind_some, hmk]
    rw [Int.natCast_succ]
  · show b1 ((6 : Int), _) = _
    rw [h1e]
    refine congrArg (fun z => some (Sum.inr z)) (tab_ext fun j hj => ?_)
    rw [if_pos (by omega)]
def sumF (p r : Int) : Int := clip (clip p (-1024) 1024 + clip r (-1024) 1024) 0 255
def sumT (p r : List Int) : List Int := tab 384 fun j => sumF (p.getD j 0) (r.getD j 0)
theorem sum_ok {N : Nat} (hN : 64 < N) (p r : List Int) : rebuild_Sum N p r = some (sumT p r) := by
  have hit := iter_fill2 (b1 := rebuild_Sum_b1 N p r) (b2 := rebuild_Sum_b2 N p r) (fun xs => ((64 : Int), false, xs)) (fun v => v.2.2) (fun _ => rfl) (N := N) hN (fun j => sumF (p.getD j 0) (r.getD j 0))
    (fun b hb xs => by
      obtain ⟨q1, q2, q3⟩ := in5 hb
      have q4 := inS (i := b) (by omega)
      simp only [rebuild_Sum_b1, q2, decide_true, cond_true, q4, if_true])
    (fun b hb i hi s1 xs => by
      obtain ⟨q1, q2, q3⟩ := in5 hb
      have g1 : (i : Int) < 64 := by omega
      have g4 := inS (i := i) (by omega)
      have g5 : b * 64 + i < 384 := by omega
      have c1 := clip_ge (a := p.getD (b * 64 + i) 0) (lo := -1024) (hi := 1024) (by decide)
      have c2 := clip_le (a := p.getD (b * 64 + i) 0) (lo := -1024) (hi := 1024) (by decide)
      have c3 := clip_ge (a := r.getD (b * 64 + i) 0) (lo := -1024) (hi := 1024) (by decide)
      have c4 := clip_le (a := r.getD (b * 64 + i) 0) (lo := -1024) (hi := 1024) (by decide)
      have i1 : inK .i64 (clip (p.getD (b * 64 + i) 0) (-1024) 1024 + clip (r.getD (b * 64 + i) 0) (-1024) 1024) := in64 (by omega) (by omega)
      simp only [rebuild_Sum_b2, g1, decide_true, cond_true, whole_clip N (show (-1024 : Int) ≤ 1024 by decide), whole_clip N (show (0 : Int) ≤ 255 by decide), Option.isSome_some, Option.getD_some, Int.toNat_natCast, q1, q2, g5, i1, Int.natCast_nonneg, and_self, if_true, g4]
      rfl)
    (fun b s1 xs => by simp [rebuild_Sum_b2]) (fun xs => by simp [rebuild_Sum_b1]) (fun _ => 0)
  rw [← rep_tab] at hit
  unfold rebuild_Sum
  rw [hit]
  rfl
theorem rsum_ok {N : Nat} (hN : 64 < N) (p r : List Int) : ref31_Sum N p r = some (sumT p r) := by
  have hit := iter_fill2 (b1 := ref31_Sum_b1 N p r) (b2 := ref31_Sum_b2 N p r) (fun xs => ((64 : Int), (64 : Int), false, xs)) (fun v => v.2.2.2) (fun _ => rfl) (N := N) hN (fun j => sumF (p.getD j 0) (r.getD j 0))
    (fun b hb xs => by
      obtain ⟨q1, q2, q3⟩ := in5 hb
      have q4 := inS (i := b) (by omega)
      simp only [ref31_Sum_b1, q2, decide_true, cond_true, q4, if_true])
    (fun b hb i hi s1 xs => by
      obtain ⟨q1, q2, q3⟩ := in5 hb
      have g1 : (i : Int) < 64 := by omega
      have g4 := inS (i := i) (by omega)
      have g5 : b * 64 + i < 384 := by omega
      have c1 := clip_ge (a := p.getD (b * 64 + i) 0) (lo := -1024) (hi := 1024) (by decide)
      have c2 := clip_le (a := p.getD (b * 64 + i) 0) (lo := -1024) (hi := 1024) (by decide)
      have c3 := clip_ge (a := r.getD (b * 64 + i) 0) (lo := -1024) (hi := 1024) (by decide)
      have c4 := clip_le (a := r.getD (b * 64 + i) 0) (lo := -1024) (hi := 1024) (by decide)
      have i1 : inK .i64 (clip (p.getD (b * 64 + i) 0) (-1024) 1024 + clip (r.getD (b * 64 + i) 0) (-1024) 1024) := in64 (by omega) (by omega)
      simp only [ref31_Sum_b2, g1, decide_true, cond_true, ref01_clip N (show (-1024 : Int) ≤ 1024 by decide), ref01_clip N (show (0 : Int) ≤ 255 by decide), Option.isSome_some, Option.getD_some, Int.toNat_natCast, q1, q2, g5, i1, Int.natCast_nonneg, and_self, if_true, g4]
      rfl)
    (fun b s1 xs => by simp [ref31_Sum_b2]) (fun xs => by simp [ref31_Sum_b1]) (fun _ => 0)
  rw [← rep_tab] at hit
  unfold ref31_Sum
  rw [hit]
  rfl
end Go.Proofs.YtjknjjdijoboiaaDoor
