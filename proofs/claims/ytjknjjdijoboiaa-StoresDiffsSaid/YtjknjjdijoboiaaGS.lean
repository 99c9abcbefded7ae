/- What the printed models answer: plain laws. -/
import Derived.Test.YtjknjjdijoboiaaGI
set_option linter.unusedVariables false
set_option linter.unusedSimpArgs false
namespace Go.Proofs.Ytjknjjdijoboiaa
open Go.X

/-! ### frames and stores that are laid anew -/
def areaN (f : Int) (k : Nat) : Nat := (wid f k * hig f k).toNat
def flatP (f s : Int) : List (List Int) := tab 3 fun k => List.replicate (areaN f k) s
theorem area_bnd (f : Int) (k : Nat) : areaN f k ≤ 1622016 := by
  obtain ⟨_, _, _, _, b5, b6⟩ := wh_bnd f k
  unfold areaN
  omega
theorem area_of {f : Int} {ps : List (List Int)} (h : rightF f ps = true) {k : Nat} (hk : k < 3) : (ps.getD k []).length = areaN f k := by
  have := (rightF_len h).2 k hk
  unfold areaN
  omega
/-- A loop that lays a row number by number. -/
theorem row_fill {S O : Type} {body : S → Option (S ⊕ O)} (mk : Nat → List Int → S) (out : List Int → O) {n N : Nat} (F : Nat → Int) {z : List Int} (hz : z.length = n)
    (hs : ∀ i, i < n → ∀ xs, xs.length = n → body (mk i xs) = some (.inl (mk (i + 1) (xs.set i (F i))))) (he : ∀ xs, xs.length = n → body (mk n xs) = some (.inr (out xs))) (hN : n < N) : iter body N (mk 0 z) = some (out (tab n F)) := by
  refine iter_to (fun i => mk i (tab n fun k => if k < i then F k else z.getD k 0)) n ?_ ?_ ?_ hN
  · show mk 0 z = mk 0 _
    refine congrArg (mk 0) ?_
    refine (tab_of 0 hz).trans (tab_ext fun k hk => ?_)
    rw [if_neg (by omega)]
  · intro i hi
    show body (mk i _) = _
    rw [hs i hi _ (tab_len _ _), tab_set]
    refine congrArg (fun l => some (Sum.inl (mk (i + 1) l))) (tab_ext fun k hk => ?_)
    by_cases h1 : k = i
    · rw [if_pos h1, if_pos (by omega), h1]
    · by_cases h2 : k < i
      · rw [if_neg h1, if_pos h2, if_pos (by omega)]
      · rw [if_neg h1, if_neg h2, if_neg (by omega)]
  · show body (mk n _) = _
    rw [he _ (tab_len _ _)]
    refine congrArg (fun l => some (Sum.inr (out l))) (tab_ext fun k hk => ?_)
    rw [if_pos hk]
def vB (x : Int) : Bool := decide (-255 ≤ x) && decide (x ≤ 255)
def sRight (f : Int) (zs : List (List Int)) : Bool := decide (fA f ≠ 0) && (List.range 3).all fun k => decide (((zs.getD k []).length : Int) = wid f k * hig f k) && (zs.getD k []).all vB
theorem sRight_right {f : Int} {zs : List (List Int)} (h : sRight f zs = true) : rightF f zs = true := by
  unfold sRight at h
  unfold rightF
  simp only [Bool.and_eq_true, decide_eq_true_eq, List.all_eq_true, List.mem_range] at h ⊢
  exact ⟨h.1, fun k hk => (h.2 k hk).1⟩
theorem sRight_val {f : Int} {zs : List (List Int)} (h : sRight f zs = true) {k : Nat} (hk : k < 3) (i : Nat) : -255 ≤ (zs.getD k []).getD i 0 ∧ (zs.getD k []).getD i 0 ≤ 255 := by
  unfold sRight at h
  simp only [Bool.and_eq_true, List.all_eq_true, List.mem_range] at h
  have := (h.2 k hk).2
  generalize zs.getD k [] = l at *
  rw [List.getD_eq_getElem?_getD]
  cases hi : l[i]? with
  | none => decide
  | some x =>
    have := this x (List.mem_of_getElem? hi)
    unfold vB at this
    simpa using this
theorem all_take {p : Int → Bool} {l : List Int} {j : Nat} (hj : j < l.length) : (l.take (j + 1)).all p = ((l.take j).all p && p (l.getD j 0)) := by
  have e : l[j]? = some (l.getD j 0) := by rw [List.getD_eq_getElem?_getD, List.getElem?_eq_getElem hj]; rfl
  rw [List.take_add_one, List.all_append, e]
  simp
def diffT (ps qs : List (List Int)) : List (List Int) := tab 3 fun k => tab (ps.getD k []).length fun i => (ps.getD k []).getD i 0 - (qs.getD k []).getD i 0
def addT (ps zs : List (List Int)) : List (List Int) := tab 3 fun k => tab (ps.getD k []).length fun i => clip ((ps.getD k []).getD i 0 + (zs.getD k []).getD i 0) 0 255
theorem rep_ok (N : Nat) {n c : Int} (h0 : 0 ≤ n) (h1 : n ≤ 281474976710656) (c0 : 0 ≤ c) (c1 : c ≤ 255) : rep N 1 n ((List.replicate 1 0).set 0 c) = some (n.toNat, n.toNat, List.replicate n.toNat c) := by
  have e : ((List.replicate 1 (0 : Int)).set 0 c) = [c] := rfl
  rw [e]
  unfold rep
  rw [if_pos ⟨rfl, rfl, h0, h1, by unfold inK; exact ⟨c0, c1⟩⟩]
  rfl
theorem pnew_ok {N : Nat} (hN : 10 < N) (f s : Int) : planes_New N f s = some (bif decide (fA f ≠ 0) then (f, flatP f (clip s 0 255), 0) else (0, List.replicate 3 [], 1)) := by
  unfold planes_New
  simp only [size_eq, Option.isSome_some, if_true, Option.getD_some]
  cases hA : decide (fA f ≠ 0)
  · rfl
  · simp only [Bool.not_true, cond_false, cond_true]
    have hit := iter_fill (body := planes_New_b1 N f s) 3 N (fun k => List.replicate (areaN f k) (clip s 0 255)) (fun _ => []) (fun i hi => by
      obtain ⟨g1, g2, g3⟩ := in2 hi
      have g4 := inS (i := i) (by omega)
      obtain ⟨_, _, _, _, b5, b6⟩ := wh_bnd f i
      have g5 : inK .i64 (wid f i * hig f i) := in64 (by omega) (by omega)
      have c1 := clip_ge (a := s) (lo := 0) (hi := 255) (by decide)
      have c2 := clip_le (a := s) (lo := 0) (hi := 255) (by decide)
      have g6 : inK .u8 (clip s 0 255) := by unfold inK; exact ⟨c1, c2⟩
      simp only [planes_New_b1, g1, g2, hi, decide_true, cond_true, Int.toNat_natCast, and_self, if_true, plane_eq N f hi, Option.isSome_some, Option.getD_some, whole_clip N (show (0 : Int) ≤ 255 by decide), rep_ok N b5 (by omega) c1 c2, g5, g6, g4, List.length_replicate]
      rfl) (fun xs => by simp [planes_New_b1]) (by omega)
    rw [← rep_tab] at hit
    rw [hit]
    rfl
theorem pnewo_ok (N : Nat) (f s : Int) : planes_New_own N f s = some (bif decide (fA f ≠ 0) then (f, areaN f 0, areaN f 1, areaN f 2, 0, areaN f 0, List.replicate (areaN f 0) (clip s 0 255), areaN f 1, List.replicate (areaN f 1) (clip s 0 255), areaN f 2, List.replicate (areaN f 2) (clip s 0 255)) else (0, 0, 0, 0, 1, 0, [], 0, [], 0, [])) := by
  unfold planes_New_own
  simp only [size_eq, Option.isSome_some, if_true, Option.getD_some]
  cases hA : decide (fA f ≠ 0)
  · rfl
  · have c1 := clip_ge (a := s) (lo := 0) (hi := 255) (by decide)
    have c2 := clip_le (a := s) (lo := 0) (hi := 255) (by decide)
    have g6 : inK .u8 (clip s 0 255) := by unfold inK; exact ⟨c1, c2⟩
    have p0 : formats_Plane N f 0 = some (wid f 0, hig f 0) := plane_eq N f (k := 0) (by omega)
    have p1 : formats_Plane N f 1 = some (wid f 1, hig f 1) := plane_eq N f (k := 1) (by omega)
    have p2 : formats_Plane N f 2 = some (wid f 2, hig f 2) := plane_eq N f (k := 2) (by omega)
    have q : ∀ k, 0 ≤ wid f k * hig f k ∧ wid f k * hig f k ≤ 281474976710656 ∧ inK .i64 (wid f k * hig f k) := fun k => by
      obtain ⟨_, _, _, _, b5, b6⟩ := wh_bnd f k
      exact ⟨b5, by omega, in64 (by omega) (by omega)⟩
    simp only [Bool.not_true, cond_false, cond_true, p0, p1, p2, Option.isSome_some, Option.getD_some, if_true, whole_clip N (show (0 : Int) ≤ 255 by decide), rep_ok N (q 0).1 (q 0).2.1 c1 c2, rep_ok N (q 1).1 (q 1).2.1 c1 c2, rep_ok N (q 2).1 (q 2).2.1 c1 c2, g6, (q 0).2.2, (q 1).2.2, (q 2).2.2, and_self]
    rfl
theorem snew_ok {N : Nat} (hN : 10 < N) (f : Int) : stores_New N f = some (bif decide (fA f ≠ 0) then (f, flatP f 0, 0) else (0, List.replicate 3 [], 1)) := by
  unfold stores_New
  simp only [size_eq, Option.isSome_some, if_true, Option.getD_some]
  cases hA : decide (fA f ≠ 0)
  · rfl
  · simp only [Bool.not_true, cond_false, cond_true]
    have hit := iter_fill (body := stores_New_b1 N f) 3 N (fun k => List.replicate (areaN f k) 0) (fun _ => []) (fun i hi => by
      obtain ⟨g1, g2, g3⟩ := in2 hi
      have g4 := inS (i := i) (by omega)
      obtain ⟨_, _, _, _, b5, b6⟩ := wh_bnd f i
      have g5 : inK .i64 (wid f i * hig f i) := in64 (by omega) (by omega)
      have g6 : wid f i * hig f i * 8 ≤ 140737488355328 := by omega
      simp only [stores_New_b1, g1, g2, hi, decide_true, cond_true, Int.toNat_natCast, and_self, if_true, plane_eq N f hi, Option.isSome_some, Option.getD_some, b5, g5, g6, g4, List.length_replicate]
      rfl) (fun xs => by simp [stores_New_b1]) (by omega)
    rw [← rep_tab] at hit
    rw [hit]
    rfl
theorem snewo_ok (N : Nat) (f : Int) : stores_New_own N f = some (bif decide (fA f ≠ 0) then (f, areaN f 0, areaN f 1, areaN f 2, 0, areaN f 0, List.replicate (areaN f 0) 0, areaN f 1, List.replicate (areaN f 1) 0, areaN f 2, List.replicate (areaN f 2) 0) else (0, 0, 0, 0, 1, 0, [], 0, [], 0, [])) := by
  unfold stores_New_own
  simp only [size_eq, Option.isSome_some, if_true, Option.getD_some]
  cases hA : decide (fA f ≠ 0)
  · rfl
  · have p0 : formats_Plane N f 0 = some (wid f 0, hig f 0) := plane_eq N f (k := 0) (by omega)
    have p1 : formats_Plane N f 1 = some (wid f 1, hig f 1) := plane_eq N f (k := 1) (by omega)
    have p2 : formats_Plane N f 2 = some (wid f 2, hig f 2) := plane_eq N f (k := 2) (by omega)
    have q : ∀ k, 0 ≤ wid f k * hig f k ∧ wid f k * hig f k * 8 ≤ 140737488355328 ∧ inK .i64 (wid f k * hig f k) := fun k => by
      obtain ⟨_, _, _, _, b5, b6⟩ := wh_bnd f k
      exact ⟨b5, by omega, in64 (by omega) (by omega)⟩
    simp only [Bool.not_true, cond_false, cond_true, p0, p1, p2, Option.isSome_some, Option.getD_some, if_true, (q 0).1, (q 0).2.1, (q 0).2.2, (q 1).1, (q 1).2.1, (q 1).2.2, (q 2).1, (q 2).2.1, (q 2).2.2, and_self]
    rfl
theorem sright_ok {N : Nat} (hN : 40000 < N) (f : Int) {zs : List (List Int)} (hl : ∀ k, k < 3 → (zs.getD k []).length ≤ 30000) : stores_Right N f zs = some (sRight f zs) := by
  have hin : ∀ k : Nat, k < 3 → ∀ b b1 : Bool, iter (stores_Right_b2 N zs (b1, (k : Int))) N (b, 0) = some (b && (zs.getD k []).all vB, ((zs.getD k []).length : Int), false) := fun k hk b b1 => by
    have hlk := hl k hk
    have hn : ((k : Int)).toNat = k := Int.toNat_natCast k
    obtain ⟨l, hle⟩ : ∃ l, l = zs.getD k [] := ⟨_, rfl⟩
    rw [← hle] at hlk ⊢
    refine iter_to (fun j => (b && (l.take j).all vB, (j : Int))) l.length ?_ ?_ ?_ (by omega)
    · simp
    · intro j hj
      have h1 : (j : Int) < (l.length : Int) := by omega
      have g4 := inS (i := j) (by omega)
      simp only [stores_Right_b2, hn, ← hle, h1, decide_true, cond_true, Int.natCast_nonneg, Int.toNat_natCast, and_self, if_true, g4]
      rw [all_take hj, Int.natCast_succ]
      unfold vB
      generalize (l.take j).all _ = r
      generalize l.getD j 0 = v
      cases b <;> cases r <;> by_cases h2 : -255 ≤ v <;> simp [h2]
    · show stores_Right_b2 N zs _ (_, (l.length : Int)) = _
      simp only [stores_Right_b2, hn, ← hle, Int.lt_irrefl, decide_false, cond_false, List.take_length]
  unfold stores_Right
  have hit : iter (stores_Right_b1 N f zs) N (decide (fA f ≠ 0), 0) = some (sRight f zs) := by
    refine iter_to (fun i => (decide (fA f ≠ 0) && (List.range i).all (fun k => decide (((zs.getD k []).length : Int) = wid f k * hig f k) && (zs.getD k []).all vB), (i : Int))) 3 ?_ ?_ ?_ (by omega)
    · simp
    · intro i hi
      obtain ⟨g1, g2, g3⟩ := in2 hi
      have g4 := inS (i := i) (by omega)
      obtain ⟨_, _, _, _, b5, b6⟩ := wh_bnd f i
      have g5 : inK .i64 (wid f i * hig f i) := in64 (by omega) (by omega)
      simp only [stores_Right_b1, g1, g2, hi, decide_true, cond_true, Int.toNat_natCast, and_self, if_true, plane_eq N f hi, Option.isSome_some, Option.getD_some, g5, implies_true, hin i hi, Option.bind_some, g4]
      refine congrArg (fun z => some (Sum.inl z)) ?_
      rw [List.range_succ, List.all_append, Int.natCast_succ]
      generalize (List.range i).all _ = r
      cases decide (fA f ≠ 0) <;> cases r <;> simp
    · simp [stores_Right_b1, sRight]
  simp only [size_eq, Option.isSome_some, if_true, Option.getD_some, hit, Option.bind_some]
theorem sdiff_ok {N : Nat} (hN : 40000 < N) (f g : Int) {ps qs : List (List Int)} (hp : ∀ k, k < 3 → byteP (ps.getD k [])) (hq : ∀ k, k < 3 → byteP (qs.getD k [])) (hl : ∀ k, k < 3 → (ps.getD k []).length ≤ 30000) :
    stores_Diff N f ps g qs = some (bif rightF f ps && (rightF g qs && decide (f = g)) then (f, diffT ps qs, 0) else (0, [[], [], []], 1)) := by
  unfold stores_Diff
  simp only [pright_ok (N := N) (by omega), Option.isSome_some, Option.getD_some, if_true, implies_true, and_self]
  cases hr : rightF f ps
  · rfl
  cases hs : rightF g qs
  · rfl
  by_cases hfg : f = g
  · subst hfg
    have hA : decide (fA f ≠ 0) = true := decide_eq_true (rightF_len hr).1
    rw [snewo_ok, hA]
    simp only [Bool.not_true, cond_false, cond_true, ne_eq, not_true, decide_false, Bool.and_self, decide_true, Option.isSome_some, if_true]
    have step : ∀ k, k < 3 → ∀ i, i < areaN f k → (i : Int) < ((ps.getD k []).length : Int) ∧ (i : Int) < ((qs.getD k []).length : Int) ∧ inK .i64 ((ps.getD k []).getD i 0) ∧ inK .i64 ((qs.getD k []).getD i 0) ∧ inK .i64 ((ps.getD k []).getD i 0 - (qs.getD k []).getD i 0) ∧ inK .i64 ((i : Int) + 1) ∧ (i : Int) < (areaN f k : Int) := fun k hk i hi => by
      have e1 := area_of hr hk
      have e2 := area_of hs hk
      have e3 := hl k hk
      have v1 := hp k hk i
      have v2 := hq k hk i
      exact ⟨by omega, by omega, in64 (by omega) (by omega), in64 (by omega) (by omega), in64 (by omega) (by omega), in64 (by omega) (by omega), by omega⟩
    have e : ∀ k, k < 3 → (ps.getD k []).length = areaN f k := fun k hk => area_of hr hk
    have hlt : ∀ k, k < 3 → areaN f k < N := fun k hk => by have := e k hk; have := hl k hk; omega
    obtain ⟨C, hC⟩ : ∃ C : Int × Nat × Nat × Nat × Int × Nat × List Int × Nat × List Int × Nat × List Int, C = (f, areaN f 0, areaN f 1, areaN f 2, 0, areaN f 0, List.replicate (areaN f 0) 0, areaN f 1, List.replicate (areaN f 1) 0, areaN f 2, List.replicate (areaN f 2) 0) := ⟨_, rfl⟩
    rw [← hC]
    have l3 : iter (stores_Diff_b3 N ps qs (some C)) N (0, List.replicate (areaN f 0) 0) = some (((areaN f 0 : Nat) : Int), false, tab (areaN f 0) fun i => (ps.getD 0 []).getD i 0 - (qs.getD 0 []).getD i 0) :=
      row_fill (fun i xs => ((i : Int), xs)) (fun xs => (((areaN f 0 : Nat) : Int), false, xs)) _ (by simp) (fun i hi xs hx => by
        obtain ⟨s1, s2, s3, s4, s5, s6, s7⟩ := step 0 (by omega) i hi
        simp only [stores_Diff_b3, s1, s2, s3, s4, s5, s6, s7, hi, hC, decide_true, cond_true, Int.natCast_nonneg, Int.toNat_natCast, and_self, if_true, Option.getD_some]
        rw [Int.natCast_succ]) (fun xs hx => by simp only [stores_Diff_b3, e 0 (by omega), Int.lt_irrefl, decide_false, cond_false]) (hlt 0 (by omega))
    have l2 : ∀ b : Bool, iter (stores_Diff_b2 N ps qs (some C)) N (0, b, List.replicate (areaN f 1) 0) = some (((areaN f 1 : Nat) : Int), false, tab (areaN f 1) fun i => (ps.getD 1 []).getD i 0 - (qs.getD 1 []).getD i 0) := fun b =>
      row_fill (fun i xs => ((i : Int), bif decide (i = 0) then b else true, xs)) (fun xs => (((areaN f 1 : Nat) : Int), false, xs)) _ (by simp) (fun i hi xs hx => by
        obtain ⟨s1, s2, s3, s4, s5, s6, s7⟩ := step 1 (by omega) i hi
        have s8 : decide (i + 1 = 0) = false := decide_eq_false (by omega)
        simp only [stores_Diff_b2, s1, s2, s3, s4, s5, s6, s7, s8, hi, hC, decide_true, cond_true, cond_false, Int.natCast_nonneg, Int.toNat_natCast, and_self, if_true, Option.getD_some]
        rw [Int.natCast_succ]) (fun xs hx => by simp only [stores_Diff_b2, e 1 (by omega), Int.lt_irrefl, decide_false, cond_false]) (hlt 1 (by omega))
    have l1 : ∀ b : Bool, iter (stores_Diff_b1 N ps qs (some C)) N (0, b, List.replicate (areaN f 2) 0) = some (((areaN f 2 : Nat) : Int), false, tab (areaN f 2) fun i => (ps.getD 2 []).getD i 0 - (qs.getD 2 []).getD i 0) := fun b =>
      row_fill (fun i xs => ((i : Int), bif decide (i = 0) then b else true, xs)) (fun xs => (((areaN f 2 : Nat) : Int), false, xs)) _ (by simp) (fun i hi xs hx => by
        obtain ⟨s1, s2, s3, s4, s5, s6, s7⟩ := step 2 (by omega) i hi
        have s8 : decide (i + 1 = 0) = false := decide_eq_false (by omega)
        simp only [stores_Diff_b1, s1, s2, s3, s4, s5, s6, s7, s8, hi, hC, decide_true, cond_true, cond_false, Int.natCast_nonneg, Int.toNat_natCast, and_self, if_true, Option.getD_some]
        rw [Int.natCast_succ]) (fun xs hx => by simp only [stores_Diff_b1, e 2 (by omega), Int.lt_irrefl, decide_false, cond_false]) (hlt 2 (by omega))
    have z0 : ((some C).getD default).2.2.2.2.2.2.1 = List.replicate (areaN f 0) 0 := by rw [hC]; rfl
    have z1 : ((some C).getD default).2.2.2.2.2.2.2.2.1 = List.replicate (areaN f 1) 0 := by rw [hC]; rfl
    have z2 : ((some C).getD default).2.2.2.2.2.2.2.2.2.2 = List.replicate (areaN f 2) 0 := by rw [hC]; rfl
    rw [z0, z1, z2, l3]
    simp only [Option.bind_some, l2, l1]
    rw [if_pos ⟨by rw [hC, tab_len]; rfl, by rw [hC, tab_len]; rfl, by rw [hC, tab_len]; rfl⟩]
    have hd : diffT ps qs = [tab (areaN f 0) fun i => (ps.getD 0 []).getD i 0 - (qs.getD 0 []).getD i 0, tab (areaN f 1) fun i => (ps.getD 1 []).getD i 0 - (qs.getD 1 []).getD i 0, tab (areaN f 2) fun i => (ps.getD 2 []).getD i 0 - (qs.getD 2 []).getD i 0] := by
      rw [← e 0 (by omega), ← e 1 (by omega), ← e 2 (by omega)]; rfl
    rw [hd, hC]
    rfl
  · have h1 : decide (f = g) = false := decide_eq_false hfg
    have h2 : decide (f ≠ g) = true := decide_eq_true hfg
    simp only [Bool.not_true, cond_false, h2, cond_true, h1, Bool.and_false]
theorem sadd_ok {N : Nat} (hN : 40000 < N) (f g : Int) {ps zs : List (List Int)} (hp : ∀ k, k < 3 → byteP (ps.getD k [])) (hl : ∀ k, k < 3 → (ps.getD k []).length ≤ 30000) (hz : ∀ k, k < 3 → (zs.getD k []).length ≤ 30000) :
    stores_Add N f ps g zs = some (bif rightF f ps && (sRight g zs && decide (f = g)) then (f, addT ps zs, 0) else (0, [[], [], []], 1)) := by
  unfold stores_Add
  simp only [pright_ok (N := N) (by omega), sright_ok hN g hz, Option.isSome_some, Option.getD_some, if_true, implies_true, and_self]
  cases hr : rightF f ps
  · rfl
  cases hs : sRight g zs
  · rfl
  by_cases hfg : f = g
  · subst hfg
    have hA : decide (fA f ≠ 0) = true := decide_eq_true (rightF_len hr).1
    have hc0 : clip 0 0 255 = 0 := rfl
    rw [pnewo_ok, hA, hc0]
    simp only [Bool.not_true, cond_false, cond_true, ne_eq, not_true, decide_false, Bool.and_self, decide_true, Option.isSome_some, if_true]
    have step : ∀ k, k < 3 → ∀ i, i < areaN f k → (i : Int) < ((ps.getD k []).length : Int) ∧ (i : Int) < ((zs.getD k []).length : Int) ∧ inK .i64 ((ps.getD k []).getD i 0) ∧ inK .i64 ((ps.getD k []).getD i 0 + (zs.getD k []).getD i 0) ∧ inK .i64 ((i : Int) + 1) ∧ (i : Int) < (areaN f k : Int) ∧ inK .u8 (clip ((ps.getD k []).getD i 0 + (zs.getD k []).getD i 0) 0 255) := fun k hk i hi => by
      have e1 := area_of hr hk
      have e2 := area_of (sRight_right hs) hk
      have e3 := hl k hk
      have v1 := hp k hk i
      have v2 := sRight_val hs hk i
      exact ⟨by omega, by omega, in64 (by omega) (by omega), in64 (by omega) (by omega), in64 (by omega) (by omega), by omega, by unfold inK; exact ⟨clip_ge (by decide), clip_le (by decide)⟩⟩
    have e : ∀ k, k < 3 → (ps.getD k []).length = areaN f k := fun k hk => area_of hr hk
    have hlt : ∀ k, k < 3 → areaN f k < N := fun k hk => by have := e k hk; have := hl k hk; omega
    have wc : ∀ a, whole_Clip N a 0 255 = some (clip a 0 255) := fun a => whole_clip N (by decide)
    obtain ⟨C, hC⟩ : ∃ C : Int × Nat × Nat × Nat × Int × Nat × List Int × Nat × List Int × Nat × List Int, C = (f, areaN f 0, areaN f 1, areaN f 2, 0, areaN f 0, List.replicate (areaN f 0) 0, areaN f 1, List.replicate (areaN f 1) 0, areaN f 2, List.replicate (areaN f 2) 0) := ⟨_, rfl⟩
    rw [← hC]
    have l3 : iter (stores_Add_b3 N ps zs (some C)) N (0, List.replicate (areaN f 0) 0) = some (((areaN f 0 : Nat) : Int), false, tab (areaN f 0) fun i => clip ((ps.getD 0 []).getD i 0 + (zs.getD 0 []).getD i 0) 0 255) :=
      row_fill (fun i xs => ((i : Int), xs)) (fun xs => (((areaN f 0 : Nat) : Int), false, xs)) _ (by simp) (fun i hi xs hx => by
        obtain ⟨s1, s2, s3, s4, s5, s6, s7⟩ := step 0 (by omega) i hi
        simp only [stores_Add_b3, s1, s2, s3, s4, s5, s6, s7, hi, hC, wc, decide_true, cond_true, Int.natCast_nonneg, Int.toNat_natCast, and_self, if_true, Option.getD_some, Option.isSome_some]
        rw [Int.natCast_succ]) (fun xs hx => by simp only [stores_Add_b3, e 0 (by omega), Int.lt_irrefl, decide_false, cond_false]) (hlt 0 (by omega))
    have l2 : ∀ b : Bool, iter (stores_Add_b2 N ps zs (some C)) N (0, b, List.replicate (areaN f 1) 0) = some (((areaN f 1 : Nat) : Int), false, tab (areaN f 1) fun i => clip ((ps.getD 1 []).getD i 0 + (zs.getD 1 []).getD i 0) 0 255) := fun b =>
      row_fill (fun i xs => ((i : Int), bif decide (i = 0) then b else true, xs)) (fun xs => (((areaN f 1 : Nat) : Int), false, xs)) _ (by simp) (fun i hi xs hx => by
        obtain ⟨s1, s2, s3, s4, s5, s6, s7⟩ := step 1 (by omega) i hi
        have s8 : decide (i + 1 = 0) = false := decide_eq_false (by omega)
        simp only [stores_Add_b2, s1, s2, s3, s4, s5, s6, s7, s8, hi, hC, wc, decide_true, cond_true, cond_false, Int.natCast_nonneg, Int.toNat_natCast, and_self, if_true, Option.getD_some, Option.isSome_some]
        rw [Int.natCast_succ]) (fun xs hx => by simp only [stores_Add_b2, e 1 (by omega), Int.lt_irrefl, decide_false, cond_false]) (hlt 1 (by omega))
    have l1 : ∀ b : Bool, iter (stores_Add_b1 N ps zs (some C)) N (0, b, List.replicate (areaN f 2) 0) = some (((areaN f 2 : Nat) : Int), false, tab (areaN f 2) fun i => clip ((ps.getD 2 []).getD i 0 + (zs.getD 2 []).getD i 0) 0 255) := fun b =>
      row_fill (fun i xs => ((i : Int), bif decide (i = 0) then b else true, xs)) (fun xs => (((areaN f 2 : Nat) : Int), false, xs)) _ (by simp) (fun i hi xs hx => by
        obtain ⟨s1, s2, s3, s4, s5, s6, s7⟩ := step 2 (by omega) i hi
        have s8 : decide (i + 1 = 0) = false := decide_eq_false (by omega)
        simp only [stores_Add_b1, s1, s2, s3, s4, s5, s6, s7, s8, hi, hC, wc, decide_true, cond_true, cond_false, Int.natCast_nonneg, Int.toNat_natCast, and_self, if_true, Option.getD_some, Option.isSome_some]
        rw [Int.natCast_succ]) (fun xs hx => by simp only [stores_Add_b1, e 2 (by omega), Int.lt_irrefl, decide_false, cond_false]) (hlt 2 (by omega))
    have z0 : ((some C).getD default).2.2.2.2.2.2.1 = List.replicate (areaN f 0) 0 := by rw [hC]; rfl
    have z1 : ((some C).getD default).2.2.2.2.2.2.2.2.1 = List.replicate (areaN f 1) 0 := by rw [hC]; rfl
    have z2 : ((some C).getD default).2.2.2.2.2.2.2.2.2.2 = List.replicate (areaN f 2) 0 := by rw [hC]; rfl
    rw [z0, z1, z2, l3]
    simp only [Option.bind_some, l2, l1]
    rw [if_pos ⟨by rw [hC, tab_len]; rfl, by rw [hC, tab_len]; rfl, by rw [hC, tab_len]; rfl⟩]
    have hd : addT ps zs = [tab (areaN f 0) fun i => clip ((ps.getD 0 []).getD i 0 + (zs.getD 0 []).getD i 0) 0 255, tab (areaN f 1) fun i => clip ((ps.getD 1 []).getD i 0 + (zs.getD 1 []).getD i 0) 0 255, tab (areaN f 2) fun i => clip ((ps.getD 2 []).getD i 0 + (zs.getD 2 []).getD i 0) 0 255] := by
      rw [← e 0 (by omega), ← e 1 (by omega), ← e 2 (by omega)]; rfl
    rw [hd, hC]
    rfl
  · have h1 : decide (f = g) = false := decide_eq_false hfg
    have h2 : decide (f ≠ g) = true := decide_eq_true hfg
    simp only [Bool.not_true, cond_false, h2, cond_true, h1, Bool.and_false]
def eqB (a b : List Int) : Bool := decide (ByteArray.toList (bytesOf a) = ByteArray.toList (bytesOf b))
def sameF (f : Int) (ps : List (List Int)) (g : Int) (qs : List (List Int)) : Bool := decide (f = g) && (List.range 3).all fun k => eqB (ps.getD k []) (qs.getD k [])
theorem sameF_self (f : Int) (ps : List (List Int)) : sameF f ps f ps = true := by
  unfold sameF eqB
  simp
theorem rsame_ok {N : Nat} (hN : 10 < N) (f : Int) (ps : List (List Int)) (g : Int) (qs : List (List Int)) : ref17_Same N f ps g qs = some (sameF f ps g qs) := by
  have hit := iter_all (body := ref17_Same_b1 N ps qs) 3 N (fun k => eqB (ps.getD k []) (qs.getD k [])) (fun i hi => by
    obtain ⟨g1, g2, g3⟩ := in2 hi
    have g4 := inS (i := i) (by omega)
    simp only [ref17_Same_b1, g1, g2, hi, decide_true, cond_true, Int.toNat_natCast, and_self, if_true, g4]
    by_cases h : ByteArray.toList (bytesOf (ps.getD i [])) = ByteArray.toList (bytesOf (qs.getD i []))
    · have e : eqB (ps.getD i []) (qs.getD i []) = true := decide_eq_true h
      have e2 : decide (ByteArray.toList (bytesOf (ps.getD i [])) ≠ ByteArray.toList (bytesOf (qs.getD i []))) = false := decide_eq_false (fun hh => hh h)
      rw [e, e2]; rfl
    · have e : eqB (ps.getD i []) (qs.getD i []) = false := decide_eq_false h
      have e2 : decide (ByteArray.toList (bytesOf (ps.getD i [])) ≠ ByteArray.toList (bytesOf (qs.getD i []))) = true := decide_eq_true h
      rw [e, e2]; rfl) (by simp [ref17_Same_b1]) (by omega)
  unfold ref17_Same sameF
  by_cases hfg : f = g
  · have h1 : decide (f = g) = true := decide_eq_true hfg
    have h2 : decide (f ≠ g) = false := decide_eq_false (fun h => h hfg)
    rw [h1, h2, hit]
    cases (List.range 3).all _ <;> rfl
  · have h1 : decide (f = g) = false := decide_eq_false hfg
    have h2 : decide (f ≠ g) = true := decide_eq_true hfg
    rw [h1, h2]
    rfl
def abF (x : Int) : Int := max x (-x)
def wRow (l : List Int) : Int := psum (fun i => abF (l.getD i 0)) l.length
def weightF (zs : List (List Int)) : Int := psum (fun k => wRow (zs.getD k [])) 3
theorem abF_bnd {x : Int} (h : -255 ≤ x ∧ x ≤ 255) : 0 ≤ abF x ∧ abF x ≤ 255 := by unfold abF; omega
theorem psum_nn {f : Nat → Int} {n : Nat} {b : Int} (h : ∀ k, k < n → 0 ≤ f k ∧ f k ≤ b) : 0 ≤ psum f n ∧ psum f n ≤ n * b := by
  induction n with
  | zero => simp [psum]
  | succ n ih =>
    obtain ⟨h1, h2⟩ := ih fun k hk => h k (by omega)
    obtain ⟨h3, h4⟩ := h n (by omega)
    simp only [psum, Int.natCast_succ, Int.add_mul, Int.one_mul]
    omega
theorem sweight_ok {N : Nat} (hN : 40000 < N) (f : Int) {zs : List (List Int)} (hl : ∀ k, k < 3 → (zs.getD k []).length ≤ 30000) : stores_Weight N f zs = some (bif sRight f zs then weightF zs else 0) := by
  unfold stores_Weight
  rw [sright_ok hN f hl]
  cases hr : sRight f zs
  · rfl
  · have hv : ∀ k, k < 3 → ∀ i, 0 ≤ abF ((zs.getD k []).getD i 0) ∧ abF ((zs.getD k []).getD i 0) ≤ 255 := fun k hk i => abF_bnd (sRight_val hr hk i)
    have hrow : ∀ k, k < 3 → 0 ≤ wRow (zs.getD k []) ∧ wRow (zs.getD k []) ≤ 7650000 := fun k hk => by
      have := psum_nn (n := (zs.getD k []).length) (fun i _ => hv k hk i)
      have h2 := hl k hk
      unfold wRow
      omega
    have hin : ∀ k : Nat, k < 3 → ∀ s : Int, 0 ≤ s → s ≤ 100000000 → iter (stores_Weight_b2 N zs (s, (k : Int))) N (s, 0) = some (s + wRow (zs.getD k []), ((zs.getD k []).length : Int), false) := fun k hk s s0 s1 => by
      have hn : ((k : Int)).toNat = k := Int.toNat_natCast k
      have hlk := hl k hk
      have hvk := hv k hk
      have hsv := sRight_val hr hk
      obtain ⟨l, hle⟩ : ∃ l, l = zs.getD k [] := ⟨_, rfl⟩
      rw [← hle] at hlk hvk hsv ⊢
      refine iter_to (fun j => (s + psum (fun i => abF (l.getD i 0)) j, (j : Int))) l.length ?_ ?_ ?_ (by omega)
      · show _ = (s + 0, ((0 : Nat) : Int))
        rw [Int.add_zero]; rfl
      · intro j hj
        have h1 : (j : Int) < (l.length : Int) := by omega
        have g4 := inS (i := j) (by omega)
        have hp := psum_nn (n := j) (fun i _ => hvk i)
        have hj2 := hvk j
        have hj3 := hsv j
        have i1 : inK .i64 (-(l.getD j 0)) := in64 (by omega) (by omega)
        have i2 : inK .i64 (s + psum (fun i => abF (l.getD i 0)) j + max (l.getD j 0) (-(l.getD j 0))) := by
          unfold abF at hj2 hp ⊢
          exact in64 (by omega) (by omega)
        simp only [stores_Weight_b2, hn, ← hle, h1, decide_true, cond_true, Int.natCast_nonneg, Int.toNat_natCast, and_self, if_true, i1, i2, g4]
        rw [Int.natCast_succ, Int.add_assoc]
        rfl
      · show stores_Weight_b2 N zs _ (_, (l.length : Int)) = _
        simp only [stores_Weight_b2, hn, ← hle, Int.lt_irrefl, decide_false, cond_false]
        rfl
    have hit := iter_sum (body := stores_Weight_b1 N zs) 3 N (fun k => wRow (zs.getD k [])) (fun i hi => by
      obtain ⟨g1, g2, g3⟩ := in2 hi
      have g4 := inS (i := i) (by omega)
      have hp := psum_nn (n := i) (f := fun k => wRow (zs.getD k [])) (b := 7650000) (fun k hk => hrow k (by omega))
      have hit := hin i hi (psum (fun k => wRow (zs.getD k [])) i) hp.1 (by omega)
      simp only [stores_Weight_b1, g1, g2, hi, decide_true, cond_true, Int.toNat_natCast, and_self, if_true, hit, Option.bind_some, g4]) (fun x => by simp [stores_Weight_b1]) (by omega)
    simp only [Option.isSome_some, Option.getD_some, if_true, Bool.not_true, cond_false, cond_true, hit, Option.bind_some]
    rfl
theorem diff_get (ps qs : List (List Int)) {k : Nat} (hk : k < 3) : (diffT ps qs).getD k [] = tab (ps.getD k []).length fun i => (ps.getD k []).getD i 0 - (qs.getD k []).getD i 0 := by
  unfold diffT; rw [tab_get _ _ hk]
theorem diff_right {f : Int} {ps qs : List (List Int)} (hr : rightF f ps = true) (hp : ∀ k, k < 3 → byteP (ps.getD k [])) (hq : ∀ k, k < 3 → byteP (qs.getD k [])) : sRight f (diffT ps qs) = true := by
  obtain ⟨h1, h2⟩ := rightF_len hr
  unfold sRight
  simp only [Bool.and_eq_true, decide_eq_true_eq, List.all_eq_true, List.mem_range]
  refine ⟨h1, fun k hk => ⟨by rw [diff_get _ _ hk, tab_len]; exact h2 k hk, fun x hx => ?_⟩⟩
  rw [diff_get _ _ hk] at hx
  unfold tab at hx
  obtain ⟨i, hi, rfl⟩ := List.mem_map.1 hx
  have v1 := hp k hk i
  have v2 := hq k hk i
  unfold vB
  simp only [Bool.and_eq_true, decide_eq_true_eq]
  omega
theorem flat_get (f s : Int) {k : Nat} (hk : k < 3) : (flatP f s).getD k [] = tab (areaN f k) fun _ => s := by
  unfold flatP
  rw [tab_get _ _ hk, rep_tab]
theorem flat_byte {f s : Int} (h0 : 0 ≤ s) (h1 : s ≤ 255) : ∀ k, k < 3 → byteP ((flatP f s).getD k []) := fun k hk i => by
  rw [flat_get f s hk]
  by_cases hi : i < areaN f k
  · rw [tab_get _ _ hi]; exact ⟨h0, h1⟩
  · rw [tab_out _ _ (by omega)]; decide
theorem flat_right {f s : Int} (h : fA f ≠ 0) : rightF f (flatP f s) = true := by
  unfold rightF
  simp only [Bool.and_eq_true, decide_eq_true_eq, List.all_eq_true, List.mem_range]
  refine ⟨h, fun k hk => ?_⟩
  rw [flat_get f s hk, tab_len]
  obtain ⟨_, _, _, _, b5, b6⟩ := wh_bnd f k
  unfold areaN
  omega
theorem psum_const (c : Int) (n : Nat) : psum (fun _ => c) n = n * c := by
  induction n with
  | zero => simp [psum]
  | succ n ih => simp only [psum, ih, Int.natCast_succ, Int.add_mul, Int.one_mul]
theorem lives34 (M : Nat) (hM : 50000 ≤ M) : law34_lives (M + 200) = some true := by
  have hA0 : fA 6 ≠ 0 := by decide
  have hA : decide (fA 6 ≠ 0) = true := decide_eq_true hA0
  have e10 : clip 10 0 255 = 10 := rfl
  have e14 : clip 14 0 255 = 14 := rfl
  have a0 : areaN 6 0 = 1024 := by decide
  have a1 : areaN 6 1 = 256 := by decide
  have a2 : areaN 6 2 = 256 := by decide
  have dk : ∀ k, k < 3 → (diffT (flatP 6 10) (flatP 6 14)).getD k [] = tab (areaN 6 k) fun _ => -4 := fun k hk => by
    rw [diff_get _ _ hk, flat_get _ _ hk, flat_get _ _ hk, tab_len]
    exact tab_ext fun i hi => by rw [tab_get _ _ hi, tab_get _ _ hi]; rfl
  have hl : ∀ s : Int, ∀ k, k < 3 → ((flatP 6 s).getD k []).length ≤ 30000 := fun s k hk => by
    rw [flat_get _ _ hk, tab_len]
    rcases (show k = 0 ∨ k = 1 ∨ k = 2 by omega) with rfl | rfl | rfl <;> omega
  have hd : ∀ k, k < 3 → ((diffT (flatP 6 10) (flatP 6 14)).getD k []).length ≤ 30000 := fun k hk => by
    rw [diff_get _ _ hk, tab_len]; exact hl 10 k hk
  have hb10 := flat_byte (f := 6) (s := 10) (by decide) (by decide)
  have hb14 := flat_byte (f := 6) (s := 14) (by decide) (by decide)
  have hs := diff_right (flat_right (s := 10) hA0) hb10 hb14
  have hr : (rightF 6 (flatP 6 10) && (rightF 6 (flatP 6 14) && decide ((6 : Int) = 6))) = true := by rw [flat_right hA0, flat_right hA0]; rfl
  have hw : weightF (diffT (flatP 6 10) (flatP 6 14)) = 6144 := by
    have row : ∀ k, k < 3 → wRow ((diffT (flatP 6 10) (flatP 6 14)).getD k []) = (areaN 6 k : Int) * 4 := fun k hk => by
      rw [dk k hk]
      unfold wRow
      rw [tab_len, ← psum_const]
      exact psum_ext fun i hi => by rw [tab_get _ _ hi]; rfl
    unfold weightF
    simp only [psum]
    rw [row 0 (by omega), row 1 (by omega), row 2 (by omega), a0, a1, a2]
    rfl
  have q0 : ((diffT (flatP 6 10) (flatP 6 14)).getD 0 []).length = 1024 := by rw [dk 0 (by omega), tab_len, a0]
  have q2 : ((diffT (flatP 6 10) (flatP 6 14)).getD 2 []).length = 256 := by rw [dk 2 (by omega), tab_len, a2]
  have q3 : ((diffT (flatP 6 10) (flatP 6 14)).getD 2 []).getD 0 0 = -4 := by rw [dk 2 (by omega), tab_get _ _ (by omega)]
  unfold law34_lives
  simp only [pnew_ok (N := M + 200) (by omega), hA, cond_true, e10, e14, Option.isSome_some, Option.getD_some, if_true]
  rw [sdiff_ok (N := M + 200) (by omega) 6 6 hb10 hb14 (hl 10), hr]
  generalize diffT (flatP 6 10) (flatP 6 14) = D at *
  simp only [cond_true, Option.isSome_some, Option.getD_some, if_true, sweight_ok (N := M + 200) (by omega) 6 hd, sright_ok (N := M + 200) (by omega) 6 hd, hs, hw, q0, q2, q3]
  rfl
theorem bytes_of3 {ps : List (List Int)} (h : ∀ xs, xs ∈ ps → ∀ x, x ∈ xs → inK .u8 x) (k : Nat) : byteP (ps.getD k []) := by
  refine byteP_of fun x hx => ?_
  rw [List.getD_eq_getElem?_getD] at hx
  cases hi : ps[k]? with
  | none => rw [hi] at hx; cases hx
  | some xs =>
    rw [hi] at hx
    exact h xs (List.mem_of_getElem? hi) x hx
theorem rnewo_ok {N : Nat} (hN : 2000000 < N) (f s : Int) : ref17_New_own N f s = some (f, areaN f 0, areaN f 1, areaN f 2, areaN f 0, tab (areaN f 0) (fun _ => clip s 0 255), areaN f 1, tab (areaN f 1) (fun _ => clip s 0 255), areaN f 2, tab (areaN f 2) (fun _ => clip s 0 255)) := by
  have g6 : inK .u8 (clip s 0 255) := by unfold inK; exact ⟨clip_ge (by decide), clip_le (by decide)⟩
  have q : ∀ k, 0 ≤ wid f k * hig f k ∧ wid f k * hig f k * 1 ≤ 140737488355328 ∧ inK .i64 (wid f k * hig f k) := fun k => by
    obtain ⟨_, _, _, _, b5, b6⟩ := wh_bnd f k
    exact ⟨b5, by omega, in64 (by omega) (by omega)⟩
  have w0 : ref17_Wide N f 0 = some (wid f 0) := rwide_eq N f 0
  have w1 : ref17_Wide N f 1 = some (wid f 1) := rwide_eq N f 1
  have w2 : ref17_Wide N f 2 = some (wid f 2) := rwide_eq N f 2
  have h0 : ref17_High N f 0 = some (hig f 0) := rhigh_eq N f 0
  have h1 : ref17_High N f 1 = some (hig f 1) := rhigh_eq N f 1
  have h2 : ref17_High N f 2 = some (hig f 2) := rhigh_eq N f 2
  have gen : ∀ (body : Int → Option Int → Option Int → Int × List Int → Option ((Int × List Int) ⊕ List Int)) (k : Nat),
      (∀ i : Nat, i < areaN f k → ∀ xs, body s (some (wid f k)) (some (hig f k)) ((i : Int), xs) = some (.inl ((i : Int) + 1, xs.set i (clip s 0 255)))) →
      (∀ xs, body s (some (wid f k)) (some (hig f k)) (((areaN f k : Nat) : Int), xs) = some (.inr xs)) →
      iter (body s (some (wid f k)) (some (hig f k))) N (0, List.replicate (areaN f k) 0) = some (tab (areaN f k) fun _ => clip s 0 255) := fun body k e1 e2 =>
    row_fill (body := body s (some (wid f k)) (some (hig f k))) (fun i xs => ((i : Int), xs)) (fun xs => xs) (fun _ => clip s 0 255) (by simp) (fun i hi xs _ => by
      show body s _ _ ((i : Int), xs) = _
      rw [e1 i hi]; rfl) (fun xs _ => e2 xs) (by have := area_bnd f k; omega)
  have sl : ∀ k i : Nat, i < areaN f k → (i : Int) < ((wid f k * hig f k).toNat : Int) ∧ i < (wid f k * hig f k).toNat ∧ inK .i64 ((i : Int) + 1) := fun k i hi => by
    have := area_bnd f k
    unfold areaN at hi this
    exact ⟨by omega, hi, in64 (by omega) (by omega)⟩
  have l3 := gen (fun s c d => ref17_New_own_b3 N s c d) 0 (fun i hi xs => by
    obtain ⟨s1, s2, s3⟩ := sl 0 i hi
    simp only [ref17_New_own_b3, Option.getD_some, s1, s2, s3, decide_true, cond_true, ref01_clip N (show (0 : Int) ≤ 255 by decide), Option.isSome_some, g6, Int.natCast_nonneg, Int.toNat_natCast, and_self, if_true]) (fun xs => by
    show ref17_New_own_b3 N s _ _ (((wid f 0 * hig f 0).toNat : Int), xs) = _
    simp only [ref17_New_own_b3, Option.getD_some, Int.lt_irrefl, decide_false, cond_false])
  have l2 := gen (fun s c d => ref17_New_own_b2 N s c d) 1 (fun i hi xs => by
    obtain ⟨s1, s2, s3⟩ := sl 1 i hi
    simp only [ref17_New_own_b2, Option.getD_some, s1, s2, s3, decide_true, cond_true, ref01_clip N (show (0 : Int) ≤ 255 by decide), Option.isSome_some, g6, Int.natCast_nonneg, Int.toNat_natCast, and_self, if_true]) (fun xs => by
    show ref17_New_own_b2 N s _ _ (((wid f 1 * hig f 1).toNat : Int), xs) = _
    simp only [ref17_New_own_b2, Option.getD_some, Int.lt_irrefl, decide_false, cond_false])
  have l1 := gen (fun s c d => ref17_New_own_b1 N s c d) 2 (fun i hi xs => by
    obtain ⟨s1, s2, s3⟩ := sl 2 i hi
    simp only [ref17_New_own_b1, Option.getD_some, s1, s2, s3, decide_true, cond_true, ref01_clip N (show (0 : Int) ≤ 255 by decide), Option.isSome_some, g6, Int.natCast_nonneg, Int.toNat_natCast, and_self, if_true]) (fun xs => by
    show ref17_New_own_b1 N s _ _ (((wid f 2 * hig f 2).toNat : Int), xs) = _
    simp only [ref17_New_own_b1, Option.getD_some, Int.lt_irrefl, decide_false, cond_false])
  have a0 : (wid f 0 * hig f 0).toNat = areaN f 0 := rfl
  have a1 : (wid f 1 * hig f 1).toNat = areaN f 1 := rfl
  have a2 : (wid f 2 * hig f 2).toNat = areaN f 2 := rfl
  unfold ref17_New_own
  simp only [w0, w1, w2, h0, h1, h2, Option.isSome_some, Option.getD_some, (q 0).1, (q 0).2.1, (q 0).2.2, (q 1).1, (q 1).2.1, (q 1).2.2, (q 2).1, (q 2).2.1, (q 2).2.2, and_self, if_true, a0, a1, a2, l1, l2, l3, Option.bind_some]
theorem rsnewo_ok (N : Nat) (f : Int) : ref34_New_own N f = some (f, areaN f 0, areaN f 1, areaN f 2, areaN f 0, List.replicate (areaN f 0) 0, areaN f 1, List.replicate (areaN f 1) 0, areaN f 2, List.replicate (areaN f 2) 0) := by
  have q : ∀ k, 0 ≤ wid f k * hig f k ∧ wid f k * hig f k * 8 ≤ 140737488355328 ∧ inK .i64 (wid f k * hig f k) := fun k => by
    obtain ⟨_, _, _, _, b5, b6⟩ := wh_bnd f k
    exact ⟨b5, by omega, in64 (by omega) (by omega)⟩
  have w0 : ref17_Wide N f 0 = some (wid f 0) := rwide_eq N f 0
  have w1 : ref17_Wide N f 1 = some (wid f 1) := rwide_eq N f 1
  have w2 : ref17_Wide N f 2 = some (wid f 2) := rwide_eq N f 2
  have h0 : ref17_High N f 0 = some (hig f 0) := rhigh_eq N f 0
  have h1 : ref17_High N f 1 = some (hig f 1) := rhigh_eq N f 1
  have h2 : ref17_High N f 2 = some (hig f 2) := rhigh_eq N f 2
  unfold ref34_New_own
  simp only [w0, w1, w2, h0, h1, h2, Option.isSome_some, Option.getD_some, (q 0).1, (q 0).2.1, (q 0).2.2, (q 1).1, (q 1).2.1, (q 1).2.2, (q 2).1, (q 2).2.1, (q 2).2.2, and_self, if_true]
  rfl
theorem eq_all {a b : List Int} (h : a.length = b.length) : (List.range a.length).all (fun i => decide (a.getD i 0 = b.getD i 0)) = decide (a = b) := by
  by_cases e : a = b
  · subst e; simp
  · rw [decide_eq_false e]
    cases hh : (List.range a.length).all (fun i => decide (a.getD i 0 = b.getD i 0)) with
    | false => rfl
    | true =>
      refine absurd ?_ e
      exact (tab_of 0 (xs := a) rfl).trans ((tab_ext fun i hi => by simpa using List.all_eq_true.1 hh i (List.mem_range.2 hi)).trans (tab_of 0 (xs := b) h.symm).symm)
theorem seq_ok {N : Nat} {a b : List Int} (hN : a.length < N) (hl : a.length < 4294967296) : slices_Equal_int_int N a b = some (decide (a = b)) := by
  unfold slices_Equal_int_int
  by_cases hlen : a.length = b.length
  · have h1 : decide ((a.length : Int) ≠ (b.length : Int)) = false := decide_eq_false (fun h => h (by omega))
    rw [h1, cond_false]
    have hit := iter_all (body := slices_Equal_int_int_b1 N a b) a.length N (fun i => decide (a.getD i 0 = b.getD i 0)) (fun i hi => by
      have g1 : (i : Int) < (a.length : Int) := by omega
      have g2 : (i : Int) < (b.length : Int) := by omega
      have g4 := inS (i := i) (by omega)
      simp only [slices_Equal_int_int_b1, g1, g2, decide_true, cond_true, Int.natCast_nonneg, Int.toNat_natCast, and_self, if_true, g4]
      by_cases h : a.getD i 0 = b.getD i 0
      · have e1 : decide (a.getD i 0 ≠ b.getD i 0) = false := decide_eq_false (fun hh => hh h)
        rw [e1, decide_eq_true h]; rfl
      · have e1 : decide (a.getD i 0 ≠ b.getD i 0) = true := decide_eq_true h
        rw [decide_eq_false h, e1]; rfl) (by simp only [slices_Equal_int_int_b1, Int.lt_irrefl, decide_false, cond_false]) hN
    rw [hit, eq_all hlen]
    cases decide (a = b) <;> rfl
  · have h1 : decide ((a.length : Int) ≠ (b.length : Int)) = true := decide_eq_true (by omega)
    have h2 : decide (a = b) = false := decide_eq_false (fun h => hlen (by rw [h]))
    rw [h1, h2]; rfl
def sameS (f : Int) (ps : List (List Int)) (g : Int) (qs : List (List Int)) : Bool := decide (f = g) && (List.range 3).all fun k => decide (ps.getD k [] = qs.getD k [])
theorem sameS_self (f : Int) (ps : List (List Int)) : sameS f ps f ps = true := by
  unfold sameS
  simp
theorem ssame_ok {N : Nat} (hN : 2000000 < N) (f : Int) {ps : List (List Int)} (hl : ∀ k, k < 3 → (ps.getD k []).length ≤ 1622016) (g : Int) (qs : List (List Int)) : stores_Same N f ps g qs = some (sameS f ps g qs) := by
  unfold stores_Same
  have hit : iter (stores_Same_b1 N ps qs) N (decide (f = g), 0) = some (sameS f ps g qs) := by
    refine iter_to (fun i => (decide (f = g) && (List.range i).all (fun k => decide (ps.getD k [] = qs.getD k [])), (i : Int))) 3 ?_ ?_ ?_ (by omega)
    · simp
    · intro i hi
      obtain ⟨g1, g2, g3⟩ := in2 hi
      have g4 := inS (i := i) (by omega)
      have hlk := hl i hi
      have hq := seq_ok (N := N) (a := ps.getD i []) (b := qs.getD i []) (by omega) (by omega)
      simp only [stores_Same_b1, g1, g2, hi, decide_true, cond_true, Int.toNat_natCast, and_self, if_true, hq, Option.isSome_some, Option.getD_some, implies_true, g4]
      refine congrArg (fun z => some (Sum.inl z)) ?_
      rw [List.range_succ, List.all_append, Int.natCast_succ]
      generalize (List.range i).all _ = r
      have e : ([i].all fun k => decide (ps.getD k [] = qs.getD k [])) = decide (ps.getD i [] = qs.getD i []) := by simp only [List.all_cons, List.all_nil, Bool.and_true]
      rw [e]
      cases decide (f = g) <;> cases r <;> rfl
    · simp [stores_Same_b1, sameS]
  rw [hit]
  rfl
theorem rssame_ok {N : Nat} (hN : 2000000 < N) (f : Int) {ps : List (List Int)} (hl : ∀ k, k < 3 → (ps.getD k []).length ≤ 1622016) (g : Int) (qs : List (List Int)) : ref34_Same N f ps g qs = some (sameS f ps g qs) := by
  have hit := iter_all (body := ref34_Same_b1 N ps qs) 3 N (fun k => decide (ps.getD k [] = qs.getD k [])) (fun k hk => by
    obtain ⟨g1, g2, g3⟩ := in2 hk
    have g4 := inS (i := k) (by omega)
    have hn : ((k : Int)).toNat = k := Int.toNat_natCast k
    have hlk := hl k hk
    simp only [ref34_Same_b1, g1, g2, hk, hn, decide_true, cond_true, and_self, if_true]
    by_cases hlen : (ps.getD k []).length = (qs.getD k []).length
    · have h1 : decide (((ps.getD k []).length : Int) ≠ ((qs.getD k []).length : Int)) = false := decide_eq_false (fun h => h (by omega))
      rw [h1, cond_false]
      obtain ⟨hy, hx⟩ := iter_try (body := ref34_Same_b2 N ps qs (k : Int)) (fun i => (i : Int)) (ps.getD k []).length N (fun i => decide ((ps.getD k []).getD i 0 = (qs.getD k []).getD i 0)) (fun _ => .inl ()) (.inr ((((ps.getD k []).length : Nat) : Int), (((ps.getD k []).length : Nat) : Int), false)) (s0 := 0) rfl
        (fun i hi hP => by
          have q1 : (i : Int) < ((ps.getD k []).length : Int) := by omega
          have q2 : (i : Int) < ((qs.getD k []).length : Int) := by omega
          have q4 := inS (i := i) (by omega)
          have q5 : decide ((ps.getD k []).getD i 0 ≠ (qs.getD k []).getD i 0) = false := decide_eq_false (fun h => h (by simpa using hP))
          simp only [ref34_Same_b2, g1, g2, hk, hn, q1, q2, decide_true, cond_true, cond_false, Int.natCast_nonneg, Int.toNat_natCast, and_self, if_true, q5, q4]
          rw [Int.natCast_succ])
        (fun i hi hP => by
          have q1 : (i : Int) < ((ps.getD k []).length : Int) := by omega
          have q2 : (i : Int) < ((qs.getD k []).length : Int) := by omega
          have q5 : decide ((ps.getD k []).getD i 0 ≠ (qs.getD k []).getD i 0) = true := decide_eq_true (by simpa using hP)
          simp only [ref34_Same_b2, g1, g2, hk, hn, q1, q2, decide_true, cond_true, cond_false, Int.natCast_nonneg, Int.toNat_natCast, and_self, if_true, q5])
        (by simp only [ref34_Same_b2, g1, g2, hk, hn, and_self, if_true, Int.lt_irrefl, decide_false, cond_false]) (by omega)
      rw [eq_all hlen] at hy hx
      cases hall : decide (ps.getD k [] = qs.getD k []) with
      | true => rw [hy hall]; simp only [Option.bind_some, Sum.elim_inr, g4, if_true, cond_true]
      | false => obtain ⟨j, _, _, hj⟩ := hx hall; rw [hj]; rfl
    · have h1 : decide (((ps.getD k []).length : Int) ≠ ((qs.getD k []).length : Int)) = true := decide_eq_true (by omega)
      have h2 : decide (ps.getD k [] = qs.getD k []) = false := decide_eq_false (fun h => hlen (by rw [h]))
      rw [h1, h2]; rfl) (by simp [ref34_Same_b1]) (by omega)
  unfold ref34_Same sameS
  by_cases hfg : f = g
  · have h1 : decide (f = g) = true := decide_eq_true hfg
    have h2 : decide (f ≠ g) = false := decide_eq_false (fun h => h hfg)
    rw [h1, h2, hit]
    cases (List.range 3).all _ <;> rfl
  · have h1 : decide (f = g) = false := decide_eq_false hfg
    have h2 : decide (f ≠ g) = true := decide_eq_true hfg
    rw [h1, h2]
    rfl
theorem vall {l : List Int} : (List.range l.length).all (fun i => vB (l.getD i 0)) = l.all vB := by
  have h : ∀ j, j ≤ l.length → (List.range j).all (fun i => vB (l.getD i 0)) = (l.take j).all vB := fun j => by
    induction j with
    | zero => intro _; simp
    | succ j ih =>
      intro hj
      rw [List.range_succ, List.all_append, ih (by omega), all_take (by omega)]
      simp only [List.all_cons, List.all_nil, Bool.and_true]
  have := h l.length (Nat.le_refl _)
  rwa [List.take_length] at this
theorem rsright_ok {N : Nat} (hN : 40000 < N) (f : Int) {zs : List (List Int)} (hl : ∀ k, k < 3 → (zs.getD k []).length ≤ 30000) : ref34_Right N f zs = some (sRight f zs) := by
  have hit := iter_all (body := ref34_Right_b1 N f zs) 3 N (fun k => decide (((zs.getD k []).length : Int) = wid f k * hig f k) && (zs.getD k []).all vB) (fun k hk => by
    obtain ⟨g1, g2, g3⟩ := in2 hk
    have g4 := inS (i := k) (by omega)
    obtain ⟨_, _, _, _, b5, b6⟩ := wh_bnd f k
    have g5 : inK .i64 (wid f k * hig f k) := in64 (by omega) (by omega)
    have hn : ((k : Int)).toNat = k := Int.toNat_natCast k
    have hlk := hl k hk
    simp only [ref34_Right_b1, g1, g2, hk, hn, rwide_eq, rhigh_eq, Option.isSome_some, Option.getD_some, g5, decide_true, cond_true, and_self, if_true]
    by_cases hlen : ((zs.getD k []).length : Int) = wid f k * hig f k
    · have h1 : decide (((zs.getD k []).length : Int) ≠ wid f k * hig f k) = false := decide_eq_false (fun h => h hlen)
      rw [h1, cond_false, decide_eq_true hlen, Bool.true_and, ← vall]
      obtain ⟨hy, hx⟩ := iter_try (body := ref34_Right_b2 N zs (k : Int)) (fun i => (i : Int)) (zs.getD k []).length N (fun i => vB ((zs.getD k []).getD i 0)) (fun _ => .inl ()) (.inr ((((zs.getD k []).length : Nat) : Int), (((zs.getD k []).length : Nat) : Int), false)) (s0 := 0) rfl
        (fun i hi hP => by
          have q1 : (i : Int) < ((zs.getD k []).length : Int) := by omega
          have q4 := inS (i := i) (by omega)
          unfold vB at hP
          simp only [Bool.and_eq_true, decide_eq_true_eq] at hP
          have q5 : decide ((255 : Int) < (zs.getD k []).getD i 0) = false := decide_eq_false (by omega)
          have q6 : decide ((zs.getD k []).getD i 0 < -255) = false := decide_eq_false (by omega)
          simp only [ref34_Right_b2, g1, g2, hk, hn, q1, q5, q6, decide_true, cond_true, cond_false, Int.natCast_nonneg, Int.toNat_natCast, and_self, if_true, implies_true, q4]
          rw [Int.natCast_succ])
        (fun i hi hP => by
          have q1 : (i : Int) < ((zs.getD k []).length : Int) := by omega
          have q5 : (bif decide ((255 : Int) < (zs.getD k []).getD i 0) then true else decide ((zs.getD k []).getD i 0 < -255)) = true := by
            unfold vB at hP
            by_cases h1 : (255 : Int) < (zs.getD k []).getD i 0
            · rw [decide_eq_true h1]; rfl
            · by_cases h2 : (zs.getD k []).getD i 0 < -255
              · rw [decide_eq_true h2]; cases decide ((255 : Int) < (zs.getD k []).getD i 0) <;> rfl
              · rw [decide_eq_true (show -255 ≤ (zs.getD k []).getD i 0 by omega), decide_eq_true (show (zs.getD k []).getD i 0 ≤ 255 by omega)] at hP; cases hP
          simp only [ref34_Right_b2, g1, g2, hk, hn, q1, q5, decide_true, cond_true, cond_false, Int.natCast_nonneg, Int.toNat_natCast, and_self, if_true, implies_true])
        (by simp only [ref34_Right_b2, g1, g2, hk, hn, and_self, if_true, Int.lt_irrefl, decide_false, cond_false]) (by omega)
      cases hall : (List.range (zs.getD k []).length).all (fun i => vB ((zs.getD k []).getD i 0)) with
      | true => rw [hy hall]; simp only [Option.bind_some, Sum.elim_inr, g4, if_true, cond_true]
      | false => obtain ⟨j, _, _, hj⟩ := hx hall; rw [hj]; rfl
    · have h1 : decide (((zs.getD k []).length : Int) ≠ wid f k * hig f k) = true := decide_eq_true hlen
      rw [h1, decide_eq_false hlen]; rfl) (by simp [ref34_Right_b1]) (by omega)
  unfold ref34_Right sRight
  rw [rmany_eq]
  simp only [Option.isSome_some, if_true, Option.getD_some, hit]
  rcases fmt_or f with ⟨h1, h2⟩ | ⟨h1, _, h3, _⟩
  · rw [h1, h2]; rfl
  · have hm : 0 < fA f * fD f := Int.mul_pos (by omega) (by omega)
    rw [decide_eq_false (show ¬ fA f * fD f = 0 by omega), decide_eq_true (show fA f ≠ 0 by omega)]
    cases (List.range 3).all _ <;> rfl
theorem rsweight_ok {N : Nat} (hN : 40000 < N) (f : Int) {zs : List (List Int)} (hl : ∀ k, k < 3 → (zs.getD k []).length ≤ 30000) (hr : sRight f zs = true) : ref34_Weight N f zs = some (weightF zs) := by
  have hv : ∀ k, k < 3 → ∀ i, 0 ≤ abF ((zs.getD k []).getD i 0) ∧ abF ((zs.getD k []).getD i 0) ≤ 255 := fun k hk i => abF_bnd (sRight_val hr hk i)
  have hrow : ∀ k, k < 3 → 0 ≤ wRow (zs.getD k []) ∧ wRow (zs.getD k []) ≤ 7650000 := fun k hk => by
    have := psum_nn (n := (zs.getD k []).length) (fun i _ => hv k hk i)
    have h2 := hl k hk
    unfold wRow
    omega
  have hin : ∀ k : Nat, k < 3 → ∀ s : Int, 0 ≤ s → s ≤ 100000000 → iter (ref34_Weight_b2 N zs (s, (k : Int))) N (s, 0) = some (s + wRow (zs.getD k []), ((zs.getD k []).length : Int), ((zs.getD k []).length : Int), false) := fun k hk s s0 s1 => by
    have hn : ((k : Int)).toNat = k := Int.toNat_natCast k
    obtain ⟨g1, g2, g3⟩ := in2 hk
    have hlk := hl k hk
    have hvk := hv k hk
    have hsv := sRight_val hr hk
    obtain ⟨l, hle⟩ : ∃ l, l = zs.getD k [] := ⟨_, rfl⟩
    rw [← hle] at hlk hvk hsv ⊢
    refine iter_to (fun j => (s + psum (fun i => abF (l.getD i 0)) j, (j : Int))) l.length ?_ ?_ ?_ (by omega)
    · show _ = (s + 0, ((0 : Nat) : Int))
      rw [Int.add_zero]; rfl
    · intro j hj
      have h1 : (j : Int) < (l.length : Int) := by omega
      have g4 := inS (i := j) (by omega)
      have hp := psum_nn (n := j) (fun i _ => hvk i)
      have hj2 := hvk j
      have hj3 := hsv j
      have i1 : inK .i64 (-(l.getD j 0)) := in64 (by omega) (by omega)
      have hab : (bif decide (l.getD j 0 < 0) then -(l.getD j 0) else l.getD j 0) = abF (l.getD j 0) := by
        unfold abF
        by_cases hneg : l.getD j 0 < 0
        · rw [decide_eq_true hneg, cond_true]; omega
        · rw [decide_eq_false hneg, cond_false]; omega
      have i2 : inK .i64 (s + psum (fun i => abF (l.getD i 0)) j + abF (l.getD j 0)) := in64 (by omega) (by omega)
      simp only [ref34_Weight_b2, hn, g1, g2, hk, ← hle, h1, decide_true, cond_true, Int.natCast_nonneg, Int.toNat_natCast, and_self, if_true, i1, implies_true, hab, i2, g4]
      rw [Int.natCast_succ, Int.add_assoc]
      rfl
    · show ref34_Weight_b2 N zs _ (_, (l.length : Int)) = _
      simp only [ref34_Weight_b2, hn, g1, g2, hk, ← hle, Int.lt_irrefl, decide_false, cond_false, and_self, if_true]
      rfl
  have hit := iter_sum (body := ref34_Weight_b1 N zs) 3 N (fun k => wRow (zs.getD k [])) (fun i hi => by
    obtain ⟨g1, g2, g3⟩ := in2 hi
    have g4 := inS (i := i) (by omega)
    have hp := psum_nn (n := i) (f := fun k => wRow (zs.getD k [])) (b := 7650000) (fun k hk => hrow k (by omega))
    have hit := hin i hi (psum (fun k => wRow (zs.getD k [])) i) hp.1 (by omega)
    simp only [ref34_Weight_b1, g2, decide_true, cond_true, hit, Option.bind_some, g4, if_true]) (fun x => by simp [ref34_Weight_b1]) (by omega)
  unfold ref34_Weight
  rw [hit]
  rfl
theorem rsdiff_ok {N : Nat} (hN : 40000 < N) (f : Int) {ps qs : List (List Int)} (hp : ∀ k, k < 3 → byteP (ps.getD k [])) (hq : ∀ k, k < 3 → byteP (qs.getD k [])) (hl : ∀ k, k < 3 → (ps.getD k []).length ≤ 30000) (hr : rightF f ps = true) (hs : rightF f qs = true) (g : Int) :
    ref34_Diff N f ps g qs = some (f, diffT ps qs) := by
  unfold ref34_Diff
  rw [rsnewo_ok]
  simp only [Option.isSome_some, if_true]
  have step : ∀ k, k < 3 → ∀ i, i < areaN f k → (i : Int) < ((ps.getD k []).length : Int) ∧ (i : Int) < ((qs.getD k []).length : Int) ∧ inK .i64 ((ps.getD k []).getD i 0) ∧ inK .i64 ((qs.getD k []).getD i 0) ∧ inK .i64 ((ps.getD k []).getD i 0 - (qs.getD k []).getD i 0) ∧ inK .i64 ((i : Int) + 1) ∧ (i : Int) < (areaN f k : Int) := fun k hk i hi => by
    have e1 := area_of hr hk
    have e2 := area_of hs hk
    have e3 := hl k hk
    have v1 := hp k hk i
    have v2 := hq k hk i
    exact ⟨by omega, by omega, in64 (by omega) (by omega), in64 (by omega) (by omega), in64 (by omega) (by omega), in64 (by omega) (by omega), by omega⟩
  have e : ∀ k, k < 3 → (ps.getD k []).length = areaN f k := fun k hk => area_of hr hk
  have hlt : ∀ k, k < 3 → areaN f k < N := fun k hk => by have := e k hk; have := hl k hk; omega
  obtain ⟨C, hC⟩ : ∃ C : Int × Nat × Nat × Nat × Nat × List Int × Nat × List Int × Nat × List Int, C = (f, areaN f 0, areaN f 1, areaN f 2, areaN f 0, List.replicate (areaN f 0) 0, areaN f 1, List.replicate (areaN f 1) 0, areaN f 2, List.replicate (areaN f 2) 0) := ⟨_, rfl⟩
  rw [← hC]
  have l3 : iter (ref34_Diff_b3 N ps qs (some C)) N (0, List.replicate (areaN f 0) 0) = some (tab (areaN f 0) fun i => (ps.getD 0 []).getD i 0 - (qs.getD 0 []).getD i 0) :=
    row_fill (fun i xs => ((i : Int), xs)) (fun xs => xs) _ (by simp) (fun i hi xs hx => by
      obtain ⟨s1, s2, s3, s4, s5, s6, s7⟩ := step 0 (by omega) i hi
      simp only [ref34_Diff_b3, s1, s2, s3, s4, s5, s6, s7, hi, hC, decide_true, cond_true, Int.natCast_nonneg, Int.toNat_natCast, and_self, if_true, Option.getD_some]
      rw [Int.natCast_succ]) (fun xs hx => by simp only [ref34_Diff_b3, e 0 (by omega), Int.lt_irrefl, decide_false, cond_false]) (hlt 0 (by omega))
  have l2 : iter (ref34_Diff_b2 N ps qs (some C)) N (0, List.replicate (areaN f 1) 0) = some (tab (areaN f 1) fun i => (ps.getD 1 []).getD i 0 - (qs.getD 1 []).getD i 0) :=
    row_fill (fun i xs => ((i : Int), xs)) (fun xs => xs) _ (by simp) (fun i hi xs hx => by
      obtain ⟨s1, s2, s3, s4, s5, s6, s7⟩ := step 1 (by omega) i hi
      simp only [ref34_Diff_b2, s1, s2, s3, s4, s5, s6, s7, hi, hC, decide_true, cond_true, Int.natCast_nonneg, Int.toNat_natCast, and_self, if_true, Option.getD_some]
      rw [Int.natCast_succ]) (fun xs hx => by simp only [ref34_Diff_b2, e 1 (by omega), Int.lt_irrefl, decide_false, cond_false]) (hlt 1 (by omega))
  have l1 : iter (ref34_Diff_b1 N ps qs (some C)) N (0, List.replicate (areaN f 2) 0) = some (tab (areaN f 2) fun i => (ps.getD 2 []).getD i 0 - (qs.getD 2 []).getD i 0) :=
    row_fill (fun i xs => ((i : Int), xs)) (fun xs => xs) _ (by simp) (fun i hi xs hx => by
      obtain ⟨s1, s2, s3, s4, s5, s6, s7⟩ := step 2 (by omega) i hi
      simp only [ref34_Diff_b1, s1, s2, s3, s4, s5, s6, s7, hi, hC, decide_true, cond_true, Int.natCast_nonneg, Int.toNat_natCast, and_self, if_true, Option.getD_some]
      rw [Int.natCast_succ]) (fun xs hx => by simp only [ref34_Diff_b1, e 2 (by omega), Int.lt_irrefl, decide_false, cond_false]) (hlt 2 (by omega))
  have z0 : ((some C).getD default).2.2.2.2.2.1 = List.replicate (areaN f 0) 0 := by rw [hC]; rfl
  have z1 : ((some C).getD default).2.2.2.2.2.2.2.1 = List.replicate (areaN f 1) 0 := by rw [hC]; rfl
  have z2 : ((some C).getD default).2.2.2.2.2.2.2.2.2 = List.replicate (areaN f 2) 0 := by rw [hC]; rfl
  rw [z0, z1, z2, l3]
  simp only [Option.bind_some, l2, l1]
  rw [if_pos ⟨by rw [hC, tab_len]; rfl, by rw [hC, tab_len]; rfl, by rw [hC, tab_len]; rfl⟩]
  have hd : diffT ps qs = [tab (areaN f 0) fun i => (ps.getD 0 []).getD i 0 - (qs.getD 0 []).getD i 0, tab (areaN f 1) fun i => (ps.getD 1 []).getD i 0 - (qs.getD 1 []).getD i 0, tab (areaN f 2) fun i => (ps.getD 2 []).getD i 0 - (qs.getD 2 []).getD i 0] := by
    rw [← e 0 (by omega), ← e 1 (by omega), ← e 2 (by omega)]; rfl
  rw [hd, hC]
  rfl
theorem rsadd_ok {N : Nat} (hN : 2000000 < N) (f : Int) {ps zs : List (List Int)} (hp : ∀ k, k < 3 → byteP (ps.getD k [])) (hl : ∀ k, k < 3 → (ps.getD k []).length ≤ 30000) (hr : rightF f ps = true) (hs : sRight f zs = true) (g : Int) :
    ref34_Add N f ps g zs = some (f, addT ps zs) := by
  unfold ref34_Add
  have hc0 : clip 0 0 255 = 0 := rfl
  rw [rnewo_ok hN, hc0]
  simp only [Option.isSome_some, if_true]
  have step : ∀ k, k < 3 → ∀ i, i < areaN f k → (i : Int) < ((ps.getD k []).length : Int) ∧ (i : Int) < ((zs.getD k []).length : Int) ∧ inK .i64 ((ps.getD k []).getD i 0) ∧ inK .i64 ((ps.getD k []).getD i 0 + (zs.getD k []).getD i 0) ∧ inK .i64 ((i : Int) + 1) ∧ (i : Int) < (areaN f k : Int) ∧ inK .u8 (clip ((ps.getD k []).getD i 0 + (zs.getD k []).getD i 0) 0 255) := fun k hk i hi => by
    have e1 := area_of hr hk
    have e2 := area_of (sRight_right hs) hk
    have e3 := hl k hk
    have v1 := hp k hk i
    have v2 := sRight_val hs hk i
    exact ⟨by omega, by omega, in64 (by omega) (by omega), in64 (by omega) (by omega), in64 (by omega) (by omega), by omega, by unfold inK; exact ⟨clip_ge (by decide), clip_le (by decide)⟩⟩
  have e : ∀ k, k < 3 → (ps.getD k []).length = areaN f k := fun k hk => area_of hr hk
  have hlt : ∀ k, k < 3 → areaN f k < N := fun k hk => by have := e k hk; have := hl k hk; omega
  have wc : ∀ a, ref01_Clip N a 0 255 = some (clip a 0 255) := fun a => ref01_clip N (by decide)
  obtain ⟨C, hC⟩ : ∃ C : Int × Nat × Nat × Nat × Nat × List Int × Nat × List Int × Nat × List Int, C = (f, areaN f 0, areaN f 1, areaN f 2, areaN f 0, tab (areaN f 0) (fun _ => 0), areaN f 1, tab (areaN f 1) (fun _ => 0), areaN f 2, tab (areaN f 2) (fun _ => 0)) := ⟨_, rfl⟩
  rw [← hC]
  have l3 : iter (ref34_Add_b3 N ps zs (some C)) N (0, tab (areaN f 0) (fun _ => 0)) = some (tab (areaN f 0) fun i => clip ((ps.getD 0 []).getD i 0 + (zs.getD 0 []).getD i 0) 0 255) :=
    row_fill (fun i xs => ((i : Int), xs)) (fun xs => xs) _ (tab_len _ _) (fun i hi xs hx => by
      obtain ⟨s1, s2, s3, s4, s5, s6, s7⟩ := step 0 (by omega) i hi
      simp only [ref34_Add_b3, s1, s2, s3, s4, s5, s6, s7, hi, hC, wc, decide_true, cond_true, Int.natCast_nonneg, Int.toNat_natCast, and_self, if_true, Option.getD_some, Option.isSome_some]
      rw [Int.natCast_succ]) (fun xs hx => by simp only [ref34_Add_b3, e 0 (by omega), Int.lt_irrefl, decide_false, cond_false]) (hlt 0 (by omega))
  have l2 : iter (ref34_Add_b2 N ps zs (some C)) N (0, tab (areaN f 1) (fun _ => 0)) = some (tab (areaN f 1) fun i => clip ((ps.getD 1 []).getD i 0 + (zs.getD 1 []).getD i 0) 0 255) :=
    row_fill (fun i xs => ((i : Int), xs)) (fun xs => xs) _ (tab_len _ _) (fun i hi xs hx => by
      obtain ⟨s1, s2, s3, s4, s5, s6, s7⟩ := step 1 (by omega) i hi
      simp only [ref34_Add_b2, s1, s2, s3, s4, s5, s6, s7, hi, hC, wc, decide_true, cond_true, Int.natCast_nonneg, Int.toNat_natCast, and_self, if_true, Option.getD_some, Option.isSome_some]
      rw [Int.natCast_succ]) (fun xs hx => by simp only [ref34_Add_b2, e 1 (by omega), Int.lt_irrefl, decide_false, cond_false]) (hlt 1 (by omega))
  have l1 : iter (ref34_Add_b1 N ps zs (some C)) N (0, tab (areaN f 2) (fun _ => 0)) = some (tab (areaN f 2) fun i => clip ((ps.getD 2 []).getD i 0 + (zs.getD 2 []).getD i 0) 0 255) :=
    row_fill (fun i xs => ((i : Int), xs)) (fun xs => xs) _ (tab_len _ _) (fun i hi xs hx => by
      obtain ⟨s1, s2, s3, s4, s5, s6, s7⟩ := step 2 (by omega) i hi
      simp only [ref34_Add_b1, s1, s2, s3, s4, s5, s6, s7, hi, hC, wc, decide_true, cond_true, Int.natCast_nonneg, Int.toNat_natCast, and_self, if_true, Option.getD_some, Option.isSome_some]
      rw [Int.natCast_succ]) (fun xs hx => by simp only [ref34_Add_b1, e 2 (by omega), Int.lt_irrefl, decide_false, cond_false]) (hlt 2 (by omega))
  have z0 : ((some C).getD default).2.2.2.2.2.1 = tab (areaN f 0) (fun _ => (0 : Int)) := by rw [hC]; rfl
  have z1 : ((some C).getD default).2.2.2.2.2.2.2.1 = tab (areaN f 1) (fun _ => (0 : Int)) := by rw [hC]; rfl
  have z2 : ((some C).getD default).2.2.2.2.2.2.2.2.2 = tab (areaN f 2) (fun _ => (0 : Int)) := by rw [hC]; rfl
  rw [z0, z1, z2, l3]
  simp only [Option.bind_some, l2, l1]
  rw [if_pos ⟨by rw [hC, tab_len]; rfl, by rw [hC, tab_len]; rfl, by rw [hC, tab_len]; rfl⟩]
  have hd : addT ps zs = [tab (areaN f 0) fun i => clip ((ps.getD 0 []).getD i 0 + (zs.getD 0 []).getD i 0) 0 255, tab (areaN f 1) fun i => clip ((ps.getD 1 []).getD i 0 + (zs.getD 1 []).getD i 0) 0 255, tab (areaN f 2) fun i => clip ((ps.getD 2 []).getD i 0 + (zs.getD 2 []).getD i 0) 0 255] := by
    rw [← e 0 (by omega), ← e 1 (by omega), ← e 2 (by omega)]; rfl
  rw [hd, hC]
  rfl
theorem rsnew_ok {N : Nat} (hN : 10 < N) (f : Int) : ref34_New N f = some (f, flatP f 0) := by
  have hit := iter_fill (body := ref34_New_b1 N f) 3 N (fun k => List.replicate (areaN f k) 0) (fun _ => []) (fun i hi => by
    obtain ⟨g1, g2, g3⟩ := in2 hi
    have g4 := inS (i := i) (by omega)
    obtain ⟨_, _, _, _, b5, b6⟩ := wh_bnd f i
    have g5 : inK .i64 (wid f i * hig f i) := in64 (by omega) (by omega)
    have g6 : wid f i * hig f i * 8 ≤ 140737488355328 := by omega
    simp only [ref34_New_b1, g1, g2, hi, decide_true, cond_true, Int.toNat_natCast, and_self, if_true, rwide_eq, rhigh_eq, Option.isSome_some, Option.getD_some, b5, g5, g6, g4, List.length_replicate]
    rfl) (fun xs => by simp [ref34_New_b1]) (by omega)
  rw [← rep_tab] at hit
  unfold ref34_New
  rw [hit]
  rfl
theorem few_len {N : Nat} {f : Int} {zs : List (List Int)} : ∃ b, law34_Light N f zs = some b ∧ (b = true → ∀ k, k < 3 → (zs.getD k []).length ≤ 30000) := ⟨_, rfl, fun h k hk => by
  simp only [Bool.cond_false_right, Bool.and_eq_true, decide_eq_true_eq] at h
  rcases (show k = 0 ∨ k = 1 ∨ k = 2 by omega) with rfl | rfl | rfl <;> omega⟩
theorem few_len17 {N : Nat} {f : Int} {zs : List (List Int)} : ∃ b, law17_Light N f zs = some b ∧ (b = true → ∀ k, k < 3 → (zs.getD k []).length ≤ 30000) := ⟨_, rfl, fun h k hk => by
  simp only [Bool.cond_false_right, Bool.and_eq_true, decide_eq_true_eq] at h
  rcases (show k = 0 ∨ k = 1 ∨ k = 2 by omega) with rfl | rfl | rfl <;> omega⟩
theorem jk {α β : Type} (F : α → Option β) (G : (α → Option β) → Option β) : joinK F G = G F := rfl
theorem sdiffs_law {M : Nat} (hM : 3000000 ≤ M) (f g h : Int) {ps qs zs : List (List Int)} (hp : ∀ k, k < 3 → byteP (ps.getD k [])) (hq : ∀ k, k < 3 → byteP (qs.getD k [])) : law34_StoresDiffs (M + 200) f ps g qs h zs = some true := by
  unfold law34_StoresDiffs
  obtain ⟨b1, h1, hlp⟩ := few_len17 (N := M + 200) (f := f) (zs := ps)
  obtain ⟨b2, h2, hlq⟩ := few_len17 (N := M + 200) (f := g) (zs := qs)
  obtain ⟨b3, h3, hlz⟩ := few_len (N := M + 200) (f := h) (zs := zs)
  obtain ⟨A, hA⟩ : ∃ A, A = (rightF f ps && (rightF g qs && decide (f = g))) := ⟨_, rfl⟩
  obtain ⟨B, hB⟩ : ∃ B, B = (rightF f ps && (sRight h zs && decide (f = h))) := ⟨_, rfl⟩
  have hA' : (bif (bif rightF f ps then rightF g qs else false) then decide (f = g) else false) = A := by rw [hA]; cases rightF f ps <;> cases rightF g qs <;> rfl
  have hB' : (bif (bif rightF f ps then sRight h zs else false) then decide (f = h) else false) = B := by rw [hB]; cases rightF f ps <;> cases sRight h zs <;> rfl
  have hobl : ((!(bif (bif !b1 then true else !b2) then true else !b3)) = true → decide ((3 : Int) ≤ h) = true → ((!(bif (bif !b1 then true else !b2) then true else !b3)) && decide ((3 : Int) ≤ h)) = true) := fun h1 h2 => by rw [h1, h2]; rfl
  rw [h1, h2, h3, lives34 M (by omega)]
  simp only [Option.isSome_some, Option.getD_some, implies_true, true_and, if_true]
  rw [if_pos hobl]
  cases b1
  · rfl
  cases b2
  · rfl
  cases b3
  · rfl
  have hlp := hlp rfl
  have hlq := hlq rfl
  have hlz := hlz rfl
  simp only [Bool.not_true, cond_false]
  cases hG : (bif decide ((3 : Int) ≤ h) then decide (h ≤ 5) else false)
  · obtain ⟨d, hd⟩ : ∃ d : Int × List (List Int) × Int, d = (bif A then (f, diffT ps qs, 0) else (0, [[], [], []], 1)) := ⟨_, rfl⟩
    obtain ⟨e, he⟩ : ∃ d : Int × List (List Int) × Int, d = (bif B then (f, addT ps zs, 0) else (0, [[], [], []], 1)) := ⟨_, rfl⟩
    have c5 := sdiff_ok (N := M + 200) (by omega) f g hp hq hlp
    rw [← hA, ← hd] at c5
    have c8 := sadd_ok (N := M + 200) (by omega) f h hp hlp hlz
    rw [← hB, ← he] at c8
    have c10 : sRight h zs = true → ref34_Weight (M + 200) h zs = some (weightF zs) := fun hr => rsweight_ok (N := M + 200) (by omega) h hlz hr
    have c10' : sRight h zs = true → (ref34_Weight (M + 200) h zs).isSome = true := fun hr => by rw [c10 hr]; rfl
    have hw : (bif sRight h zs then (ref34_Weight (M + 200) h zs).getD default else 0) = (bif sRight h zs then weightF zs else 0) := by
      cases hr : sRight h zs
      · rfl
      · rw [c10 hr]; rfl
    have e0 : (0 : Nat) ≤ 1622016 := by omega
    have ld : ∀ k, k < 3 → (d.2.1.getD k []).length ≤ 1622016 := fun k hk => by
      rw [hd]
      cases A
      · rcases (show k = 0 ∨ k = 1 ∨ k = 2 by omega) with rfl | rfl | rfl <;> exact e0
      · have := hlp k hk
        show ((diffT ps qs).getD k []).length ≤ _
        rw [diff_get _ _ hk, tab_len]; omega
    have q1 : ∀ g qs, stores_Same (M + 200) h zs g qs = some (sameS h zs g qs) := fun g qs => ssame_ok (by omega) h (fun k hk => by have := hlz k hk; omega) g qs
    have q2 : ∀ g qs, ref34_Same (M + 200) h zs g qs = some (sameS h zs g qs) := fun g qs => rssame_ok (by omega) h (fun k hk => by have := hlz k hk; omega) g qs
    have q3 : ∀ g qs, ref34_Same (M + 200) d.1 d.2.1 g qs = some (sameS d.1 d.2.1 g qs) := fun g qs => rssame_ok (by omega) d.1 ld g qs
    have lz : ∀ k, k < 3 → ((flatP h 0).getD k []).length ≤ 1622016 := fun k hk => by rw [flat_get _ _ hk, tab_len]; exact area_bnd h k
    have lnil : ∀ k, k < 3 → ((List.replicate 3 ([] : List Int)).getD k []).length ≤ 1622016 := fun k hk => by
      rcases (show k = 0 ∨ k = 1 ∨ k = 2 by omega) with rfl | rfl | rfl <;> exact e0
    have q4 : ∀ g qs, ref34_Same (M + 200) h (flatP h 0) g qs = some (sameS h (flatP h 0) g qs) := fun g qs => rssame_ok (by omega) h lz g qs
    have q5 : ∀ g qs, ref34_Same (M + 200) 0 (List.replicate 3 []) g qs = some (sameS 0 (List.replicate 3 []) g qs) := fun g qs => rssame_ok (by omega) 0 lnil g qs
    have z1 : sameS 0 [[], [], []] 0 (List.replicate 3 []) = true := rfl
    have z2 : sameF 0 [[], [], []] 0 (List.replicate 3 []) = true := sameF_self 0 [[], [], []]
    have z3 : sameS 0 (List.replicate 3 []) 0 (List.replicate 3 []) = true := rfl
    simp only [cond_false, c5, c8, rpright_ok (N := M + 200) (by omega), rsright_ok (N := M + 200) (by omega) h hlz, sright_ok (N := M + 200) (by omega) h hlz, sweight_ok (N := M + 200) (by omega) h hlz, snew_ok (N := M + 200) (by omega), rmany_eq, q1, q2, q3, rsame_ok (N := M + 200) (by omega), rsnew_ok (N := M + 200) (by omega), hA', hB', hw, c10', Option.isSome_some, Option.getD_some, implies_true, and_self, true_and, if_true, beq_self_eq_true, sameS_self, decide_true, cond_true]
    have t10 : (sRight h zs = true → (ref34_Weight (M + 200) h zs).isSome = true) = True := eq_true c10'
    have dn1 : decide ((1 : Int) ≠ 1) = false := rfl
    have dn0 : decide ((0 : Int) ≠ 0) = false := rfl
    have r28 : A = true → ref34_Diff (M + 200) f ps g qs = some (f, diffT ps qs) := fun hh => by
      rw [hh] at hA
      simp only [Bool.true_eq, Bool.and_eq_true, decide_eq_true_eq] at hA
      obtain ⟨a1, a2, rfl⟩ := hA
      exact rsdiff_ok (N := M + 200) (by omega) f hp hq hlp a1 a2 f
    have r25 : B = true → ref34_Add (M + 200) f ps h zs = some (f, addT ps zs) := fun hh => by
      rw [hh] at hB
      simp only [Bool.true_eq, Bool.and_eq_true, decide_eq_true_eq] at hB
      obtain ⟨a1, a2, rfl⟩ := hB
      exact rsadd_ok (N := M + 200) (by omega) f hp hlp a1 a2 f
    clear hA' hB' hA hB c5 c8
    rcases fmt_or h with ⟨t1, t2⟩ | ⟨t1, _, t3, _⟩
    · have u1 : decide (fA h ≠ 0) = false := decide_eq_false (fun hh => hh t1)
      have u2 : decide (fA h * fD h = 0) = true := decide_eq_true (by rw [t1, Int.zero_mul])
      simp only [t10, if_true, u1, u2, cond_true, cond_false, q5, Option.isSome_some, Option.getD_some, implies_true, z3, jk, dn1, Bool.not_true]
      cases A
      · cases B
        · simp only [cond_false] at hd he
          subst hd he
          simp only [cond_true, cond_false, dn0, dn1, z1, z2, sameS_self, sameF_self, jk, Option.isSome_some, Option.getD_some, implies_true, and_self, if_true, Bool.not_true]
        · simp only [cond_false, cond_true] at hd he
          subst hd he
          have r25 := r25 rfl
          simp only [cond_true, cond_false, dn0, dn1, z1, z2, sameS_self, sameF_self, jk, Option.isSome_some, Option.getD_some, implies_true, and_self, if_true, Bool.not_true, r25]
      · have r28 := r28 rfl
        cases B
        · simp only [cond_false, cond_true] at hd he
          subst hd he
          simp only [cond_true, cond_false, dn0, dn1, z1, z2, sameS_self, sameF_self, jk, Option.isSome_some, Option.getD_some, implies_true, and_self, if_true, Bool.not_true, r28]
        · simp only [cond_true] at hd he
          subst hd he
          have r25 := r25 rfl
          simp only [cond_true, cond_false, dn0, dn1, z1, z2, sameS_self, sameF_self, jk, Option.isSome_some, Option.getD_some, implies_true, and_self, if_true, Bool.not_true, r25, r28]
    · have hm : 0 < fA h * fD h := Int.mul_pos (by omega) (by omega)
      have u1 : decide (fA h ≠ 0) = true := decide_eq_true (by omega)
      have u2 : decide (fA h * fD h = 0) = false := decide_eq_false (by omega)
      simp only [t10, if_true, u1, u2, cond_true, cond_false, q4, Option.isSome_some, Option.getD_some, implies_true, sameS_self, jk, dn0, Bool.not_true]
      cases A
      · cases B
        · simp only [cond_false] at hd he
          subst hd he
          simp only [cond_true, cond_false, dn0, dn1, z1, z2, sameS_self, sameF_self, jk, Option.isSome_some, Option.getD_some, implies_true, and_self, if_true, Bool.not_true]
        · simp only [cond_false, cond_true] at hd he
          subst hd he
          have r25 := r25 rfl
          simp only [cond_true, cond_false, dn0, dn1, z1, z2, sameS_self, sameF_self, jk, Option.isSome_some, Option.getD_some, implies_true, and_self, if_true, Bool.not_true, r25]
      · have r28 := r28 rfl
        cases B
        · simp only [cond_false, cond_true] at hd he
          subst hd he
          simp only [cond_true, cond_false, dn0, dn1, z1, z2, sameS_self, sameF_self, jk, Option.isSome_some, Option.getD_some, implies_true, and_self, if_true, Bool.not_true, r28]
        · simp only [cond_true] at hd he
          subst hd he
          have r25 := r25 rfl
          simp only [cond_true, cond_false, dn0, dn1, z1, z2, sameS_self, sameF_self, jk, Option.isSome_some, Option.getD_some, implies_true, and_self, if_true, Bool.not_true, r25, r28]
  · rfl
theorem law_storesDiffs (N : Nat) (hN : 1099511627776 ≤ N) (y0 : Sh.den (.pair (.int .i64) (.arrS 3 (.int .u8)))) (w0 : Sh.wf (.pair (.int .i64) (.arrS 3 (.int .u8))) y0) (y1 : Sh.den (.pair (.int .i64) (.arrS 3 (.int .u8)))) (w1 : Sh.wf (.pair (.int .i64) (.arrS 3 (.int .u8))) y1) (y2 : Sh.den (.pair (.int .i64) (.arrS 3 (.int .i64)))) (w2 : Sh.wf (.pair (.int .i64) (.arrS 3 (.int .i64))) y2) : law34_StoresDiffs N (y0.1) (y0.2) (y1.1) (y1.2) (y2.1) (y2.2) = some true := by
  obtain ⟨f, ps⟩ := y0
  obtain ⟨_, _, hps⟩ := w0
  obtain ⟨g, qs⟩ := y1
  obtain ⟨_, _, hqs⟩ := w1
  obtain ⟨M, rfl⟩ : ∃ M, N = M + 200 := ⟨N - 200, by omega⟩
  exact sdiffs_law (by omega) f g _ (fun k _ => bytes_of3 (fun xs hx x hi => (hps xs hx).2 x hi) k) (fun k _ => bytes_of3 (fun xs hx x hi => (hqs xs hx).2 x hi) k)
end Go.Proofs.Ytjknjjdijoboiaa
