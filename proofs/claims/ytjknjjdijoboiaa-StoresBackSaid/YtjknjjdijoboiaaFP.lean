/- What the printed models answer: plain laws. -/
import Derived.Test.YtjknjjdijoboiaaFI
set_option linter.unusedVariables false
set_option linter.unusedSimpArgs false
namespace Go.Proofs.Ytjknjjdijoboiaa
open Go.X

/-! ### frames and stores that are laid anew -/
def areaN (f : Int) (k : Nat) : Nat := (wid f k * hig f k).toNat
def flatP (f s : Int) : List (List Int) := tab 3 fun k => List.replicate (areaN f k) s
theorem area_bnd (f : Int) (k : Nat) : areaN f k ≤ 1622016 := by
  obtain ⟨_, _, _, _, b5, b6⟩ := wh_bnd f k
  unfold areaN
  omega
theorem area_of {f : Int} {ps : List (List Int)} (h : rightF f ps = true) {k : Nat} (hk : k < 3) : (ps.getD k []).length = areaN f k := by
  have := (rightF_len h).2 k hk
  unfold areaN
  omega
/-- A loop that lays a row number by number. -/
theorem row_fill {S O : Type} {body : S → Option (S ⊕ O)} (mk : Nat → List Int → S) (out : List Int → O) {n N : Nat} (F : Nat → Int) {z : List Int} (hz : z.length = n)
    (hs : ∀ i, i < n → ∀ xs, xs.length = n → body (mk i xs) = some (.inl (mk (i + 1) (xs.set i (F i))))) (he : ∀ xs, xs.length = n → body (mk n xs) = some (.inr (out xs))) (hN : n < N) : iter body N (mk 0 z) = some (out (tab n F)) := by
  refine iter_to (fun i => mk i (tab n fun k => if k < i then F k else z.getD k 0)) n ?_ ?_ ?_ hN
  · show mk 0 z = mk 0 _
    refine congrArg (mk 0) ?_
    refine (tab_of 0 hz).trans (tab_ext fun k hk => ?_)
    rw [if_neg (by omega)]
  · intro i hi
    show body (mk i _) = _
    rw [hs i hi _ (tab_len _ _), tab_set]
    refine congrArg (fun l => some (Sum.inl (mk (i + 1) l))) (tab_ext fun k hk => ?_)
    by_cases h1 : k = i
    · rw [if_pos h1, if_pos (by omega), h1]
    · by_cases h2 : k < i
      · rw [if_neg h1, if_pos h2, if_pos (by omega)]
      · rw [if_neg h1, if_neg h2, if_neg (by omega)]
  · show body (mk n _) = _
    rw [he _ (tab_len _ _)]
    refine congrArg (fun l => some (Sum.inr (out l))) (tab_ext fun k hk => ?_)
    rw [if_pos hk]
def vB (x : Int) : Bool := decide (-255 ≤ x) && decide (x ≤ 255)
def sRight (f : Int) (zs : List (List Int)) : Bool := decide (fA f ≠ 0) && (List.range 3).all fun k => decide (((zs.getD k []).length : Int) = wid f k * hig f k) && (zs.getD k []).all vB
theorem sRight_right {f : Int} {zs : List (List Int)} (h : sRight f zs = true) : rightF f zs = true := by
  unfold sRight at h
  unfold rightF
  simp only [Bool.and_eq_true, decide_eq_true_eq, List.all_eq_true, List.mem_range] at h ⊢
  exact ⟨h.1, fun k hk => (h.2 k hk).1⟩
theorem sRight_val {f : Int} {zs : List (List Int)} (h : sRight f zs = true) {k : Nat} (hk : k < 3) (i : Nat) : -255 ≤ (zs.getD k []).getD i 0 ∧ (zs.getD k []).getD i 0 ≤ 255 := by
  unfold sRight at h
  simp only [Bool.and_eq_true, List.all_eq_true, List.mem_range] at h
  have := (h.2 k hk).2
  generalize zs.getD k [] = l at *
  rw [List.getD_eq_getElem?_getD]
  cases hi : l[i]? with
  | none => decide
  | some x =>
    have := this x (List.mem_of_getElem? hi)
    unfold vB at this
    simpa using this
theorem all_take {p : Int → Bool} {l : List Int} {j : Nat} (hj : j < l.length) : (l.take (j + 1)).all p = ((l.take j).all p && p (l.getD j 0)) := by
  have e : l[j]? = some (l.getD j 0) := by rw [List.getD_eq_getElem?_getD, List.getElem?_eq_getElem hj]; rfl
  rw [List.take_add_one, List.all_append, e]
  simp
def diffT (ps qs : List (List Int)) : List (List Int) := tab 3 fun k => tab (ps.getD k []).length fun i => (ps.getD k []).getD i 0 - (qs.getD k []).getD i 0
def addT (ps zs : List (List Int)) : List (List Int) := tab 3 fun k => tab (ps.getD k []).length fun i => clip ((ps.getD k []).getD i 0 + (zs.getD k []).getD i 0) 0 255
theorem rep_ok (N : Nat) {n c : Int} (h0 : 0 ≤ n) (h1 : n ≤ 281474976710656) (c0 : 0 ≤ c) (c1 : c ≤ 255) : rep N 1 n ((List.replicate 1 0).set 0 c) = some (n.toNat, n.toNat, List.replicate n.toNat c) := by
  have e : ((List.replicate 1 (0 : Int)).set 0 c) = [c] := rfl
  rw [e]
  unfold rep
  rw [if_pos ⟨rfl, rfl, h0, h1, by unfold inK; exact ⟨c0, c1⟩⟩]
  rfl
theorem pnew_ok {N : Nat} (hN : 10 < N) (f s : Int) : planes_New N f s = some (bif decide (fA f ≠ 0) then (f, flatP f (clip s 0 255), 0) else (0, List.replicate 3 [], 1)) := by
  unfold planes_New
  simp only [size_eq, Option.isSome_some, if_true, Option.getD_some]
  cases hA : decide (fA f ≠ 0)
  · rfl
  · simp only [Bool.not_true, cond_false, cond_true]
    have hit := iter_fill (body := planes_New_b1 N f s) 3 N (fun k => List.replicate (areaN f k) (clip s 0 255)) (fun _ => []) (fun i hi => by
      obtain ⟨g1, g2, g3⟩ := in2 hi
      have g4 := inS (i := i) (by omega)
      obtain ⟨_, _, _, _, b5, b6⟩ := wh_bnd f i
      have g5 : inK .i64 (wid f i * hig f i) := in64 (by omega) (by omega)
      have c1 := clip_ge (a := s) (lo := 0) (hi := 255) (by decide)
      have c2 := clip_le (a := s) (lo := 0) (hi := 255) (by decide)
      have g6 : inK .u8 (clip s 0 255) := by unfold inK; exact ⟨c1, c2⟩
      simp only [planes_New_b1, g1, g2, hi, decide_true, cond_true, Int.toNat_natCast, and_self, if_true, plane_eq N f hi, Option.isSome_some, Option.getD_some, whole_clip N (show (0 : Int) ≤ 255 by decide), rep_ok N b5 (by omega) c1 c2, g5, g6, g4, List.length_replicate]
      rfl) (fun xs => by simp [planes_New_b1]) (by omega)
    rw [← rep_tab] at hit
    rw [hit]
    rfl
theorem pnewo_ok (N : Nat) (f s : Int) : planes_New_own N f s = some (bif decide (fA f ≠ 0) then (f, areaN f 0, areaN f 1, areaN f 2, 0, areaN f 0, List.replicate (areaN f 0) (clip s 0 255), areaN f 1, List.replicate (areaN f 1) (clip s 0 255), areaN f 2, List.replicate (areaN f 2) (clip s 0 255)) else (0, 0, 0, 0, 1, 0, [], 0, [], 0, [])) := by
  unfold planes_New_own
  simp only [size_eq, Option.isSome_some, if_true, Option.getD_some]
  cases hA : decide (fA f ≠ 0)
  · rfl
  · have c1 := clip_ge (a := s) (lo := 0) (hi := 255) (by decide)
    have c2 := clip_le (a := s) (lo := 0) (hi := 255) (by decide)
    have g6 : inK .u8 (clip s 0 255) := by unfold inK; exact ⟨c1, c2⟩
    have p0 : formats_Plane N f 0 = some (wid f 0, hig f 0) := plane_eq N f (k := 0) (by omega)
    have p1 : formats_Plane N f 1 = some (wid f 1, hig f 1) := plane_eq N f (k := 1) (by omega)
    have p2 : formats_Plane N f 2 = some (wid f 2, hig f 2) := plane_eq N f (k := 2) (by omega)
    have q : ∀ k, 0 ≤ wid f k * hig f k ∧ wid f k * hig f k ≤ 281474976710656 ∧ inK .i64 (wid f k * hig f k) := fun k => by
      obtain ⟨_, _, _, _, b5, b6⟩ := wh_bnd f k
      exact ⟨b5, by omega, in64 (by omega) (by omega)⟩
    simp only [Bool.not_true, cond_false, cond_true, p0, p1, p2, Option.isSome_some, Option.getD_some, if_true, whole_clip N (show (0 : Int) ≤ 255 by decide), rep_ok N (q 0).1 (q 0).2.1 c1 c2, rep_ok N (q 1).1 (q 1).2.1 c1 c2, rep_ok N (q 2).1 (q 2).2.1 c1 c2, g6, (q 0).2.2, (q 1).2.2, (q 2).2.2, and_self]
    rfl
theorem snewo_ok (N : Nat) (f : Int) : stores_New_own N f = some (bif decide (fA f ≠ 0) then (f, areaN f 0, areaN f 1, areaN f 2, 0, areaN f 0, List.replicate (areaN f 0) 0, areaN f 1, List.replicate (areaN f 1) 0, areaN f 2, List.replicate (areaN f 2) 0) else (0, 0, 0, 0, 1, 0, [], 0, [], 0, [])) := by
  unfold stores_New_own
  simp only [size_eq, Option.isSome_some, if_true, Option.getD_some]
  cases hA : decide (fA f ≠ 0)
  · rfl
  · have p0 : formats_Plane N f 0 = some (wid f 0, hig f 0) := plane_eq N f (k := 0) (by omega)
    have p1 : formats_Plane N f 1 = some (wid f 1, hig f 1) := plane_eq N f (k := 1) (by omega)
    have p2 : formats_Plane N f 2 = some (wid f 2, hig f 2) := plane_eq N f (k := 2) (by omega)
    have q : ∀ k, 0 ≤ wid f k * hig f k ∧ wid f k * hig f k * 8 ≤ 140737488355328 ∧ inK .i64 (wid f k * hig f k) := fun k => by
      obtain ⟨_, _, _, _, b5, b6⟩ := wh_bnd f k
      exact ⟨b5, by omega, in64 (by omega) (by omega)⟩
    simp only [Bool.not_true, cond_false, cond_true, p0, p1, p2, Option.isSome_some, Option.getD_some, if_true, (q 0).1, (q 0).2.1, (q 0).2.2, (q 1).1, (q 1).2.1, (q 1).2.2, (q 2).1, (q 2).2.1, (q 2).2.2, and_self]
    rfl
theorem sright_ok {N : Nat} (hN : 40000 < N) (f : Int) {zs : List (List Int)} (hl : ∀ k, k < 3 → (zs.getD k []).length ≤ 30000) : stores_Right N f zs = some (sRight f zs) := by
  have hin : ∀ k : Nat, k < 3 → ∀ b b1 : Bool, iter (stores_Right_b2 N zs (b1, (k : Int))) N (b, 0) = some (b && (zs.getD k []).all vB, ((zs.getD k []).length : Int), false) := fun k hk b b1 => by
    have hlk := hl k hk
    have hn : ((k : Int)).toNat = k := Int.toNat_natCast k
    obtain ⟨l, hle⟩ : ∃ l, l = zs.getD k [] := ⟨_, rfl⟩
    rw [← hle] at hlk ⊢
    refine iter_to (fun j => (b && (l.take j).all vB, (j : Int))) l.length ?_ ?_ ?_ (by omega)
    · simp
    · intro j hj
      have h1 : (j : Int) < (l.length : Int) := by omega
      have g4 := inS (i := j) (by omega)
      simp only [stores_Right_b2, hn, ← hle, h1, decide_true, cond_true, Int.natCast_nonneg, Int.toNat_natCast, and_self, if_true, g4]
      rw [all_take hj, Int.natCast_succ]
      unfold vB
      generalize (l.take j).all _ = r
      generalize l.getD j 0 = v
      cases b <;> cases r <;> by_cases h2 : -255 ≤ v <;> simp [h2]
    · show stores_Right_b2 N zs _ (_, (l.length : Int)) = _
      simp only [stores_Right_b2, hn, ← hle, Int.lt_irrefl, decide_false, cond_false, List.take_length]
  unfold stores_Right
  have hit : iter (stores_Right_b1 N f zs) N (decide (fA f ≠ 0), 0) = some (sRight f zs) := by
    refine iter_to (fun i => (decide (fA f ≠ 0) && (List.range i).all (fun k => decide (((zs.getD k []).length : Int) = wid f k * hig f k) && (zs.getD k []).all vB), (i : Int))) 3 ?_ ?_ ?_ (by omega)
    · simp
    · intro i hi
      obtain ⟨g1, g2, g3⟩ := in2 hi
      have g4 := inS (i := i) (by omega)
      obtain ⟨_, _, _, _, b5, b6⟩ := wh_bnd f i
      have g5 : inK .i64 (wid f i * hig f i) := in64 (by omega) (by omega)
      simp only [stores_Right_b1, g1, g2, hi, decide_true, cond_true, Int.toNat_natCast, and_self, if_true, plane_eq N f hi, Option.isSome_some, Option.getD_some, g5, implies_true, hin i hi, Option.bind_some, g4]
      refine congrArg (fun z => some (Sum.inl z)) ?_
      rw [List.range_succ, List.all_append, Int.natCast_succ]
      generalize (List.range i).all _ = r
      cases decide (fA f ≠ 0) <;> cases r <;> simp
    · simp [stores_Right_b1, sRight]
  simp only [size_eq, Option.isSome_some, if_true, Option.getD_some, hit, Option.bind_some]
theorem sdiff_ok {N : Nat} (hN : 40000 < N) (f g : Int) {ps qs : List (List Int)} (hp : ∀ k, k < 3 → byteP (ps.getD k [])) (hq : ∀ k, k < 3 → byteP (qs.getD k [])) (hl : ∀ k, k < 3 → (ps.getD k []).length ≤ 30000) :
    stores_Diff N f ps g qs = some (bif rightF f ps && (rightF g qs && decide (f = g)) then (f, diffT ps qs, 0) else (0, [[], [], []], 1)) := by
  unfold stores_Diff
  simp only [pright_ok (N := N) (by omega), Option.isSome_some, Option.getD_some, if_true, implies_true, and_self]
  cases hr : rightF f ps
  · rfl
  cases hs : rightF g qs
  · rfl
  by_cases hfg : f = g
  · subst hfg
    have hA : decide (fA f ≠ 0) = true := decide_eq_true (rightF_len hr).1
    rw [snewo_ok, hA]
    simp only [Bool.not_true, cond_false, cond_true, ne_eq, not_true, decide_false, Bool.and_self, decide_true, Option.isSome_some, if_true]
    have step : ∀ k, k < 3 → ∀ i, i < areaN f k → (i : Int) < ((ps.getD k []).length : Int) ∧ (i : Int) < ((qs.getD k []).length : Int) ∧ inK .i64 ((ps.getD k []).getD i 0) ∧ inK .i64 ((qs.getD k []).getD i 0) ∧ inK .i64 ((ps.getD k []).getD i 0 - (qs.getD k []).getD i 0) ∧ inK .i64 ((i : Int) + 1) ∧ (i : Int) < (areaN f k : Int) := fun k hk i hi => by
      have e1 := area_of hr hk
      have e2 := area_of hs hk
      have e3 := hl k hk
      have v1 := hp k hk i
      have v2 := hq k hk i
      exact ⟨by omega, by omega, in64 (by omega) (by omega), in64 (by omega) (by omega), in64 (by omega) (by omega), in64 (by omega) (by omega), by omega⟩
    have e : ∀ k, k < 3 → (ps.getD k []).length = areaN f k := fun k hk => area_of hr hk
    have hlt : ∀ k, k < 3 → areaN f k < N := fun k hk => by have := e k hk; have := hl k hk; omega
    obtain ⟨C, hC⟩ : ∃ C : Int × Nat × Nat × Nat × Int × Nat × List Int × Nat × List Int × Nat × List Int, C = (f, areaN f 0, areaN f 1, areaN f 2, 0, areaN f 0, List.replicate (areaN f 0) 0, areaN f 1, List.replicate (areaN f 1) 0, areaN f 2, List.replicate (areaN f 2) 0) := ⟨_, rfl⟩
    rw [← hC]
    have l3 : iter (stores_Diff_b3 N ps qs (some C)) N (0, List.replicate (areaN f 0) 0) = some (((areaN f 0 : Nat) : Int), false, tab (areaN f 0) fun i => (ps.getD 0 []).getD i 0 - (qs.getD 0 []).getD i 0) :=
      row_fill (fun i xs => ((i : Int), xs)) (fun xs => (((areaN f 0 : Nat) : Int), false, xs)) _ (by simp) (fun i hi xs hx => by
        obtain ⟨s1, s2, s3, s4, s5, s6, s7⟩ := step 0 (by omega) i hi
        simp only [stores_Diff_b3, s1, s2, s3, s4, s5, s6, s7, hi, hC, decide_true, cond_true, Int.natCast_nonneg, Int.toNat_natCast, and_self, if_true, Option.getD_some]
        rw [Int.natCast_succ]) (fun xs hx => by simp only [stores_Diff_b3, e 0 (by omega), Int.lt_irrefl, decide_false, cond_false]) (hlt 0 (by omega))
    have l2 : ∀ b : Bool, iter (stores_Diff_b2 N ps qs (some C)) N (0, b, List.replicate (areaN f 1) 0) = some (((areaN f 1 : Nat) : Int), false, tab (areaN f 1) fun i => (ps.getD 1 []).getD i 0 - (qs.getD 1 []).getD i 0) := fun b =>
      row_fill (fun i xs => ((i : Int), bif decide (i = 0) then b else true, xs)) (fun xs => (((areaN f 1 : Nat) : Int), false, xs)) _ (by simp) (fun i hi xs hx => by
        obtain ⟨s1, s2, s3, s4, s5, s6, s7⟩ := step 1 (by omega) i hi
        have s8 : decide (i + 1 = 0) = false := decide_eq_false (by omega)
        simp only [stores_Diff_b2, s1, s2, s3, s4, s5, s6, s7, s8, hi, hC, decide_true, cond_true, cond_false, Int.natCast_nonneg, Int.toNat_natCast, and_self, if_true, Option.getD_some]
        rw [Int.natCast_succ]) (fun xs hx => by simp only [stores_Diff_b2, e 1 (by omega), Int.lt_irrefl, decide_false, cond_false]) (hlt 1 (by omega))
    have l1 : ∀ b : Bool, iter (stores_Diff_b1 N ps qs (some C)) N (0, b, List.replicate (areaN f 2) 0) = some (((areaN f 2 : Nat) : Int), false, tab (areaN f 2) fun i => (ps.getD 2 []).getD i 0 - (qs.getD 2 []).getD i 0) := fun b =>
      row_fill (fun i xs => ((i : Int), bif decide (i = 0) then b else true, xs)) (fun xs => (((areaN f 2 : Nat) : Int), false, xs)) _ (by simp) (fun i hi xs hx => by
        obtain ⟨s1, s2, s3, s4, s5, s6, s7⟩ := step 2 (by omega) i hi
        have s8 : decide (i + 1 = 0) = false := decide_eq_false (by omega)
        simp only [stores_Diff_b1, s1, s2, s3, s4, s5, s6, s7, s8, hi, hC, decide_true, cond_true, cond_false, Int.natCast_nonneg, Int.toNat_natCast, and_self, if_true, Option.getD_some]
        rw [Int.natCast_succ]) (fun xs hx => by simp only [stores_Diff_b1, e 2 (by omega), Int.lt_irrefl, decide_false, cond_false]) (hlt 2 (by omega))
    have z0 : ((some C).getD default).2.2.2.2.2.2.1 = List.replicate (areaN f 0) 0 := by rw [hC]; rfl
    have z1 : ((some C).getD default).2.2.2.2.2.2.2.2.1 = List.replicate (areaN f 1) 0 := by rw [hC]; rfl
    have z2 : ((some C).getD default).2.2.2.2.2.2.2.2.2.2 = List.replicate (areaN f 2) 0 := by rw [hC]; rfl
    rw [z0, z1, z2, l3]
    simp only [Option.bind_some, l2, l1]
    rw [if_pos ⟨by rw [hC, tab_len]; rfl, by rw [hC, tab_len]; rfl, by rw [hC, tab_len]; rfl⟩]
    have hd : diffT ps qs = [tab (areaN f 0) fun i => (ps.getD 0 []).getD i 0 - (qs.getD 0 []).getD i 0, tab (areaN f 1) fun i => (ps.getD 1 []).getD i 0 - (qs.getD 1 []).getD i 0, tab (areaN f 2) fun i => (ps.getD 2 []).getD i 0 - (qs.getD 2 []).getD i 0] := by
      rw [← e 0 (by omega), ← e 1 (by omega), ← e 2 (by omega)]; rfl
    rw [hd, hC]
    rfl
  · have h1 : decide (f = g) = false := decide_eq_false hfg
    have h2 : decide (f ≠ g) = true := decide_eq_true hfg
    simp only [Bool.not_true, cond_false, h2, cond_true, h1, Bool.and_false]
theorem sadd_ok {N : Nat} (hN : 40000 < N) (f g : Int) {ps zs : List (List Int)} (hp : ∀ k, k < 3 → byteP (ps.getD k [])) (hl : ∀ k, k < 3 → (ps.getD k []).length ≤ 30000) (hz : ∀ k, k < 3 → (zs.getD k []).length ≤ 30000) :
    stores_Add N f ps g zs = some (bif rightF f ps && (sRight g zs && decide (f = g)) then (f, addT ps zs, 0) else (0, [[], [], []], 1)) := by
  unfold stores_Add
  simp only [pright_ok (N := N) (by omega), sright_ok hN g hz, Option.isSome_some, Option.getD_some, if_true, implies_true, and_self]
  cases hr : rightF f ps
  · rfl
  cases hs : sRight g zs
  · rfl
  by_cases hfg : f = g
  · subst hfg
    have hA : decide (fA f ≠ 0) = true := decide_eq_true (rightF_len hr).1
    have hc0 : clip 0 0 255 = 0 := rfl
    rw [pnewo_ok, hA, hc0]
    simp only [Bool.not_true, cond_false, cond_true, ne_eq, not_true, decide_false, Bool.and_self, decide_true, Option.isSome_some, if_true]
    have step : ∀ k, k < 3 → ∀ i, i < areaN f k → (i : Int) < ((ps.getD k []).length : Int) ∧ (i : Int) < ((zs.getD k []).length : Int) ∧ inK .i64 ((ps.getD k []).getD i 0) ∧ inK .i64 ((ps.getD k []).getD i 0 + (zs.getD k []).getD i 0) ∧ inK .i64 ((i : Int) + 1) ∧ (i : Int) < (areaN f k : Int) ∧ inK .u8 (clip ((ps.getD k []).getD i 0 + (zs.getD k []).getD i 0) 0 255) := fun k hk i hi => by
      have e1 := area_of hr hk
      have e2 := area_of (sRight_right hs) hk
      have e3 := hl k hk
      have v1 := hp k hk i
      have v2 := sRight_val hs hk i
      exact ⟨by omega, by omega, in64 (by omega) (by omega), in64 (by omega) (by omega), in64 (by omega) (by omega), by omega, by unfold inK; exact ⟨clip_ge (by decide), clip_le (by decide)⟩⟩
    have e : ∀ k, k < 3 → (ps.getD k []).length = areaN f k := fun k hk => area_of hr hk
    have hlt : ∀ k, k < 3 → areaN f k < N := fun k hk => by have := e k hk; have := hl k hk; omega
    have wc : ∀ a, whole_Clip N a 0 255 = some (clip a 0 255) := fun a => whole_clip N (by decide)
    obtain ⟨C, hC⟩ : ∃ C : Int × Nat × Nat × Nat × Int × Nat × List Int × Nat × List Int × Nat × List Int, C = (f, areaN f 0, areaN f 1, areaN f 2, 0, areaN f 0, List.replicate (areaN f 0) 0, areaN f 1, List.replicate (areaN f 1) 0, areaN f 2, List.replicate (areaN f 2) 0) := ⟨_, rfl⟩
    rw [← hC]
    have l3 : iter (stores_Add_b3 N ps zs (some C)) N (0, List.replicate (areaN f 0) 0) = some (((areaN f 0 : Nat) : Int), false, tab (areaN f 0) fun i => clip ((ps.getD 0 []).getD i 0 + (zs.getD 0 []).getD i 0) 0 255) :=
      row_fill (fun i xs => ((i : Int), xs)) (fun xs => (((areaN f 0 : Nat) : Int), false, xs)) _ (by simp) (fun i hi xs hx => by
        obtain ⟨s1, s2, s3, s4, s5, s6, s7⟩ := step 0 (by omega) i hi
        simp only [stores_Add_b3, s1, s2, s3, s4, s5, s6, s7, hi, hC, wc, decide_true, cond_true, Int.natCast_nonneg, Int.toNat_natCast, and_self, if_true, Option.getD_some, Option.isSome_some]
        rw [Int.natCast_succ]) (fun xs hx => by simp only [stores_Add_b3, e 0 (by omega), Int.lt_irrefl, decide_false, cond_false]) (hlt 0 (by omega))
    have l2 : ∀ b : Bool, iter (stores_Add_b2 N ps zs (some C)) N (0, b, List.replicate (areaN f 1) 0) = some (((areaN f 1 : Nat) : Int), false, tab (areaN f 1) fun i => clip ((ps.getD 1 []).getD i 0 + (zs.getD 1 []).getD i 0) 0 255) := fun b =>
      row_fill (fun i xs => ((i : Int), bif decide (i = 0) then b else true, xs)) (fun xs => (((areaN f 1 : Nat) : Int), false, xs)) _ (by simp) (fun i hi xs hx => by
        obtain ⟨s1, s2, s3, s4, s5, s6, s7⟩ := step 1 (by omega) i hi
        have s8 : decide (i + 1 = 0) = false := decide_eq_false (by omega)
        simp only [stores_Add_b2, s1, s2, s3, s4, s5, s6, s7, s8, hi, hC, wc, decide_true, cond_true, cond_false, Int.natCast_nonneg, Int.toNat_natCast, and_self, if_true, Option.getD_some, Option.isSome_some]
        rw [Int.natCast_succ]) (fun xs hx => by simp only [stores_Add_b2, e 1 (by omega), Int.lt_irrefl, decide_false, cond_false]) (hlt 1 (by omega))
    have l1 : ∀ b : Bool, iter (stores_Add_b1 N ps zs (some C)) N (0, b, List.replicate (areaN f 2) 0) = some (((areaN f 2 : Nat) : Int), false, tab (areaN f 2) fun i => clip ((ps.getD 2 []).getD i 0 + (zs.getD 2 []).getD i 0) 0 255) := fun b =>
      row_fill (fun i xs => ((i : Int), bif decide (i = 0) then b else true, xs)) (fun xs => (((areaN f 2 : Nat) : Int), false, xs)) _ (by simp) (fun i hi xs hx => by
        obtain ⟨s1, s2, s3, s4, s5, s6, s7⟩ := step 2 (by omega) i hi
        have s8 : decide (i + 1 = 0) = false := decide_eq_false (by omega)
        simp only [stores_Add_b1, s1, s2, s3, s4, s5, s6, s7, s8, hi, hC, wc, decide_true, cond_true, cond_false, Int.natCast_nonneg, Int.toNat_natCast, and_self, if_true, Option.getD_some, Option.isSome_some]
        rw [Int.natCast_succ]) (fun xs hx => by simp only [stores_Add_b1, e 2 (by omega), Int.lt_irrefl, decide_false, cond_false]) (hlt 2 (by omega))
    have z0 : ((some C).getD default).2.2.2.2.2.2.1 = List.replicate (areaN f 0) 0 := by rw [hC]; rfl
    have z1 : ((some C).getD default).2.2.2.2.2.2.2.2.1 = List.replicate (areaN f 1) 0 := by rw [hC]; rfl
    have z2 : ((some C).getD default).2.2.2.2.2.2.2.2.2.2 = List.replicate (areaN f 2) 0 := by rw [hC]; rfl
    rw [z0, z1, z2, l3]
    simp only [Option.bind_some, l2, l1]
    rw [if_pos ⟨by rw [hC, tab_len]; rfl, by rw [hC, tab_len]; rfl, by rw [hC, tab_len]; rfl⟩]
    have hd : addT ps zs = [tab (areaN f 0) fun i => clip ((ps.getD 0 []).getD i 0 + (zs.getD 0 []).getD i 0) 0 255, tab (areaN f 1) fun i => clip ((ps.getD 1 []).getD i 0 + (zs.getD 1 []).getD i 0) 0 255, tab (areaN f 2) fun i => clip ((ps.getD 2 []).getD i 0 + (zs.getD 2 []).getD i 0) 0 255] := by
      rw [← e 0 (by omega), ← e 1 (by omega), ← e 2 (by omega)]; rfl
    rw [hd, hC]
    rfl
  · have h1 : decide (f = g) = false := decide_eq_false hfg
    have h2 : decide (f ≠ g) = true := decide_eq_true hfg
    simp only [Bool.not_true, cond_false, h2, cond_true, h1, Bool.and_false]
theorem rnew_ok {N : Nat} (hN : 2000000 < N) (f s : Int) : ref17_New N f s = some (f, flatP f (clip s 0 255)) := by
  have g6 : inK .u8 (clip s 0 255) := by unfold inK; exact ⟨clip_ge (by decide), clip_le (by decide)⟩
  have hin : ∀ k : Nat, iter (ref17_New_b2 N s (some (wid f k)) (some (hig f k))) N (0, List.replicate (areaN f k) 0) = some (((areaN f k : Nat) : Int), ((areaN f k : Nat) : Int), false, List.replicate (areaN f k) (clip s 0 255)) := fun k => by
    have ha := area_bnd f k
    rw [rep_tab (areaN f k) (clip s 0 255)]
    exact row_fill (body := ref17_New_b2 N s (some (wid f k)) (some (hig f k))) (fun i xs => ((i : Int), xs)) (fun xs => (((areaN f k : Nat) : Int), ((areaN f k : Nat) : Int), false, xs)) (fun _ => clip s 0 255) (n := areaN f k) (by simp [areaN]) (fun i hi xs hx => by
      have h2 : i < (wid f k * hig f k).toNat := hi
      have h1 : (i : Int) < ((wid f k * hig f k).toNat : Int) := by omega
      have g4 := inS (i := i) (by omega)
      simp only [ref17_New_b2, Option.getD_some, h1, h2, decide_true, cond_true, ref01_clip N (show (0 : Int) ≤ 255 by decide), Option.isSome_some, g6, Int.natCast_nonneg, Int.toNat_natCast, and_self, if_true, g4]
      rw [Int.natCast_succ]) (fun xs hx => by
      show ref17_New_b2 N s _ _ (((wid f k * hig f k).toNat : Int), xs) = _
      simp only [ref17_New_b2, Option.getD_some, Int.lt_irrefl, decide_false, cond_false]
      rfl) (by omega)
  have hit := iter_fill (body := ref17_New_b1 N f s) 3 N (fun k => List.replicate (areaN f k) (clip s 0 255)) (fun _ => []) (fun i hi => by
    obtain ⟨g1, g2, g3⟩ := in2 hi
    have g4 := inS (i := i) (by omega)
    obtain ⟨_, _, _, _, b5, b6⟩ := wh_bnd f i
    have g5 : inK .i64 (wid f i * hig f i) := in64 (by omega) (by omega)
    have g7 : wid f i * hig f i * 1 ≤ 140737488355328 := by omega
    have g8 : (wid f i * hig f i).toNat = areaN f i := rfl
    simp only [ref17_New_b1, g1, g2, hi, decide_true, cond_true, Int.toNat_natCast, and_self, if_true, rwide_eq, rhigh_eq, Option.isSome_some, Option.getD_some, b5, g5, g7, hin, Option.bind_some, g4, List.length_replicate, g8]) (fun xs => by simp [ref17_New_b1]) (by omega)
  rw [← rep_tab] at hit
  unfold ref17_New
  rw [hit]
  rfl
def eqB (a b : List Int) : Bool := decide (ByteArray.toList (bytesOf a) = ByteArray.toList (bytesOf b))
def sameF (f : Int) (ps : List (List Int)) (g : Int) (qs : List (List Int)) : Bool := decide (f = g) && (List.range 3).all fun k => eqB (ps.getD k []) (qs.getD k [])
theorem sameF_self (f : Int) (ps : List (List Int)) : sameF f ps f ps = true := by
  unfold sameF eqB
  simp
theorem psame_ok {N : Nat} (hN : 10 < N) (f : Int) (ps : List (List Int)) (g : Int) (qs : List (List Int)) : planes_Same N f ps g qs = some (sameF f ps g qs) := by
  unfold planes_Same
  have hit : iter (planes_Same_b1 N ps qs) N (decide (f = g), 0) = some (sameF f ps g qs) := by
    refine iter_to (fun i => (decide (f = g) && (List.range i).all (fun k => eqB (ps.getD k []) (qs.getD k [])), (i : Int))) 3 ?_ ?_ ?_ (by omega)
    · simp
    · intro i hi
      obtain ⟨g1, g2, g3⟩ := in2 hi
      have g4 := inS (i := i) (by omega)
      simp only [planes_Same_b1, bytes_Equal, g1, g2, hi, decide_true, cond_true, Int.toNat_natCast, and_self, if_true, Option.isSome_some, Option.getD_some, implies_true, g4]
      refine congrArg (fun z => some (Sum.inl z)) ?_
      rw [List.range_succ, List.all_append, Int.natCast_succ]
      have e : eqB (ps.getD i []) (qs.getD i []) = decide (ByteArray.toList (bytesOf (ps.getD i [])) = ByteArray.toList (bytesOf (qs.getD i []))) := rfl
      generalize (List.range i).all _ = r
      rw [← e]
      cases decide (f = g) <;> cases r <;> simp
    · simp [planes_Same_b1, sameF]
  rw [hit]
  rfl
theorem rsame_ok {N : Nat} (hN : 10 < N) (f : Int) (ps : List (List Int)) (g : Int) (qs : List (List Int)) : ref17_Same N f ps g qs = some (sameF f ps g qs) := by
  have hit := iter_all (body := ref17_Same_b1 N ps qs) 3 N (fun k => eqB (ps.getD k []) (qs.getD k [])) (fun i hi => by
    obtain ⟨g1, g2, g3⟩ := in2 hi
    have g4 := inS (i := i) (by omega)
    simp only [ref17_Same_b1, g1, g2, hi, decide_true, cond_true, Int.toNat_natCast, and_self, if_true, g4]
    by_cases h : ByteArray.toList (bytesOf (ps.getD i [])) = ByteArray.toList (bytesOf (qs.getD i []))
    · have e : eqB (ps.getD i []) (qs.getD i []) = true := decide_eq_true h
      have e2 : decide (ByteArray.toList (bytesOf (ps.getD i [])) ≠ ByteArray.toList (bytesOf (qs.getD i []))) = false := decide_eq_false (fun hh => hh h)
      rw [e, e2]; rfl
    · have e : eqB (ps.getD i []) (qs.getD i []) = false := decide_eq_false h
      have e2 : decide (ByteArray.toList (bytesOf (ps.getD i [])) ≠ ByteArray.toList (bytesOf (qs.getD i []))) = true := decide_eq_true h
      rw [e, e2]; rfl) (by simp [ref17_Same_b1]) (by omega)
  unfold ref17_Same sameF
  by_cases hfg : f = g
  · have h1 : decide (f = g) = true := decide_eq_true hfg
    have h2 : decide (f ≠ g) = false := decide_eq_false (fun h => h hfg)
    rw [h1, h2, hit]
    cases (List.range 3).all _ <;> rfl
  · have h1 : decide (f = g) = false := decide_eq_false hfg
    have h2 : decide (f ≠ g) = true := decide_eq_true hfg
    rw [h1, h2]
    rfl
theorem lives17 (M : Nat) : law17_lives (M + 200) = some true := by
  unfold law17_lives
  rw [pnew_ok (N := M + 200) (by omega)]
  simp only [pright_ok (N := M + 200) (by omega)]
  kernel_rfl
theorem pnew_law {M : Nat} (hM : 3000000 ≤ M) (f : Int) (ps : List (List Int)) (g : Int) (qs : List (List Int)) (s : Int) : law17_PlanesNew (M + 200) f ps g qs s = some true := by
  unfold law17_PlanesNew
  obtain ⟨b, hlt⟩ : ∃ b, law17_Light (M + 200) f ps = some b := ⟨_, rfl⟩
  obtain ⟨b2, hlt2⟩ : ∃ b, law17_Light (M + 200) g qs = some b := ⟨_, rfl⟩
  rw [hlt, hlt2, lives17 M, pright_ok (N := M + 200) (by omega), rpright_ok (N := M + 200) (by omega), pnew_ok (N := M + 200) (by omega), rmany_eq]
  simp only [psame_ok (N := M + 200) (by omega), rsame_ok (N := M + 200) (by omega), rnew_ok (N := M + 200) (by omega), Option.isSome_some, Option.getD_some, implies_true, and_self, if_true, sameF_self, beq_self_eq_true, Bool.not_true, cond_false]
  have hobl : ((!(bif !b then true else !b2)) = true → decide ((3 : Int) ≤ f) = true → ((!(bif !b then true else !b2)) && decide ((3 : Int) ≤ f)) = true) := fun h1 h2 => by rw [h1, h2]; rfl
  rw [if_pos ⟨trivial, trivial, hobl⟩]
  cases (bif (bif !b then true else !b2) then true else (bif decide ((3 : Int) ≤ f) then decide (f ≤ 5) else false))
  · rcases fmt_or f with ⟨h1, h2⟩ | ⟨h1, _, h3, _⟩
    · have hA : decide (fA f ≠ 0) = false := decide_eq_false (fun h => h h1)
      have hz : decide (fA f * fD f = 0) = true := decide_eq_true (by rw [h1, Int.zero_mul])
      simp only [hA, hz, cond_false, cond_true, sameF_self, decide_true, implies_true, and_self, if_true]
    · have hA : decide (fA f ≠ 0) = true := decide_eq_true (by omega)
      have hm : 0 < fA f * fD f := Int.mul_pos (by omega) (by omega)
      have hz : decide (fA f * fD f = 0) = false := decide_eq_false (by omega)
      simp only [hA, hz, cond_false, cond_true, sameF_self, decide_true, implies_true, and_self, if_true]
  · rfl
theorem law_planesNew (N : Nat) (hN : 1099511627776 ≤ N) (y0 : Sh.den (.pair (.int .i64) (.arrS 3 (.int .u8)))) (w0 : Sh.wf (.pair (.int .i64) (.arrS 3 (.int .u8))) y0) (y1 : Sh.den (.pair (.int .i64) (.arrS 3 (.int .u8)))) (w1 : Sh.wf (.pair (.int .i64) (.arrS 3 (.int .u8))) y1) (y2 : Sh.den (.int .i64)) (w2 : Sh.wf (.int .i64) y2) : law17_PlanesNew N (y0.1) (y0.2) (y1.1) (y1.2) y2 = some true := by
  obtain ⟨M, rfl⟩ : ∃ M, N = M + 200 := ⟨N - 200, by omega⟩
  exact pnew_law (by omega) _ _ _ _ _
end Go.Proofs.Ytjknjjdijoboiaa
