/- TcoefBack: what the models answer. -/
import Derived.Test.YtbcgkdigfkapcaaDoorG3
import Derived.Test.YtbcgkdigfkapcaaDoorGB
set_option linter.unusedVariables false
set_option linter.unusedSimpArgs false
namespace Go.Proofs.YtbcgkdigfkapcaaDoor
open Go.X

theorem lives9 (M : Nat) : law09_lives (M + 200) = some true := by kernel_rfl
def chk (N : Nat) (l : Bool) (r : Nat) : Bool := match ref09_rows N l r, tcoef_many N l r with
  | some rows, some n => decide ((rows.length : Int) = n) && (List.range rows.length).all fun i => match tcoef_place N l r ((i : Int) + 1) with
    | some a => decide (0 ≤ a) && (decide (a < 102) && match outbits_Row N (codesL.getD a.toNat 0) (lensL.getD a.toNat 0) with
      | some (x, _) => decide (bl x = bl (rows.getD i ⟨#[]⟩)) && (decide (bl x ≠ []) && decide (x.size ≤ 100))
      | none => false)
    | none => false
  | _, _ => false
theorem ck (M : Nat) : ((List.range 64).all fun r => chk (M + 200) false r && chk (M + 200) true r) = true := by kernel_rfl
def chr (N : Nat) (v n : Nat) : Bool := match outbits_Row N v n, ref02_Row N v n with
  | some (x, _), some y => decide (bl x = bl y) && decide (x.size ≤ 100)
  | _, _ => false
theorem c6 (M : Nat) : ((List.range 64).all fun r => chr (M + 200) r 6) = true := by kernel_rfl
theorem c8 (M : Nat) : ((List.range 256).all fun r => chr (M + 200) r 8) = true := by kernel_rfl
theorem c37 (M : Nat) : outbits_Row (M + 200) 3 7 = some (⟨#[48, 48, 48, 48, 48, 49, 49]⟩, 0) := by kernel_rfl

theorem chr_at {N v n : Nat} (h : chr N v n = true) : ∃ x e, outbits_Row N v n = some (x, e) ∧ ref02_Row N v n = some x ∧ x.size ≤ 100 := by
  unfold chr at h
  split at h
  · rename_i x e y h1 h2
    simp only [Bool.and_eq_true, decide_eq_true_eq] at h
    exact ⟨x, e, h1, by rw [h2, bl_inj h.1], h.2⟩
  · cases h
theorem chk_at {N : Nat} {l : Bool} {r : Nat} (h : chk N l r = true) : ∃ rows n, ref09_rows N l r = some rows ∧ tcoef_many N l r = some n ∧ (rows.length : Int) = n ∧
    ∀ i, i < rows.length → ∃ a x e, tcoef_place N l r ((i : Int) + 1) = some a ∧ 0 ≤ a ∧ a < 102 ∧ outbits_Row N (codesL.getD a.toNat 0) (lensL.getD a.toNat 0) = some (x, e) ∧ x = rows.getD i ⟨#[]⟩ ∧ bl x ≠ [] ∧ x.size ≤ 100 := by
  unfold chk at h
  split at h
  · rename_i rows n h1 h2
    simp only [Bool.and_eq_true, decide_eq_true_eq, List.all_eq_true, List.mem_range] at h
    refine ⟨rows, n, h1, h2, h.1, fun i hi => ?_⟩
    have := h.2 i hi
    split at this
    · rename_i a ha
      simp only [Bool.and_eq_true, decide_eq_true_eq] at this
      obtain ⟨g1, g2, g3⟩ := this
      split at g3
      · rename_i x e hx
        simp only [Bool.and_eq_true, decide_eq_true_eq] at g3
        exact ⟨a, x, e, ha, g1, g2, hx, bl_inj g3.1, g3.2.1, g3.2.2⟩
      · cases g3
    · cases this
  · cases h

def rgt (r v : Int) : Prop := 0 ≤ r ∧ r ≤ 63 ∧ v ≠ 0 ∧ -127 ≤ v ∧ v ≤ 127
instance (r v : Int) : Decidable (rgt r v) := by unfold rgt; infer_instance
theorem right_eq (N : Nat) (l : Bool) (r v : Int) : tcoef_Right N l r v = some (decide (rgt r v)) := by
  unfold tcoef_Right rgt
  by_cases h1 : 0 ≤ r <;> by_cases h2 : r ≤ 63 <;> by_cases h3 : v = 0 <;> by_cases h4 : -127 ≤ v <;> by_cases h5 : v ≤ 127 <;> simp [h1, h2, h3, h4, h5]
theorem rright_eq (N : Nat) (l : Bool) (r v : Int) : ref09_Right N l r v = some (decide (rgt r v)) := by
  unfold ref09_Right rgt
  by_cases h1 : 0 ≤ r <;> by_cases h2 : r ≤ 63 <;> by_cases h3 : v = 0 <;> by_cases h4 : -127 ≤ v <;> by_cases h5 : v ≤ 127 <;> simp [h1, h2, h3, h4, h5]
theorem sign_eq (N : Nat) (v : Int) : ref09_sign N v = tcoef_digit N (decide (v < 0)) := rfl
theorem digit_eq (N : Nat) (b : Bool) : ∃ d, tcoef_digit N b = some d ∧ d.size = 1 ∧ d = (bif b then ⟨#[49]⟩ else ⟨#[48]⟩) := by cases b <;> exact ⟨_, rfl, rfl, rfl⟩
theorem amount_eq (N : Nat) {v : Int} (h1 : -127 ≤ v) (h2 : v ≤ 127) : ref09_amount N v = some (max v (-v)) := by
  unfold ref09_amount
  have i1 : inK .i64 (-v) := in64 (by omega) (by omega)
  by_cases h : v < 0
  · have e : max v (-v) = -v := by omega
    simp [h, i1, e]
  · have e : max v (-v) = v := by omega
    simp [h, e]
theorem ne_nil (s : ByteArray) : (decide (ByteArray.toList s ≠ ByteArray.toList ⟨#[]⟩)) = decide (bl s ≠ []) := by
  have := strEq s ⟨#[]⟩
  have e : bl ⟨#[]⟩ = [] := rfl
  rw [e] at this
  simp only [ne_eq, decide_not, this]
theorem row_not {M : Nat} {l : Bool} {r v : Int} (h : ¬ rgt r v) : tcoef_Row (M + 200) l r v = some (⟨#[]⟩, false) ∧ ref09_Row (M + 200) l r v = some ⟨#[]⟩ := by
  constructor
  · unfold tcoef_Row; rw [right_eq, decide_eq_false h]; rfl
  · unfold ref09_Row; rw [rright_eq, decide_eq_false h]; rfl
theorem row_eq {M : Nat} {l : Bool} {r v : Int} (h : rgt r v) : ∃ x, tcoef_Row (M + 200) l r v = some (x, true) ∧ ref09_Row (M + 200) l r v = some x ∧ bl x ≠ [] := by
  obtain ⟨h1, h2, h3, h4, h5⟩ := id h
  obtain ⟨rn, rfl⟩ : ∃ rn : Nat, r = rn := ⟨r.toNat, by omega⟩
  have hrn : rn < 64 := by omega
  have hc : chk (M + 200) l rn = true := by
    have := List.all_eq_true.1 (ck M) rn (List.mem_range.2 hrn)
    simp only [Bool.and_eq_true] at this
    cases l
    · exact this.1
    · exact this.2
  obtain ⟨rows, n, g1, g2, g3, g4⟩ := chk_at hc
  have i1 : inK .i64 (-v) := in64 (by omega) (by omega)
  obtain ⟨d, hd, hds, hdv⟩ := digit_eq (M + 200) (decide (v < 0))
  by_cases hn : max v (-v) ≤ n
  · obtain ⟨i, hi⟩ : ∃ i : Nat, max v (-v) = (i : Int) + 1 := ⟨(max v (-v) - 1).toNat, by omega⟩
    obtain ⟨a, x, e, k1, k2, k3, k4, k5, k6, k7⟩ := g4 i (by omega)
    refine ⟨x ++ d, ?_, ?_, ?_⟩
    · have hsz : (x.size : Int) + (d.size : Int) ≤ 9223372036854775807 := by omega
      have k8 : a.toNat < 102 := by omega
      unfold tcoef_Row
      rw [right_eq, decide_eq_true h, hi, k1]
      simp [i1, k2, k3, k4, k8, hd, hsz, -List.getD_eq_getElem?_getD]
    · have hsz : (x.size : Int) + (d.size : Int) ≤ 9223372036854775807 := by omega
      have j1 : ¬ ((rows.length : Int) < (i : Int) + 1) := by omega
      have j2 : (i : Int) + 1 - 1 = i := by omega
      have j3 : inK .i64 (i : Int) := in64 (by omega) (by omega)
      have j4 : i < rows.length := by omega
      have hhas : ref09_has (M + 200) l rn ((i : Int) + 1) = some x := by
        unfold ref09_has
        rw [g1, k5]
        simp [j1, j2, j3, j4, -List.getD_eq_getElem?_getD]
      unfold ref09_Row
      rw [rright_eq, decide_eq_true h, amount_eq _ h4 h5, sign_eq, hd]
      simp only [Option.getD_some, hi, hhas, ne_nil, Option.isSome_some, decide_eq_true k6, cond_true, Bool.not_true, cond_false, and_self, if_true, true_and, hsz]
    · rw [bl_append]
      intro hh
      exact k6 (List.append_eq_nil_iff.1 hh).1
  · have hp : tcoef_place (M + 200) l rn (max v (-v)) = some (-1) := by
      unfold tcoef_place
      rw [g2]
      have : n < max v (-v) := by omega
      simp [this]
    obtain ⟨x6, e6, p1, p2, p3⟩ := chr_at (List.all_eq_true.1 (c6 M) rn (List.mem_range.2 hrn))
    obtain ⟨w, hw⟩ : ∃ w : Nat, (v + 256) % 256 = (w : Int) := ⟨((v + 256) % 256).toNat, by omega⟩
    have hw8 : w < 256 := by omega
    obtain ⟨x8, e8, q1, q2, q3⟩ := chr_at (List.all_eq_true.1 (c8 M) w (List.mem_range.2 hw8))
    have hv : (bif decide (v < 0) then (256 : Int) + v else v) = w := by
      by_cases hneg : v < 0
      · rw [decide_eq_true hneg]; show 256 + v = _; omega
      · rw [decide_eq_false hneg]; show v = _; omega
    obtain ⟨b, hb, hbs, hbv⟩ := digit_eq (M + 200) l
    have s7 : ByteArray.size ⟨#[48, 48, 48, 48, 48, 49, 49]⟩ = 7 := rfl
    have z1 : ((ByteArray.size ⟨#[48, 48, 48, 48, 48, 49, 49]⟩ : Int)) + (b.size : Int) ≤ 9223372036854775807 := by omega
    have z2 : (ByteArray.size ((⟨#[48, 48, 48, 48, 48, 49, 49]⟩ : ByteArray) ++ b) : Int) + (x6.size : Int) ≤ 9223372036854775807 := by rw [ByteArray.size_append]; omega
    have z3 : (ByteArray.size (((⟨#[48, 48, 48, 48, 48, 49, 49]⟩ : ByteArray) ++ b) ++ x6) : Int) + (x8.size : Int) ≤ 9223372036854775807 := by rw [ByteArray.size_append, ByteArray.size_append]; omega
    refine ⟨(((⟨#[48, 48, 48, 48, 48, 49, 49]⟩ : ByteArray) ++ b) ++ x6) ++ x8, ?_, ?_, ?_⟩
    · have i2 : inK .i64 (v + 256) := in64 (by omega) (by omega)
      have i3 : 0 ≤ v + 256 := by omega
      have p1' : outbits_Row (M + 200) (rn : Int) 6 = some (x6, e6) := p1
      have q1' : outbits_Row (M + 200) (w : Int) 8 = some (x8, e8) := q1
      unfold tcoef_Row
      rw [right_eq, decide_eq_true h, hp, c37, p1', hw, q1', hb]
      simp only [Option.getD_some, Option.isSome_some, if_true, Bool.not_true, cond_false, i1, i2, i3, and_self, show decide ((0 : Int) ≤ -1) = false from rfl, z1, z2, z3]
    · have j1 : (rows.length : Int) < max v (-v) := by omega
      have hhas : ref09_has (M + 200) l rn (max v (-v)) = some ⟨#[]⟩ := by
        unfold ref09_has
        rw [g1]
        simp [j1]
      have i4 : decide (v < 0) = true → inK .i64 ((256 : Int) + v) := fun _ => in64 (by omega) (by omega)
      have p2' : ref02_Row (M + 200) (rn : Int) 6 = some x6 := p2
      have q2' : ref02_Row (M + 200) (w : Int) 8 = some x8 := q2
      unfold ref09_Row
      rw [rright_eq, decide_eq_true h, amount_eq _ h4 h5]
      simp only [Option.getD_some, hhas, ne_nil, Option.isSome_some, hv, p2', q2', ← hbv]
      simp only [show decide (bl ⟨#[]⟩ ≠ []) = false from rfl, Bool.not_true, cond_false, cond_true, if_true, and_self, true_and, z1, z2, z3]
      rw [if_pos i4]
    · rw [bl_append, bl_append, bl_append]
      intro hh
      have := congrArg List.length hh
      simp only [List.length_append, bl_length, List.length_nil] at this
      omega

/-! ### what a row's digits are -/
theorem row_bits {M : Nat} {l : Bool} {r v : Int} (h : rgt r v) : ∃ B, tcoef_Row (M + 200) l r v = some (rowT B, true) ∧
    ((∃ a : Nat, a < 102 ∧ tcoef_place (M + 200) l r (max v (-v)) = some (a : Int) ∧ B = digits (codesL.getD a 0) (lensL.getD a 0).toNat ++ [decide (v < 0)] ∧ 0 ≤ lensL.getD a 0 ∧ lensL.getD a 0 ≤ 32 ∧ 0 ≤ codesL.getD a 0 ∧ codesL.getD a 0 < 2 ^ (lensL.getD a 0).toNat) ∨
     (tcoef_place (M + 200) l r (max v (-v)) = some (-1) ∧ B = digits 3 7 ++ (l :: (digits r 6 ++ digits ((v + 256) % 256) 8)))) := by
  obtain ⟨h1, h2, h3, h4, h5⟩ := id h
  obtain ⟨rn, rfl⟩ : ∃ rn : Nat, r = rn := ⟨r.toNat, by omega⟩
  have hrn : rn < 64 := by omega
  have hc : chk (M + 200) l rn = true := by
    have := List.all_eq_true.1 (ck M) rn (List.mem_range.2 hrn)
    simp only [Bool.and_eq_true] at this
    cases l
    · exact this.1
    · exact this.2
  obtain ⟨rows, n, g1, g2, g3, g4⟩ := chk_at hc
  have i1 : inK .i64 (-v) := in64 (by omega) (by omega)
  obtain ⟨d, hd, hds, hdv⟩ := digit_eq (M + 200) (decide (v < 0))
  have hdr : d = rowT [decide (v < 0)] := by rw [hdv]; cases decide (v < 0) <;> rfl
  by_cases hn : max v (-v) ≤ n
  · obtain ⟨i, hi⟩ : ∃ i : Nat, max v (-v) = (i : Int) + 1 := ⟨(max v (-v) - 1).toNat, by omega⟩
    obtain ⟨a, x, e, k1, k2, k3, k4, k5, k6, k7⟩ := g4 i (by omega)
    obtain ⟨an, rfl⟩ : ∃ an : Nat, a = an := ⟨a.toNat, by omega⟩
    rw [Int.toNat_natCast] at k4
    have tab : ∀ an, an < 102 → 0 ≤ lensL.getD an 0 ∧ lensL.getD an 0 ≤ 32 ∧ 0 ≤ codesL.getD an 0 ∧ codesL.getD an 0 < 2 ^ (lensL.getD an 0).toNat := by decide +kernel
    obtain ⟨t1, t2, t3, t4⟩ := tab an (by omega)
    have hx : x = rowT (digits (codesL.getD an 0) (lensL.getD an 0).toNat) := by
      have := row_ok (N := M + 200) (by omega) (n := (lensL.getD an 0).toNat) (by omega) t3 t4
      rw [Int.toNat_of_nonneg t1, k4] at this
      exact (Prod.mk.inj (Option.some.inj this)).1
    refine ⟨_, ?_, .inl ⟨an, by omega, by rw [hi]; exact k1, rfl, t1, t2, t3, t4⟩⟩
    have hsz : (x.size : Int) + (d.size : Int) ≤ 9223372036854775807 := by omega
    have k8 : an < 102 := by omega
    have k9 : (an : Int) < 102 := by omega
    unfold tcoef_Row
    rw [right_eq, decide_eq_true h, hi, k1]
    simp [i1, k2, k3, k4, k8, k9, hd, hsz, -List.getD_eq_getElem?_getD]
    rw [hx, hdr, rowT_append]
  · have hp : tcoef_place (M + 200) l rn (max v (-v)) = some (-1) := by
      unfold tcoef_place
      rw [g2]
      have : n < max v (-v) := by omega
      simp [this]
    refine ⟨_, ?_, .inr ⟨hp, rfl⟩⟩
    have p1 := row_ok (N := M + 200) (by omega) (v := (rn : Int)) (n := 6) (by omega) (by omega) (by omega)
    have q1 := row_ok (N := M + 200) (by omega) (v := (v + 256) % 256) (n := 8) (by omega) (by omega) (by omega)
    obtain ⟨b, hb, hbs, hbv⟩ := digit_eq (M + 200) l
    have hbr : b = rowT [l] := by rw [hbv]; cases l <;> rfl
    have s7 : (⟨#[48, 48, 48, 48, 48, 49, 49]⟩ : ByteArray) = rowT (digits 3 7) := rfl
    have i2 : inK .i64 (v + 256) := in64 (by omega) (by omega)
    have i3 : 0 ≤ v + 256 := by omega
    have p1' : outbits_Row (M + 200) (rn : Int) 6 = some (rowT (digits rn 6), 0) := p1
    have q1' : outbits_Row (M + 200) ((v + 256) % 256) 8 = some (rowT (digits ((v + 256) % 256) 8), 0) := q1
    unfold tcoef_Row
    rw [right_eq, decide_eq_true h, hp, c37, p1', q1', hb, hbr, s7]
    have z1 : (((rowT (digits 3 7)).size : Int)) + ((rowT [l]).size : Int) ≤ 9223372036854775807 := by rw [rowT_size, rowT_size, digits_length]; simp
    have z2 : ((rowT (digits 3 7) ++ rowT [l]).size : Int) + ((rowT (digits rn 6)).size : Int) ≤ 9223372036854775807 := by rw [rowT_append, rowT_size, rowT_size, List.length_append, digits_length, digits_length]; simp
    have z3 : ((rowT (digits 3 7) ++ rowT [l] ++ rowT (digits rn 6)).size : Int) + ((rowT (digits ((v + 256) % 256) 8)).size : Int) ≤ 9223372036854775807 := by rw [rowT_append, rowT_append, rowT_size, rowT_size, List.length_append, List.length_append, digits_length, digits_length, digits_length]; simp
    simp only [Option.getD_some, Option.isSome_some, if_true, Bool.not_true, cond_false, i1, i2, i3, and_self, show decide ((0 : Int) ≤ -1) = false from rfl, z1, z2, z3]
    rw [rowT_append, rowT_append, rowT_append]
    simp

/-! ### reading -/
def chkT (N a : Nat) : Bool :=
  let c := codesL.getD a 0
  let L := (lensL.getD a 0).toNat
  decide (2 ≤ L) && (decide (L ≤ 12) && (List.range L).all fun i =>
    let v := numB ((digits c L).take (i + 1))
    (!(decide (i + 1 = 7) && decide (v = 3))) && (bif decide (i + 1 < L) then decide (tcoef_find N v ((i : Int) + 1) = some (-1, true)) else decide ((tcoef_find N v ((i : Int) + 1)).map (·.1) = some (a : Int))))
theorem ckT (M : Nat) : ((List.range 102).all fun a => chkT (M + 200) a) = true := by kernel_rfl
theorem ckE (M : Nat) : ((List.range 6).all fun i => decide (tcoef_find (M + 200) (numB ((digits 3 7).take (i + 1))) ((i : Int) + 1) = some (-1, true))) = true := by kernel_rfl
def chkV (N : Nat) (l : Bool) (r : Nat) : Bool := match tcoef_many N l r with
  | some n => (List.range n.toNat).all fun i => match tcoef_place N l r ((i : Int) + 1) with
    | some a => decide (tcoef_event N a = some (l, (r : Int), (i : Int) + 1))
    | none => false
  | none => false
theorem ckV (M : Nat) : ((List.range 64).all fun r => chkV (M + 200) false r && chkV (M + 200) true r) = true := by kernel_rfl
end Go.Proofs.YtbcgkdigfkapcaaDoor
