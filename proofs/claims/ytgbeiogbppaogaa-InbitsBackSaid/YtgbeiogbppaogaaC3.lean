/- Numbers written, and taken again. -/
import Derived.Test.YtgbeiogbppaogaaC1
set_option linter.unusedVariables false
set_option linter.unusedSimpArgs false
namespace Go.Proofs.Ytgbeiogbppaogaa
open Go.X

def accL (g : Nat → List S0) : Nat → List (Int × Int)
  | 0 => []
  | i + 1 => if fitsS (rA2 (g i)) (rB2 (g i)) then accL g i ++ [(rA2 (g i), rB2 (g i))] else accL g i
def wb (l : List (Int × Int)) : List Bool := l.flatMap fun q => digits q.1 q.2.toNat
theorem wb_append (a c : List (Int × Int)) : wb (a ++ c) = wb a ++ wb c := by simp [wb]
def rowF (l : List (Int × Int)) (j : Nat) : List S0 := [.cs [.int .i64 (l.getD j (0, 0)).1, .int .i64 (l.getD j (0, 0)).2]]
theorem acc_fits (g : Nat → List S0) : ∀ i, ∀ q ∈ accL g i, fitsS q.1 q.2 = true
  | 0, q, h => by cases h
  | i + 1, q, h => by
    simp only [accL] at h
    split at h
    · rename_i hf
      rcases List.mem_append.1 h with h | h
      · exact acc_fits g i q h
      · simp only [List.mem_singleton] at h; subst h; exact hf
    · exact acc_fits g i q h
theorem acc_len (g : Nat → List S0) : ∀ i, (accL g i).length ≤ i
  | 0 => by simp [accL]
  | i + 1 => by
    have := acc_len g i
    simp only [accL]
    split
    · simp; omega
    · omega
theorem wb_len : ∀ (l : List (Int × Int)), (∀ q ∈ l, fitsS q.1 q.2 = true) → (wb l).length ≤ 32 * l.length
  | [], _ => by simp [wb]
  | q :: l, h => by
    have h1 := wb_len l fun x hx => h x (by simp [hx])
    have h2 := (fitsS_iff q.1 q.2).1 (h q (by simp))
    have e : wb (q :: l) = digits q.1 q.2.toNat ++ wb l := by simp [wb]
    rw [e, List.length_append, digits_length, List.length_cons]
    omega
theorem rows_snoc (l : List (Int × Int)) (V N : Int) (j : Nat) (hj : j < l.length + 1) : (bif Nat.blt j l.length then rowF l j else Go.X.rowAt [[.cs [.int .i64 V, .int .i64 N]]] (j - l.length)) = rowF (l ++ [(V, N)]) j := by
  unfold rowF
  by_cases h : j < l.length
  · rw [show Nat.blt j l.length = true from Nat.ble_eq_true_of_le h, cond_true, List.getD_eq_getElem?_getD, List.getD_eq_getElem?_getD, List.getElem?_append_left h]
  · have hb : Nat.blt j l.length = false := by
      cases hq : Nat.blt j l.length with
      | false => rfl
      | true => exact absurd (blt_true hq) h
    have e : j = l.length := by omega
    rw [hb, cond_false, e, Nat.sub_self, List.getD_eq_getElem?_getD, List.getElem?_append_right (Nat.le_refl _), Nat.sub_self]
    rfl
theorem back_take (l : List (Int × Int)) (hl : ∀ q ∈ l, fitsS q.1 q.2 = true) (k : Nat) (hk : k < l.length) :
    peekE (bytesOf (packB (wb l))) ((wb (l.take k)).length : Nat) (l.getD k (0, 0)).2 = 0 ∧ peekV (bytesOf (packB (wb l))) ((wb (l.take k)).length : Nat) (l.getD k (0, 0)).2 = (l.getD k (0, 0)).1 ∧
    takeAt (bytesOf (packB (wb l))) ((wb (l.take k)).length : Nat) (l.getD k (0, 0)).2 = ((wb (l.take (k + 1))).length : Nat) := by
  have eg : l.getD k (0, 0) = l[k] := by rw [List.getD_eq_getElem?_getD, List.getElem?_eq_getElem hk]; rfl
  rw [eg]
  obtain ⟨⟨V, N⟩, hq⟩ : ∃ q : Int × Int, l[k] = q := ⟨_, rfl⟩
  rw [hq]
  have hf := (fitsS_iff V N).1 (by have := hl l[k] (List.getElem_mem hk); rw [hq] at this; exact this)
  have es : l = l.take k ++ (V, N) :: l.drop (k + 1) := by
    conv => lhs; rw [← List.take_append_drop k l, List.drop_eq_getElem_cons hk, hq]
  have ew : wb l = wb (l.take k) ++ (digits V N.toNat ++ wb (l.drop (k + 1))) := by
    conv => lhs; rw [es]
    rw [wb_append]; simp [wb]
  have e1 : wb (l.take (k + 1)) = wb (l.take k) ++ digits V N.toNat := by
    rw [← List.take_append_getElem hk, hq, wb_append]; simp [wb]
  have hsz : ((bytesOf (packB (wb l))).size : Int) = (((wb l).length + 7) / 8 : Nat) := by rw [bytesOf_size, packB_length]
  have hlen : (wb l).length = (wb (l.take k)).length + (N.toNat + (wb (l.drop (k + 1))).length) := by rw [ew, List.length_append, List.length_append, digits_length]
  have hv : numB (((tb (bytesOf (packB (wb l)))).drop (((wb (l.take k)).length : Nat) : Int).toNat).take N.toNat) = V := by
    rw [tb_pack, ew, Int.toNat_natCast, List.append_assoc, List.drop_left' rfl, List.append_assoc, List.take_left' (digits_length _ _)]
    exact numB_digits _ _ hf.2.2.1 hf.2.2.2
  rcases peekE_cases (bytesOf (packB (wb l))) ((wb (l.take k)).length : Nat) N with ⟨g1, _⟩ | ⟨_, _, g3, _⟩ | ⟨_, _, _, g4, g5⟩
  · omega
  · omega
  · refine ⟨g4, by rw [g5, hv], ?_⟩
    unfold takeAt
    rw [if_pos g4, e1, List.length_append, digits_length]
    omega
theorem back_end (B : List Bool) : rfE (bytesOf (packB B)) (B.length : Nat) = 0 ∧ rfV (bytesOf (packB B)) (B.length : Nat) = (padN B.length : Nat) ∧ 8 * ((bytesOf (packB B)).size : Int) - ((B.length : Nat) + (padN B.length : Nat)) = 0 := by
  have hsz : ((bytesOf (packB B)).size : Int) = ((B.length + 7) / 8 : Nat) := by rw [bytesOf_size, packB_length]
  have hpd : padI ((B.length : Nat) : Int) = (padN B.length : Nat) := by unfold padI padN; omega
  have hp7 := padN_in B.length
  have hv : peekV (bytesOf (packB B)) (B.length : Nat) (padI ((B.length : Nat) : Int)) = 0 := by
    rcases peekE_cases (bytesOf (packB B)) (B.length : Nat) (padI ((B.length : Nat) : Int)) with ⟨_, _, g⟩ | ⟨_, _, _, _, g⟩ | ⟨_, _, _, _, g⟩
    · exact g
    · exact g
    · rw [g, tb_pack, Int.toNat_natCast, List.drop_left' rfl, hpd, Int.toNat_natCast, List.take_replicate]
      exact numB_zeros _
  refine ⟨?_, ?_, by unfold padN at *; omega⟩
  · unfold rfE; rw [if_pos hv]
  · unfold rfV; rw [if_pos hv, hpd]
def spLBack : X.Spec := fun args lk => match args with
  | [.v (.c (.sl id 0 len 2))] => match lk id with
    | some (.mem _ _ _ (.rows n 2 f)) => some ⟨(n = len ∧ (len : Int) ≤ 9223372036854775807) ∧ ∀ i, i < len → isRow2 (f i), bo true, [], []⟩
    | _ => none
  | _ => none
set_option maxRecDepth 100000 in
set_option maxHeartbeats 4000000 in
theorem okLBack : FnOK Try.prog gt0 7 (spLBack) := by
  refine fnOK_handed Try.func7 rfl (by kernel_rfl) tt_ok (ktCons okLives03 (ktCons okNew (ktCons okPut (ktCons okText (ktCons okRNew (ktCons okTake (ktCons okRFill (ktCons okLeft (ktNil))))))))) ?_
  intro args lk r h hp
  unfold spLBack at h
  split at h
  · rename_i id n
    split at h
    · rename_i o ty tl m g hl
      cases h
      obtain ⟨⟨rfl, hlen⟩, hrow⟩ : (m = n ∧ (n : Int) ≤ 9223372036854775807) ∧ ∀ i, i < n → isRow2 (g i) := hp
      refine hand1 (e := .mem false 55 none (.rows m 2 fun i => [.cs [.int .i64 (rA2 (g i)), .int .i64 (rB2 (g i))]])) [.v (.c (.sl 0 0 m 2))] rfl rfl rfl hl (.inr ⟨o, _, ty, 55, tl, _, rfl, rfl, Ble.rows rfl fun j hj => hrow j hj⟩) (fun i hi => rfl) (fun w0 M ε0 hX => ?_)
      refine rCount (fun hε => ?_)
      change ε0.n ≤ 1 at hε
      all_goals repeat' first
        | with_reducible refine rSeq ?_
        | with_reducible refine rThen ?_
        | with_reducible refine rBlock ?_
        | with_reducible refine rThenRet ?_
        | with_reducible refine rThenExit ?_
        | with_reducible refine rInRet ?_
        | with_reducible refine rInNormal ?_
        | with_reducible refine rInHit ?_
        | with_reducible refine rInMiss rfl ?_
        | with_reducible refine rRet ?_
        | with_reducible refine rExit ?_
        | with_reducible refine rSkip ?_
        | with_reducible refine rLabel ?_
        | with_reducible refine rScope ?_
        | with_reducible refine rNoGotoRet ?_
        | with_reducible refine rNoGotoNormal ?_
        | (with_reducible show SW _ (Code.region _ _ false) _ _ _); refine rRegC md0 hX rfl rfl rfl (by first | (first | exact True.intro | ((repeat' first | refine And.intro ?_ ?_ | intro _) <;> first | exact True.intro | (with_reducible exact rfl) | (with_reducible assumption) | omega | (simp only [sel, inK, segsOf, widthL, S0.width, List.cons_append, List.nil_append, List.length_cons, List.length_nil, Int.one_mul, implies_true, imp_self, btL, blL, bsL, ne_eq] <;> omega) | (simp only [sel, inK, segsOf, widthL, S0.width, List.cons_append, List.nil_append, List.length_cons, List.length_nil, Int.one_mul, implies_true, imp_self, btL, blL, bsL, ne_eq] at *; omega) | (simp only [sel, bsL, ne_eq] at *; simp_all <;> fail) | (simp [sel, segsOf, List.cons_append, List.nil_append, widthL, S0.width] <;> fail) | (simp only [ByteArray.size, List.size_toArray, List.length_cons, List.length_nil] <;> omega))) | fail) ?_
        | (with_reducible show SW _ (Code.region _ _ true) _ _ _); refine rDrawC md0 hX mixed rfl rfl rfl rfl (by first | (first | exact True.intro | ((repeat' first | refine And.intro ?_ ?_ | intro _) <;> first | exact True.intro | (with_reducible exact rfl) | (with_reducible assumption) | omega | (simp only [sel, inK, segsOf, widthL, S0.width, List.cons_append, List.nil_append, List.length_cons, List.length_nil, Int.one_mul, implies_true, imp_self, btL, blL, bsL, ne_eq] <;> omega) | (simp only [sel, inK, segsOf, widthL, S0.width, List.cons_append, List.nil_append, List.length_cons, List.length_nil, Int.one_mul, implies_true, imp_self, btL, blL, bsL, ne_eq] at *; omega) | (simp only [sel, bsL, ne_eq] at *; simp_all <;> fail) | (simp [sel, segsOf, List.cons_append, List.nil_append, widthL, S0.width] <;> fail) | (simp only [ByteArray.size, List.size_toArray, List.length_cons, List.length_nil] <;> omega))) | fail) ?_
        | (with_reducible show SW _ (Code.region _ _ true) _ _ _); refine rDrawSC md0 hX mixed rfl rfl rfl rfl rfl (by first | (first | exact True.intro | ((repeat' first | refine And.intro ?_ ?_ | intro _) <;> first | exact True.intro | (with_reducible exact rfl) | (with_reducible assumption) | omega | (simp only [sel, inK, segsOf, widthL, S0.width, List.cons_append, List.nil_append, List.length_cons, List.length_nil, Int.one_mul, implies_true, imp_self, btL, blL, bsL, ne_eq] <;> omega) | (simp only [sel, inK, segsOf, widthL, S0.width, List.cons_append, List.nil_append, List.length_cons, List.length_nil, Int.one_mul, implies_true, imp_self, btL, blL, bsL, ne_eq] at *; omega) | (simp only [sel, bsL, ne_eq] at *; simp_all <;> fail) | (simp [sel, segsOf, List.cons_append, List.nil_append, widthL, S0.width] <;> fail) | (simp only [ByteArray.size, List.size_toArray, List.length_cons, List.length_nil] <;> omega))) | fail) ?_
        | (with_reducible show SW _ (Code.cond _ _ _) _ _ _); (refine rCond rfl rfl (by first | (first | exact True.intro | ((repeat' first | refine And.intro ?_ ?_ | intro _) <;> first | exact True.intro | (with_reducible exact rfl) | (with_reducible assumption) | omega | (simp only [sel, inK, segsOf, widthL, S0.width, List.cons_append, List.nil_append, List.length_cons, List.length_nil, Int.one_mul, implies_true, imp_self, btL, blL, bsL, ne_eq] <;> omega) | (simp only [sel, inK, segsOf, widthL, S0.width, List.cons_append, List.nil_append, List.length_cons, List.length_nil, Int.one_mul, implies_true, imp_self, btL, blL, bsL, ne_eq] at *; omega) | (simp only [sel, bsL, ne_eq] at *; simp_all <;> fail) | (simp [sel, segsOf, List.cons_append, List.nil_append, widthL, S0.width] <;> fail) | (simp only [ByteArray.size, List.size_toArray, List.length_cons, List.length_nil] <;> omega))) | fail) (fun h => ?_) (fun h => ?_) <;> (try (exact absurd h (by decide))) <;> (try simp only [blL, bsL, ne_eq] at h) <;> (try (exact absurd ‹_› ‹_›)) <;> (try (exfalso; omega)))
        | (with_reducible show SQ _ (Post _ _ _ _ _ _ _) .normal _ _); with_reducible refine rNormal ?_
        | (with_reducible show SQ _ (Post _ _ _ _ _ _ _) .ret _ _); refine rDone hX rfl (by first | (first | exact True.intro | ((repeat' first | refine And.intro ?_ ?_ | intro _) <;> first | exact True.intro | (with_reducible exact rfl) | (with_reducible assumption) | omega | (simp only [sel, inK, segsOf, widthL, S0.width, List.cons_append, List.nil_append, List.length_cons, List.length_nil, Int.one_mul, implies_true, imp_self, btL, blL, bsL, ne_eq] <;> omega) | (simp only [sel, inK, segsOf, widthL, S0.width, List.cons_append, List.nil_append, List.length_cons, List.length_nil, Int.one_mul, implies_true, imp_self, btL, blL, bsL, ne_eq] at *; omega) | (simp only [sel, bsL, ne_eq] at *; simp_all <;> fail) | (simp [sel, segsOf, List.cons_append, List.nil_append, widthL, S0.width] <;> fail) | (simp only [ByteArray.size, List.size_toArray, List.length_cons, List.length_nil] <;> omega))) | fail) (EnvLe.refl _) (by first | (rfl) | fail) rfl rfl rfl (by first | (intro i e h; cases h; done) | (intro i e h; rw [look_cons] at h; split at h <;> cases h <;> rfl) | fail)
      refine rNilRow 4 55 2 (.rows 0 2 (rowF [])) (nil_rows _ _) rfl rfl ?_
      refine rLoopF (fun i : {i : Nat // i ≤ m} => ⟨[(0, .v (.c (.sl 0 0 m 2))), (3, pt 1), (4, .v (.c (.sl 2 0 (accL g i.1).length 2))), (5, i64 (i.1 : Int))], [(2, .mem true 55 (some 2) (.rows (accL g i.1).length 2 (rowF (accL g i.1)))), (1, .obj 5 (wb (accL g i.1))), (0, .mem false 55 none (.rows m 2 fun i => [.cs [.int .i64 (rA2 (g i)), .int .i64 (rB2 (g i))]]))], 3⟩) (fun i => m - i.1) 3 (fun _ => rfl) ⟨0, by omega⟩ (by (refine Le.mk ?_ ?_ rfl <;> (repeat' first | exact RLe.nil | refine RLe.cons rfl ?_ ?_ | exact BLe.nil | refine BLe.cons rfl ?_ ?_) <;> (first | exact Ele.mem (Ble.rows rfl fun j hj => absurd hj (Nat.not_lt_zero j)) | exact SVle.refl _ | exact Ele.refl _ | exact SVle.int (by first | omega | (dsimp only; omega) | fail) | exact SVle.bool (by rfl) | exact SVle.ints (by rfl) | exact Ele.mem (Ble.ints (by rfl))))) ?_
      rintro ⟨i, hi⟩ hN
      change SW _ _ _ _ ⟨[(0, .v (.c (.sl 0 0 m 2))), (3, pt 1), (4, .v (.c (.sl 2 0 (accL g i).length 2))), (5, i64 (i : Int))], [(2, .mem true 55 (some 2) (.rows (accL g i).length 2 (rowF (accL g i)))), (1, .obj 5 (wb (accL g i))), (0, .mem false 55 none (.rows m 2 fun i => [.cs [.int .i64 (rA2 (g i)), .int .i64 (rB2 (g i))]]))], 3⟩
      have hal := acc_len g i
      have hwl := wb_len _ (acc_fits g i)
      have hpl := putD_length (rA2 (g ((i : Int)).toNat)) (rB2 (g ((i : Int)).toNat))
      have e : ((i : Int)).toNat = i := by omega
      have hacc : accL g (i + 1) = if fitsS (rA2 (g ((i : Int)).toNat)) (rB2 (g ((i : Int)).toNat)) then accL g i ++ [((rA2 (g ((i : Int)).toNat)), (rB2 (g ((i : Int)).toNat)))] else accL g i := by rw [e]; rfl
      by_cases hlt : i < m
      · rcases put_cases (rA2 (g ((i : Int)).toNat)) (rB2 (g ((i : Int)).toNat)) with ⟨p1, p2, p3, p4⟩ | ⟨p1, p2, p3, p4⟩
        · skip
          all_goals repeat' first
            | (with_reducible show SQ _ (Exit.then (Again _ _ _ _ _) _) .normal _ _); (refine rAgainR (fun i => bif Nat.beq i 2 then 4 else i) 1 ⟨i + 1, by omega⟩ (by first | omega | (dsimp only; omega) | fail) (by assumption) (by dsimp only; omega) rfl rfl rfl (by first | (exact ⟨⟨rfl, fun i hi => rfl⟩, ⟨rfl, True.intro⟩, ⟨rfl, fun i hi => rfl⟩, True.intro⟩) | fail) ?_ ?_ <;> (repeat' first | exact RLe.nil | refine RLe.cons rfl ?_ ?_ | exact BLe.nil | refine BLe.cons rfl ?_ ?_) <;> (first | exact SVle.sl rfl (by (try dsimp only); rw [hacc, if_pos p3, List.length_append]; rfl) | exact Ele.eq (congrArg (E.obj 5) (by first | ((try dsimp only); rw [hacc, if_pos p3, wb_append, p4]; simp [wb]; done) | fail)) | exact Ele.mem (Ble.rows (by (try dsimp only); rw [hacc, if_pos p3, List.length_append]; rfl) fun j hj => (by (try dsimp only); rw [hacc, if_pos p3]; exact rows_snoc _ _ _ j hj)) | exact SVle.refl _ | exact Ele.refl _ | exact SVle.int (by first | omega | (dsimp only; omega) | fail) | exact SVle.bool (by rfl) | exact SVle.ints (by rfl) | exact Ele.mem (Ble.ints (by rfl))))
            | with_reducible refine rSeq ?_
            | with_reducible refine rThen ?_
            | with_reducible refine rBlock ?_
            | with_reducible refine rThenRet ?_
            | with_reducible refine rThenExit ?_
            | with_reducible refine rInRet ?_
            | with_reducible refine rInNormal ?_
            | with_reducible refine rInHit ?_
            | with_reducible refine rInMiss rfl ?_
            | with_reducible refine rRet ?_
            | with_reducible refine rExit ?_
            | with_reducible refine rSkip ?_
            | with_reducible refine rLabel ?_
            | with_reducible refine rScope ?_
            | with_reducible refine rNoGotoRet ?_
            | with_reducible refine rNoGotoNormal ?_
            | (with_reducible show SW _ (Code.region _ _ false) _ _ _); refine rRegC md0 hX rfl rfl rfl (by first | (first | exact True.intro | (refine ⟨?_, ?_, ?_⟩ <;> omega) | ((repeat' first | refine And.intro ?_ ?_ | intro _) <;> first | exact True.intro | (refine ⟨?_, ?_, ?_⟩ <;> omega) | (with_reducible exact rfl) | (with_reducible assumption) | omega | (simp only [bytesOf_size, packB_length, sel, inK, segsOf, widthL, S0.width, List.cons_append, List.nil_append, List.length_cons, List.length_nil, Int.one_mul, implies_true, imp_self, btL, blL, bsL, ne_eq] <;> omega) | (simp only [bytesOf_size, packB_length, sel, inK, segsOf, widthL, S0.width, List.cons_append, List.nil_append, List.length_cons, List.length_nil, Int.one_mul, implies_true, imp_self, btL, blL, bsL, ne_eq] at *; omega) | (simp only [sel, bytesOf_size, packB_length, bsL, ne_eq] at *; simp_all <;> fail) | (simp [sel, segsOf, List.cons_append, List.nil_append, widthL, S0.width] <;> fail) | (simp only [ByteArray.size, List.size_toArray, List.length_cons, List.length_nil] <;> omega))) | fail) ?_
            | (with_reducible show SW _ (Code.region _ _ true) _ _ _); refine rDrawC md0 hX mixed rfl rfl rfl rfl (by first | (first | exact True.intro | (refine ⟨?_, ?_, ?_⟩ <;> omega) | ((repeat' first | refine And.intro ?_ ?_ | intro _) <;> first | exact True.intro | (refine ⟨?_, ?_, ?_⟩ <;> omega) | (with_reducible exact rfl) | (with_reducible assumption) | omega | (simp only [bytesOf_size, packB_length, sel, inK, segsOf, widthL, S0.width, List.cons_append, List.nil_append, List.length_cons, List.length_nil, Int.one_mul, implies_true, imp_self, btL, blL, bsL, ne_eq] <;> omega) | (simp only [bytesOf_size, packB_length, sel, inK, segsOf, widthL, S0.width, List.cons_append, List.nil_append, List.length_cons, List.length_nil, Int.one_mul, implies_true, imp_self, btL, blL, bsL, ne_eq] at *; omega) | (simp only [sel, bytesOf_size, packB_length, bsL, ne_eq] at *; simp_all <;> fail) | (simp [sel, segsOf, List.cons_append, List.nil_append, widthL, S0.width] <;> fail) | (simp only [ByteArray.size, List.size_toArray, List.length_cons, List.length_nil] <;> omega))) | fail) ?_
            | (with_reducible show SW _ (Code.region _ _ true) _ _ _); refine rDrawSC md0 hX mixed rfl rfl rfl rfl rfl (by first | (first | exact True.intro | (refine ⟨?_, ?_, ?_⟩ <;> omega) | ((repeat' first | refine And.intro ?_ ?_ | intro _) <;> first | exact True.intro | (refine ⟨?_, ?_, ?_⟩ <;> omega) | (with_reducible exact rfl) | (with_reducible assumption) | omega | (simp only [bytesOf_size, packB_length, sel, inK, segsOf, widthL, S0.width, List.cons_append, List.nil_append, List.length_cons, List.length_nil, Int.one_mul, implies_true, imp_self, btL, blL, bsL, ne_eq] <;> omega) | (simp only [bytesOf_size, packB_length, sel, inK, segsOf, widthL, S0.width, List.cons_append, List.nil_append, List.length_cons, List.length_nil, Int.one_mul, implies_true, imp_self, btL, blL, bsL, ne_eq] at *; omega) | (simp only [sel, bytesOf_size, packB_length, bsL, ne_eq] at *; simp_all <;> fail) | (simp [sel, segsOf, List.cons_append, List.nil_append, widthL, S0.width] <;> fail) | (simp only [ByteArray.size, List.size_toArray, List.length_cons, List.length_nil] <;> omega))) | fail) ?_
            | (with_reducible show SW _ (Code.cond _ _ _) _ _ _); (refine rCond rfl rfl (by first | (first | exact True.intro | (refine ⟨?_, ?_, ?_⟩ <;> omega) | ((repeat' first | refine And.intro ?_ ?_ | intro _) <;> first | exact True.intro | (refine ⟨?_, ?_, ?_⟩ <;> omega) | (with_reducible exact rfl) | (with_reducible assumption) | omega | (simp only [bytesOf_size, packB_length, sel, inK, segsOf, widthL, S0.width, List.cons_append, List.nil_append, List.length_cons, List.length_nil, Int.one_mul, implies_true, imp_self, btL, blL, bsL, ne_eq] <;> omega) | (simp only [bytesOf_size, packB_length, sel, inK, segsOf, widthL, S0.width, List.cons_append, List.nil_append, List.length_cons, List.length_nil, Int.one_mul, implies_true, imp_self, btL, blL, bsL, ne_eq] at *; omega) | (simp only [sel, bytesOf_size, packB_length, bsL, ne_eq] at *; simp_all <;> fail) | (simp [sel, segsOf, List.cons_append, List.nil_append, widthL, S0.width] <;> fail) | (simp only [ByteArray.size, List.size_toArray, List.length_cons, List.length_nil] <;> omega))) | fail) (fun h => ?_) (fun h => ?_) <;> (try (exact absurd h (by decide))) <;> (try simp only [p1, eq_self, not_true_eq_false, blL, bsL, ne_eq] at h) <;> (try (exact absurd ‹_› ‹_›)) <;> (try (exfalso; omega)))
            | (with_reducible show SQ _ (Post _ _ _ _ _ _ _) .normal _ _); with_reducible refine rNormal ?_
            | (with_reducible show SQ _ (Post _ _ _ _ _ _ _) .ret _ _); refine rDone hX rfl (by first | (first | exact True.intro | (refine ⟨?_, ?_, ?_⟩ <;> omega) | ((repeat' first | refine And.intro ?_ ?_ | intro _) <;> first | exact True.intro | (refine ⟨?_, ?_, ?_⟩ <;> omega) | (with_reducible exact rfl) | (with_reducible assumption) | omega | (simp only [bytesOf_size, packB_length, sel, inK, segsOf, widthL, S0.width, List.cons_append, List.nil_append, List.length_cons, List.length_nil, Int.one_mul, implies_true, imp_self, btL, blL, bsL, ne_eq] <;> omega) | (simp only [bytesOf_size, packB_length, sel, inK, segsOf, widthL, S0.width, List.cons_append, List.nil_append, List.length_cons, List.length_nil, Int.one_mul, implies_true, imp_self, btL, blL, bsL, ne_eq] at *; omega) | (simp only [sel, bytesOf_size, packB_length, bsL, ne_eq] at *; simp_all <;> fail) | (simp [sel, segsOf, List.cons_append, List.nil_append, widthL, S0.width] <;> fail) | (simp only [ByteArray.size, List.size_toArray, List.length_cons, List.length_nil] <;> omega))) | fail) (EnvLe.refl _) (by first | (rfl) | fail) rfl rfl rfl (by first | (intro i e h; cases h; done) | (intro i e h; rw [look_cons] at h; split at h <;> cases h <;> rfl) | fail)
        · skip
          all_goals repeat' first
            | (with_reducible show SQ _ (Exit.then (Again _ _ _ _ _) _) .normal _ _); refine rAgain0 ⟨i + 1, by omega⟩ (by first | (first | omega | (dsimp only; omega) | fail) | fail) (by first | (refine Le.mk ?_ ?_ rfl <;> (repeat' first | exact RLe.nil | refine RLe.cons rfl ?_ ?_ | exact BLe.nil | refine BLe.cons rfl ?_ ?_) <;> (first | exact SVle.sl rfl (by (try dsimp only); rw [hacc, if_neg (by rw [p3]; simp)]) | exact Ele.eq (by first | ((try dsimp only); rw [hacc, if_neg (by rw [p3]; simp)]; done) | fail) | exact Ele.eq (congrArg (E.obj 5) (by first | ((try dsimp only); rw [hacc, if_neg (by rw [p3]; simp), p4, List.append_nil]; done) | fail)) | exact SVle.refl _ | exact Ele.refl _ | exact SVle.int (by first | omega | (dsimp only; omega) | fail) | exact SVle.bool (by rfl) | exact SVle.ints (by rfl) | exact Ele.mem (Ble.ints (by rfl)))) | fail)
            | with_reducible refine rSeq ?_
            | with_reducible refine rThen ?_
            | with_reducible refine rBlock ?_
            | with_reducible refine rThenRet ?_
            | with_reducible refine rThenExit ?_
            | with_reducible refine rInRet ?_
            | with_reducible refine rInNormal ?_
            | with_reducible refine rInHit ?_
            | with_reducible refine rInMiss rfl ?_
            | with_reducible refine rRet ?_
            | with_reducible refine rExit ?_
            | with_reducible refine rSkip ?_
            | with_reducible refine rLabel ?_
            | with_reducible refine rScope ?_
            | with_reducible refine rNoGotoRet ?_
            | with_reducible refine rNoGotoNormal ?_
            | (with_reducible show SW _ (Code.region _ _ false) _ _ _); refine rRegC md0 hX rfl rfl rfl (by first | (first | exact True.intro | (refine ⟨?_, ?_, ?_⟩ <;> omega) | ((repeat' first | refine And.intro ?_ ?_ | intro _) <;> first | exact True.intro | (refine ⟨?_, ?_, ?_⟩ <;> omega) | (with_reducible exact rfl) | (with_reducible assumption) | omega | (simp only [bytesOf_size, packB_length, sel, inK, segsOf, widthL, S0.width, List.cons_append, List.nil_append, List.length_cons, List.length_nil, Int.one_mul, implies_true, imp_self, btL, blL, bsL, ne_eq] <;> omega) | (simp only [bytesOf_size, packB_length, sel, inK, segsOf, widthL, S0.width, List.cons_append, List.nil_append, List.length_cons, List.length_nil, Int.one_mul, implies_true, imp_self, btL, blL, bsL, ne_eq] at *; omega) | (simp only [sel, bytesOf_size, packB_length, bsL, ne_eq] at *; simp_all <;> fail) | (simp [sel, segsOf, List.cons_append, List.nil_append, widthL, S0.width] <;> fail) | (simp only [ByteArray.size, List.size_toArray, List.length_cons, List.length_nil] <;> omega))) | fail) ?_
            | (with_reducible show SW _ (Code.region _ _ true) _ _ _); refine rDrawC md0 hX mixed rfl rfl rfl rfl (by first | (first | exact True.intro | (refine ⟨?_, ?_, ?_⟩ <;> omega) | ((repeat' first | refine And.intro ?_ ?_ | intro _) <;> first | exact True.intro | (refine ⟨?_, ?_, ?_⟩ <;> omega) | (with_reducible exact rfl) | (with_reducible assumption) | omega | (simp only [bytesOf_size, packB_length, sel, inK, segsOf, widthL, S0.width, List.cons_append, List.nil_append, List.length_cons, List.length_nil, Int.one_mul, implies_true, imp_self, btL, blL, bsL, ne_eq] <;> omega) | (simp only [bytesOf_size, packB_length, sel, inK, segsOf, widthL, S0.width, List.cons_append, List.nil_append, List.length_cons, List.length_nil, Int.one_mul, implies_true, imp_self, btL, blL, bsL, ne_eq] at *; omega) | (simp only [sel, bytesOf_size, packB_length, bsL, ne_eq] at *; simp_all <;> fail) | (simp [sel, segsOf, List.cons_append, List.nil_append, widthL, S0.width] <;> fail) | (simp only [ByteArray.size, List.size_toArray, List.length_cons, List.length_nil] <;> omega))) | fail) ?_
            | (with_reducible show SW _ (Code.region _ _ true) _ _ _); refine rDrawSC md0 hX mixed rfl rfl rfl rfl rfl (by first | (first | exact True.intro | (refine ⟨?_, ?_, ?_⟩ <;> omega) | ((repeat' first | refine And.intro ?_ ?_ | intro _) <;> first | exact True.intro | (refine ⟨?_, ?_, ?_⟩ <;> omega) | (with_reducible exact rfl) | (with_reducible assumption) | omega | (simp only [bytesOf_size, packB_length, sel, inK, segsOf, widthL, S0.width, List.cons_append, List.nil_append, List.length_cons, List.length_nil, Int.one_mul, implies_true, imp_self, btL, blL, bsL, ne_eq] <;> omega) | (simp only [bytesOf_size, packB_length, sel, inK, segsOf, widthL, S0.width, List.cons_append, List.nil_append, List.length_cons, List.length_nil, Int.one_mul, implies_true, imp_self, btL, blL, bsL, ne_eq] at *; omega) | (simp only [sel, bytesOf_size, packB_length, bsL, ne_eq] at *; simp_all <;> fail) | (simp [sel, segsOf, List.cons_append, List.nil_append, widthL, S0.width] <;> fail) | (simp only [ByteArray.size, List.size_toArray, List.length_cons, List.length_nil] <;> omega))) | fail) ?_
            | (with_reducible show SW _ (Code.cond _ _ _) _ _ _); (refine rCond rfl rfl (by first | (first | exact True.intro | (refine ⟨?_, ?_, ?_⟩ <;> omega) | ((repeat' first | refine And.intro ?_ ?_ | intro _) <;> first | exact True.intro | (refine ⟨?_, ?_, ?_⟩ <;> omega) | (with_reducible exact rfl) | (with_reducible assumption) | omega | (simp only [bytesOf_size, packB_length, sel, inK, segsOf, widthL, S0.width, List.cons_append, List.nil_append, List.length_cons, List.length_nil, Int.one_mul, implies_true, imp_self, btL, blL, bsL, ne_eq] <;> omega) | (simp only [bytesOf_size, packB_length, sel, inK, segsOf, widthL, S0.width, List.cons_append, List.nil_append, List.length_cons, List.length_nil, Int.one_mul, implies_true, imp_self, btL, blL, bsL, ne_eq] at *; omega) | (simp only [sel, bytesOf_size, packB_length, bsL, ne_eq] at *; simp_all <;> fail) | (simp [sel, segsOf, List.cons_append, List.nil_append, widthL, S0.width] <;> fail) | (simp only [ByteArray.size, List.size_toArray, List.length_cons, List.length_nil] <;> omega))) | fail) (fun h => ?_) (fun h => ?_) <;> (try (exact absurd h (by decide))) <;> (try simp only [p1, Int.reduceEq, blL, bsL, ne_eq] at h) <;> (try (exact absurd ‹_› ‹_›)) <;> (try (exfalso; omega)))
            | (with_reducible show SQ _ (Post _ _ _ _ _ _ _) .normal _ _); with_reducible refine rNormal ?_
            | (with_reducible show SQ _ (Post _ _ _ _ _ _ _) .ret _ _); refine rDone hX rfl (by first | (first | exact True.intro | (refine ⟨?_, ?_, ?_⟩ <;> omega) | ((repeat' first | refine And.intro ?_ ?_ | intro _) <;> first | exact True.intro | (refine ⟨?_, ?_, ?_⟩ <;> omega) | (with_reducible exact rfl) | (with_reducible assumption) | omega | (simp only [bytesOf_size, packB_length, sel, inK, segsOf, widthL, S0.width, List.cons_append, List.nil_append, List.length_cons, List.length_nil, Int.one_mul, implies_true, imp_self, btL, blL, bsL, ne_eq] <;> omega) | (simp only [bytesOf_size, packB_length, sel, inK, segsOf, widthL, S0.width, List.cons_append, List.nil_append, List.length_cons, List.length_nil, Int.one_mul, implies_true, imp_self, btL, blL, bsL, ne_eq] at *; omega) | (simp only [sel, bytesOf_size, packB_length, bsL, ne_eq] at *; simp_all <;> fail) | (simp [sel, segsOf, List.cons_append, List.nil_append, widthL, S0.width] <;> fail) | (simp only [ByteArray.size, List.size_toArray, List.length_cons, List.length_nil] <;> omega))) | fail) (EnvLe.refl _) (by first | (rfl) | fail) rfl rfl rfl (by first | (intro i e h; cases h; done) | (intro i e h; rw [look_cons] at h; split at h <;> cases h <;> rfl) | fail)
      · obtain rfl : i = m := by omega
        all_goals repeat' first
          | with_reducible refine rSeq ?_
          | with_reducible refine rThen ?_
          | with_reducible refine rBlock ?_
          | with_reducible refine rThenRet ?_
          | with_reducible refine rThenExit ?_
          | with_reducible refine rInRet ?_
          | with_reducible refine rInNormal ?_
          | with_reducible refine rInHit ?_
          | with_reducible refine rInMiss rfl ?_
          | with_reducible refine rRet ?_
          | with_reducible refine rExit ?_
          | with_reducible refine rSkip ?_
          | with_reducible refine rLabel ?_
          | with_reducible refine rScope ?_
          | with_reducible refine rNoGotoRet ?_
          | with_reducible refine rNoGotoNormal ?_
          | (with_reducible show SW _ (Code.region _ _ false) _ _ _); refine rRegC md0 hX rfl rfl rfl (by first | (first | exact True.intro | (refine ⟨?_, ?_, ?_⟩ <;> omega) | ((repeat' first | refine And.intro ?_ ?_ | intro _) <;> first | exact True.intro | (refine ⟨?_, ?_, ?_⟩ <;> omega) | (with_reducible exact rfl) | (with_reducible assumption) | omega | (simp only [bytesOf_size, packB_length, sel, inK, segsOf, widthL, S0.width, List.cons_append, List.nil_append, List.length_cons, List.length_nil, Int.one_mul, implies_true, imp_self, btL, blL, bsL, ne_eq] <;> omega) | (simp only [bytesOf_size, packB_length, sel, inK, segsOf, widthL, S0.width, List.cons_append, List.nil_append, List.length_cons, List.length_nil, Int.one_mul, implies_true, imp_self, btL, blL, bsL, ne_eq] at *; omega) | (simp only [sel, bytesOf_size, packB_length, bsL, ne_eq] at *; simp_all <;> fail) | (simp [sel, segsOf, List.cons_append, List.nil_append, widthL, S0.width] <;> fail) | (simp only [ByteArray.size, List.size_toArray, List.length_cons, List.length_nil] <;> omega))) | fail) ?_
          | (with_reducible show SW _ (Code.region _ _ true) _ _ _); refine rDrawC md0 hX mixed rfl rfl rfl rfl (by first | (first | exact True.intro | (refine ⟨?_, ?_, ?_⟩ <;> omega) | ((repeat' first | refine And.intro ?_ ?_ | intro _) <;> first | exact True.intro | (refine ⟨?_, ?_, ?_⟩ <;> omega) | (with_reducible exact rfl) | (with_reducible assumption) | omega | (simp only [bytesOf_size, packB_length, sel, inK, segsOf, widthL, S0.width, List.cons_append, List.nil_append, List.length_cons, List.length_nil, Int.one_mul, implies_true, imp_self, btL, blL, bsL, ne_eq] <;> omega) | (simp only [bytesOf_size, packB_length, sel, inK, segsOf, widthL, S0.width, List.cons_append, List.nil_append, List.length_cons, List.length_nil, Int.one_mul, implies_true, imp_self, btL, blL, bsL, ne_eq] at *; omega) | (simp only [sel, bytesOf_size, packB_length, bsL, ne_eq] at *; simp_all <;> fail) | (simp [sel, segsOf, List.cons_append, List.nil_append, widthL, S0.width] <;> fail) | (simp only [ByteArray.size, List.size_toArray, List.length_cons, List.length_nil] <;> omega))) | fail) ?_
          | (with_reducible show SW _ (Code.region _ _ true) _ _ _); refine rDrawSC md0 hX mixed rfl rfl rfl rfl rfl (by first | (first | exact True.intro | (refine ⟨?_, ?_, ?_⟩ <;> omega) | ((repeat' first | refine And.intro ?_ ?_ | intro _) <;> first | exact True.intro | (refine ⟨?_, ?_, ?_⟩ <;> omega) | (with_reducible exact rfl) | (with_reducible assumption) | omega | (simp only [bytesOf_size, packB_length, sel, inK, segsOf, widthL, S0.width, List.cons_append, List.nil_append, List.length_cons, List.length_nil, Int.one_mul, implies_true, imp_self, btL, blL, bsL, ne_eq] <;> omega) | (simp only [bytesOf_size, packB_length, sel, inK, segsOf, widthL, S0.width, List.cons_append, List.nil_append, List.length_cons, List.length_nil, Int.one_mul, implies_true, imp_self, btL, blL, bsL, ne_eq] at *; omega) | (simp only [sel, bytesOf_size, packB_length, bsL, ne_eq] at *; simp_all <;> fail) | (simp [sel, segsOf, List.cons_append, List.nil_append, widthL, S0.width] <;> fail) | (simp only [ByteArray.size, List.size_toArray, List.length_cons, List.length_nil] <;> omega))) | fail) ?_
          | (with_reducible show SW _ (Code.cond _ _ _) _ _ _); (refine rCond rfl rfl (by first | (first | exact True.intro | (refine ⟨?_, ?_, ?_⟩ <;> omega) | ((repeat' first | refine And.intro ?_ ?_ | intro _) <;> first | exact True.intro | (refine ⟨?_, ?_, ?_⟩ <;> omega) | (with_reducible exact rfl) | (with_reducible assumption) | omega | (simp only [bytesOf_size, packB_length, sel, inK, segsOf, widthL, S0.width, List.cons_append, List.nil_append, List.length_cons, List.length_nil, Int.one_mul, implies_true, imp_self, btL, blL, bsL, ne_eq] <;> omega) | (simp only [bytesOf_size, packB_length, sel, inK, segsOf, widthL, S0.width, List.cons_append, List.nil_append, List.length_cons, List.length_nil, Int.one_mul, implies_true, imp_self, btL, blL, bsL, ne_eq] at *; omega) | (simp only [sel, bytesOf_size, packB_length, bsL, ne_eq] at *; simp_all <;> fail) | (simp [sel, segsOf, List.cons_append, List.nil_append, widthL, S0.width] <;> fail) | (simp only [ByteArray.size, List.size_toArray, List.length_cons, List.length_nil] <;> omega))) | fail) (fun h => ?_) (fun h => ?_) <;> (try (exact absurd h (by decide))) <;> (try simp only [blL, bsL, ne_eq] at h) <;> (try (exact absurd ‹_› ‹_›)) <;> (try (exfalso; omega)))
          | (with_reducible show SQ _ (Post _ _ _ _ _ _ _) .normal _ _); with_reducible refine rNormal ?_
          | (with_reducible show SQ _ (Post _ _ _ _ _ _ _) .ret _ _); refine rDone hX rfl (by first | (first | exact True.intro | (refine ⟨?_, ?_, ?_⟩ <;> omega) | ((repeat' first | refine And.intro ?_ ?_ | intro _) <;> first | exact True.intro | (refine ⟨?_, ?_, ?_⟩ <;> omega) | (with_reducible exact rfl) | (with_reducible assumption) | omega | (simp only [bytesOf_size, packB_length, sel, inK, segsOf, widthL, S0.width, List.cons_append, List.nil_append, List.length_cons, List.length_nil, Int.one_mul, implies_true, imp_self, btL, blL, bsL, ne_eq] <;> omega) | (simp only [bytesOf_size, packB_length, sel, inK, segsOf, widthL, S0.width, List.cons_append, List.nil_append, List.length_cons, List.length_nil, Int.one_mul, implies_true, imp_self, btL, blL, bsL, ne_eq] at *; omega) | (simp only [sel, bytesOf_size, packB_length, bsL, ne_eq] at *; simp_all <;> fail) | (simp [sel, segsOf, List.cons_append, List.nil_append, widthL, S0.width] <;> fail) | (simp only [ByteArray.size, List.size_toArray, List.length_cons, List.length_nil] <;> omega))) | fail) (EnvLe.refl _) (by first | (rfl) | fail) rfl rfl rfl (by first | (intro i e h; cases h; done) | (intro i e h; rw [look_cons] at h; split at h <;> cases h <;> rfl) | fail)
        refine rLoop0 (fun k : {k : Nat // k ≤ (accL g i).length} => ⟨[(0, .v (.c (.sl 0 0 i 2))), (4, .v (.c (.sl 2 0 (accL g i).length 2))), (6, pt 3), (7, i64 (k.1 : Int))], [(3, rdE true 41 (bytesOf (packB (wb (accL g i)))) ((wb ((accL g i).take k.1)).length : Nat)), (2, .mem true 55 (some 2) (.rows (accL g i).length 2 (rowF (accL g i))))], 4⟩) (fun k => (accL g i).length - k.1) ⟨0, by omega⟩ (by (refine Le.mk ?_ ?_ rfl <;> (repeat' first | exact RLe.nil | refine RLe.cons rfl ?_ ?_ | exact BLe.nil | refine BLe.cons rfl ?_ ?_) <;> (first  | exact SVle.refl _ | exact Ele.refl _ | exact SVle.int (by first | omega | (dsimp only; omega) | fail) | exact SVle.bool (by rfl) | exact SVle.ints (by rfl) | exact Ele.mem (Ble.ints (by rfl))))) ?_
        rintro ⟨k, hk⟩
        change SW _ _ _ _ ⟨[(0, .v (.c (.sl 0 0 i 2))), (4, .v (.c (.sl 2 0 (accL g i).length 2))), (6, pt 3), (7, i64 (k : Int))], [(3, rdE true 41 (bytesOf (packB (wb (accL g i)))) ((wb ((accL g i).take k)).length : Nat)), (2, .mem true 55 (some 2) (.rows (accL g i).length 2 (rowF (accL g i))))], 4⟩
        have ek : ((k : Int)).toNat = k := by omega
        have hbt : k < (accL g i).length → _ := fun h => back_take (accL g i) (acc_fits g i) k h
        
        have hwk := wb_len _ (fun q hq => acc_fits g i q (List.mem_of_mem_take (i := k) hq))
        have htk : ((accL g i).take k).length ≤ k := by rw [List.length_take]; omega
        have hsz : ((bytesOf (packB (wb (accL g i)))).size : Int) = (((wb (accL g i)).length + 7) / 8 : Nat) := by rw [bytesOf_size, packB_length]
        have hle : (wb ((accL g i).take k)).length ≤ (wb (accL g i)).length := by
          conv => rhs; rw [← List.take_append_drop k (accL g i), wb_append, List.length_append]
          omega
        have hbe := back_end (wb (accL g i))
        have hpp := padN_in (wb (accL g i)).length
        have b1 : k < (accL g i).length → peekE (bytesOf (packB (wb (accL g i)))) ((wb ((accL g i).take k)).length : Nat) ((accL g i).getD ((k : Int)).toNat (0, 0)).2 = 0 := fun h => by rw [ek]; exact (hbt h).1
        have b2 : k < (accL g i).length → peekV (bytesOf (packB (wb (accL g i)))) ((wb ((accL g i).take k)).length : Nat) ((accL g i).getD ((k : Int)).toNat (0, 0)).2 = ((accL g i).getD ((k : Int)).toNat (0, 0)).1 := fun h => by rw [ek]; exact (hbt h).2.1
        have b3 : k < (accL g i).length → takeAt (bytesOf (packB (wb (accL g i)))) ((wb ((accL g i).take k)).length : Nat) ((accL g i).getD ((k : Int)).toNat (0, 0)).2 = ((wb ((accL g i).take (k + 1))).length : Nat) := fun h => by rw [ek]; exact (hbt h).2.2
        have hend : k = (accL g i).length → (wb ((accL g i).take k)).length = (wb (accL g i)).length := fun h => by rw [h, List.take_length]
        all_goals repeat' first
          | (with_reducible show SQ _ (Exit.then (Again _ _ _ _ _) _) .normal _ _); refine rAgain0 ⟨k + 1, by omega⟩ (by first | (first | omega | (dsimp only; omega) | fail) | fail) (by first | (refine Le.mk ?_ ?_ rfl <;> (repeat' first | exact RLe.nil | refine RLe.cons rfl ?_ ?_ | exact BLe.nil | refine BLe.cons rfl ?_ ?_) <;> (first | exact Ele.eq (congrArg (rdE true 41 _) (by (try dsimp only); rw [b3 (by omega)])) | exact SVle.refl _ | exact Ele.refl _ | exact SVle.int (by first | omega | (dsimp only; omega) | fail) | exact SVle.bool (by rfl) | exact SVle.ints (by rfl) | exact Ele.mem (Ble.ints (by rfl)))) | fail)
          | with_reducible refine rSeq ?_
          | with_reducible refine rThen ?_
          | with_reducible refine rBlock ?_
          | with_reducible refine rThenRet ?_
          | with_reducible refine rThenExit ?_
          | with_reducible refine rInRet ?_
          | with_reducible refine rInNormal ?_
          | with_reducible refine rInHit ?_
          | with_reducible refine rInMiss rfl ?_
          | with_reducible refine rRet ?_
          | with_reducible refine rExit ?_
          | with_reducible refine rSkip ?_
          | with_reducible refine rLabel ?_
          | with_reducible refine rScope ?_
          | with_reducible refine rNoGotoRet ?_
          | with_reducible refine rNoGotoNormal ?_
          | (with_reducible show SW _ (Code.region _ _ false) _ _ _); refine rRegC md0 hX rfl rfl rfl (by first | (first | exact True.intro | (refine ⟨?_, ?_, ?_⟩ <;> omega) | ((repeat' first | refine And.intro ?_ ?_ | intro _) <;> first | exact True.intro | (refine ⟨?_, ?_, ?_⟩ <;> omega) | (with_reducible exact rfl) | (with_reducible assumption) | omega | (rw [hbe.2.1]; omega) | (rw [hend (by omega)]; omega) | (rw [hend (by omega), hbe.2.1]; omega) | (simp only [bytesOf_size, packB_length, sel, inK, segsOf, widthL, S0.width, List.cons_append, List.nil_append, List.length_cons, List.length_nil, Int.one_mul, implies_true, imp_self, btL, blL, bsL, ne_eq] <;> omega) | (simp only [bytesOf_size, packB_length, sel, inK, segsOf, widthL, S0.width, List.cons_append, List.nil_append, List.length_cons, List.length_nil, Int.one_mul, implies_true, imp_self, btL, blL, bsL, ne_eq] at *; omega) | (simp only [sel, bytesOf_size, packB_length, bsL, ne_eq] at *; simp_all <;> fail) | (simp [sel, segsOf, List.cons_append, List.nil_append, widthL, S0.width] <;> fail) | (simp only [ByteArray.size, List.size_toArray, List.length_cons, List.length_nil] <;> omega))) | fail) ?_
          | (with_reducible show SW _ (Code.region _ _ true) _ _ _); refine rDrawC md0 hX mixed rfl rfl rfl rfl (by first | (first | exact True.intro | (refine ⟨?_, ?_, ?_⟩ <;> omega) | ((repeat' first | refine And.intro ?_ ?_ | intro _) <;> first | exact True.intro | (refine ⟨?_, ?_, ?_⟩ <;> omega) | (with_reducible exact rfl) | (with_reducible assumption) | omega | (rw [hbe.2.1]; omega) | (rw [hend (by omega)]; omega) | (rw [hend (by omega), hbe.2.1]; omega) | (simp only [bytesOf_size, packB_length, sel, inK, segsOf, widthL, S0.width, List.cons_append, List.nil_append, List.length_cons, List.length_nil, Int.one_mul, implies_true, imp_self, btL, blL, bsL, ne_eq] <;> omega) | (simp only [bytesOf_size, packB_length, sel, inK, segsOf, widthL, S0.width, List.cons_append, List.nil_append, List.length_cons, List.length_nil, Int.one_mul, implies_true, imp_self, btL, blL, bsL, ne_eq] at *; omega) | (simp only [sel, bytesOf_size, packB_length, bsL, ne_eq] at *; simp_all <;> fail) | (simp [sel, segsOf, List.cons_append, List.nil_append, widthL, S0.width] <;> fail) | (simp only [ByteArray.size, List.size_toArray, List.length_cons, List.length_nil] <;> omega))) | fail) ?_
          | (with_reducible show SW _ (Code.region _ _ true) _ _ _); refine rDrawSC md0 hX mixed rfl rfl rfl rfl rfl (by first | (first | exact True.intro | (refine ⟨?_, ?_, ?_⟩ <;> omega) | ((repeat' first | refine And.intro ?_ ?_ | intro _) <;> first | exact True.intro | (refine ⟨?_, ?_, ?_⟩ <;> omega) | (with_reducible exact rfl) | (with_reducible assumption) | omega | (rw [hbe.2.1]; omega) | (rw [hend (by omega)]; omega) | (rw [hend (by omega), hbe.2.1]; omega) | (simp only [bytesOf_size, packB_length, sel, inK, segsOf, widthL, S0.width, List.cons_append, List.nil_append, List.length_cons, List.length_nil, Int.one_mul, implies_true, imp_self, btL, blL, bsL, ne_eq] <;> omega) | (simp only [bytesOf_size, packB_length, sel, inK, segsOf, widthL, S0.width, List.cons_append, List.nil_append, List.length_cons, List.length_nil, Int.one_mul, implies_true, imp_self, btL, blL, bsL, ne_eq] at *; omega) | (simp only [sel, bytesOf_size, packB_length, bsL, ne_eq] at *; simp_all <;> fail) | (simp [sel, segsOf, List.cons_append, List.nil_append, widthL, S0.width] <;> fail) | (simp only [ByteArray.size, List.size_toArray, List.length_cons, List.length_nil] <;> omega))) | fail) ?_
          | (with_reducible show SW _ (Code.cond _ _ _) _ _ _); (refine rCond rfl rfl (by first | (first | exact True.intro | (refine ⟨?_, ?_, ?_⟩ <;> omega) | ((repeat' first | refine And.intro ?_ ?_ | intro _) <;> first | exact True.intro | (refine ⟨?_, ?_, ?_⟩ <;> omega) | (with_reducible exact rfl) | (with_reducible assumption) | omega | (rw [hbe.2.1]; omega) | (rw [hend (by omega)]; omega) | (rw [hend (by omega), hbe.2.1]; omega) | (simp only [bytesOf_size, packB_length, sel, inK, segsOf, widthL, S0.width, List.cons_append, List.nil_append, List.length_cons, List.length_nil, Int.one_mul, implies_true, imp_self, btL, blL, bsL, ne_eq] <;> omega) | (simp only [bytesOf_size, packB_length, sel, inK, segsOf, widthL, S0.width, List.cons_append, List.nil_append, List.length_cons, List.length_nil, Int.one_mul, implies_true, imp_self, btL, blL, bsL, ne_eq] at *; omega) | (simp only [sel, bytesOf_size, packB_length, bsL, ne_eq] at *; simp_all <;> fail) | (simp [sel, segsOf, List.cons_append, List.nil_append, widthL, S0.width] <;> fail) | (simp only [ByteArray.size, List.size_toArray, List.length_cons, List.length_nil] <;> omega))) | fail) (fun h => ?_) (fun h => ?_) <;> (try (exact absurd h (by decide))) <;> (try simp only [Decidable.not_not, blL, bsL, ne_eq] at h) <;> (try (exact absurd ‹_› ‹_›)) <;> (try (exfalso; omega)))
          | (with_reducible show SQ _ (Post _ _ _ _ _ _ _) .normal _ _); with_reducible refine rNormal ?_
          | (with_reducible show SQ _ (Post _ _ _ _ _ _ _) .ret _ _); refine rDone hX rfl (by first | (first | exact True.intro | (refine ⟨?_, ?_, ?_⟩ <;> omega) | ((repeat' first | refine And.intro ?_ ?_ | intro _) <;> first | exact True.intro | (refine ⟨?_, ?_, ?_⟩ <;> omega) | (with_reducible exact rfl) | (with_reducible assumption) | omega | (rw [hbe.2.1]; omega) | (rw [hend (by omega)]; omega) | (rw [hend (by omega), hbe.2.1]; omega) | (simp only [bytesOf_size, packB_length, sel, inK, segsOf, widthL, S0.width, List.cons_append, List.nil_append, List.length_cons, List.length_nil, Int.one_mul, implies_true, imp_self, btL, blL, bsL, ne_eq] <;> omega) | (simp only [bytesOf_size, packB_length, sel, inK, segsOf, widthL, S0.width, List.cons_append, List.nil_append, List.length_cons, List.length_nil, Int.one_mul, implies_true, imp_self, btL, blL, bsL, ne_eq] at *; omega) | (simp only [sel, bytesOf_size, packB_length, bsL, ne_eq] at *; simp_all <;> fail) | (simp [sel, segsOf, List.cons_append, List.nil_append, widthL, S0.width] <;> fail) | (simp only [ByteArray.size, List.size_toArray, List.length_cons, List.length_nil] <;> omega))) | fail) (EnvLe.refl _) (by first | (first | rfl | (exfalso; rcases h with h | h <;> first | exact h (b2 (by omega)) | exact h (b1 (by omega))) | (obtain ⟨f1, f2, f3⟩ := hbe; rw [hend (by omega), f1, f2, f3]; refine congrArg bo (Eq.symm ?_); simp; omega)) | fail) rfl rfl rfl (by first | (intro i e h; cases h; done) | (intro i e h; rw [look_cons] at h; split at h <;> cases h <;> rfl) | fail)
    · cases h
  · cases h

end Go.Proofs.Ytgbeiogbppaogaa
