/- The laws of loads and stores in blocks. -/
import Derived.Test.YtgbeiogbppaogaaX2
set_option linter.unusedVariables false
namespace Go.X

theorem blt_of {a b : Nat} (h : Nat.blt a b = false) : b ≤ a := by
  rcases Nat.lt_or_ge a b with g | g
  · rw [show Nat.blt a b = true from Nat.ble_eq_true_of_le g] at h; cases h
  · exact g

theorem dispK_eq {α : Type} (rel rst row stride idx : Nat) (k : Nat → α) : dispK rel rst row stride idx k = k (rel + rst * row + stride * idx) := by
  unfold dispK
  cases h1 : Nat.beq rel 0 <;> cases h2 : Nat.beq rst 0 <;> cases h3 : Nat.beq rst 1 <;> cases h4 : Nat.beq stride 0 <;> cases h5 : Nat.beq stride 1
  all_goals
    simp only
    try (have := Nat.eq_of_beq_eq_true h1; subst this)
    try (have := Nat.eq_of_beq_eq_true h2; subst this)
    try (have := Nat.eq_of_beq_eq_true h3; subst this)
    try (have := Nat.eq_of_beq_eq_true h4; subst this)
    try (have := Nat.eq_of_beq_eq_true h5; subst this)
    try simp

/-- The segment that a place lies in: what stands ahead of it, itself, what stands behind. -/
theorem seek_split : ∀ (l : List S0) (base : Nat) (s : S0) (rel : Nat), seek l base = some (s, rel) →
    ∃ a b, l = a ++ s :: b ∧ widthL a + rel = base ∧ ∀ x, put l base x = some (a ++ x :: b)
  | [], _, _, _, h => by simp [seek] at h
  | [s], base, s', rel, h => by
    simp only [seek, Option.some.injEq, Prod.mk.injEq] at h
    obtain ⟨rfl, rfl⟩ := h
    exact ⟨[], [], rfl, by simp [widthL], fun x => rfl⟩
  | s :: t :: r, base, s', rel, h => by
    simp only [seek] at h
    cases hb : Nat.blt base s.width with
    | true =>
      simp only [hb, Option.some.injEq, Prod.mk.injEq] at h
      obtain ⟨rfl, rfl⟩ := h
      exact ⟨[], t :: r, rfl, by simp [widthL], fun x => by simp [put, hb]⟩
    | false =>
      simp only [hb] at h
      obtain ⟨a, b, he, hw, hp⟩ := seek_split (t :: r) (base - s.width) s' rel h
      have hge : s.width ≤ base := blt_of hb
      exact ⟨s :: a, b, by rw [he]; rfl, by simp [widthL]; omega, fun x => by simp [put, hb, hp]⟩

theorem RelL.part {ε : Env} : ∀ {a b : List S0} {s : S0} {vs : List Value}, RelL ε (a ++ s :: b) vs →
    ∃ v1 v2 v3, vs = v1 ++ v2 ++ v3 ∧ RelL ε a v1 ∧ RelS ε s v2 ∧ RelL ε b v3
  | [], b, s, vs, ⟨v2, v3, e, h1, h2⟩ => ⟨[], v2, v3, by simpa using e, rfl, h1, h2⟩
  | x :: a, b, s, vs, ⟨u, v, e, h1, h2⟩ => by
    obtain ⟨v1, v2, v3, e', g1, g2, g3⟩ := RelL.part (a := a) h2
    exact ⟨u ++ v1, v2, v3, by rw [e, e']; simp, ⟨u, v1, rfl, h1, g1⟩, g2, g3⟩

theorem RelL.whole {ε : Env} {a b : List S0} {s : S0} {v1 v2 v3 : List Value} (h1 : RelL ε a v1) (h2 : RelS ε s v2) (h3 : RelL ε b v3) : RelL ε (a ++ s :: b) (v1 ++ v2 ++ v3) := by
  rw [List.append_assoc]
  exact RelL.append h1 ⟨v2, v3, rfl, h2, h3⟩

theorem getD_lt {k : IntKind} {xs : List Int} {j n : Nat} (hl : xs.length = n) (hj : j < n) : (xs.map (Value.int k))[j]? = some (.int k (xs.getD j 0)) := by
  simp [List.getD, List.getElem?_eq_getElem (show j < xs.length by omega)]

theorem loadS_rel {ε : Env} {s : S0} {j : Nat} {p : Prop} {c : C} {vs : List Value} (h : loadS s j = some (p, c)) (hp : p) (hr : RelS ε s vs) : ∃ v, vs[j]? = some v ∧ RelC ε c v := by
  cases s with
  | ints n k xs =>
    simp only [loadS, Option.some.injEq, Prod.mk.injEq] at h
    obtain ⟨rfl, rfl⟩ := h
    obtain ⟨h1, rfl, h3⟩ := hr
    refine ⟨_, getD_lt h1 hp, rfl, ?_⟩
    have hlt : j < xs.length := by omega
    simp only [List.getD, List.getElem?_eq_getElem hlt, Option.getD_some]
    exact h3 _ (List.getElem_mem _)
  | cs l =>
    simp only [loadS] at h
    cases hn : nth l j with
    | none => simp [hn] at h
    | some d =>
      simp only [hn, Option.some.injEq, Prod.mk.injEq] at h
      obtain ⟨_, rfl⟩ := h
      exact All2.nth hr hn

/-- The cells from a place on are turned. -/
def wr (vs : List Value) (off : Nat) (cs : List Value) : List Value := vs.take off ++ cs ++ vs.drop (off + cs.length)

theorem wr_mid {v1 v2 v3 : List Value} {off : Nat} {cs : List Value} (h : off + cs.length ≤ v2.length) : wr (v1 ++ v2 ++ v3) (v1.length + off) cs = v1 ++ wr v2 off cs ++ v3 := by
  unfold wr
  rw [List.append_assoc v1 v2 v3, List.take_append, List.take_of_length_le (by omega : v1.length ≤ v1.length + off), show v1.length + off - v1.length = off by omega,
    List.take_append_of_le_length (by omega), List.drop_append, List.drop_of_length_le (by omega : v1.length ≤ v1.length + off + cs.length), show v1.length + off + cs.length - v1.length = off + cs.length by omega,
    List.drop_append_of_le_length h]
  simp

theorem wr_set {vs : List Value} {off : Nat} {x : Value} (h : off < vs.length) : wr vs off [x] = vs.set off x := by
  unfold wr
  rw [List.set_eq_take_append_cons_drop, if_pos h]
  simp

theorem wr_length {vs : List Value} {off : Nat} {cs : List Value} (h : off + cs.length ≤ vs.length) : (wr vs off cs).length = vs.length := by
  unfold wr; simp; omega

theorem storeS_rel {ε : Env} {s s' : S0} {j : Nat} {p : Prop} {c : C} {vs : List Value} {v : Value} (h : storeS s j c = some (p, s')) (hp : p) (hr : RelS ε s vs) (hc : RelC ε c v) : j < vs.length ∧ RelS ε s' (wr vs j [v]) := by
  cases s with
  | ints n k xs =>
    cases c with
    | int k' x =>
      simp only [storeS, Option.some.injEq, Prod.mk.injEq] at h
      obtain ⟨rfl, rfl⟩ := h
      obtain ⟨rfl, hj⟩ := hp
      obtain ⟨h1, rfl, h3⟩ := hr
      obtain ⟨rfl, hk⟩ := hc
      have hlt : j < (xs.map (Value.int k')).length := by simp; omega
      refine ⟨hlt, by simp [h1], by rw [wr_set hlt, List.map_set], fun y hy => ?_⟩
      rcases List.mem_or_eq_of_mem_set hy with hy | rfl
      · exact h3 _ hy
      · exact hk
    | _ => simp [storeS] at h
  | cs l =>
    have h' : (match setNth l j c with | some r => some (True, S0.cs r) | none => none) = some (p, s') := by cases c <;> exact h
    cases hn : setNth l j c with
    | none => simp [hn] at h'
    | some r =>
      simp only [hn, Option.some.injEq, Prod.mk.injEq] at h'
      obtain ⟨_, rfl⟩ := h'
      obtain ⟨g1, g2⟩ := All2.setNth hr hn hc
      exact ⟨g1, by rw [wr_set g1]; exact g2⟩

/-- What a load tells of a block's cells. -/
def Told (ε : Env) (vs : List Value) (off : Nat) (agg : Bool) (size : Nat) (v : V1) : Prop :=
  if agg then off + size ≤ vs.length ∧ Rel1 ε v (.agg ((vs.drop off).take size).toArray) else ∃ x, vs[off]? = some x ∧ Rel1 ε v x

theorem loadA_rel {ε : Env} {l : List S0} {base rst row stride idx size : Nat} {p : Prop} {t : List S0} {vs : List Value} (h : loadA l base rst row stride idx size = some (p, t)) (hp : p) (hr : RelL ε l vs) :
    base + (rst * row + stride * idx) + size ≤ vs.length ∧ RelL ε t ((vs.drop (base + (rst * row + stride * idx))).take size) := by
  unfold loadA at h
  cases hs : seek l base with
  | none => simp [hs] at h
  | some sr =>
    obtain ⟨s, rel⟩ := sr
    obtain ⟨a, b, he, hw, _⟩ := seek_split l base s rel hs
    have hlen := RelL.length hr
    have whole : (match takeL l (base + rst * row + stride * idx) size with | some t => some (base + rst * row + stride * idx + size ≤ widthL l, t) | none => none) = some (p, t) →
        base + (rst * row + stride * idx) + size ≤ vs.length ∧ RelL ε t ((vs.drop (base + (rst * row + stride * idx))).take size) := by
      intro h
      cases ht : takeL l (base + rst * row + stride * idx) size with
      | none => simp [ht] at h
      | some u =>
        simp only [ht, Option.some.injEq, Prod.mk.injEq] at h
        obtain ⟨rfl, rfl⟩ := h
        rw [Nat.add_assoc base] at hp ht
        exact ⟨by omega, takeL_rel _ _ _ _ _ ht hr (by omega)⟩
    cases s with
    | cs c =>
      simp only [hs, dispK_eq] at h
      exact whole h
    | ints n k xs =>
      simp only [hs, dispK_eq] at h
      cases hle : Nat.ble size n with
      | false => simp only [hle] at h; exact whole h
      | true =>
        simp only [hle] at h
        have hle := Nat.le_of_ble_eq_true hle
        subst he
        obtain ⟨v1, v2, v3, rfl, g1, g2, g3⟩ := RelL.part hr
        have hl1 := RelL.length g1
        have hl2 : v2.length = n := RelS.length g2
        have key : ∀ j, j + size ≤ n → widthL a + j + size ≤ (v1 ++ v2 ++ v3).length ∧ ((v1 ++ v2 ++ v3).drop (widthL a + j)).take size = (v2.drop j).take size := by
          intro j hj
          refine ⟨by simp; omega, ?_⟩
          rw [List.append_assoc, List.drop_append, List.drop_of_length_le (by omega : v1.length ≤ widthL a + j), show widthL a + j - v1.length = j by omega, List.nil_append, List.drop_append_of_le_length (by omega), List.take_append_of_le_length (by simp; omega)]
        cases heq : Nat.beq size n with
        | true =>
          simp only [heq, Option.some.injEq, Prod.mk.injEq] at h
          obtain ⟨rfl, rfl⟩ := h
          have heq := Nat.eq_of_beq_eq_true heq
          subst heq
          have hz : rst * row + stride * idx = 0 ∧ rel = 0 := by omega
          have hb : base + (rst * row + stride * idx) = widthL a + 0 := by omega
          rw [hb]
          obtain ⟨k1, k2⟩ := key 0 (by omega)
          refine ⟨k1, ?_⟩
          rw [k2, List.drop_zero, List.take_of_length_le (by omega)]
          exact RelL.single g2
        | false =>
          simp only [heq, Option.some.injEq, Prod.mk.injEq] at h
          obtain ⟨rfl, rfl⟩ := h
          have hb : base + (rst * row + stride * idx) = widthL a + (rel + rst * row + stride * idx) := by omega
          rw [hb]
          obtain ⟨k1, k2⟩ := key _ hp
          refine ⟨k1, ?_⟩
          rw [k2]
          exact RelL.single (RelS.ints_sub g2 _ _ hp)

theorem loadF_rel {ε : Env} {l : List S0} {agg : Bool} {size base rst row stride idx : Nat} {p : Prop} {v : V1} {vs : List Value} (h : loadF l agg size base rst row stride idx = some (p, v)) (hp : p) (hr : RelL ε l vs) :
    Told ε vs (base + (rst * row + stride * idx)) agg size v := by
  unfold loadF at h
  cases agg with
  | true =>
    simp only at h
    cases ha : loadA l base rst row stride idx size with
    | none => simp [ha] at h
    | some q =>
      obtain ⟨p', t⟩ := q
      simp only [ha, Option.some.injEq, Prod.mk.injEq] at h
      obtain ⟨rfl, rfl⟩ := h
      obtain ⟨h1, h2⟩ := loadA_rel ha hp hr
      exact ⟨h1, _, rfl, h2⟩
  | false =>
    simp only at h
    cases hs : seek l base with
    | none => simp [hs] at h
    | some sr =>
      obtain ⟨s, rel⟩ := sr
      simp only [hs, dispK_eq] at h
      cases hl : loadS s (rel + rst * row + stride * idx) with
      | none => simp [hl] at h
      | some q =>
        obtain ⟨p', c⟩ := q
        simp only [hl, Option.some.injEq, Prod.mk.injEq] at h
        obtain ⟨rfl, rfl⟩ := h
        obtain ⟨a, b, he, hw, _⟩ := seek_split l base s rel hs
        subst he
        obtain ⟨v1, v2, v3, rfl, g1, g2, g3⟩ := RelL.part hr
        obtain ⟨x, hx, hc⟩ := loadS_rel hl hp g2
        have hl1 := RelL.length g1
        refine ⟨x, ?_, hc⟩
        have hlt := (List.getElem?_eq_some_iff.1 hx).1
        rw [List.append_assoc, List.getElem?_append_right (by omega), show base + (rst * row + stride * idx) - v1.length = rel + rst * row + stride * idx by omega, List.getElem?_append_left hlt]
        exact hx

theorem loadB_rel {ε : Env} {b : Body} {agg : Bool} {size rst row base stride idx : Nat} {p : Prop} {v : V1} {vs : List Value} (h : loadB b agg size rst row base stride idx = some (p, v)) (hp : p) (hr : RelB ε b vs) :
    Told ε vs (base + rst * row + stride * idx) agg size v := by
  cases b with
  | flat l =>
    have := loadF_rel h hp hr
    rwa [← Nat.add_assoc] at this
  | rows n sz f =>
    simp only [loadB] at h
    cases hb : Nat.beq rst sz with
    | false => simp [hb] at h
    | true =>
      simp only [hb] at h
      have hb := Nat.eq_of_beq_eq_true hb
      subst hb
      cases hl : loadF (f row) agg size base 0 0 stride idx with
      | none => simp [hl] at h
      | some q =>
        obtain ⟨p', c⟩ := q
        simp only [hl, Option.some.injEq, Prod.mk.injEq] at h
        obtain ⟨rfl, rfl⟩ := h
        obtain ⟨hrow, hp'⟩ := hp
        obtain ⟨hlen, hrs⟩ := hr
        have hT := loadF_rel hl hp' (hrs row hrow)
        have hfit : row * rst + rst ≤ vs.length := by rw [hlen, ← Nat.succ_mul]; exact Nat.mul_le_mul_right _ hrow
        simp only [Nat.zero_mul, Nat.zero_add] at hT
        have hmul : rst * row = row * rst := Nat.mul_comm _ _
        unfold Told at hT ⊢
        cases agg with
        | true =>
          simp only [if_true] at hT ⊢
          obtain ⟨h1, h2⟩ := hT
          simp only [List.length_take, List.length_drop] at h1
          refine ⟨by omega, ?_⟩
          rw [List.drop_take, List.drop_drop, List.take_take, show min size (rst - (base + stride * idx)) = size by omega, show row * rst + (base + stride * idx) = base + rst * row + stride * idx by omega] at h2
          exact h2
        | false =>
          simp only [Bool.false_eq_true, if_false] at hT ⊢
          obtain ⟨x, hx, hc⟩ := hT
          refine ⟨x, ?_, hc⟩
          rw [List.getElem?_take, List.getElem?_drop] at hx
          split at hx
          · rw [show base + rst * row + stride * idx = row * rst + (base + stride * idx) by omega]; exact hx
          · cases hx

/-! ### stores -/
/-- What a store leaves. -/
def Left (ε : Env) (vs : List Value) (off : Nat) (cs : List Value) (l : List S0) : Prop := off + cs.length ≤ vs.length ∧ RelL ε l (wr vs off cs)

theorem splice_rel {ε : Env} {l v r : List S0} {b size : Nat} {p : Prop} {vs cs : List Value} (h : splice l b size v = some (p, r)) (hp : p) (hr : RelL ε l vs) (hv : RelL ε v cs) (hs : cs.length = size) : Left ε vs b cs r := by
  unfold splice at h
  have hlen := RelL.length hr
  cases h1 : takeL l 0 b with
  | none => simp [h1] at h
  | some pr =>
    cases h2 : takeL l (b + size) (widthL l - (b + size)) with
    | none => simp [h1, h2] at h
    | some q =>
      cases h3 : appL v q with
      | none => simp [h1, h2, h3] at h
      | some vq =>
        cases h4 : appL pr vq with
        | none => simp [h1, h2, h3, h4] at h
        | some r' =>
          simp only [h1, h2, h3, h4, Option.some.injEq, Prod.mk.injEq] at h
          obtain ⟨rfl, rfl⟩ := h
          rw [appL_eq h4, appL_eq h3]
          refine ⟨by omega, ?_⟩
          have g1 := takeL_rel l 0 b pr vs h1 hr (by omega)
          have g2 := takeL_rel l (b + size) _ q vs h2 hr (by omega)
          rw [List.drop_zero] at g1
          rw [List.take_of_length_le (by simp; omega)] at g2
          unfold wr
          rw [List.append_assoc, hs]
          exact RelL.append g1 (RelL.append hv g2)

theorem RelS.ints_wr {ε : Env} {n m : Nat} {k : IntKind} {xs ys : List Int} {vs cs : List Value} (h : RelS ε (.ints n k xs) vs) (h' : RelS ε (.ints m k ys) cs) (j : Nat) (hj : j + m ≤ n) : RelS ε (.ints n k (xs.take j ++ ys ++ xs.drop (j + m))) (wr vs j cs) := by
  obtain ⟨h1, rfl, h3⟩ := h
  obtain ⟨g1, rfl, g3⟩ := h'
  refine ⟨by simp; omega, by simp [wr, List.map_take, List.map_drop, g1], fun x hx => ?_⟩
  rcases List.mem_append.1 hx with hx | hx
  · rcases List.mem_append.1 hx with hx | hx
    · exact h3 _ (List.mem_of_mem_take hx)
    · exact g3 _ hx
  · exact h3 _ (List.mem_of_mem_drop hx)

theorem storeA_rel {ε : Env} {l v r : List S0} {base rst row stride idx size : Nat} {p : Prop} {vs cs : List Value} (h : storeA l base rst row stride idx size v = some (p, r)) (hp : p) (hr : RelL ε l vs) (hv : RelL ε v cs) (hs : cs.length = size) :
    Left ε vs (base + (rst * row + stride * idx)) cs r := by
  have hlen := RelL.length hr
  have hvl := RelL.length hv
  unfold storeA at h
  cases hw : Nat.beq size (widthL l) with
  | true =>
    simp only [hw, dispK_eq, Option.some.injEq, Prod.mk.injEq] at h
    have hw := Nat.eq_of_beq_eq_true hw
    obtain ⟨rfl, rfl⟩ := h
    have hz : base + (rst * row + stride * idx) = 0 := by omega
    rw [hz]
    refine ⟨by omega, ?_⟩
    unfold wr
    rw [List.take_zero, List.nil_append, List.drop_of_length_le (by omega), List.append_nil]
    exact hv
  | false =>
    simp only [hw] at h
    have hsp : ∀ h' : splice l (base + rst * row + stride * idx) size v = some (p, r), Left ε vs (base + (rst * row + stride * idx)) cs r := by
      intro h'
      rw [Nat.add_assoc] at h'
      exact splice_rel h' hp hr hv hs
    cases hk : seek l base with
    | none =>
      simp only [hk, dispK_eq] at h
      exact hsp h
    | some sr =>
      obtain ⟨s, rel⟩ := sr
      by_cases hc : ∃ n k xs m k' ys, s = .ints n k xs ∧ v = [.ints m k' ys]
      · obtain ⟨n, k, xs, m, k', ys, rfl, rfl⟩ := hc
        simp only [hk] at h
        obtain ⟨a, b, he, hwa, hput⟩ := seek_split l base _ rel hk
        subst he
        obtain ⟨v1, v2, v3, rfl, g1, g2, g3⟩ := RelL.part hr
        have hl1 := RelL.length g1
        have hl2 : v2.length = n := RelS.length g2
        obtain ⟨u1, u2, rfl, k1, k2⟩ := hv
        simp only [RelL] at k2
        subst k2
        have hm : u1.length = m := RelS.length k1
        rw [List.append_nil]
        cases hmn : Nat.beq m n with
        | true =>
          simp only [hmn, hput, dispK_eq, Option.some.injEq, Prod.mk.injEq] at h
          obtain ⟨rfl, rfl⟩ := h
          obtain ⟨rfl, hz⟩ := hp
          have hmn := Nat.eq_of_beq_eq_true hmn
          have hb : base + (rst * row + stride * idx) = v1.length + 0 := by omega
          rw [hb]
          refine ⟨by simp; omega, ?_⟩
          rw [wr_mid (by omega)]
          refine RelL.whole g1 ?_ g3
          unfold wr
          rw [List.take_zero, List.nil_append, List.drop_of_length_le (by omega), List.append_nil]
          subst hmn
          exact k1
        | false =>
          simp only [hmn, hput, dispK_eq, Option.some.injEq, Prod.mk.injEq] at h
          obtain ⟨rfl, rfl⟩ := h
          obtain ⟨rfl, hz⟩ := hp
          have hb : base + (rst * row + stride * idx) = v1.length + (rel + rst * row + stride * idx) := by omega
          rw [hb]
          refine ⟨by simp; omega, ?_⟩
          rw [wr_mid (by omega)]
          exact RelL.whole g1 (RelS.ints_wr g2 k1 _ hz) g3
      · have h' : dispK base rst row stride idx (fun j => splice l j size v) = some (p, r) := by
          rw [hk] at h
          revert h hc
          cases s with
          | cs c => intro h hc; cases v <;> exact h
          | ints n k xs =>
            cases v with
            | nil => intro h hc; exact h
            | cons x t =>
              cases x with
              | cs c => intro h hc; exact h
              | ints m k' ys =>
                cases t with
                | nil => intro h hc; exact absurd ⟨n, k, xs, m, k', ys, rfl, rfl⟩ hc
                | cons _ _ => intro h hc; exact h
        rw [dispK_eq] at h'
        exact hsp h'

theorem storeF_rel {ε : Env} {l r : List S0} {size base rst row stride idx : Nat} {v : V1} {p : Prop} {vs : List Value} {x : Value} (h : storeF l size base rst row stride idx v = some (p, r)) (hp : p) (hr : RelL ε l vs) (hv : Rel1 ε v x) (hs : x.cells.toList.length = size) :
    Left ε vs (base + (rst * row + stride * idx)) x.cells.toList r := by
  cases v with
  | agg t =>
    obtain ⟨cs, rfl, hcs⟩ := hv
    simp only [storeF] at h
    cases hw : Nat.beq (widthL t) size with
    | false => simp [hw] at h
    | true =>
      simp only [hw] at h
      exact storeA_rel h hp hr hcs (by simpa [Value.cells] using hs)
  | c c =>
    have hx : x.cells.toList = [x] := by
      have := RelC.one hv
      cases x <;> simp_all [Value.cells, Value.oneCell']
    rw [hx] at hs ⊢
    simp only [List.length_singleton] at hs
    subst hs
    simp only [storeF] at h
    cases hk : seek l base with
    | none => simp [hk] at h
    | some sr =>
      obtain ⟨s, rel⟩ := sr
      simp only [hk, dispK_eq] at h
      cases hst : storeS s (rel + rst * row + stride * idx) c with
      | none => simp [hst] at h
      | some q =>
        obtain ⟨p', s'⟩ := q
        obtain ⟨a, b, he, hwa, hput⟩ := seek_split l base _ rel hk
        simp only [hst, hput, Option.some.injEq, Prod.mk.injEq] at h
        obtain ⟨rfl, rfl⟩ := h
        subst he
        obtain ⟨v1, v2, v3, rfl, g1, g2, g3⟩ := RelL.part hr
        have hl1 := RelL.length g1
        obtain ⟨k1, k2⟩ := storeS_rel hst hp g2 hv
        have hb : base + (rst * row + stride * idx) = v1.length + (rel + rst * row + stride * idx) := by omega
        rw [hb]
        refine ⟨by simp; omega, ?_⟩
        rw [wr_mid (by simp; omega)]
        exact RelL.whole g1 k2 g3

theorem storeB_rel {ε : Env} {b r : Body} {size rst row base stride idx : Nat} {v : V1} {p : Prop} {vs : List Value} {x : Value} (h : storeB b size rst row base stride idx v = some (p, r)) (hp : p) (hr : RelB ε b vs) (hv : Rel1 ε v x) (hs : x.cells.toList.length = size) :
    base + rst * row + stride * idx + size ≤ vs.length ∧ RelB ε r (wr vs (base + rst * row + stride * idx) x.cells.toList) := by
  cases b with
  | flat l =>
    simp only [storeB] at h
    cases hst : storeF l size base rst row stride idx v with
    | none => simp [hst] at h
    | some q =>
      obtain ⟨p', t⟩ := q
      simp only [hst, Option.some.injEq, Prod.mk.injEq] at h
      obtain ⟨rfl, rfl⟩ := h
      obtain ⟨h1, h2⟩ := storeF_rel hst hp hr hv hs
      rw [← Nat.add_assoc] at h1 h2
      exact ⟨by omega, h2⟩
  | rows n sz f =>
    simp only [storeB] at h
    cases hb : Nat.beq rst sz with
    | false => simp [hb] at h
    | true =>
      simp only [hb] at h
      have hb := Nat.eq_of_beq_eq_true hb
      subst hb
      cases hst : storeF (f row) size base 0 0 stride idx v with
      | none => simp [hst] at h
      | some q =>
        obtain ⟨p', t⟩ := q
        simp only [hst, Option.some.injEq, Prod.mk.injEq] at h
        obtain ⟨rfl, rfl⟩ := h
        obtain ⟨hrow, hp'⟩ := hp
        obtain ⟨hlen, hrs⟩ := hr
        obtain ⟨h1, h2⟩ := storeF_rel hst hp' (hrs row hrow) hv hs
        have hfit : row * rst + rst ≤ vs.length := by rw [hlen, ← Nat.succ_mul]; exact Nat.mul_le_mul_right _ hrow
        simp only [Nat.zero_mul, Nat.zero_add] at h1 h2
        have hmul : rst * row = row * rst := Nat.mul_comm _ _
        have hoff : base + rst * row + stride * idx = row * rst + (base + stride * idx) := by omega
        rw [List.length_take, List.length_drop] at h1
        rw [hoff]
        refine ⟨by omega, by rw [wr_length (by omega)]; exact hlen, fun i hi => ?_⟩
        have hfi : i * rst + rst ≤ vs.length := by rw [hlen, ← Nat.succ_mul]; exact Nat.mul_le_mul_right _ hi
        unfold upF
        by_cases hir : i = row
        · subst hir
          rw [show Nat.beq i i = true from Nat.beq_refl i, cond_true]
          have e : ((wr vs (i * rst + (base + stride * idx)) x.cells.toList).drop (i * rst)).take rst = wr ((vs.drop (i * rst)).take rst) (base + stride * idx) x.cells.toList := by
            apply List.ext_getElem?
            intro j
            unfold wr
            simp only [List.getElem?_take, List.getElem?_drop, List.getElem?_append, List.length_append, List.length_take, List.length_drop]
            by_cases hj : j < rst
            · rw [if_pos hj]
              rcases Nat.lt_or_ge j (base + stride * idx) with c1 | c1
              · repeat rw [if_pos (by omega)]
              · rcases Nat.lt_or_ge j (base + stride * idx + x.cells.toList.length) with c2 | c2
                · rw [if_pos (by omega), if_neg (by omega), if_pos (by omega), if_neg (by omega)]
                  congr 1
                  omega
                · rw [if_neg (by omega), if_neg (by omega), if_pos (by omega)]
                  congr 1
                  omega
            · rw [if_neg hj, if_neg (by omega), if_neg (by omega)]
          rw [e]
          exact h2
        · rw [show Nat.beq i row = false from by cases hq : Nat.beq i row with | false => rfl | true => exact absurd (Nat.eq_of_beq_eq_true hq) hir, cond_false]
          have e : ((wr vs (row * rst + (base + stride * idx)) x.cells.toList).drop (i * rst)).take rst = (vs.drop (i * rst)).take rst := by
            apply List.ext_getElem?
            intro j
            unfold wr
            simp only [List.getElem?_take, List.getElem?_drop, List.getElem?_append, List.length_append, List.length_take]
            by_cases hj : j < rst
            · rw [if_pos hj, if_pos hj]
              rcases Nat.lt_or_gt_of_ne hir with c | c
              · have : i * rst + rst ≤ row * rst := by rw [← Nat.succ_mul]; exact Nat.mul_le_mul_right _ c
                rw [if_pos (by omega), if_pos (by omega), if_pos (by omega)]
              · have : row * rst + rst ≤ i * rst := by rw [← Nat.succ_mul]; exact Nat.mul_le_mul_right _ c
                rw [if_neg (by omega)]
                congr 1
                omega
            · rw [if_neg hj, if_neg hj]
          rw [e]
          exact hrs i hi

def width1 : V1 → Nat
  | .c _ => 1
  | .agg l => widthL l

theorem storeF_size {l r : List S0} {size base rst row stride idx : Nat} {v : V1} {p : Prop} (h : storeF l size base rst row stride idx v = some (p, r)) : width1 v = size := by
  cases v with
  | agg t =>
    simp only [storeF] at h
    cases hq : Nat.beq (widthL t) size with
    | true => exact Nat.eq_of_beq_eq_true hq
    | false => simp [hq] at h
  | c c =>
    simp only [storeF] at h
    cases hq : Nat.beq size 1 with
    | true => exact (Nat.eq_of_beq_eq_true hq).symm
    | false => simp [hq] at h

theorem storeB_size {b r : Body} {size rst row base stride idx : Nat} {v : V1} {p : Prop} (h : storeB b size rst row base stride idx v = some (p, r)) : width1 v = size := by
  cases b with
  | flat l =>
    simp only [storeB] at h
    cases hst : storeF l size base rst row stride idx v with
    | none => simp [hst] at h
    | some q => exact storeF_size hst
  | rows n sz f =>
    simp only [storeB] at h
    cases hb : Nat.beq rst sz with
    | false => simp [hb] at h
    | true =>
      simp only [hb] at h
      cases hst : storeF (f row) size base 0 0 stride idx v with
      | none => simp [hst] at h
      | some q => exact storeF_size hst

theorem Rel1.width {ε : Env} {x : V1} {v : Value} (h : Rel1 ε x v) : v.cells.toList.length = width1 x := by
  cases x with
  | c c =>
    have := RelC.one h
    have hv : v.cells.toList = [v] := by cases v <;> simp_all [Value.cells, Value.oneCell']
    rw [hv]
    rfl
  | agg l =>
    obtain ⟨vs, rfl, hv⟩ := h
    simpa [Value.cells, width1] using RelL.length hv


end Go.X
