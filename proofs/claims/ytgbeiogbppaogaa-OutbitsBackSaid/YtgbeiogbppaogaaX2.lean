/- What registers and entries say of values and memory; the laws of segments. -/
import Derived.Test.YtgbeiogbppaogaaX1
set_option linter.unusedVariables false
namespace Go.X

def All2 {α β : Type} (R : α → β → Prop) : List α → List β → Prop
  | [], [] => True
  | a :: as, b :: bs => R a b ∧ All2 R as bs
  | _, _ => False

section
variable {α β : Type} {R : α → β → Prop}
theorem All2.length : ∀ {as : List α} {bs : List β}, All2 R as bs → as.length = bs.length
  | [], [], _ => rfl
  | _ :: _, _ :: _, h => by simp [All2.length h.2]
theorem All2.imp {R' : α → β → Prop} (hi : ∀ a b, R a b → R' a b) : ∀ {as : List α} {bs : List β}, All2 R as bs → All2 R' as bs
  | [], [], _ => trivial
  | _ :: _, _ :: _, h => ⟨hi _ _ h.1, All2.imp hi h.2⟩
theorem All2.nth : ∀ {as : List α} {bs : List β} {j : Nat} {a : α}, All2 R as bs → nth as j = some a → ∃ b, bs[j]? = some b ∧ R a b
  | _ :: _, b :: _, 0, _, h, e => by simp [X.nth] at e; subst e; exact ⟨b, rfl, h.1⟩
  | _ :: _, _ :: _, j + 1, _, h, e => by
    obtain ⟨b, hb, hr⟩ := All2.nth (j := j) h.2 e
    exact ⟨b, by simpa using hb, hr⟩
theorem All2.setNth : ∀ {as as' : List α} {bs : List β} {j : Nat} {a : α} {b : β}, All2 R as bs → setNth as j a = some as' → R a b → j < bs.length ∧ All2 R as' (bs.set j b)
  | _ :: _, _, _ :: _, 0, _, _, h, e, hr => by simp [X.setNth] at e; subst e; exact ⟨by simp, hr, h.2⟩
  | x :: t, _, y :: u, j + 1, a, b, h, e, hr => by
    simp only [X.setNth] at e
    cases hs : X.setNth t j a with
    | none => simp [hs] at e
    | some r =>
      simp [hs] at e
      subst e
      obtain ⟨h1, h2⟩ := All2.setNth h.2 hs hr
      exact ⟨by simp; omega, h.1, by simpa using h2⟩
theorem All2.append : ∀ {as as' : List α} {bs bs' : List β}, All2 R as bs → All2 R as' bs' → All2 R (as ++ as') (bs ++ bs')
  | [], _, [], _, _, h' => h'
  | _ :: _, _, _ :: _, _, h, h' => ⟨h.1, All2.append h.2 h'⟩
theorem All2.dropC {R : C → β → Prop} : ∀ {as as' : List C} {bs : List β} {n : Nat}, All2 R as bs → dropC as n = some as' → All2 R as' (bs.drop n)
  | _, _, _, 0, h, e => by simp [X.dropC] at e; subst e; simpa using h
  | [], _, _, n + 1, _, e => by simp [X.dropC] at e
  | _ :: t, _, _ :: u, n + 1, h, e => by simp only [X.dropC] at e; simpa using All2.dropC h.2 e
theorem All2.takeC {R : C → β → Prop} : ∀ {as as' : List C} {bs : List β} {n : Nat}, All2 R as bs → takeC as n = some as' → All2 R as' (bs.take n) ∧ n ≤ bs.length
  | _, _, _, 0, h, e => by simp [X.takeC] at e; subst e; exact ⟨by simp [All2], by omega⟩
  | [], _, _, n + 1, _, e => by simp [X.takeC] at e
  | x :: t, _, y :: u, n + 1, h, e => by
    simp only [X.takeC] at e
    cases hs : X.takeC t n with
    | none => simp [hs] at e
    | some r =>
      simp [hs] at e
      subst e
      obtain ⟨h1, h2⟩ := All2.takeC h.2 hs
      exact ⟨by simpa [All2] using ⟨h.1, h1⟩, by simp; omega⟩
theorem All2.mapl {γ : Type} {g : γ → α} : ∀ {cs : List γ} {bs : List β}, All2 (fun c b => R (g c) b) cs bs → All2 R (cs.map g) bs
  | [], [], _ => trivial
  | _ :: _, _ :: _, h => ⟨h.1, All2.mapl h.2⟩
theorem All2.mem {Q : β → Prop} (hq : ∀ a b, R a b → Q b) : ∀ {as : List α} {bs : List β}, All2 R as bs → ∀ b ∈ bs, Q b
  | [], [], _, b, hb => by simp at hb
  | _ :: _, _ :: _, h, b, hb => by
    rcases List.mem_cons.1 hb with rfl | hb
    · exact hq _ _ h.1
    · exact All2.mem hq h.2 b hb
end

/-! ### what cells say -/
def RelC (ε : Env) : C → Value → Prop
  | .int k n, v => v = .int k n ∧ inK k n
  | .bool b, v => v = .bool b
  | .str s, v => v = .string s ∧ (s.size : Int) ≤ 9223372036854775807
  | .val x, v => v = x ∧ x.oneCell' = true
  | .ptr id rst row base stride idx, v => id < ε.n ∧ (ε.f id).isnil = false ∧ v = .pointer (some ⟨(ε.f id).blk, (ε.f id).off + (base + rst * row + stride * idx), none⟩)
  | .sl id a len sz, v => id < ε.n ∧ (len : Int) ≤ 9223372036854775807 ∧
      (((ε.f id).isnil = true ∧ v = .slice none 0 0 ∧ len = 0) ∨
       ((ε.f id).isnil = false ∧ a + len ≤ (ε.f id).cap ∧ ∃ ad, v = .slice (some ad) len ((ε.f id).cap - a) ∧ (a < (ε.f id).cap ∨ a = 0 → ad = ⟨(ε.f id).blk, (ε.f id).off + a * sz, none⟩)))
  | .clo f caps, v => (∀ i ∈ caps, i < ε.n ∧ (ε.f i).isnil = false) ∧ v = .func (.func f) #[] (caps.map fun i => Value.pointer (some ⟨(ε.f i).blk, (ε.f i).off, none⟩)).toArray
  | .gp g rst row base stride idx, v => v = .pointer (some ⟨g, base + rst * row + stride * idx, none⟩)

theorem RelC.one {ε : Env} {c : C} {v : Value} (h : RelC ε c v) : v.oneCell' = true := by
  cases c with
  | sl id a len sz =>
    obtain ⟨_, _, ⟨_, rfl, _⟩ | ⟨_, _, ad, rfl, _⟩⟩ := h <;> rfl
  | int k n => obtain ⟨rfl, _⟩ := h; rfl
  | bool b => cases h; rfl
  | str s => obtain ⟨rfl, _⟩ := h; rfl
  | val x => obtain ⟨rfl, h⟩ := h; exact h
  | ptr => obtain ⟨_, _, rfl⟩ := h; rfl
  | clo => obtain ⟨_, rfl⟩ := h; rfl
  | gp => cases h; rfl

def RelS (ε : Env) : S0 → List Value → Prop
  | .ints n k xs, vs => xs.length = n ∧ vs = xs.map (Value.int k) ∧ ∀ x ∈ xs, inK k x
  | .cs l, vs => All2 (RelC ε) l vs

def RelL (ε : Env) : List S0 → List Value → Prop
  | [], vs => vs = []
  | s :: r, vs => ∃ v1 v2, vs = v1 ++ v2 ∧ RelS ε s v1 ∧ RelL ε r v2

def RelB (ε : Env) : Body → List Value → Prop
  | .flat l, vs => RelL ε l vs
  | .rows n sz f, vs => vs.length = n * sz ∧ ∀ i, i < n → RelL ε (f i) ((vs.drop (i * sz)).take sz)

def Rel1 (ε : Env) : V1 → Value → Prop
  | .c c, v => RelC ε c v
  | .agg l, v => ∃ vs, v = .agg (List.toArray vs) ∧ RelL ε l vs

def RelV (ε : Env) : SV → Value → Prop
  | .v x, v => Rel1 ε x v
  | .tup l, v => ∃ vs, v = .tuple (List.toArray vs) ∧ All2 (Rel1 ε) l vs
  | .g b x, v => (b = true → Rel1 ε x v) ∧ (b = false → v = undef)
  | .fnv f a c, v => ∃ fs cs, v = .func (.func f) (List.toArray fs) (List.toArray cs) ∧ All2 (Rel1 ε) a fs ∧ All2 (Rel1 ε) c cs

theorem inK_zero (k : IntKind) : inK k 0 := by cases k <;> simp [inK]

theorem RelS.one {ε : Env} {s : S0} {vs : List Value} (h : RelS ε s vs) : ∀ v ∈ vs, v.oneCell' = true := by
  cases s with
  | ints n k xs =>
    obtain ⟨_, rfl, _⟩ := h
    intro v hv
    obtain ⟨x, _, rfl⟩ := List.mem_map.1 hv
    rfl
  | cs l => exact All2.mem (fun _ _ hr => RelC.one hr) h

theorem RelL.one {ε : Env} : ∀ {l : List S0} {vs : List Value}, RelL ε l vs → ∀ v ∈ vs, v.oneCell' = true
  | [], vs, h, v, hv => by simp [RelL] at h; simp [h] at hv
  | s :: r, vs, ⟨v1, v2, e, h1, h2⟩, v, hv => by
    subst e
    rcases List.mem_append.1 hv with hv | hv
    · exact RelS.one h1 v hv
    · exact RelL.one h2 v hv

theorem RelS.length {ε : Env} {s : S0} {vs : List Value} (h : RelS ε s vs) : vs.length = s.width := by
  cases s with
  | ints n k xs => obtain ⟨h1, rfl, _⟩ := h; simp [S0.width, h1]
  | cs l => simp [S0.width, All2.length h]

theorem RelL.length {ε : Env} : ∀ {l : List S0} {vs : List Value}, RelL ε l vs → vs.length = widthL l
  | [], vs, h => by simp [RelL] at h; simp [h, widthL]
  | s :: r, vs, ⟨v1, v2, e, h1, h2⟩ => by subst e; simp [widthL, RelS.length h1, RelL.length h2]

theorem RelL.append {ε : Env} : ∀ {l l' : List S0} {vs vs' : List Value}, RelL ε l vs → RelL ε l' vs' → RelL ε (l ++ l') (vs ++ vs')
  | [], _, vs, _, h, h' => by simp [RelL] at h; subst h; exact h'
  | s :: r, _, _, _, ⟨v1, v2, e, h1, h2⟩, h' => by
    subst e
    exact ⟨v1, _, by rw [List.append_assoc], h1, RelL.append h2 h'⟩

theorem appL_eq {α : Type} : ∀ {a b r : List α}, appL a b = some r → r = a ++ b
  | [], b, r, h => by simp [appL] at h; simp [h]
  | x :: a, b, r, h => by
    simp only [appL] at h
    cases hs : appL a b with
    | none => simp [hs] at h
    | some t => simp [hs] at h; subst h; simp [appL_eq hs]

theorem RelL.single {ε : Env} {s : S0} {vs : List Value} (h : RelS ε s vs) : RelL ε [s] vs := ⟨vs, [], by simp, h, rfl⟩

theorem RelL.split {ε : Env} {s : S0} {r : List S0} {vs : List Value} (h : RelL ε (s :: r) vs) : RelS ε s (vs.take s.width) ∧ RelL ε r (vs.drop s.width) := by
  obtain ⟨v1, v2, rfl, h1, h2⟩ := h
  have hl := RelS.length h1
  rw [List.take_left' hl, List.drop_left' hl]
  exact ⟨h1, h2⟩

theorem RelL.join {ε : Env} {s : S0} {r : List S0} {vs : List Value} (h1 : RelS ε s (vs.take s.width)) (h2 : RelL ε r (vs.drop s.width)) : RelL ε (s :: r) vs :=
  ⟨_, _, (List.take_append_drop _ _).symm, h1, h2⟩

theorem RelS.ints_sub {ε : Env} {n : Nat} {k : IntKind} {xs : List Int} {vs : List Value} (h : RelS ε (.ints n k xs) vs) (j m : Nat) (hj : j + m ≤ n) : RelS ε (.ints m k ((xs.drop j).take m)) ((vs.drop j).take m) := by
  obtain ⟨h1, rfl, h3⟩ := h
  refine ⟨by simp; omega, by simp [List.map_take, List.map_drop], fun x hx => h3 x (List.mem_of_mem_drop (List.mem_of_mem_take hx))⟩

/-! ### the laws of segments -/
theorem takeL_rel {ε : Env} : ∀ (l : List S0) (skip size : Nat) (t : List S0) (vs : List Value), takeL l skip size = some t → RelL ε l vs → skip + size ≤ vs.length → RelL ε t ((vs.drop skip).take size)
  | [], skip, size, t, vs, e, h, hb => by
    simp [RelL] at h
    subst h
    simp at hb
    have hs : size = 0 := by omega
    subst hs
    simp [takeL] at e
    subst e
    simp [RelL]
  | s :: r, skip, size, t, vs, e, h, hb => by
    obtain ⟨hs1, hs2⟩ := RelL.split h
    have hlen := RelL.length h
    simp only [widthL] at hlen
    have hl1 : (vs.take s.width).length = s.width := by simp; omega
    simp only [takeL] at e
    cases hle : Nat.ble s.width skip with
    | true =>
      rw [hle] at e
      have hle := Nat.le_of_ble_eq_true hle
      have := takeL_rel r (skip - s.width) size t (vs.drop s.width) e hs2 (by simp; omega)
      rw [List.drop_drop, show s.width + (skip - s.width) = skip by omega] at this
      exact this
    | false =>
      rw [hle] at e
      have hlt : skip < s.width := by
        rcases Nat.lt_or_ge skip s.width with h | h
        · exact h
        · rw [Nat.ble_eq_true_of_le h] at hle; cases hle
      cases hfit : Nat.ble (skip + size) s.width with
      | true =>
        rw [hfit] at e
        have hfit := Nat.le_of_ble_eq_true hfit
        have key : (vs.drop skip).take size = (((vs.take s.width).drop skip).take size) := by
          rw [List.drop_take, List.take_take, show min size (s.width - skip) = size by omega]
        cases size with
        | zero => simp only [Option.some.injEq] at e; subst e; simp [RelL]
        | succ n =>
          cases s with
          | cs c =>
            simp only at e
            cases hd : dropC c skip with
            | none => simp [hd] at e
            | some d =>
              simp only [hd] at e
              cases ht : takeC d (n + 1) with
              | none => simp [ht] at e
              | some u =>
                simp only [ht, Option.some.injEq] at e
                subst e
                rw [key]
                exact RelL.single (All2.takeC (All2.dropC hs1 hd) ht).1
          | ints m k xs =>
            simp only at e
            cases hm : Nat.beq (n + 1) m with
            | true =>
              simp only [hm, Option.some.injEq] at e
              subst e
              have hm := Nat.eq_of_beq_eq_true hm
              simp only [S0.width] at hfit key hs1 hl1
              have h0 : skip = 0 := by omega
              subst h0 hm
              rw [key]
              simp only [List.drop_zero]
              rw [List.take_of_length_le (by simp; omega)]
              exact RelL.single hs1
            | false =>
              simp only [hm, Option.some.injEq] at e
              subst e
              rw [key]
              exact RelL.single (RelS.ints_sub hs1 skip (n + 1) (by simpa [S0.width] using hfit))
      | false =>
        rw [hfit] at e
        have hfit' : s.width < skip + size := by
          rcases Nat.lt_or_ge s.width (skip + size) with h | h
          · exact h
          · rw [Nat.ble_eq_true_of_le h] at hfit; cases hfit
        have key : (vs.drop skip).take size = ((vs.take s.width).drop skip) ++ ((vs.drop s.width).drop 0).take (skip + size - s.width) := by
          rw [List.drop_zero]
          have e1 : vs.drop skip = (vs.take s.width).drop skip ++ vs.drop s.width := by
            have := List.take_append_drop s.width vs
            conv => lhs; rw [← this]
            rw [List.drop_append_of_le_length (by omega)]
          rw [e1, List.take_append]
          congr 1
          · rw [List.take_of_length_le (by simp; omega)]
          · congr 1
            simp
            omega
        rw [key]
        cases s with
        | cs c =>
          simp only at e
          cases hd : dropC c skip with
          | none => simp [hd] at e
          | some d =>
            cases ht : takeL r 0 (skip + size - (S0.cs c).width) with
            | none => simp [hd, ht] at e
            | some u =>
              simp only [hd, ht, Option.some.injEq] at e
              subst e
              exact ⟨_, _, rfl, All2.dropC hs1 hd, takeL_rel r 0 _ u _ ht hs2 (by simp; omega)⟩
        | ints m k xs =>
          simp only at e
          cases ht : takeL r 0 (skip + size - (S0.ints m k xs).width) with
          | none => simp [ht] at e
          | some u =>
            have hu := takeL_rel r 0 _ u _ ht hs2 (by simp; omega)
            cases h0 : Nat.beq skip 0 with
            | true =>
              simp only [ht, h0, Option.some.injEq] at e
              subst e
              have h0 := Nat.eq_of_beq_eq_true h0
              subst h0
              exact ⟨_, _, rfl, by simpa using hs1, hu⟩
            | false =>
              simp only [ht, h0, Option.some.injEq] at e
              subst e
              have hk : m - skip ≤ m := by omega
              have := RelS.ints_sub hs1 skip (m - skip) (by simp only [S0.width] at hlt; omega)
              refine ⟨_, _, rfl, ?_, hu⟩
              have e2 : (xs.drop skip).take (m - skip) = xs.drop skip := List.take_of_length_le (by simp; have := hs1.1; omega)
              have e3 : (((vs.take (S0.ints m k xs).width).drop skip).take (m - skip)) = ((vs.take (S0.ints m k xs).width).drop skip) := List.take_of_length_le (by simp [S0.width]; omega)
              rw [e2, e3] at this
              exact this

end Go.X
