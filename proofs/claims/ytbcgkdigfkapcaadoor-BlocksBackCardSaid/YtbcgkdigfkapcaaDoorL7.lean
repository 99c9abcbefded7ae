/- Regions of open order in which several operations change what is there, each of them before or behind every other operation. -/
import Derived.Test.YtbcgkdigfkapcaaDoorL6
set_option linter.unusedVariables false
namespace Go.X

/-- The operations of a stage, and those behind it. -/
def stg : List Nat → Nat → List Oper → List Oper × List Oper
  | [], _, rest => (rest, [])
  | k :: _, lo, rest => (rest.take (k - lo), rest.drop (k - lo))
def tl : List Nat → List Nat
  | [] => []
  | _ :: l => l

def drawM (tt : TT) (kt : KT) (gt : GT) (md : Md) (ops : List Oper) (n : Nat) (m : List (Nat × Nat)) : Nat → List Nat → Nat → List Oper → Sig → Prop → Option (Prop × Sig)
  | 0, _, _, _, _, _ => none
  | f + 1, ks, lo, rest, σ, p0 => match stg ks lo rest with
    | (pre, tail) => match drawL tt kt gt md ops (baseOf (dstsOf pre) σ.regs) σ.blks σ.nxt lo pre [] True with
      | none => none
      | some (p, vals) => match tail with
        | [] => clean ⟨allRegs (baseOf (dstsOf pre) σ.regs) vals, σ.blks, σ.nxt⟩ fun s => some (p0 ∧ p, s)
        | c :: post => match befOK (lo + pre.length) n m with
          | true => match exec1 tt kt gt md ops ⟨allRegs (baseOf (dstsOf pre) σ.regs) vals, σ.blks, σ.nxt⟩ c with
            | some (q, s1) => drawM tt kt gt md ops n m f (tl ks) (lo + pre.length + 1) post s1 ((p0 ∧ p) ∧ q)
            | none => none
          | false => none

theorem drawM_p {tt : TT} {kt : KT} {gt : GT} {md : Md} {ops : List Oper} {n : Nat} {m : List (Nat × Nat)} : ∀ (f : Nat) (ks : List Nat) (lo : Nat) (rest : List Oper) (σ : Sig) (p0 p : Prop) (s : Sig), drawM tt kt gt md ops n m f ks lo rest σ p0 = some (p, s) → p → p0
  | 0, _, _, _, _, _, _, _, h, _ => by cases h
  | f + 1, ks, lo, rest, σ, p0, p, s, h, hp => by
    simp only [drawM] at h
    split at h
    · cases h
    · split at h
      · rw [clean_eq] at h
        simp only [Option.some.injEq, Prod.mk.injEq] at h
        obtain ⟨rfl, _⟩ := h
        exact hp.1
      · split at h
        · split at h
          · exact (drawM_p f _ _ _ _ _ _ _ h hp).1.1
          · cases h
        · cases h

section
variable {X : Ctx} {ε : Env} {σ : Sig} {Q : Exit → Act → World → Prop}

/-- The state inside a region: all ahead of lo is done, from lo on values up to the next change. -/
def MInv (X : Ctx) (ε0 : Env) (md : Md) (ops : Array Oper) (σ' : Sig) (L : Array Bool) (a : Act) (w : World) : Prop :=
  L.size = ops.size ∧ Closed ops.toList L ∧ ∃ (f : Nat) (ks : List Nat) (lo : Nat) (rest : List Oper) (σ : Sig) (p0 p : Prop) (p1 : Prop) (vals : Vals) (pre tail : List Oper),
    drawM X.tt X.kt X.gt md ops.toList ops.size (bef 0 ops.toList []) (f + 1) ks lo rest σ p0 = some (p, σ') ∧ p ∧ lo ≤ ops.size ∧ ops.toList.drop lo = rest ∧ stg ks lo rest = (pre, tail) ∧
    drawL X.tt X.kt X.gt md ops.toList (baseOf (dstsOf pre) σ.regs) σ.blks σ.nxt lo pre [] True = some (p1, vals) ∧
    (∀ i, i < lo → L.getD i false = true) ∧ (∀ i, lo + pre.length ≤ i → L.getD i false = false) ∧ DrawInv X ε0 σ (baseOf (dstsOf pre) σ.regs) vals L a w

theorem stg_ok {ks : List Nat} {lo : Nat} {rest pre tail : List Oper} (h : stg ks lo rest = (pre, tail)) : rest = pre ++ tail := by
  cases ks with
  | nil => simp only [stg, Prod.mk.injEq] at h; obtain ⟨rfl, rfl⟩ := h; simp
  | cons k l => simp only [stg, Prod.mk.injEq] at h; obtain ⟨rfl, rfl⟩ := h; simp

theorem rDrawM (md : Md) (f : Nat) (ks : List Nat) {id : Nat} {ops : Array Oper} {σ' : Sig} {p : Prop} (hX : XOk X) (hm : X.P.follows .mixedOrders = true) (hk : opersB ops.toList = true) (hd : dstsB X.nt ops.toList = true) (hnd : nodupB (dstsOf ops.toList) = true) (hed : backB 0 ops.toList = true)
    (he : drawM X.tt X.kt X.gt md ops.toList ops.size (bef 0 ops.toList []) (f + 1) ks 0 ops.toList σ True = some (p, σ')) (hp : p) (hn : SQ X Q .normal ε σ') : SW X (.region id ops true) Q ε σ := by
  intro ε0 a0 w0 hle0 hh0
  have hops : ∀ i : Nat, ops[i]? = ops.toList[i]? := fun i => by simp
  have hszl : ops.toList.length = ops.size := by simp
  have hedges : ∀ i o, ops.toList[i]? = some o → ∀ e ∈ o.after.toList, Region.binds .any e = true → e.on < i := fun i o ho e he' hbe => edgesB_ok (by simpa using backB_ok hed i o ho) e he' hbe
  have hdeps : ∀ L, Closed ops.toList L → ∀ i m, look (bef 0 ops.toList []) i = some m → ∃ o, ops.toList[i]? = some o ∧ ∀ j, m.testBit j = true → (∀ e ∈ o.after.toList, Region.binds .any e = true → L.getD e.on false = true) → L.getD j false = true :=
    fun L hL => bef_ok hL ops.toList 0 [] (fun k' o hk' => by simpa using hk') (fun i m h => by simp [look] at h)
  have getset : ∀ (L : Array Bool) (i : Nat), i < L.size → (L.setIfInBounds i true).getD i false = true := fun L i hi => by
    simp [Array.getD_eq_getD_getElem?, hi]
  -- what a stage says
  have stage : ∀ {lo : Nat} {ks : List Nat} {rest pre tail : List Oper} {σ : Sig} {p1 : Prop} {vals : Vals}, lo ≤ ops.size → ops.toList.drop lo = rest → stg ks lo rest = (pre, tail) → drawL X.tt X.kt X.gt md ops.toList (baseOf (dstsOf pre) σ.regs) σ.blks σ.nxt lo pre [] True = some (p1, vals) → p1 →
      lo + pre.length + tail.length = ops.size ∧ ops.toList.drop (lo + pre.length) = tail ∧ (∀ i o, lo ≤ i → i < lo + pre.length → ops.toList[i]? = some o → OpFact X.tt X.kt X.gt md ops.toList (baseOf (dstsOf pre) σ.regs) σ.blks σ.nxt vals i o) ∧
      (∀ j d v, look vals j = some (d, v) → lo ≤ j ∧ j < lo + pre.length ∧ ∃ oj, ops.toList[j]? = some oj ∧ oj.dst = some d) ∧
      (∀ s v, look (allRegs (baseOf (dstsOf pre) σ.regs) vals) s = some v → look (baseOf (dstsOf pre) σ.regs) s = some v ∨ ∃ j, look vals j = some (s, v)) ∧
      (∀ i o d, lo ≤ i → i < lo + pre.length → ops.toList[i]? = some o → o.dst = some d → ∀ s v, look (baseOf (dstsOf pre) σ.regs) s = some v → s ≠ d) := by
    intro lo ks rest pre tail σ p1 vals hlo hrest hst hL1 hp1
    have hsplit := stg_ok hst
    obtain ⟨_, _, hlt1, hfact1, hregs1⟩ := drawL_ok _ lo _ _ _ _ hL1 hp1 (fun j q h => by simp [look] at h)
    have hlen : rest.length = ops.size - lo := by rw [← hrest, List.length_drop, hszl]
    have hl2 : rest.length = pre.length + tail.length := by rw [hsplit, List.length_append]
    have hat : ∀ i, ops.toList[lo + i]? = rest[i]? := fun i => by rw [← hrest, List.getElem?_drop]
    have hpre : ∀ i, lo ≤ i → i < lo + pre.length → ops.toList[i]? = pre[i - lo]? := fun i h1 h2 => by
      have := hat (i - lo)
      rw [show lo + (i - lo) = i by omega] at this
      rw [this, hsplit, List.getElem?_append_left (by omega)]
    have hge : ∀ j q, look vals j = some q → lo ≤ j := by
      have gen : ∀ (rest' : List Oper) (i : Nat) (vals vals' : Vals) (p0 p : Prop), drawL X.tt X.kt X.gt md ops.toList (baseOf (dstsOf pre) σ.regs) σ.blks σ.nxt i rest' vals p0 = some (p, vals') → (∀ j q, look vals j = some q → lo ≤ j) → lo ≤ i → ∀ j q, look vals' j = some q → lo ≤ j := by
        intro rest'
        induction rest' with
        | nil =>
          intro i vals vals' p0 p h hv _
          simp only [drawL, Option.some.injEq, Prod.mk.injEq] at h
          obtain ⟨_, rfl⟩ := h
          exact hv
        | cons o rest' ih =>
          intro i vals vals' p0 p h hv hi
          simp only [drawL] at h
          split at h
          · split at h
            · split at h
              · refine ih _ _ _ _ _ h (fun j q hj => ?_) (by omega)
                rw [look_cons] at hj
                by_cases hji : j = i
                · omega
                · rw [if_neg hji] at hj; exact hv j q hj
              · cases h
            · cases h
          · cases h
      exact gen _ _ _ _ _ _ hL1 (fun j q h => by simp [look] at h) (Nat.le_refl _)
    refine ⟨by omega, ?_, fun i o h1 h2 ho => ?_, fun j d v hj => ?_, fun s v hs => ?_, fun i o d h1 h2 ho hdst s v hs e => ?_⟩
    · rw [← List.drop_drop, hrest, hsplit, List.drop_left]
    · have := hfact1 (i - lo) o (by rw [← hpre i h1 h2]; exact ho)
      rw [show lo + (i - lo) = i by omega] at this
      exact this
    · have h1 := hge j _ hj
      have h2 := hlt1 j _ hj
      obtain ⟨oj, hoj⟩ : ∃ oj, pre[j - lo]? = some oj := ⟨_, List.getElem?_eq_getElem (by omega)⟩
      obtain ⟨d', _, _, v', hd', hv', _⟩ := hfact1 (j - lo) oj hoj
      rw [show lo + (j - lo) = j by omega, hj] at hv'
      injection hv' with hv'
      obtain ⟨rfl, rfl⟩ := Prod.mk.inj hv'
      exact ⟨h1, by omega, oj, by rw [hpre j h1 (by omega)]; exact hoj, hd'⟩
    · rcases hregs1 s v hs with h | ⟨j, _, h⟩
      · exact .inl h
      · exact .inr ⟨j, h⟩
    · subst e
      have := (baseOf_look hs).2
      rw [memN_mem (dstsOf_mem (by rw [← hpre i h1 h2]; exact ho) hdst)] at this
      cases this
  have peel : ∀ {f : Nat} {ks : List Nat} {lo : Nat} {rest pre tail : List Oper} {σ : Sig} {p0 p : Prop}, drawM X.tt X.kt X.gt md ops.toList ops.size (bef 0 ops.toList []) (f + 1) ks lo rest σ p0 = some (p, σ') → p → stg ks lo rest = (pre, tail) →
      ∃ p1 vals, drawL X.tt X.kt X.gt md ops.toList (baseOf (dstsOf pre) σ.regs) σ.blks σ.nxt lo pre [] True = some (p1, vals) ∧
      p1 ∧ ((tail = [] ∧ σ' = ⟨allRegs (baseOf (dstsOf pre) σ.regs) vals, σ.blks, σ.nxt⟩) ∨ ∃ c post q s1, tail = c :: post ∧ befOK (lo + pre.length) ops.size (bef 0 ops.toList []) = true ∧ exec1 X.tt X.kt X.gt md ops.toList ⟨allRegs (baseOf (dstsOf pre) σ.regs) vals, σ.blks, σ.nxt⟩ c = some (q, s1) ∧ q ∧
        drawM X.tt X.kt X.gt md ops.toList ops.size (bef 0 ops.toList []) f (tl ks) (lo + pre.length + 1) post s1 ((p0 ∧ p1) ∧ q) = some (p, σ')) := by
    intro f ks lo rest pre tail σ p0 p h hp hst
    simp only [drawM, hst] at h
    split at h
    · cases h
    · rename_i p1 vals hL
      refine ⟨p1, vals, hL, ?_⟩
      cases tail with
      | nil =>
        simp only [clean_eq, Option.some.injEq, Prod.mk.injEq] at h
        obtain ⟨rfl, rfl⟩ := h
        exact ⟨hp.2, .inl ⟨rfl, rfl⟩⟩
      | cons c post =>
        simp only at h
        split at h
        · rename_i hb
          split at h
          · rename_i q s1 hx
            have hpp := drawM_p _ _ _ _ _ _ _ _ h hp
            exact ⟨hpp.1.2, .inr ⟨c, post, q, s1, rfl, hb, hx, hpp.2, h⟩⟩
          · cases h
        · cases h
  have fin : ∀ L a w, MInv X ε0 md ops σ' L a w → (∀ i, i < ops.size → L.getD i false = true) → Q .normal a w := by
    rintro L a w ⟨hL, hC, f, ks, lo, rest, σ, p0, p, p1, vals, pre, tail, hM, hp, hlo, hrest, hst, hU, hdone, hnot, hI⟩ hall
    obtain ⟨p1', vals', hU', hp1, hcase⟩ := peel hM hp hst
    rw [hU] at hU'
    injection hU' with hU'
    obtain ⟨rfl, rfl⟩ := Prod.mk.inj hU'
    obtain ⟨g2, g3, g4, g5, g6, g7⟩ := stage hlo hrest hst hU hp1
    rcases hcase with ⟨rfl, rfl⟩ | ⟨c, post, q, s1, rfl, _⟩
    · obtain ⟨ε', hle, hh, hv⟩ := hI
      refine hn ε' a w (hle0.trans hle) ⟨hh.defers, hh.size, fun s v hs => ?_, hh.tab⟩
      rcases g6 s v hs with h | ⟨j, h⟩
      · exact hh.regs s v h
      · have hj := g5 j s v h
        simp only [List.length_nil, Nat.add_zero] at g2
        exact hv j s v h (hall j (by omega))
    · have := hnot _ (Nat.le_refl _)
      rw [hall _ (by simp only [List.length_cons] at g2; omega)] at this
      cases this
  have step : ∀ (L : Array Bool) a w, MInv X ε0 md ops σ' L a w → ∀ i ∈ Region.ready .any ops L, ∀ K : Act → World → Prop, (∀ a' w', MInv X ε0 md ops σ' (L.setIfInBounds i true) a' w' → K a' w') → wpOp X.P ops Q i K a w := by
    rintro L a w ⟨hL, hC, f, ks, lo, rest, σ, p0, p, p1, vals, pre, tail, hM, hp, hlo, hrest, hst, hU, hdone, hnot, hI⟩ i hi K hK
    obtain ⟨p1', vals', hU', hp1, hcase⟩ := peel hM hp hst
    rw [hU] at hU'
    injection hU' with hU'
    obtain ⟨rfl, rfl⟩ := Prod.mk.inj hU'
    obtain ⟨g2, g3, g4, g5, g6, g7⟩ := stage hlo hrest hst hU hp1
    obtain ⟨hun, o, ho, hedge⟩ := mem_ready.1 hi
    have hol : ops.toList[i]? = some o := by rw [← hops]; exact ho
    have hisz : i < ops.size := (Array.getElem?_eq_some_iff.1 ho).1
    have hLi : L.getD i false = false := by
      simp only [Array.getD_eq_getD_getElem?, Array.getElem?_eq_getElem (show i < L.size by omega), Option.getD_some] at hun ⊢
      exact hun
    have hedge' : ∀ e ∈ o.after.toList, Region.binds .any e = true → L.getD e.on false = true := fun e he' hbe => hedge e (by simpa using he') hbe
    have hC' : Closed ops.toList (L.setIfInBounds i true) := fun j oj hj hLj e he' hbe => by
      by_cases hji : j = i
      · subst hji
        rw [hol] at hj
        injection hj with hj
        subst hj
        exact getD_set_true (hedge' e he' hbe)
      · rw [getD_set_ne false (fun e => hji e.symm)] at hLj
        exact getD_set_true (hC j oj hj hLj e he' hbe)
    have hsz' : (L.setIfInBounds i true).size = ops.size := by simpa using hL
    have hilo : lo ≤ i := by
      rcases Nat.lt_or_ge i lo with h | h
      · rw [hdone i h] at hLi; cases hLi
      · exact h
    rcases Nat.lt_trichotomy i (lo + pre.length) with hik | hik | hik
    · refine draw_step hX hk hd hnd (fun j d v hj => (g5 j d v hj).2.2) hol (fun s v d hs hd' => g7 i o d hilo hik hol hd' s v hs) (g4 i o hilo hik hol) hI hedge' K fun a' w' hI' => hK a' w' ⟨hsz', hC', f, ks, lo, rest, σ, p0, p, p1, vals, pre, tail, hM, hp, hlo, hrest, hst, hU, fun j hj => getD_set_true (hdone j hj), fun j hj => ?_, hI'⟩
      rw [getD_set_ne false (by omega)]
      exact hnot j hj
    · rcases hcase with ⟨rfl, rfl⟩ | ⟨c, post, q, s1, rfl, hb, hex, hq, hM'⟩
      · simp only [List.length_nil, Nat.add_zero] at g2; omega
      · have hoc : ops.toList[i]? = some c := by
          have := congrArg (fun l => l[0]?) g3
          simp only [List.getElem?_drop, Nat.add_zero, List.getElem?_cons_zero] at this
          rw [hik]
          exact this
        rw [hoc] at hol
        injection hol with hol
        subst hol
        rw [← hik] at hb
        unfold befOK at hb
        split at hb
        · rename_i mk hmk
          simp only [Bool.and_eq_true] at hb
          obtain ⟨hahead, _⟩ := hb
          obtain ⟨o', ho', hdep⟩ := hdeps L hC i mk hmk
          rw [hoc] at ho'
          injection ho' with ho'
          subst ho'
          have hall : ∀ j, j < i → L.getD j false = true := fun j hj => hdep j (aheadB_ok hahead j hj) hedge'
          obtain ⟨ε', hle, hh, hv⟩ := hI
          have hH : Holds X ε' ⟨allRegs (baseOf (dstsOf pre) σ.regs) vals, σ.blks, σ.nxt⟩ a w := ⟨hh.defers, hh.size, fun s v hs => by
            rcases g6 s v hs with h | ⟨j, h⟩
            · exact hh.regs s v h
            · exact hv j s v h (hall j (by have := (g5 j s v h).2.1; omega)), hh.tab⟩
          have hcm : c ∈ ops.toList := List.mem_of_getElem? hoc
          cases f with
          | zero => cases hM'
          | succ f =>
            unfold wpOp
            rw [ho]
            have hs := exec1_sound (next := K) (Q := Q) hX hH (opersB_ok hk c hcm) (dstsB_ok hd c hcm) hex hq (fun ε'' a' w' hle' hh' => by
              have hpost : ops.toList.drop (lo + pre.length + 1) = post := by rw [← List.drop_drop, g3]; rfl
              cases hst' : stg (tl ks) (lo + pre.length + 1) post with
              | mk pre2 tail2 =>
                obtain ⟨p2, vals2, hU2, hp2, _⟩ := peel hM' hp hst'
                obtain ⟨k2, _, _, k5, _, _⟩ := stage (by simp only [List.length_cons] at g2; omega) hpost hst' hU2 hp2
                have hrest' : ∀ j, lo + pre.length + 1 ≤ j → (L.setIfInBounds i true).getD j false = false := fun j hj => by
                  rw [getD_set_ne false (by omega)]; exact hnot j (by omega)
                exact hK a' w' ⟨hsz', hC', f, tl ks, lo + pre.length + 1, post, s1, _, p, p2, vals2, pre2, tail2, hM', hp, by simp only [List.length_cons] at g2; omega, hpost, hst', hU2, fun j hj => by
                  by_cases hji : j = i
                  · subst hji; exact getset L j (by omega)
                  · exact getD_set_true (hall j (by omega)), fun j hj => hrest' j (by omega), ε'', hle.trans hle', ⟨hh'.defers, hh'.size, fun s v hs => hh'.regs s v (baseOf_look hs).1, hh'.tab⟩, fun j d v hj hLj => by
                    rw [hrest' j (k5 j d v hj).1] at hLj
                    cases hLj⟩)
            rw [Array.toArray_toList] at hs
            show if _ then _ else _
            split
            · rename_i hw
              rw [if_pos hw] at hs
              exact .inl hs
            · rename_i hw
              rw [if_neg hw] at hs
              exact hs
        · cases hb
    · rcases hcase with ⟨rfl, rfl⟩ | ⟨c, post, q, s1, rfl, hb, hex, hq, hM'⟩
      · simp only [List.length_nil, Nat.add_zero] at g2; omega
      · unfold befOK at hb
        split at hb
        · rename_i mk hmk
          simp only [Bool.and_eq_true] at hb
          obtain ⟨_, hbehind⟩ := hb
          obtain ⟨b, hb', hbk⟩ := behindB_ok hbehind i (by omega) (by omega)
          obtain ⟨o', ho', hdep⟩ := hdeps L hC i b hb'
          rw [hol] at ho'
          injection ho' with ho'
          subst ho'
          have := hdep _ hbk hedge'
          rw [hnot _ (Nat.le_refl _)] at this
          cases this
        · cases hb
  cases hst : stg ks 0 ops.toList with
  | mk pre tail =>
    obtain ⟨p1, vals, hU, _, _⟩ := peel he hp hst
    have hfalse : ∀ i, (Array.replicate ops.size false).getD i false = false := fun i => by
      simp only [Array.getD_eq_getD_getElem?]
      rcases Nat.lt_or_ge i ops.size with h | h
      · rw [Array.getElem?_eq_getElem (by simpa using h)]; simp
      · rw [Array.getElem?_eq_none (by simpa using h)]; simp
    refine wp_region_any hm (draw_all (X := X) (MInv X ε0 md ops σ') (fun L a w h => h.1) fin hedges step ops.size _ a0 _ ⟨by simp, fun i o ho hL => ?_, f, ks, 0, ops.toList, σ, True, p, p1, vals, pre, tail, he, hp, Nat.zero_le _, rfl, hst, hU, fun i hi => by omega, fun i _ => hfalse i, ε0, EnvLe.refl _, ⟨hh0.defers, hh0.size, fun s v hs => hh0.regs s v (baseOf_look hs).1, hh0.tab.drew _⟩, fun i d v _ hL => ?_⟩ ?_)
    · rw [hfalse i] at hL; cases hL
    · rw [hfalse i] at hL; cases hL
    · refine Nat.le_trans (List.length_filter_le _ _) (by simp)
end
end Go.X
