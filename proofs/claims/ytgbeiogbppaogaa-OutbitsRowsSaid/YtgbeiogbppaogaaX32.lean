/- Regions of open order with one operation that changes memory: all ahead of it in the text it waits for, all behind it wait for it. -/
import Derived.Test.YtgbeiogbppaogaaX31
set_option linter.unusedVariables false
namespace Go.X

/-- What an operation waits for, as bits. -/
def orE (acc : List (Nat × Nat)) : List Edge → Nat
  | [] => 0
  | e :: l => match Region.binds .any e with
    | true => match look acc e.on with
      | some m => Nat.lor (Nat.lor (2 ^ e.on) m) (orE acc l)
      | none => Nat.lor (2 ^ e.on) (orE acc l)
    | false => orE acc l
def bef : Nat → List Oper → List (Nat × Nat) → List (Nat × Nat)
  | _, [], acc => acc
  | i, o :: l, acc => bef (i + 1) l ((i, orE acc o.after.toList) :: acc)
def behindB (k : Nat) (m : List (Nat × Nat)) : Nat → Nat → Bool
  | 0, _ => true
  | n + 1, i => match look m i with
    | some b => Nat.testBit b k && behindB k m n (i + 1)
    | none => false
def aheadB (b : Nat) : Nat → Bool
  | 0 => true
  | n + 1 => Nat.testBit b n && aheadB b n
def befOK (k n : Nat) (m : List (Nat × Nat)) : Bool :=
  match look m k with
  | some b => aheadB b k && behindB k m (n - (k + 1)) (k + 1)
  | none => false

/-- Operations up to the first that does more than to yield a value. -/
def drawU (tt : TT) (kt : KT) (gt : GT) (md : Md) (ops : List Oper) (base : Regs) (blks : Blks) (nxt : Nat) : Nat → List Oper → Vals → Prop → Prop × Vals × Nat × List Oper
  | i, [], vals, p => (p, vals, i, [])
  | i, o :: rest, vals, p => match o.dst with
    | some d => match edgesB i o.after.toList with
      | true => match execV tt kt gt md ops ⟨avail base vals o.after.toList, blks, nxt⟩ o with
        | some (q, v) => drawU tt kt gt md ops base blks nxt (i + 1) rest ((i, (d, v)) :: vals) (p ∧ q)
        | none => (p, vals, i, o :: rest)
      | false => (p, vals, i, o :: rest)
    | none => (p, vals, i, o :: rest)

def drawS (tt : TT) (kt : KT) (gt : GT) (md : Md) (ops : List Oper) (σ : Sig) : Option (Prop × Sig) :=
  match drawU tt kt gt md ops (baseOf (dstsOf ops) σ.regs) σ.blks σ.nxt 0 ops [] True with
  | (p, vals, k, c :: post) => match befOK k ops.length (bef 0 ops []) with
    | true => match exec1 tt kt gt md ops ⟨allRegs (baseOf (dstsOf ops) σ.regs) vals, σ.blks, σ.nxt⟩ c with
      | some (q, s1) => match drawL tt kt gt md ops (baseOf (dstsOf post) s1.regs) s1.blks s1.nxt (k + 1) post [] True with
        | some (r, vals2) => clean ⟨allRegs (baseOf (dstsOf post) s1.regs) vals2, s1.blks, s1.nxt⟩ fun s => some ((p ∧ q) ∧ r, s)
        | none => none
      | none => none
    | false => none
  | _ => none

theorem drawU_split {tt : TT} {kt : KT} {gt : GT} {md : Md} {ops : List Oper} {base : Regs} {blks : Blks} {nxt : Nat} : ∀ (l : List Oper) (i : Nat) (vals vals' : Vals) (p0 p : Prop) (k : Nat) (rest : List Oper), drawU tt kt gt md ops base blks nxt i l vals p0 = (p, vals', k, rest) →
    ∃ pre, l = pre ++ rest ∧ k = i + pre.length ∧ drawL tt kt gt md ops base blks nxt i pre vals p0 = some (p, vals')
  | [], i, vals, vals', p0, p, k, rest, h => by
    simp only [drawU, Prod.mk.injEq] at h
    obtain ⟨rfl, rfl, rfl, rfl⟩ := h
    exact ⟨[], rfl, rfl, rfl⟩
  | o :: l, i, vals, vals', p0, p, k, rest, h => by
    have stop : (p0, vals, i, o :: l) = (p, vals', k, rest) → ∃ pre, o :: l = pre ++ rest ∧ k = i + pre.length ∧ drawL tt kt gt md ops base blks nxt i pre vals p0 = some (p, vals') := fun h => by
      simp only [Prod.mk.injEq] at h
      obtain ⟨rfl, rfl, rfl, rfl⟩ := h
      exact ⟨[], rfl, rfl, rfl⟩
    simp only [drawU] at h
    split at h
    · rename_i d hd
      split at h
      · rename_i he
        split at h
        · rename_i q v hx
          obtain ⟨pre, h1, h2, h3⟩ := drawU_split l _ _ _ _ _ _ _ h
          refine ⟨o :: pre, by rw [h1]; rfl, by simp; omega, ?_⟩
          simp only [drawL, hd, he, hx]
          exact h3
        · exact stop h
      · exact stop h
    · exact stop h

/-- Lists of operations that are closed. -/
def Closed (ops : List Oper) (L : Array Bool) : Prop := ∀ i o, ops[i]? = some o → L.getD i false = true → ∀ e ∈ o.after.toList, Region.binds .any e = true → L.getD e.on false = true

theorem lor_bit {a b j : Nat} (h : (Nat.lor a b).testBit j = true) : a.testBit j = true ∨ b.testBit j = true := by
  have : (a ||| b).testBit j = true := h
  rw [Nat.testBit_or] at this
  simpa using this
theorem pow_bit {n j : Nat} (h : (2 ^ n).testBit j = true) : j = n := by
  rw [Nat.testBit_two_pow] at h
  simpa using (of_decide_eq_true h).symm

theorem orE_ok {ops : List Oper} {L : Array Bool} (hL : Closed ops L) {acc : List (Nat × Nat)} (hacc : ∀ i m, look acc i = some m → ∃ o, ops[i]? = some o ∧ ∀ j, m.testBit j = true → (∀ e ∈ o.after.toList, Region.binds .any e = true → L.getD e.on false = true) → L.getD j false = true) :
    ∀ {l : List Edge} {j : Nat}, (orE acc l).testBit j = true → (∀ e ∈ l, Region.binds .any e = true → L.getD e.on false = true) → L.getD j false = true
  | [], j, h, _ => by simp [orE] at h
  | e :: l, j, h, hd => by
    have tail : (orE acc l).testBit j = true → L.getD j false = true := fun h => orE_ok hL hacc h fun e' he' => hd e' (by simp [he'])
    simp only [orE] at h
    split at h
    · rename_i hb
      have hon := hd e (by simp) hb
      split at h
      · rename_i m hm
        rcases lor_bit h with h | h
        · rcases lor_bit h with h | h
          · rw [pow_bit h]; exact hon
          · obtain ⟨o, ho, hh⟩ := hacc _ _ hm
            exact hh j h fun e' he' hb' => hL _ o ho hon e' he' hb'
        · exact tail h
      · rcases lor_bit h with h | h
        · rw [pow_bit h]; exact hon
        · exact tail h
    · exact tail h

theorem bef_ok {ops : List Oper} {L : Array Bool} (hL : Closed ops L) : ∀ (l : List Oper) (i : Nat) (acc : List (Nat × Nat)), (∀ k o, l[k]? = some o → ops[i + k]? = some o) →
    (∀ i m, look acc i = some m → ∃ o, ops[i]? = some o ∧ ∀ j, m.testBit j = true → (∀ e ∈ o.after.toList, Region.binds .any e = true → L.getD e.on false = true) → L.getD j false = true) →
    ∀ i' m, look (bef i l acc) i' = some m → ∃ o, ops[i']? = some o ∧ ∀ j, m.testBit j = true → (∀ e ∈ o.after.toList, Region.binds .any e = true → L.getD e.on false = true) → L.getD j false = true
  | [], i, acc, _, hacc => hacc
  | o :: l, i, acc, hl, hacc => by
    refine bef_ok hL l (i + 1) _ (fun k o' hk => ?_) ?_
    · have := hl (k + 1) o' (by simpa using hk)
      rwa [show i + 1 + k = i + (k + 1) by omega]
    · intro i' m hm
      rw [look_cons] at hm
      by_cases hi : i' = i
      · rw [if_pos hi] at hm
        injection hm with hm
        subst hm hi
        exact ⟨o, by simpa using hl 0 o rfl, fun j hj hd => orE_ok hL hacc hj hd⟩
      · rw [if_neg hi] at hm
        exact hacc i' m hm

theorem aheadB_ok {b : Nat} : ∀ {n : Nat}, aheadB b n = true → ∀ j, j < n → b.testBit j = true
  | 0, _, j, h => by omega
  | n + 1, h, j, hj => by
    simp only [aheadB, Bool.and_eq_true] at h
    by_cases e : j = n
    · subst e; exact h.1
    · exact aheadB_ok h.2 j (by omega)
theorem behindB_ok {k : Nat} {m : List (Nat × Nat)} : ∀ {n i : Nat}, behindB k m n i = true → ∀ j, i ≤ j → j < i + n → ∃ b, look m j = some b ∧ b.testBit k = true
  | 0, i, _, j, h1, h2 => by omega
  | n + 1, i, h, j, h1, h2 => by
    simp only [behindB] at h
    split at h
    · rename_i b hb
      simp only [Bool.and_eq_true] at h
      by_cases e : j = i
      · subst e; exact ⟨b, hb, h.1⟩
      · exact behindB_ok h.2 j (by omega) (by omega)
    · cases h

section
variable {X : Ctx} {ε : Env} {σ : Sig} {Q : Exit → Act → World → Prop}

/-- One step of a draw: a value. -/
theorem draw_step {md : Md} {ops : Array Oper} {ε0 : Env} {base : Regs} {vals : Vals} (hX : XOk X) (hk : opersB ops.toList = true) (hd : dstsB X.nt ops.toList = true) (hnd : nodupB (dstsOf ops.toList) = true)
    (hvd : ∀ j d v, look vals j = some (d, v) → ∃ oj, ops.toList[j]? = some oj ∧ oj.dst = some d) {L : Array Bool} {a : Act} {w : World} {i : Nat} {o : Oper} (hol : ops.toList[i]? = some o)
    (hbase : ∀ s v d, look base s = some v → o.dst = some d → s ≠ d) (hfact : OpFact X.tt X.kt X.gt md ops.toList base σ.blks σ.nxt vals i o) (hI : DrawInv X ε0 σ base vals L a w)
    (hedge : ∀ e ∈ o.after.toList, Region.binds .any e = true → L.getD e.on false = true)
    (K : Act → World → Prop) (hK : ∀ a' w', DrawInv X ε0 σ base vals (L.setIfInBounds i true) a' w' → K a' w') : wpOp X.P ops Q i K a w := by
  obtain ⟨ε', hle, hh, hv⟩ := hI
  have ho : ops[i]? = some o := by simpa using hol
  have homem : o ∈ ops.toList := List.mem_of_getElem? hol
  have hkk := opersB_ok hk
  have hdd := dstsB_ok hd
  obtain ⟨d, R, q, v, hod, hvi, hx, hq, h5, hR⟩ := hfact
  have hHR : Holds X ε' ⟨R, σ.blks, σ.nxt⟩ a w := ⟨hh.defers, hh.size, fun s y hs => by
    rcases hR s y hs with h | ⟨e, g1, g2, g3⟩
    · exact hh.regs s y h
    · exact hv _ _ _ g3 (hedge e g1 g2), hh.tab⟩
  have hdn : d < X.nt := by
    have := hdd o homem
    unfold dstB at this
    rw [hod] at this
    exact blt_true this
  have hda : d < a.tmps.size := by rw [hh.size]; exact hdn
  have after : ∀ ε'' x w', EnvLe ε' ε'' → RelV ε'' v x → Tab X ε'' σ.blks σ.nxt w' → K (a.put o.dst x) w' := by
    intro ε'' x w' hle' hrel hT
    refine hK _ _ ⟨ε'', hle.trans hle', ⟨by rw [put_defers]; exact hh.defers, by rw [put_size]; exact hh.size, fun s y hs => ?_, hT⟩, fun j dj vj hj hLj => ?_⟩
    · rw [hod, put_getD a d s x hda, if_neg (hbase s y d hs hod)]
      exact (hh.regs s y hs).mono hle'
    · rw [hod, put_getD a d dj x hda]
      by_cases hji : j = i
      · subst hji
        rw [hvi] at hj
        injection hj with hj
        obtain ⟨rfl, rfl⟩ := Prod.mk.inj hj
        rw [if_pos rfl]
        exact hrel
      · rw [getD_set_ne false (fun e => hji e.symm)] at hLj
        obtain ⟨oj, hoj, hdj⟩ := hvd j dj vj hj
        have hne : dj ≠ d := fun e => by
          subst e
          exact hji (dsts_apart hnd hoj hol hdj hod)
        rw [if_neg hne]
        exact (hv j dj vj hj hLj).mono hle'
  unfold wpOp
  rw [ho]
  have hs := execV_sound (next := K) (Q := Q) hX hHR (hkk o homem) hx hq (fun ε'' x w' hle' hrel hT => after ε'' x w' hle' hrel hT)
  rw [Array.toArray_toList] at hs
  show if _ then _ else _
  split
  · rename_i hw
    rw [if_pos hw] at hs
    exact .inl hs
  · rename_i hw
    rw [if_neg hw] at hs
    exact hs

theorem count_set : ∀ (l : List Bool) (i : Nat), l[i]? = some false → ((l.set i true).filter (fun b => !b)).length + 1 = (l.filter (fun b => !b)).length := by
  intro l
  induction l with
  | nil => intro i h; simp at h
  | cons x l ihl =>
    intro i h
    cases i with
    | zero => simp at h; subst h; simp
    | succ i =>
      have := ihl i (by simpa using h)
      cases x <;> simp_all

/-- A draw in all orders, for an invariant that each step keeps. -/
theorem draw_all {ops : Array Oper} (I : Array Bool → Act → World → Prop) (hsize : ∀ L a w, I L a w → L.size = ops.size)
    (fin : ∀ L a w, I L a w → (∀ i, i < ops.size → L.getD i false = true) → Q .normal a w)
    (hedges : ∀ i o, ops.toList[i]? = some o → ∀ e ∈ o.after.toList, Region.binds .any e = true → e.on < i)
    (step : ∀ (L : Array Bool) a w, I L a w → ∀ i ∈ Region.ready .any ops L, ∀ K : Act → World → Prop, (∀ a' w', I (L.setIfInBounds i true) a' w' → K a' w') → wpOp X.P ops Q i K a w) :
    ∀ (fuel : Nat) (L : Array Bool) a w, I L a w → (L.toList.filter (fun b => !b)).length ≤ fuel → wpAny X.P .any ops Q fuel L a w := by
  have hops : ∀ i : Nat, ops[i]? = ops.toList[i]? := fun i => by simp
  have prog : ∀ (L : Array Bool), L.size = ops.size → Region.ready .any ops L = [] → ∀ i, i < ops.size → L.getD i false = true := by
    intro L hL hr i
    induction i using Nat.strongRecOn with
    | _ i ih =>
      intro hi
      cases hLi : L.getD i false with
      | true => rfl
      | false =>
        exfalso
        have hmem : i ∈ Region.ready .any ops L := by
          rw [mem_ready]
          obtain ⟨o, ho⟩ : ∃ o, ops[i]? = some o := ⟨_, Array.getElem?_eq_getElem hi⟩
          refine ⟨?_, o, ho, fun e he hbe => ?_⟩
          · simp only [Array.getD_eq_getD_getElem?] at hLi ⊢
            rw [Array.getElem?_eq_getElem (by omega)] at hLi ⊢
            simpa using hLi
          · have h6 := hedges i o (by rw [← hops]; exact ho) e (by simpa using he) hbe
            exact ih e.on h6 (by omega)
        rw [hr] at hmem
        cases hmem
  intro fuel
  induction fuel with
  | zero =>
    intro L a w hI hc
    have hL := hsize L a w hI
    have hallT : ∀ i, i < ops.size → L.getD i false = true := fun i hi => by
      have h0 : L.toList.filter (fun b => !b) = [] := List.eq_nil_of_length_eq_zero (by omega)
      rw [List.filter_eq_nil_iff] at h0
      have hi' : i < L.size := by omega
      have := h0 L[i] (by simp)
      simp only [Array.getD_eq_getD_getElem?, Array.getElem?_eq_getElem hi', Option.getD_some]
      simpa using this
    refine ⟨?_, fin L a w hI hallT⟩
    apply List.eq_nil_iff_forall_not_mem.2
    intro i hi
    obtain ⟨hun, o, ho, _⟩ := mem_ready.1 hi
    have hi' : i < ops.size := (Array.getElem?_eq_some_iff.1 ho).1
    have := hallT i hi'
    simp only [Array.getD_eq_getD_getElem?, Array.getElem?_eq_getElem (show i < L.size by omega), Option.getD_some] at this hun
    rw [this] at hun
    cases hun
  | succ fuel ih =>
    intro L a w hI hc
    have hL := hsize L a w hI
    refine ⟨fun hr => fin L a w hI (prog L hL hr), fun i hi => ?_⟩
    refine step L a w hI i hi _ fun a' w' hI' => ih _ a' w' hI' ?_
    obtain ⟨hun, o, ho, _⟩ := mem_ready.1 hi
    have hi' : i < L.size := by rw [hL]; exact (Array.getElem?_eq_some_iff.1 ho).1
    have hfalse : L[i] = false := by
      simp only [Array.getD_eq_getD_getElem?, Array.getElem?_eq_getElem hi', Option.getD_some] at hun
      exact hun
    have h1 := count_set L.toList i (by rw [Array.getElem?_toList, Array.getElem?_eq_getElem hi', hfalse])
    rw [Array.toList_setIfInBounds]
    omega

theorem rDrawS (md : Md) {id : Nat} {ops : Array Oper} {σ' : Sig} {p : Prop} (hX : XOk X) (hm : X.P.follows .mixedOrders = true) (hk : opersB ops.toList = true) (hd : dstsB X.nt ops.toList = true) (hnd : nodupB (dstsOf ops.toList) = true)
    (hed : ∀ i o, ops.toList[i]? = some o → edgesB i o.after.toList = true)
    (he : drawS X.tt X.kt X.gt md ops.toList σ = some (p, σ')) (hp : p) (hn : SQ X Q .normal ε σ') : SW X (.region id ops true) Q ε σ := by
  intro ε0 a0 w0 hle0 hh0
  unfold drawS at he
  split at he
  · rename_i p1 vals k c post hU
    split at he
    · rename_i hbef
      split at he
      · rename_i q1 s1 hex
        split at he
        · rename_i r1 vals2 hL2
          rw [clean_eq] at he
          simp only [Option.some.injEq, Prod.mk.injEq] at he
          obtain ⟨rfl, rfl⟩ := he
          obtain ⟨⟨hp1, hq1⟩, hr1⟩ := hp
          obtain ⟨pre, hsplit, hkl, hL1⟩ := drawU_split _ _ _ _ _ _ _ _ hU
          simp only [Nat.zero_add] at hkl
          obtain ⟨_, _, hlt1, hfact1, hregs1⟩ := drawL_ok _ 0 _ _ _ _ hL1 hp1 (fun j q h => by simp [look] at h)
          obtain ⟨_, _, hlt2, hfact2, hregs2⟩ := drawL_ok _ (k + 1) _ _ _ _ hL2 hr1 (fun j q h => by simp [look] at h)
          simp only [Nat.zero_add] at hfact1 hlt1
          have hops : ∀ i : Nat, ops[i]? = ops.toList[i]? := fun i => by simp
          have hszl : ops.toList.length = ops.size := by simp
          have hlen : ops.size = k + 1 + post.length := by rw [← hszl, hsplit, hkl]; simp; omega
          have hoppre : ∀ i, i < k → ops.toList[i]? = pre[i]? := fun i hi => by rw [hsplit, List.getElem?_append_left (by omega)]
          have hopc : ops.toList[k]? = some c := by rw [hsplit, List.getElem?_append_right (by omega), hkl]; simp
          have hoppost : ∀ j, ops.toList[k + 1 + j]? = post[j]? := fun j => by
            rw [hsplit, List.getElem?_append_right (by omega), show k + 1 + j - pre.length = j + 1 by omega, List.getElem?_cons_succ]
          generalize hb1 : baseOf (dstsOf ops.toList) σ.regs = base at *
          generalize hb2 : baseOf (dstsOf post) s1.regs = base2 at *
          have hbase1 : ∀ s v, look base s = some v → look σ.regs s = some v ∧ memN s (dstsOf ops.toList) = false := fun s v h => baseOf_look (hb1 ▸ h)
          have hbase2 : ∀ s v, look base2 s = some v → look s1.regs s = some v ∧ memN s (dstsOf post) = false := fun s v h => baseOf_look (hb2 ▸ h)
          have hvd1 : ∀ j d v, look vals j = some (d, v) → ∃ oj, ops.toList[j]? = some oj ∧ oj.dst = some d := fun j d v hj => by
            have hjl := hlt1 j _ hj
            obtain ⟨oj, hoj⟩ : ∃ oj, pre[j]? = some oj := ⟨_, List.getElem?_eq_getElem hjl⟩
            obtain ⟨d', _, _, v', hd', hv', _⟩ := hfact1 j oj hoj
            rw [hj] at hv'
            injection hv' with hv'
            obtain ⟨rfl, rfl⟩ := Prod.mk.inj hv'
            exact ⟨oj, by rw [hoppre j (by omega)]; exact hoj, hd'⟩
          have hge2 : ∀ j q, look vals2 j = some q → k + 1 ≤ j := by
            have gen : ∀ (rest : List Oper) (i : Nat) (vals vals' : Vals) (p0 p : Prop), drawL X.tt X.kt X.gt md ops.toList base2 s1.blks s1.nxt i rest vals p0 = some (p, vals') → (∀ j q, look vals j = some q → k + 1 ≤ j) → k + 1 ≤ i → ∀ j q, look vals' j = some q → k + 1 ≤ j := by
              intro rest
              induction rest with
              | nil =>
                intro i vals vals' p0 p h hv _
                simp only [drawL, Option.some.injEq, Prod.mk.injEq] at h
                obtain ⟨_, rfl⟩ := h
                exact hv
              | cons o rest ih =>
                intro i vals vals' p0 p h hv hi
                simp only [drawL] at h
                split at h
                · split at h
                  · split at h
                    · refine ih _ _ _ _ _ h (fun j q hj => ?_) (by omega)
                      rw [look_cons] at hj
                      by_cases hji : j = i
                      · omega
                      · rw [if_neg hji] at hj; exact hv j q hj
                    · cases h
                  · cases h
                · cases h
            exact gen _ _ _ _ _ _ hL2 (fun j q h => by simp [look] at h) (Nat.le_refl _)
          have hvd2 : ∀ j d v, look vals2 j = some (d, v) → ∃ oj, ops.toList[j]? = some oj ∧ oj.dst = some d := fun j d v hj => by
            have hjl := hlt2 j _ hj
            have hjg := hge2 j _ hj
            obtain ⟨oj, hoj⟩ : ∃ oj, post[j - (k + 1)]? = some oj := ⟨_, List.getElem?_eq_getElem (by omega)⟩
            obtain ⟨d', _, _, v', hd', hv', _⟩ := hfact2 (j - (k + 1)) oj hoj
            rw [show k + 1 + (j - (k + 1)) = j by omega, hj] at hv'
            injection hv' with hv'
            obtain ⟨rfl, rfl⟩ := Prod.mk.inj hv'
            have h1 := hoppost (j - (k + 1))
            rw [show k + 1 + (j - (k + 1)) = j by omega] at h1
            exact ⟨oj, by rw [h1]; exact hoj, hd'⟩
          have hedges : ∀ i o, ops.toList[i]? = some o → ∀ e ∈ o.after.toList, Region.binds .any e = true → e.on < i := fun i o ho e he' hbe => edgesB_ok (hed i o ho) e he' hbe
          -- what the bits say
          have hdeps : ∀ L, Closed ops.toList L → ∀ i m, look (bef 0 ops.toList []) i = some m → ∃ o, ops.toList[i]? = some o ∧ ∀ j, m.testBit j = true → (∀ e ∈ o.after.toList, Region.binds .any e = true → L.getD e.on false = true) → L.getD j false = true :=
            fun L hL => bef_ok hL ops.toList 0 [] (fun k' o hk' => by simpa using hk') (fun i m h => by simp [look] at h)
          unfold befOK at hbef
          split at hbef
          · rename_i mk hmk
            simp only [Bool.and_eq_true] at hbef
            obtain ⟨hahead, hbehind⟩ := hbef
            let I : Array Bool → Act → World → Prop := fun L a w => L.size = ops.size ∧ Closed ops.toList L ∧
              ((L.getD k false = false ∧ (∀ i, k < i → L.getD i false = false) ∧ DrawInv X ε0 σ base vals L a w) ∨ (L.getD k false = true ∧ (∀ i, i < k → L.getD i false = true) ∧ DrawInv X ε0 s1 base2 vals2 L a w))
            have fin : ∀ L a w, I L a w → (∀ i, i < ops.size → L.getD i false = true) → Q .normal a w := by
              intro L a w ⟨hL, hC, hcase⟩ hall
              rcases hcase with ⟨h1, _, _⟩ | ⟨h1, _, ε', hle, hh, hv⟩
              · rw [hall k (by omega)] at h1; cases h1
              · refine hn ε' a w (hle0.trans hle) ⟨hh.defers, hh.size, fun s v hs => ?_, hh.tab⟩
                rcases hregs2 s v hs with h | ⟨j, _, h⟩
                · exact hh.regs s v h
                · exact hv j s v h (hall j (by have := hlt2 j _ h; omega))
            have getset : ∀ (L : Array Bool) (i : Nat), i < L.size → (L.setIfInBounds i true).getD i false = true := fun L i hi => by
              simp [Array.getD_eq_getD_getElem?, hi]
            have step : ∀ (L : Array Bool) a w, I L a w → ∀ i ∈ Region.ready .any ops L, ∀ K : Act → World → Prop, (∀ a' w', I (L.setIfInBounds i true) a' w' → K a' w') → wpOp X.P ops Q i K a w := by
              intro L a w ⟨hL, hC, hcase⟩ i hi K hK
              obtain ⟨hun, o, ho, hedge⟩ := mem_ready.1 hi
              have hol : ops.toList[i]? = some o := by rw [← hops]; exact ho
              have hisz : i < ops.size := (Array.getElem?_eq_some_iff.1 ho).1
              have hLi : L.getD i false = false := by
                simp only [Array.getD_eq_getD_getElem?, Array.getElem?_eq_getElem (show i < L.size by omega), Option.getD_some] at hun ⊢
                exact hun
              have hedge' : ∀ e ∈ o.after.toList, Region.binds .any e = true → L.getD e.on false = true := fun e he' hbe => hedge e (by simpa using he') hbe
              have hC' : Closed ops.toList (L.setIfInBounds i true) := fun j oj hj hLj e he' hbe => by
                by_cases hji : j = i
                · subst hji
                  rw [hol] at hj
                  injection hj with hj
                  subst hj
                  exact getD_set_true (hedge' e he' hbe)
                · rw [getD_set_ne false (fun e => hji e.symm)] at hLj
                  exact getD_set_true (hC j oj hj hLj e he' hbe)
              have hsz' : (L.setIfInBounds i true).size = ops.size := by simpa using hL
              rcases hcase with ⟨h1, h2, hI⟩ | ⟨h1, h2, hI⟩
              · rcases Nat.lt_trichotomy i k with hik | hik | hik
                · -- a value ahead
                  have hfact := hfact1 i o (by rw [← hoppre i hik]; exact hol)
                  refine draw_step hX hk hd hnd hvd1 hol (fun s v d hs hd' e => ?_) hfact hI hedge' K fun a' w' hI' => hK a' w' ⟨hsz', hC', .inl ⟨?_, fun j hj => ?_, hI'⟩⟩
                  · subst e
                    have := (hbase1 s v hs).2
                    rw [memN_mem (dstsOf_mem hol hd')] at this
                    cases this
                  · rw [getD_set_ne false (by omega)]; exact h1
                  · rw [getD_set_ne false (by omega)]; exact h2 j hj
                · -- the change
                  subst hik
                  rw [hopc] at hol
                  injection hol with hol
                  subst hol
                  obtain ⟨o', ho', hdep⟩ := hdeps L hC i mk hmk
                  rw [hopc] at ho'
                  injection ho' with ho'
                  subst ho'
                  have hall : ∀ j, j < i → L.getD j false = true := fun j hj => hdep j (aheadB_ok hahead j hj) hedge'
                  obtain ⟨ε', hle, hh, hv⟩ := hI
                  have hH : Holds X ε' ⟨allRegs base vals, σ.blks, σ.nxt⟩ a w := ⟨hh.defers, hh.size, fun s v hs => by
                    rcases hregs1 s v hs with h | ⟨j, _, h⟩
                    · exact hh.regs s v h
                    · exact hv j s v h (hall j (by have := hlt1 j _ h; omega)), hh.tab⟩
                  have hcm : c ∈ ops.toList := List.mem_of_getElem? hopc
                  unfold wpOp
                  rw [ho]
                  have hs := exec1_sound (next := K) (Q := Q) hX hH (opersB_ok hk c hcm) (dstsB_ok hd c hcm) hex hq1 (fun ε'' a' w' hle' hh' => hK a' w' ⟨hsz', hC', .inr ⟨getset L i (by omega), fun j hj => getD_set_true (hall j hj), ε'', hle.trans hle', ⟨hh'.defers, hh'.size, fun s v hs => hh'.regs s v (hbase2 s v hs).1, hh'.tab⟩, fun j d v hj hLj => by
                    have hg := hge2 j _ hj
                    rw [getD_set_ne false (by omega), h2 j (by omega)] at hLj
                    cases hLj⟩⟩)
                  rw [Array.toArray_toList] at hs
                  show if _ then _ else _
                  split
                  · rename_i hw
                    rw [if_pos hw] at hs
                    exact .inl hs
                  · rename_i hw
                    rw [if_neg hw] at hs
                    exact hs
                · -- what stands behind waits
                  obtain ⟨b, hb, hbk⟩ := behindB_ok hbehind i (by omega) (by rw [hszl, hlen] at *; omega)
                  obtain ⟨o', ho', hdep⟩ := hdeps L hC i b hb
                  rw [hol] at ho'
                  injection ho' with ho'
                  subst ho'
                  rw [hdep k hbk hedge'] at h1
                  cases h1
              · rcases Nat.lt_trichotomy i k with hik | hik | hik
                · rw [h2 i hik] at hLi; cases hLi
                · subst hik; rw [h1] at hLi; cases hLi
                · have hpi : post[i - (k + 1)]? = some o := by
                    have := hoppost (i - (k + 1))
                    rw [show k + 1 + (i - (k + 1)) = i by omega] at this
                    rw [← this]; exact hol
                  have hfact := hfact2 (i - (k + 1)) o hpi
                  rw [show k + 1 + (i - (k + 1)) = i by omega] at hfact
                  refine draw_step hX hk hd hnd hvd2 hol (fun s v d hs hd' e => ?_) hfact hI hedge' K fun a' w' hI' => hK a' w' ⟨hsz', hC', .inr ⟨getD_set_true h1, fun j hj => getD_set_true (h2 j hj), hI'⟩⟩
                  subst e
                  have := (hbase2 s v hs).2
                  rw [memN_mem (dstsOf_mem hpi hd')] at this
                  cases this
            refine wp_region_any hm (draw_all (X := X) I (fun L a w h => h.1) fin hedges step ops.size _ a0 _ ⟨by simp, fun i o ho hL => ?_, .inl ⟨?_, fun i _ => ?_, ε0, EnvLe.refl _, ⟨hh0.defers, hh0.size, fun s v hs => hh0.regs s v (hbase1 s v hs).1, ?_⟩, fun i d v _ hL => ?_⟩⟩ ?_)
            · exfalso
              simp only [Array.getD_eq_getD_getElem?] at hL
              rcases Nat.lt_or_ge i ops.size with h | h
              · rw [Array.getElem?_eq_getElem (by simpa using h)] at hL
                simp at hL
              · rw [Array.getElem?_eq_none (by simpa using h)] at hL
                simp at hL
            · simp only [Array.getD_eq_getD_getElem?]
              rw [Array.getElem?_eq_getElem (by simp; omega)]
              simp
            · simp only [Array.getD_eq_getD_getElem?]
              rcases Nat.lt_or_ge i ops.size with h | h
              · rw [Array.getElem?_eq_getElem (by simpa using h)]
                simp
              · rw [Array.getElem?_eq_none (by simpa using h)]
                simp
            · exact hh0.tab.drew _
            · exfalso
              simp only [Array.getD_eq_getD_getElem?] at hL
              rcases Nat.lt_or_ge i ops.size with h | h
              · rw [Array.getElem?_eq_getElem (by simpa using h)] at hL
                simp at hL
              · rw [Array.getElem?_eq_none (by simpa using h)] at hL
                simp at hL
            · refine Nat.le_trans (List.length_filter_le _ _) (by simp)
          · cases hbef
        · cases he
      · cases he
    · cases he
  · cases he

/-- All edges lead back. -/
def backB : Nat → List Oper → Bool
  | _, [] => true
  | i, o :: l => match edgesB i o.after.toList with
    | true => backB (i + 1) l
    | false => false
theorem backB_ok : ∀ {l : List Oper} {i : Nat}, backB i l = true → ∀ k o, l[k]? = some o → edgesB (i + k) o.after.toList = true
  | [], i, _, k, o, h => by simp at h
  | x :: l, i, hb, k, o, h => by
    simp only [backB] at hb
    split at hb
    · rename_i hx
      cases k with
      | zero => simp at h; subst h; exact hx
      | succ k =>
        have := backB_ok hb k o (by simpa using h)
        rwa [show i + 1 + k = i + (k + 1) by omega] at this
    · cases hb
theorem rDrawSC (md : Md) {id : Nat} {ops : Array Oper} {σ' : Sig} {p : Prop} (hX : XOk X) (hm : X.P.follows .mixedOrders = true) (hk : opersB ops.toList = true) (hd : dstsB X.nt ops.toList = true) (hnd : nodupB (dstsOf ops.toList) = true) (hed : backB 0 ops.toList = true)
    (he : drawS X.tt X.kt X.gt md ops.toList σ = some (p, σ')) (hp : p) (hn : SQ X Q .normal ε σ') : SW X (.region id ops true) Q ε σ :=
  rDrawS md hX hm hk hd hnd (fun i o ho => by simpa using backB_ok hed i o ho) he hp hn
end
end Go.X
