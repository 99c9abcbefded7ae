/- Regions whose order is open: the rule. -/
import Derived.Test.YtgbeiogbppaogaaX23
set_option linter.unusedVariables false
namespace Go.X

abbrev Vals := List (Nat × (Nat × SV))

/-- The registers that an operation may look at: the region does not write them, or it waits for who does. -/
def avail (base : Regs) (vals : Vals) : List Edge → Regs
  | [] => base
  | e :: l => match Region.binds .any e with
    | true => match look vals e.on with
      | some q => q :: avail base vals l
      | none => avail base vals l
    | false => avail base vals l

def dstsOf : List Oper → List Nat
  | [] => []
  | o :: l => match o.dst with
    | some d => d :: dstsOf l
    | none => dstsOf l

def baseOf (ds : List Nat) : Regs → Regs
  | [] => []
  | (s, v) :: l => match memN s ds with
    | true => baseOf ds l
    | false => (s, v) :: baseOf ds l

def edgesB (i : Nat) : List Edge → Bool
  | [] => true
  | e :: l => match Region.binds .any e with
    | true => Nat.blt e.on i && edgesB i l
    | false => edgesB i l

def drawL (tt : TT) (kt : KT) (gt : GT) (md : Md) (ops : List Oper) (base : Regs) (blks : Blks) (nxt : Nat) : Nat → List Oper → Vals → Prop → Option (Prop × Vals)
  | i, [], vals, p => some (p, vals)
  | i, o :: rest, vals, p => match o.dst with
    | some d => match edgesB i o.after.toList with
      | true => match execV tt kt gt md ops ⟨avail base vals o.after.toList, blks, nxt⟩ o with
        | some (q, v) => drawL tt kt gt md ops base blks nxt (i + 1) rest ((i, (d, v)) :: vals) (p ∧ q)
        | none => none
      | false => none
    | none => none

def allRegs (base : Regs) : Vals → Regs
  | [] => base
  | (_, q) :: l => q :: allRegs base l

/-- What the run of an operation rests on. -/
def OpFact (tt : TT) (kt : KT) (gt : GT) (md : Md) (ops : List Oper) (base : Regs) (blks : Blks) (nxt : Nat) (vals : Vals) (i : Nat) (o : Oper) : Prop :=
  ∃ d R q v, o.dst = some d ∧ look vals i = some (d, v) ∧ execV tt kt gt md ops ⟨R, blks, nxt⟩ o = some (q, v) ∧ q ∧ (∀ e ∈ o.after.toList, Region.binds .any e = true → e.on < i) ∧
    ∀ s y, look R s = some y → look base s = some y ∨ ∃ e ∈ o.after.toList, Region.binds .any e = true ∧ look vals e.on = some (s, y)

theorem avail_look {base : Regs} {vals : Vals} : ∀ {l : List Edge} {s : Nat} {y : SV}, look (avail base vals l) s = some y → look base s = some y ∨ ∃ e ∈ l, Region.binds .any e = true ∧ look vals e.on = some (s, y)
  | [], s, y, h => .inl h
  | e :: l, s, y, h => by
    have tail : look (avail base vals l) s = some y → look base s = some y ∨ ∃ e' ∈ e :: l, Region.binds .any e' = true ∧ look vals e'.on = some (s, y) := fun h => by
      rcases avail_look h with h | ⟨e', h1, h2, h3⟩
      · exact .inl h
      · exact .inr ⟨e', by simp [h1], h2, h3⟩
    simp only [avail] at h
    split at h
    · rename_i hb
      split at h
      · rename_i q hq
        obtain ⟨d, v⟩ := q
        rw [look_cons] at h
        by_cases hs : s = d
        · rw [if_pos hs] at h
          injection h with h
          subst h hs
          exact .inr ⟨e, by simp, hb, hq⟩
        · rw [if_neg hs] at h
          exact tail h
      · exact tail h
    · exact tail h

theorem edgesB_ok {i : Nat} : ∀ {l : List Edge}, edgesB i l = true → ∀ e ∈ l, Region.binds .any e = true → e.on < i
  | [], _, e, he, _ => by cases he
  | x :: l, h, e, he, hb => by
    simp only [edgesB] at h
    rcases List.mem_cons.1 he with rfl | he
    · rw [hb] at h
      simp only [Bool.and_eq_true] at h
      exact blt_true h.1
    · split at h
      · simp only [Bool.and_eq_true] at h
        exact edgesB_ok h.2 e he hb
      · exact edgesB_ok h e he hb

theorem drawL_ok {tt : TT} {kt : KT} {gt : GT} {md : Md} {ops : List Oper} {base : Regs} {blks : Blks} {nxt : Nat} : ∀ (rest : List Oper) (i : Nat) (vals vals' : Vals) (p0 p : Prop), drawL tt kt gt md ops base blks nxt i rest vals p0 = some (p, vals') → p →
    (∀ j q, look vals j = some q → j < i) →
    p0 ∧ (∀ j q, look vals j = some q → look vals' j = some q) ∧ (∀ j q, look vals' j = some q → j < i + rest.length) ∧ (∀ k o, rest[k]? = some o → OpFact tt kt gt md ops base blks nxt vals' (i + k) o) ∧
    (∀ s y, look (allRegs base vals') s = some y → look (allRegs base vals) s = some y ∨ ∃ j, i ≤ j ∧ look vals' j = some (s, y))
  | [], i, vals, vals', p0, p, h, hp, hv => by
    simp only [drawL, Option.some.injEq, Prod.mk.injEq] at h
    obtain ⟨rfl, rfl⟩ := h
    exact ⟨hp, fun _ _ h => h, fun j q h => by simpa using hv j q h, fun k o h => by simp at h, fun s y h => .inl h⟩
  | o :: rest, i, vals, vals', p0, p, h, hp, hv => by
    simp only [drawL] at h
    cases hd : o.dst with
    | none => simp [hd] at h
    | some d =>
      simp only [hd] at h
      cases he : edgesB i o.after.toList with
      | false => simp [he] at h
      | true =>
        simp only [he] at h
        cases hx : execV tt kt gt md ops ⟨avail base vals o.after.toList, blks, nxt⟩ o with
        | none => simp [hx] at h
        | some qv =>
          obtain ⟨q, v⟩ := qv
          simp only [hx] at h
          have hv' : ∀ j z, look ((i, (d, v)) :: vals) j = some z → j < i + 1 := fun j z hz => by
            rw [look_cons] at hz
            by_cases hj : j = i
            · omega
            · rw [if_neg hj] at hz
              have := hv j z hz
              omega
          obtain ⟨h1, h2, h3, h4, h5⟩ := drawL_ok rest (i + 1) _ _ _ _ h hp hv'
          have old : ∀ j z, look vals j = some z → look vals' j = some z := fun j z hz => by
            refine h2 j z ?_
            rw [look_cons, if_neg (by have := hv j z hz; omega)]
            exact hz
          have hi : look vals' i = some (d, v) := h2 i _ (by rw [look_cons, if_pos rfl])
          refine ⟨h1.1, old, fun j z hz => by have := h3 j z hz; simp; omega, fun k o' hk => ?_, fun s y hs => ?_⟩
          · cases k with
            | zero =>
              simp at hk
              subst hk
              refine ⟨d, _, q, v, hd, hi, hx, h1.2, edgesB_ok he, fun s y hs => ?_⟩
              rcases avail_look hs with h | ⟨e, g1, g2, g3⟩
              · exact .inl h
              · exact .inr ⟨e, g1, g2, old _ _ g3⟩
            | succ k =>
              have := h4 k o' (by simpa using hk)
              rwa [show i + 1 + k = i + (k + 1) by omega] at this
          · rcases h5 s y hs with h | ⟨j, hj, h⟩
            · simp only [allRegs] at h
              rw [look_cons] at h
              by_cases hsd : s = d
              · rw [if_pos hsd] at h
                injection h with h
                subst h hsd
                exact .inr ⟨i, Nat.le_refl _, hi⟩
              · rw [if_neg hsd] at h
                exact .inl h
            · exact .inr ⟨j, by omega, h⟩

def nodupB : List Nat → Bool
  | [] => true
  | x :: l => !memN x l && nodupB l

theorem dstsOf_mem : ∀ {l : List Oper} {i : Nat} {o : Oper} {d : Nat}, l[i]? = some o → o.dst = some d → d ∈ dstsOf l
  | [], i, o, d, h, _ => by simp at h
  | x :: l, 0, o, d, h, hd => by simp at h; subst h; simp [dstsOf, hd]
  | x :: l, i + 1, o, d, h, hd => by
    have := dstsOf_mem (l := l) (i := i) (by simpa using h) hd
    simp only [dstsOf]
    split <;> simp [this]

theorem dsts_apart : ∀ {l : List Oper}, nodupB (dstsOf l) = true → ∀ {i j : Nat} {o o' : Oper} {d : Nat}, l[i]? = some o → l[j]? = some o' → o.dst = some d → o'.dst = some d → i = j
  | [], _, i, j, o, o', d, h, _, _, _ => by simp at h
  | x :: l, hn, i, j, o, o', d, h1, h2, hd, hd' => by
    have hn' : nodupB (dstsOf l) = true := by
      simp only [dstsOf] at hn
      split at hn
      · simp only [nodupB, Bool.and_eq_true] at hn; exact hn.2
      · exact hn
    have first : ∀ {k : Nat} {z : Oper}, x.dst = some d → l[k]? = some z → z.dst = some d → False := fun {k z} hx hk hz => by
      simp only [dstsOf, hx, nodupB, Bool.and_eq_true, Bool.not_eq_true'] at hn
      rw [memN_mem (dstsOf_mem hk hz)] at hn
      cases hn.1
    cases i with
    | zero => cases j with
      | zero => rfl
      | succ j =>
        simp at h1 h2
        subst h1
        exact (first hd h2 hd').elim
    | succ i => cases j with
      | zero =>
        simp at h1 h2
        subst h2
        exact (first hd' h1 hd).elim
      | succ j =>
        simp at h1 h2
        rw [dsts_apart hn' h1 h2 hd hd']

theorem baseOf_look {ds : List Nat} : ∀ {r : Regs} {s : Nat} {v : SV}, look (baseOf ds r) s = some v → look r s = some v ∧ memN s ds = false
  | [], s, v, h => by simp [baseOf, look] at h
  | (t, y) :: r, s, v, h => by
    simp only [baseOf] at h
    split at h
    · rename_i hm
      obtain ⟨h1, h2⟩ := baseOf_look h
      refine ⟨?_, h2⟩
      rw [look_cons, if_neg (fun e => by subst e; rw [hm] at h2; cases h2)]
      exact h1
    · rename_i hm
      rw [look_cons] at h ⊢
      by_cases hs : s = t
      · subst hs
        rw [if_pos rfl] at h ⊢
        exact ⟨h, hm⟩
      · rw [if_neg hs] at h ⊢
        exact baseOf_look h

section
variable {X : Ctx} {ε : Env} {σ : Sig} {Q : Exit → Act → World → Prop}

/-- The state with the operations of L behind it. -/
structure DrawInv (X : Ctx) (ε : Env) (σ : Sig) (base : Regs) (vals : Vals) (L : Array Bool) (a : Act) (w : World) : Prop where
  ex : ∃ ε', EnvLe ε ε' ∧ Holds X ε' ⟨base, σ.blks, σ.nxt⟩ a w ∧ ∀ i d v, look vals i = some (d, v) → L.getD i false = true → RelV ε' v (a.tmps.getD d undef)

theorem rRegDraw (md : Md) {id : Nat} {ops : Array Oper} {vals : Vals} {p : Prop} (hX : XOk X) (hm : X.P.follows .mixedOrders = true) (hk : opersB ops.toList = true) (hd : dstsB X.nt ops.toList = true) (hnd : nodupB (dstsOf ops.toList) = true)
    (he : drawL X.tt X.kt X.gt md ops.toList (baseOf (dstsOf ops.toList) σ.regs) σ.blks σ.nxt 0 ops.toList [] True = some (p, vals)) (hp : p)
    (hn : SQ X Q .normal ε ⟨allRegs (baseOf (dstsOf ops.toList) σ.regs) vals, σ.blks, σ.nxt⟩) : SW X (.region id ops true) Q ε σ := by
  intro ε0 a0 w0 hle0 hh0
  obtain ⟨_, _, hlt, hfact, hregs⟩ := drawL_ok _ 0 _ _ _ _ he hp (fun j q h => by simp [look] at h)
  simp only [Nat.zero_add] at hfact hlt
  have hops : ∀ i : Nat, ops[i]? = ops.toList[i]? := fun i => by simp
  have hsz : ops.toList.length = ops.size := by simp
  generalize hb : baseOf (dstsOf ops.toList) σ.regs = base at *
  have hbase : ∀ s v, look base s = some v → look σ.regs s = some v ∧ memN s (dstsOf ops.toList) = false := fun s v h => baseOf_look (hb ▸ h)
  -- all behind
  have fin : ∀ (L : Array Bool) a w, DrawInv X ε0 σ base vals L a w → (∀ i, i < ops.size → L.getD i false = true) → Q .normal a w := by
    intro L a w ⟨ε', hle, hh, hv⟩ hall
    refine hn ε' a w (hle0.trans hle) ⟨hh.defers, hh.size, fun s v hs => ?_, hh.tab⟩
    rcases hregs s v hs with h | ⟨j, _, h⟩
    · exact hh.regs s v h
    · exact hv j s v h (hall j (by have := hlt j _ h; omega))
  -- the order of the text is open to us
  have prog : ∀ (L : Array Bool), L.size = ops.size → Region.ready .any ops L = [] → ∀ i, i < ops.size → L.getD i false = true := by
    intro L hL hr i
    induction i using Nat.strongRecOn with
    | _ i ih =>
      intro hi
      cases hLi : L.getD i false with
      | true => rfl
      | false =>
        exfalso
        have hmem : i ∈ Region.ready .any ops L := by
          rw [mem_ready]
          obtain ⟨o, ho⟩ : ∃ o, ops[i]? = some o := ⟨_, Array.getElem?_eq_getElem hi⟩
          refine ⟨?_, o, ho, fun e he hbe => ?_⟩
          · simp only [Array.getD_eq_getD_getElem?] at hLi ⊢
            rw [Array.getElem?_eq_getElem (by omega)] at hLi ⊢
            simpa using hLi
          · obtain ⟨d, R, q, v, _, _, _, _, h5, _⟩ := hfact i o (by rw [← hops]; exact ho)
            have h6 := h5 e (by simpa using he) hbe
            exact ih e.on h6 (by omega)
        rw [hr] at hmem
        cases hmem
  have hkk := opersB_ok hk
  have hdd := dstsB_ok hd
  -- one step
  have step : ∀ (L : Array Bool) a w, L.size = ops.size → DrawInv X ε0 σ base vals L a w → ∀ i ∈ Region.ready .any ops L, ∀ K : Act → World → Prop, (∀ a' w', DrawInv X ε0 σ base vals (L.setIfInBounds i true) a' w' → K a' w') → wpOp X.P ops Q i K a w := by
    intro L a w hL ⟨ε', hle, hh, hv⟩ i hi K hK
    obtain ⟨hun, o, ho, hedge⟩ := mem_ready.1 hi
    have hol : ops.toList[i]? = some o := by rw [← hops]; exact ho
    have homem : o ∈ ops.toList := List.mem_of_getElem? hol
    obtain ⟨d, R, q, v, hod, hvi, hx, hq, h5, hR⟩ := hfact i o hol
    have hHR : Holds X ε' ⟨R, σ.blks, σ.nxt⟩ a w := ⟨hh.defers, hh.size, fun s y hs => by
      rcases hR s y hs with h | ⟨e, g1, g2, g3⟩
      · exact hh.regs s y h
      · exact hv _ _ _ g3 (hedge e (by simpa using g1) g2), hh.tab⟩
    have hdn : d < X.nt := by
      have := hdd o homem
      unfold dstB at this
      rw [hod] at this
      exact blt_true this
    have hda : d < a.tmps.size := by rw [hh.size]; exact hdn
    -- the state behind it
    have after : ∀ ε'' x w', EnvLe ε' ε'' → RelV ε'' v x → Tab X ε'' σ.blks σ.nxt w' → K (a.put o.dst x) w' := by
      intro ε'' x w' hle' hrel hT
      refine hK _ _ ⟨ε'', hle.trans hle', ⟨by rw [put_defers]; exact hh.defers, by rw [put_size]; exact hh.size, fun s y hs => ?_, hT⟩, fun j dj vj hj hLj => ?_⟩
      · rw [hod, put_getD a d s x hda]
        have hsd : s ≠ d := fun e => by
          subst e
          have := (hbase s y hs).2
          rw [memN_mem (dstsOf_mem hol hod)] at this
          cases this
        rw [if_neg hsd]
        exact (hh.regs s y hs).mono hle'
      · rw [hod, put_getD a d dj x hda]
        by_cases hji : j = i
        · subst hji
          rw [hvi] at hj
          injection hj with hj
          obtain ⟨rfl, rfl⟩ := Prod.mk.inj hj
          rw [if_pos rfl]
          exact hrel
        · rw [getD_set_ne false (fun e => hji e.symm)] at hLj
          obtain ⟨oj, hoj⟩ : ∃ oj, ops.toList[j]? = some oj := by
            have := hlt j _ hj
            exact ⟨_, List.getElem?_eq_getElem this⟩
          obtain ⟨dj', _, _, vj', hdj', hvj', _⟩ := hfact j oj hoj
          rw [hj] at hvj'
          injection hvj' with hvj'
          obtain ⟨rfl, rfl⟩ := Prod.mk.inj hvj'
          have hne : dj ≠ d := fun e => by
            subst e
            exact hji (dsts_apart hnd hoj hol hdj' hod)
          rw [if_neg hne]
          exact (hv j dj vj hj hLj).mono hle'
    unfold wpOp
    rw [ho]
    have hs := execV_sound (next := K) (Q := Q) hX hHR (hkk o homem) hx hq (fun ε'' x w' hle' hrel hT => after ε'' x w' hle' hrel hT)
    rw [Array.toArray_toList] at hs
    show if _ then _ else _
    split
    · rename_i hw
      rw [if_pos hw] at hs
      exact .inl hs
    · rename_i hw
      rw [if_neg hw] at hs
      exact hs
  -- all orders
  have all : ∀ (fuel : Nat) (L : Array Bool) a w, L.size = ops.size → (∀ i, i < ops.size → L.getD i false = true ∨ True) → DrawInv X ε0 σ base vals L a w → (L.toList.filter (fun b => !b)).length ≤ fuel → wpAny X.P .any ops Q fuel L a w := by
    intro fuel
    induction fuel with
    | zero =>
      intro L a w hL _ hI hc
      have hallT : ∀ i, i < ops.size → L.getD i false = true := fun i hi => by
        have h0 : L.toList.filter (fun b => !b) = [] := List.eq_nil_of_length_eq_zero (by omega)
        rw [List.filter_eq_nil_iff] at h0
        have hi' : i < L.size := by omega
        have := h0 L[i] (by simp)
        simp only [Array.getD_eq_getD_getElem?, Array.getElem?_eq_getElem hi', Option.getD_some]
        simpa using this
      refine ⟨?_, fin L a w hI hallT⟩
      apply List.eq_nil_iff_forall_not_mem.2
      intro i hi
      obtain ⟨hun, o, ho, _⟩ := mem_ready.1 hi
      have hi' : i < ops.size := (Array.getElem?_eq_some_iff.1 ho).1
      have := hallT i hi'
      simp only [Array.getD_eq_getD_getElem?, Array.getElem?_eq_getElem (show i < L.size by omega), Option.getD_some] at this hun
      rw [this] at hun
      cases hun
    | succ fuel ih =>
      intro L a w hL _ hI hc
      refine ⟨fun hr => fin L a w hI (prog L hL hr), fun i hi => ?_⟩
      refine step L a w hL hI i hi _ fun a' w' hI' => ih _ a' w' (by simpa using hL) (fun _ _ => .inr trivial) hI' ?_
      obtain ⟨hun, o, ho, _⟩ := mem_ready.1 hi
      have hi' : i < L.size := by rw [hL]; exact (Array.getElem?_eq_some_iff.1 ho).1
      have hfalse : L[i] = false := by
        simp only [Array.getD_eq_getD_getElem?, Array.getElem?_eq_getElem hi', Option.getD_some] at hun
        exact hun
      have key : ∀ (l : List Bool) (i : Nat), l[i]? = some false → ((l.set i true).filter (fun b => !b)).length + 1 = (l.filter (fun b => !b)).length := by
        intro l
        induction l with
        | nil => intro i h; simp at h
        | cons x l ihl =>
          intro i h
          cases i with
          | zero => simp at h; subst h; simp
          | succ i =>
            have := ihl i (by simpa using h)
            cases x <;> simp_all
      have h1 := key L.toList i (by rw [Array.getElem?_toList, Array.getElem?_eq_getElem hi', hfalse])
      rw [Array.toList_setIfInBounds]
      omega
  refine wp_region_any hm (all ops.size _ a0 _ (by simp) (fun _ _ => .inr trivial) ⟨ε0, EnvLe.refl _, ⟨hh0.defers, hh0.size, fun s v hs => hh0.regs s v (hbase s v hs).1, ?_⟩, fun i d v _ hL => ?_⟩ ?_)
  · exact hh0.tab.drew _
  · exfalso
    simp only [Array.getD_eq_getD_getElem?] at hL
    rcases Nat.lt_or_ge i ops.size with h | h
    · rw [Array.getElem?_eq_getElem (by simpa using h)] at hL
      simp at hL
    · rw [Array.getElem?_eq_none (by simpa using h)] at hL
      simp at hL
  · refine Nat.le_trans (List.length_filter_le _ _) (by simp)
end
end Go.X
