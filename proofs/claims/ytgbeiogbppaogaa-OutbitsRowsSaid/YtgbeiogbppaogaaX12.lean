/- Conversions, literals. -/
import Derived.Test.YtgbeiogbppaogaaX11
set_option linter.unusedVariables false
namespace Go.X

section
variable {X : Ctx} {ε : Env} {σ : Sig} {a : Act} {w : World} {o : Oper} {next : Act → World → Prop} {Q : Exit → Act → World → Prop}

theorem RelB.one {b : Body} {vs : List Value} (h : RelB ε b vs) : ∀ v ∈ vs, v.oneCell' = true := by
  cases b with
  | flat l => exact RelL.one h
  | rows n sz f =>
    obtain ⟨hl, hr⟩ := h
    intro v hv
    obtain ⟨j, hj, rfl⟩ := List.mem_iff_getElem.1 hv
    rcases Nat.eq_zero_or_pos sz with h0 | hp
    · rw [hl, h0] at hj; omega
    · have hq : j / sz < n := by rw [Nat.div_lt_iff_lt_mul hp, ← hl]; exact hj
      refine RelL.one (hr (j / sz) hq) _ ?_
      rw [List.mem_iff_getElem?]
      refine ⟨j % sz, ?_⟩
      rw [List.getElem?_take, if_pos (Nat.mod_lt _ hp), List.getElem?_drop, Nat.mul_comm, Nat.div_add_mod, List.getElem?_eq_getElem hj]

theorem subB_rel {b b' : Body} {aa len sz : Nat} {q : Prop} {vs : List Value} (hs : subB b aa len sz = some (q, b')) (hq : q) (h : RelB ε b vs) :
    aa * sz + len * sz ≤ vs.length ∧ RelB ε b' ((vs.drop (aa * sz)).take (len * sz)) := by
  unfold subB at hs
  split at hs
  · rename_i n k xs
    obtain ⟨v1, v2, rfl, g1, g2⟩ := h
    simp only [RelL] at g2
    subst g2
    rw [List.append_nil]
    have hl := RelS.length g1
    simp only [S0.width] at hl
    cases hz : Nat.beq sz 1 with
    | false => simp [hz] at hs
    | true =>
      have hz' := Nat.eq_of_beq_eq_true hz
      subst hz'
      cases ha : Nat.beq aa 0 with
      | true =>
        simp only [hz, ha, Option.some.injEq, Prod.mk.injEq] at hs
        obtain ⟨rfl, rfl⟩ := hs
        have ha := Nat.eq_of_beq_eq_true ha
        subst ha
        refine ⟨by omega, ?_⟩
        simp only [List.drop_zero, Nat.mul_one]
        have := RelS.ints_sub g1 0 len (by omega)
        simp only [List.drop_zero] at this
        exact RelL.single this
      | false =>
        simp only [hz, ha, Option.some.injEq, Prod.mk.injEq] at hs
        obtain ⟨rfl, rfl⟩ := hs
        refine ⟨by omega, ?_⟩
        simp only [Nat.mul_one]
        exact RelL.single (RelS.ints_sub g1 aa len hq)
  · rename_i n sz' f
    obtain ⟨hl, hr⟩ := h
    have key : ∀ f' : Nat → List S0, (∀ i, i < len → f' i = f (aa + i)) → aa + len ≤ n → sz = sz' → aa * sz + len * sz ≤ vs.length ∧ RelB ε (.rows len sz' f') ((vs.drop (aa * sz)).take (len * sz)) := by
      intro f' hf hn hsz
      subst hsz
      have hle : (aa + len) * sz ≤ n * sz := Nat.mul_le_mul_right _ hn
      rw [Nat.add_mul] at hle
      refine ⟨by omega, by simp; omega, fun i hi => ?_⟩
      have hle2 : (i + 1) * sz ≤ len * sz := Nat.mul_le_mul_right _ hi
      rw [Nat.succ_mul] at hle2
      have := hr (aa + i) (by omega)
      rw [hf i hi, List.drop_take, List.drop_drop, List.take_take, show min sz (len * sz - i * sz) = sz by omega, ← Nat.add_mul]
      exact this
    cases hz : Nat.beq sz sz' with
    | false => simp [hz] at hs
    | true =>
      have hz' := Nat.eq_of_beq_eq_true hz
      cases ha : Nat.beq aa 0 with
      | true =>
        simp only [hz, ha, Option.some.injEq, Prod.mk.injEq] at hs
        obtain ⟨rfl, rfl⟩ := hs
        have ha := Nat.eq_of_beq_eq_true ha
        exact key f (fun i _ => by rw [ha, Nat.zero_add]) (by omega) hz'
      | false =>
        simp only [hz, ha, Option.some.injEq, Prod.mk.injEq] at hs
        obtain ⟨rfl, rfl⟩ := hs
        exact key _ (fun i _ => rfl) hq hz'
  · cases hs

theorem RelB.nil_of {b b' : Body} {aa len sz : Nat} {q : Prop} (hs : subB b aa len sz = some (q, b')) (hq : q) (h : RelB ε b []) : len * sz = 0 ∧ RelB ε b' [] := by
  obtain ⟨h1, h2⟩ := subB_rel hs hq h
  simp only [List.length_nil] at h1
  simp at h2
  exact ⟨by omega, h2⟩

/-- The cells of a slice. -/
theorem slice_cells (h : Tab X ε σ.blks σ.nxt w) {id aa len sz : Nat} {v : Value} (hv : RelC ε (.sl id aa len sz) v) {ow : Bool} {ty : TypeId} {tl : Option Nat} {b b' : Body} (he : look σ.blks id = some (.mem ow ty tl b)) {q : Prop} (hs : subB b aa len sz = some (q, b')) (hq : q) :
    ∃ ad c news, v = .slice ad len c ∧ RelB ε b' news ∧ news.length = len * sz ∧ (∀ j u, news[j]? = some u → ∃ d, ad = some d ∧ w.cell? (d.add j) = some u) ∧ (ad = none → len = 0 ∧ c = 0) := by
  obtain ⟨h1, h2, ⟨hnil, rfl, h0⟩ | ⟨hnil, hcap, ad, rfl, had⟩⟩ := hv
  · subst h0
    have hb := ((h.ent id _ he).2.1 hnil).1
    exact ⟨none, 0, [], rfl, (RelB.nil_of hs hq hb).2, by simp, by simp, fun _ => ⟨rfl, rfl⟩⟩
  · obtain ⟨vs, junk, hb, hcell, _⟩ := cells_of h he hnil
    obtain ⟨g1, g2⟩ := subB_rel hs hq hb
    have hnl : ((vs.drop (aa * sz)).take (len * sz)).length = len * sz := by simp; omega
    refine ⟨some ad, _, _, rfl, g2, hnl, fun j u hj => ?_, fun e => by cases e⟩
    have hjl := (List.getElem?_eq_some_iff.1 hj).1
    rw [hnl] at hjl
    have hpos : 0 < len := by
      rcases Nat.eq_zero_or_pos len with h0 | h0
      · rw [h0, Nat.zero_mul] at hjl; omega
      · exact h0
    refine ⟨ad, rfl, ?_⟩
    rw [had (by omega), add_none, Nat.add_assoc]
    apply hcell
    rw [List.getElem?_take, if_pos hjl, List.getElem?_drop] at hj
    exact hj

theorem foldl_push (xs : List Int) : ∀ b : ByteArray, xs.foldl (fun r n => r.push (UInt8.ofNat n.toNat)) b = ⟨b.data ++ (xs.map fun x => UInt8.ofNat x.toNat).toArray⟩ := by
  induction xs with
  | nil => intro b; simp
  | cons x xs ih =>
    intro b
    rw [List.foldl_cons, ih]
    congr 1
    simp [ByteArray.push]

theorem bytesOf_eq (xs : List Int) : xs.foldl (fun r n => r.push (UInt8.ofNat n.toNat)) ByteArray.empty = bytesOf xs := by
  rw [foldl_push]
  simp [bytesOf, ByteArray.empty, ByteArray.emptyWithCapacity]
  rfl

theorem bytesOf_size (xs : List Int) : (bytesOf xs).size = xs.length := by
  simp [bytesOf, ByteArray.size]

theorem convert_tells (hX : XOk X) (h : Holds X ε σ a w) {md : Md} {src dst : TypeId} {x : Operand} {p : Prop} {eff : Eff} (ho : o.op = .convert src dst x) (hk : constOk x) (hc : opConvert X.tt md σ src dst x = some (p, eff)) (hp : p) :
    ∃ v, eff = .val v ∧ Tells X ε a w o v := by
  unfold opConvert at hc
  cases hs : look X.tt src with
  | none => simp [hs] at hc
  | some ts =>
    cases hd : look X.tt dst with
    | none => simp [hs, hd] at hc
    | some td =>
      cases hv : ev1 σ.regs x with
      | none => simp [hs, hd, hv] at hc
      | some q =>
        obtain ⟨q1, v⟩ := q
        simp only [hs, hd, hv] at hc
        have hts := hX.tt src ts hs
        have htd := hX.tt dst td hd
        have hrun : ∀ y, (convert src dst (a.eval x)).run X.P w = .ok y w → (execOp a.eval o).run X.P w = .ok (.value y) w := by
          intro y hy
          unfold execOp
          simp only [ho, Sem.run_bind, hy, Result.andThen_ok, Sem.run_pure]
        split at hc
        · rename_i k0 k k1 n h1 h2
          have hu1 := int_of hts h1
          have hu2 := int_of htd h2
          cases hm : md.wrap with
          | true =>
            simp only [hm, Option.some.injEq, Prod.mk.injEq] at hc
            obtain ⟨rfl, rfl⟩ := hc
            obtain ⟨hx, _⟩ : RelC ε (.int k1 n) (a.eval x) := ev1_rel h hv hk hp
            refine ⟨_, rfl, .int k (k.wrap n), hrun _ ?_, rfl, wrap_inK _ _⟩
            unfold convert
            simp [hx, run_und hu1, run_und hu2, Conv.intToInt]
          | false =>
            simp only [hm, Option.some.injEq, Prod.mk.injEq] at hc
            obtain ⟨rfl, rfl⟩ := hc
            obtain ⟨hx, _⟩ : RelC ε (.int k1 n) (a.eval x) := ev1_rel h hv hk hp.1
            refine ⟨_, rfl, .int k n, hrun _ ?_, rfl, hp.2⟩
            unfold convert
            simp [hx, run_und hu1, run_und hu2, Conv.intToInt, wrap_in hp.2]
        · rename_i s h1 h2
          simp only [Option.some.injEq, Prod.mk.injEq] at hc
          obtain ⟨rfl, rfl⟩ := hc
          obtain ⟨hx, hsz⟩ : RelC ε (.str s) (a.eval x) := ev1_rel h hv hk hp
          refine ⟨_, rfl, .string s, hrun _ ?_, rfl, hsz⟩
          unfold convert
          simp [hx, run_und (str_of hts h1), run_und (str_of htd h2)]
        · rename_i e esz eb id aa len sz h1 h2
          obtain ⟨hu1, ti, hti, htis, _⟩ := sl_of hts h1
          have hu2 := str_of htd h2
          split at hc
          · rename_i ow ty tl b ee he hee
            split at hc
            · rename_i q2 n xs hd2 hsub
              simp only [Option.some.injEq, Prod.mk.injEq] at hc
              obtain ⟨rfl, rfl⟩ := hc
              obtain ⟨g1, g2, rfl, g3⟩ := hp
              obtain ⟨ad, c, news, hx, hb, hl, hcell, hnone⟩ := slice_cells h.tab (ev1_rel h hv hk g1) he hsub g2
              obtain ⟨u1, u2, rfl, ⟨k1, rfl, _⟩, k2⟩ := hb
              simp only [RelL] at k2
              subst k2
              simp only [List.append_nil, Nat.mul_one] at hl hcell
              have hlen : xs.length = len := by simpa using hl
              have hue := int_of (hX.tt e ee hee) hd2
              refine ⟨_, rfl, .string (bytesOf xs), hrun _ ?_, rfl, by rw [bytesOf_size]; omega⟩
              unfold convert
              simp only [hx, Sem.run_bind, run_und hu1, run_und hu2, run_und hue, Result.andThen_ok]
              cases ad with
              | none =>
                obtain ⟨h0, _⟩ := hnone rfl
                have : xs = [] := by cases xs with | nil => rfl | cons _ _ => simp [h0] at hlen
                subst this
                simp [Conv.bytesToString, bytesOf, ByteArray.empty, ByteArray.emptyWithCapacity]
                rfl
              | some d =>
                have hload := run_loadCells_list (P := X.P) w d (xs.map (Value.int .u8)) (fun j v hj => by
                  obtain ⟨d', e', hc'⟩ := hcell j v hj
                  injection e' with e'
                  subst e'
                  exact hc')
                rw [List.length_map, hlen] at hload
                rw [run_bytesToString w d len c xs hload, bytesOf_eq]
            · cases hc
          · cases hc
        · rename_i e esz eb h1 h2
          split at hc
          · rename_i ee hee
            split at hc
            · rename_i hd2
              simp only [Option.some.injEq, Prod.mk.injEq] at hc
              obtain ⟨rfl, rfl⟩ := hc
              obtain ⟨hx, _⟩ : RelC ε (.val (.slice none 0 0)) (a.eval x) := ev1_rel h hv hk hp
              refine ⟨_, rfl, .string ⟨#[]⟩, hrun _ ?_, rfl, by simp [ByteArray.size]⟩
              obtain ⟨hu1, _⟩ := sl_of hts h1
              unfold convert
              simp only [hx, Sem.run_bind, run_und hu1, run_und (str_of htd h2), run_und (int_of (hX.tt e ee hee) hd2), Result.andThen_ok]
              rfl
            · cases hc
          · cases hc
        · cases hc

/-! ### literals -/
theorem wr_cons {vs : List Value} {off : Nat} {c : Value} {cs : List Value} (h : off + (cs.length + 1) ≤ vs.length) : wr vs off (c :: cs) = wr (vs.set off c) (off + 1) cs := by
  unfold wr
  rw [List.set_eq_take_append_cons_drop, if_pos (by omega)]
  rw [List.take_append, List.take_of_length_le (by simp; omega : (vs.take off).length ≤ off + 1)]
  simp only [List.length_take, Nat.min_eq_left (show off ≤ vs.length by omega)]
  rw [show off + 1 - off = 1 by omega, List.take_succ_cons, List.take_zero, List.drop_append, List.drop_of_length_le (by simp; omega : (vs.take off).length ≤ off + 1 + cs.length)]
  simp only [List.length_take, Nat.min_eq_left (show off ≤ vs.length by omega), List.nil_append]
  rw [show off + 1 + cs.length - off = cs.length + 1 by omega, List.drop_succ_cons, List.drop_drop]
  simp only [List.append_assoc, List.cons_append, List.nil_append, List.length_cons]
  rw [show off + 1 + cs.length = off + (cs.length + 1) by omega]

theorem zip_wr (off : Nat) : ∀ (cs : List Value) (k : Nat) (vs : List Value), off + k + cs.length ≤ vs.length →
    (cs.zipIdx k).foldl (fun (a : Array Value) (p : Value × Nat) => a.setIfInBounds (off + p.2) p.1) vs.toArray = (wr vs (off + k) cs).toArray
  | [], k, vs, h => by simp [wr]
  | c :: cs, k, vs, h => by
    simp only [List.length_cons] at h
    simp only [List.zipIdx_cons, List.foldl_cons]
    rw [wr_cons (by omega)]
    have : vs.toArray.setIfInBounds (off + k) c = (vs.set (off + k) c).toArray := by simp
    rw [this, zip_wr off cs (k + 1) _ (by simp; omega)]
    rfl

theorem fillL_run {P : Program} {places : Nat → Option (Nat × Nat)} (h : Holds X ε σ a w) : ∀ {parts : List (Nat × Operand)} {l l' : List S0} {p : Prop} {vs : List Value}, fillL places σ.regs l parts = some (p, l') → (∀ x ∈ parts, constOk x.2) → p → RelL ε l vs →
    ∃ ws, Instr.fill places vs.toArray (parts.map fun (i, x) => (i, a.eval x)) = some (List.toArray ws) ∧ RelL ε l' ws ∧ ws.length = vs.length
  | [], l, l', p, vs, he, _, _, hr => by
    simp only [fillL, Option.some.injEq, Prod.mk.injEq] at he
    obtain ⟨_, rfl⟩ := he
    exact ⟨vs, rfl, hr, rfl⟩
  | (i, x) :: r, l, l', p, vs, he, hk, hp, hr => by
    simp only [fillL] at he
    cases h1 : places i with
    | none => simp [h1] at he
    | some os =>
      obtain ⟨off, sz⟩ := os
      cases h2 : ev1 σ.regs x with
      | none => simp [h1, h2] at he
      | some q =>
        obtain ⟨q1, v⟩ := q
        simp only [h1, h2] at he
        cases h3 : storeF l sz off 0 0 0 0 v with
        | none => simp [h3] at he
        | some q' =>
          obtain ⟨q2, l1⟩ := q'
          simp only [h3] at he
          cases h4 : fillL places σ.regs l1 r with
          | none => simp [h4] at he
          | some q'' =>
            obtain ⟨q3, l2⟩ := q''
            simp only [h4, Option.some.injEq, Prod.mk.injEq] at he
            obtain ⟨rfl, rfl⟩ := he
            obtain ⟨g1, g2, g3⟩ := hp
            have hv := ev1_rel h h2 (hk (i, x) (by simp)) g1
            have hsz : (a.eval x).cells.toList.length = sz := (Rel1.width hv).trans (storeF_size h3)
            obtain ⟨f1, f2⟩ := storeF_rel h3 g2 hr hv hsz
            simp only [Nat.zero_mul, Nat.add_zero] at f1 f2
            obtain ⟨ws, e1, e2, e3⟩ := fillL_run (P := P) h h4 (fun y hy => hk y (by simp [hy])) g3 f2
            refine ⟨ws, ?_, e2, by rw [e3, wr_length f1]⟩
            simp only [List.map_cons, Instr.fill, h1]
            have c1 : ¬ ((a.eval x).cells.size ≠ sz ∨ off + (a.eval x).cells.size > vs.toArray.size) := by
              simp at hsz f1 ⊢
              omega
            have c2 : ((a.eval x).cells.zipIdx.foldl (fun (cs : Array Value) (p : Value × Nat) => cs.setIfInBounds (off + p.2) p.1) vs.toArray) = (wr vs off (a.eval x).cells.toList).toArray := by
              have := zip_wr off (a.eval x).cells.toList 0 vs (by simpa using f1)
              rw [← Array.foldl_toList, Array.toList_zipIdx]
              exact this
            rw [if_neg (by simp only [Bool.or_eq_true, decide_eq_true_eq]; exact c1)]
            have e1' := e1
            rw [← c2] at e1'
            exact e1'

theorem sizes_of {P : Program} {tt : TT} (htt : TtOk P tt) {t : TypeId} {te : TE} (ht : look tt t = some te) : ∃ i z, P.info? t = some i ∧ i.size = te.size ∧ i.bytes = te.bytes ∧ i.zero = some z ∧ ∀ ε, Rel1 ε te.zero z := by
  obtain ⟨i, hi, h1, h2, z, hz, hr⟩ := (htt t te ht).inf
  exact ⟨i, z, hi, h1, h2, hz, hr⟩

theorem fld_places {P : Program} : ∀ {flds : List Field} {fs : List (TypeId × Nat × Nat)}, fldB P flds fs = true → (flds.mapM fun f => (P.info? f.type).map fun i => (f.offset, i.size)) = some (fs.map fun f => (f.2.1, f.2.2))
  | [], [], _ => by simp
  | f :: flds, (t, off, sz) :: fs, h => by
    simp only [fldB, Bool.and_eq_true] at h
    obtain ⟨h1, h2, h3, h4, h5, h6⟩ := h
    obtain ⟨i, hi, his⟩ := szB_of h3
    have e1 := Nat.eq_of_beq_eq_true h1
    have e2 := Nat.eq_of_beq_eq_true h2
    have ih := fld_places h6
    simp [List.mapM_cons, e1, hi, his, ih, e2]
  | [], _ :: _, h => by simp [fldB] at h
  | _ :: _, [], h => by simp [fldB] at h

theorem nth_eq {α : Type} : ∀ (l : List α) (i : Nat), nth l i = l[i]?
  | [], i => by cases i <;> rfl
  | x :: l, 0 => rfl
  | x :: l, i + 1 => by simp [nth, nth_eq l i]

theorem build_tells (hX : XOk X) (h : Holds X ε σ a w) {t : TypeId} {parts : Array (Nat × Operand)} {p : Prop} {eff : Eff} (ho : o.op = .build t parts) (hk : ∀ x ∈ parts.toList, constOk x.2) (hc : opBuild X.tt σ.regs t parts.toList = some (p, eff)) (hp : p) :
    ∃ v, eff = .val v ∧ Tells X ε a w o v := by
  unfold opBuild at hc
  cases ht : look X.tt t with
  | none => simp [ht] at hc
  | some te =>
    simp only [ht] at hc
    have hty := hX.tt t te ht
    obtain ⟨i, z, hi, his, hib, hz, hrel⟩ := sizes_of hX.tt ht
    have hparts : (parts.map fun (i, x) => (i, a.eval x)).toList = parts.toList.map fun (i, x) => (i, a.eval x) := by simp
    split at hc
    · rename_i zl fs hzz hd
      cases hf : fillL (placeF fs) σ.regs zl parts.toList with
      | none => simp [hf] at hc
      | some q =>
        obtain ⟨q1, l⟩ := q
        simp only [hf, Option.some.injEq, Prod.mk.injEq] at hc
        obtain ⟨rfl, rfl⟩ := hc
        have hr := hrel ε
        rw [hzz] at hr
        obtain ⟨vs, rfl, hvs⟩ := hr
        obtain ⟨ws, e1, e2, _⟩ := fillL_run (P := X.P) h hf hk hp hvs
        obtain ⟨flds, hu, hfb⟩ := strct_of hty hd
        refine ⟨_, rfl, .agg ws.toArray, ?_, ws, rfl, e2⟩
        have hpl : placeF fs = fun i : Nat => ((fs.map fun f => (f.2.1, f.2.2)).toArray)[i]? := by
          funext i
          unfold placeF
          rw [nth_eq]
          cases hq : fs[i]? <;> simp [hq]
        rw [hpl] at e1
        have hb : X.P.built t (parts.map fun (i, x) => (i, a.eval x)).toList = some ws.toArray := by
          rw [hparts]
          simp only [Program.built, hi, hu, hz, fld_places hfb, Value.cells]
          exact e1
        unfold execOp
        simp only [ho, Sem.run_bind, run_build w t _ _ hb, Result.andThen_ok, Sem.run_pure]
    · rename_i zl n e esz hzz hd
      cases hf : fillL (placeA esz) σ.regs zl parts.toList with
      | none => simp [hf] at hc
      | some q =>
        obtain ⟨q1, l⟩ := q
        simp only [hf, Option.some.injEq, Prod.mk.injEq] at hc
        obtain ⟨rfl, rfl⟩ := hc
        have hr := hrel ε
        rw [hzz] at hr
        obtain ⟨vs, rfl, hvs⟩ := hr
        obtain ⟨ws, e1, e2, _⟩ := fillL_run (P := X.P) h hf hk hp hvs
        obtain ⟨hu, ie, hie, hies⟩ := arr_of hty hd
        refine ⟨_, rfl, .agg ws.toArray, ?_, ws, rfl, e2⟩
        have hb : X.P.built t (parts.map fun (i, x) => (i, a.eval x)).toList = some ws.toArray := by
          rw [hparts]
          simp only [Program.built, hi, hu, hz, hie, hies, Value.cells]
          exact e1
        unfold execOp
        simp only [ho, Sem.run_bind, run_build w t _ _ hb, Result.andThen_ok, Sem.run_pure]
    · cases hc
end

end Go.X
