/- Operations that make memory. -/
import Derived.Test.YtgbeiogbppaogaaX12
set_option linter.unusedVariables false
namespace Go.X

/-- n times the same cells. -/
def rep (zl : List Value) (n : Nat) : List Value := (List.replicate n zl).flatten

theorem rep_length (zl : List Value) (n : Nat) : (rep zl n).length = n * zl.length := by
  simp [rep]
theorem rep_succ (zl : List Value) (n : Nat) : rep zl (n + 1) = zl ++ rep zl n := by
  simp [rep, List.replicate_succ]
theorem rep_add (zl : List Value) (n m : Nat) : rep zl (n + m) = rep zl n ++ rep zl m := by
  induction n with
  | zero => simp [rep]
  | succ n ih => rw [show n + 1 + m = (n + m) + 1 by omega, rep_succ, rep_succ, ih, List.append_assoc]
theorem rep_row (zl : List Value) {n i : Nat} (hi : i < n) : ((rep zl n).drop (i * zl.length)).take zl.length = zl := by
  obtain ⟨m, rfl⟩ : ∃ m, n = i + (m + 1) := ⟨n - i - 1, by omega⟩
  rw [rep_add, List.drop_append, List.drop_of_length_le (by rw [rep_length]; exact Nat.le_refl _), rep_length, Nat.sub_self, List.drop_zero, List.nil_append, rep_succ, List.take_left' rfl]
theorem rep_one (v : Value) (n : Nat) : rep [v] n = List.replicate n v := by
  induction n with
  | zero => rfl
  | succ n ih => rw [rep_succ, ih]; rfl
theorem rep_all {zl : List Value} {Q : Value → Prop} (h : ∀ v ∈ zl, Q v) (n : Nat) : ∀ v ∈ rep zl n, Q v := by
  intro v hv
  simp [rep, List.mem_flatten] at hv
  obtain ⟨l, ⟨_, rfl⟩, hv⟩ := hv
  exact h v hv

theorem range_rep (zl : List Value) (n : Nat) : ((Array.range (n * zl.length)).map fun i => zl.toArray[i % zl.toArray.size]!) = (rep zl n).toArray := by
  apply Array.ext'
  simp only [Array.toList_map, Array.toList_range, List.size_toArray]
  induction n with
  | zero => simp [rep]
  | succ n ih =>
    rw [rep_succ, Nat.succ_mul, Nat.add_comm, List.range_add, List.map_append]
    congr 1
    · apply List.ext_getElem?
      intro i
      by_cases hi : i < zl.length
      · simp [hi, Nat.mod_eq_of_lt hi]
      · simp [hi]
    · rw [List.map_map]
      rw [← ih]
      apply List.map_congr_left
      intro i _
      simp

theorem zeroCells_rep (zl : List Value) (n : Nat) : Builtin.zeroCells zl.toArray n = (rep zl n).toArray := by
  have := range_rep zl n
  simpa [Builtin.zeroCells] using this

section
variable {X : Ctx} {ε : Env} {σ : Sig} {a : Act} {w : World} {o : Oper} {next : Act → World → Prop} {Q : Exit → Act → World → Prop}

theorem RelL.rep {l : List S0} {zl : List Value} (h : RelL ε l zl) : ∀ n, RelL ε (List.replicate n l).flatten (rep zl n)
  | 0 => rfl
  | n + 1 => by
    rw [rep_succ, List.replicate_succ, List.flatten_cons]
    exact RelL.append h (RelL.rep h n)

theorem segsOf_rel {x : V1} {v : Value} (h : Rel1 ε x v) : RelL ε (segsOf x) v.cells.toList := by
  have := bodyOf_rel h
  cases x <;> exact this

theorem zeroRow_rel {te : TE} {z : Value} (hz : Rel1 ε te.zero z) (hs : z.cells.toList.length = te.size) (n : Nat) : RelB ε (zeroRow te n) (rep z.cells.toList n) := by
  unfold zeroRow
  split
  · rename_i k m he
    rw [he] at hz
    obtain ⟨rfl, hk⟩ := hz
    refine RelL.single ⟨by simp, ?_, fun x hx => by rw [List.eq_of_mem_replicate hx]; exact hk⟩
    simp [Value.cells, rep_one]
  · refine ⟨by rw [rep_length, hs], fun i hi => ?_⟩
    have := rep_row z.cells.toList hi
    rw [hs] at this
    rw [this]
    exact segsOf_rel hz

theorem rowsList_nth {l : List S0} {esz : Nat} : ∀ {n i : Nat} {rows : List (List S0)}, rowsList l esz n i = some rows → ∀ j, j < n → takeL l ((i + j) * esz) esz = some (rowAt rows j)
  | 0, _, _, _, j, hj => by omega
  | n + 1, i, rows, h, j, hj => by
    simp only [rowsList] at h
    cases h1 : takeL l (i * esz) esz with
    | none => simp [h1] at h
    | some t =>
      cases h2 : rowsList l esz n (i + 1) with
      | none => simp [h1, h2] at h
      | some r =>
        simp only [h1, h2, Option.some.injEq] at h
        subst h
        cases j with
        | zero => simpa [rowAt, nth] using h1
        | succ j =>
          have := rowsList_nth h2 j (by omega)
          rw [show i + (j + 1) = i + 1 + j by omega, this]
          simp [rowAt, nth]

/-- A new block of elements: its slice, its entry. -/
theorem Fits.of_row (h : Holds X ε σ a w) {e : TypeId} {b : Body} {vs junk : List Value} {len cap esz : Nat} (hb : RelB ε b vs) (hcap : (vs ++ junk).length = cap * esz) (hlen : len ≤ cap) (hmax : (len : Int) ≤ 9223372036854775807) :
    Fits X ε σ (.fresh (.v (.c (.sl σ.nxt 0 len esz))) [.mem true e (some esz) b]) (ε.push ⟨w.heap.size, 0, cap, false, []⟩) (.slice (some ⟨w.heap.size, 0, none⟩) len cap) (w.alloc (.cells (vs ++ junk).toArray e)) := by
  have hle := EnvLe.push ε ⟨w.heap.size, 0, cap, false, []⟩
  have hn := h.tab.nxt
  refine ⟨hle, fun u hu => ?_, ?_⟩
  · simp only [Eff.sv, Option.some.injEq] at hu
    subst hu
    refine ⟨by rw [hn]; exact Nat.lt_succ_self _, hmax, .inr ⟨?_, ?_, ⟨w.heap.size, 0, none⟩, ?_, fun _ => ?_⟩⟩ <;> rw [hn, Env.push_new]
    · simpa using hlen
    · simp
    · simp
  · refine h.tab.alloc (.cells (vs ++ junk).toArray e) cap (.mem true e (some esz) b) rfl rfl ⟨(fun hh => by cases hh), fun _ => ⟨vs, junk, hb.mono hle, (fun hh => by cases hh), (fun sz hs => by cases hs; exact hcap), ?_⟩⟩
    simp only [if_true]
    exact ⟨trivial, heap_push_new w _⟩

theorem buildSlice_sound (hX : XOk X) (h : Holds X ε σ a w) {t : TypeId} {len : Nat} {parts : Array (Nat × Operand)} {p : Prop} {eff : Eff} (ho : o.op = .buildSlice t len parts) (hk : ∀ x ∈ parts.toList, constOk x.2) (hc : opBuildSlice X.tt σ.regs σ.nxt t len parts.toList = some (p, eff)) (hp : p)
    (hn : ∀ ε' x w', Fits X ε σ eff ε' x w' → next (a.put o.dst x) w') : o.wp X.P a w next Q := by
  unfold opBuildSlice at hc
  cases ht : look X.tt t with
  | none => simp [ht] at hc
  | some te =>
    simp only [ht] at hc
    have hty := hX.tt t te ht
    cases hd : te.d with
    | sl e esz eb =>
      simp only [hd] at hc
      obtain ⟨hu, ti, hti, htis, htib⟩ := sl_of hty hd
      cases hee : look X.tt e with
      | none => simp [hee] at hc
      | some ee =>
        simp only [hee] at hc
        obtain ⟨i, z, hi, his, hib, hz, hrel⟩ := sizes_of hX.tt hee
        rw [hti] at hi
        injection hi with hi
        subst hi
        have hzl : z.cells.toList.length = width1 ee.zero := Rel1.width (hrel ε)
        have hparts : (parts.map fun (i, x) => (i, a.eval x)).toList = parts.toList.map fun (i, x) => (i, a.eval x) := by simp
        have run : ∀ ws : List Value, z.cells.toList.length = esz → len * esz ≤ 16777216 → Instr.fill (placeA esz) (rep z.cells.toList len).toArray (parts.toList.map fun (i, x) => (i, a.eval x)) = some ws.toArray →
            (execOp a.eval o).run X.P w = .ok (.value (.slice (some ⟨w.heap.size, 0, none⟩) len len)) (w.alloc (.cells ws.toArray e)) := by
          intro ws hzs hsz hf
          have hpl : placeA esz = fun i => some (i * esz, esz) := rfl
          rw [hpl] at hf
          have hlim : ¬ (len * esz > 2 ^ 24) := by omega
          have hrr := range_rep z.cells.toList len
          rw [hzs, Array.toArray_toList] at hrr
          unfold execOp
          by_cases h0 : len * esz = 0
          · have hnil : rep z.cells.toList len = [] := by
              apply List.eq_nil_of_length_eq_zero
              rw [rep_length, hzs]
              exact h0
            have hr0 : ((Array.range (len * esz)).map fun i => (#[] : Array Value)[i % (#[] : Array Value).size]!) = (rep z.cells.toList len).toArray := by
              rw [hnil, h0]
              simp
            simp only [ho, Instr.buildSlice, Sem.run_bind, run_und hu, Result.andThen_ok, run_size hti, htis, if_neg hlim, Sem.run_pure, if_pos h0, hr0, hparts, hf, newRow, run_newObj]
            rfl
          · simp only [ho, Instr.buildSlice, Sem.run_bind, run_und hu, Result.andThen_ok, run_size hti, htis, if_neg hlim, Sem.run_pure, if_neg h0, zeroValue, typeInfo, run_program, hti, hz, hrr, hparts, hf, newRow, run_newObj]
            rfl
        split at hc
        · rename_i k zz hzz
          cases hf : fillL (placeA esz) σ.regs [.ints len k (List.replicate len zz)] parts.toList with
          | none => simp [hf] at hc
          | some q =>
            obtain ⟨q1, l⟩ := q
            simp only [hf, Option.some.injEq, Prod.mk.injEq] at hc
            obtain ⟨rfl, rfl⟩ := hc
            obtain ⟨g1, rfl, g3⟩ := hp
            have hzr := hrel ε
            rw [hzz] at hzr hzl
            obtain ⟨rfl, hk0⟩ := hzr
            have hbase : RelL ε [S0.ints len k (List.replicate len zz)] (rep [Value.int k zz] len) :=
              RelL.single ⟨by simp, by simp [rep_one], fun x hx => by rw [List.eq_of_mem_replicate hx]; exact hk0⟩
            obtain ⟨ws, e1, e2, e3⟩ := fillL_run (P := X.P) h hf hk g1 hbase
            refine wp_value (run ws rfl g3 e1) (hn (ε.push ⟨w.heap.size, 0, len, false, []⟩) _ _ ?_)
            have := Fits.of_row (vs := ws) (junk := []) (len := len) (cap := len) (esz := 1) (e := e) h (b := .flat l) e2 (by rw [List.append_nil, e3, rep_length]; simp) (Nat.le_refl _) (by omega)
            rwa [List.append_nil] at this
        · rename_i zz hne
          cases hf : fillL (placeA esz) σ.regs ((List.replicate len (segsOf ee.zero)).flatten) parts.toList with
          | none => simp [hf] at hc
          | some q =>
            obtain ⟨q1, l⟩ := q
            simp only [hf] at hc
            cases hr : rowsList l esz len 0 with
            | none => simp [hr] at hc
            | some rows =>
              simp only [hr, Option.some.injEq, Prod.mk.injEq] at hc
              obtain ⟨rfl, rfl⟩ := hc
              obtain ⟨g1, g3, g4⟩ := hp
              have hbase := RelL.rep (segsOf_rel (hrel ε)) len
              obtain ⟨ws, e1, e2, e3⟩ := fillL_run (P := X.P) h hf hk g1 hbase
              have hzs : z.cells.toList.length = esz := by
                rw [hzl, (hX.tt e ee hee).wid, ← his, htis]
              refine wp_value (run ws hzs g3 e1) (hn (ε.push ⟨w.heap.size, 0, len, false, []⟩) _ _ ?_)
              have hwl : ws.length = len * esz := by rw [e3, rep_length, hzs]
              have hb : RelB ε (.rows len esz (rowAt rows)) ws := by
                refine ⟨hwl, fun i hi => ?_⟩
                have ht := rowsList_nth hr i hi
                rw [Nat.zero_add] at ht
                have hle : (i + 1) * esz ≤ len * esz := Nat.mul_le_mul_right _ hi
                rw [Nat.succ_mul] at hle
                exact takeL_rel _ _ _ _ _ ht e2 (by omega)
              have := Fits.of_row (vs := ws) (junk := []) (len := len) (cap := len) (esz := esz) (e := e) h hb (by rw [List.append_nil, hwl]) (Nat.le_refl _) (by have := Nat.le_mul_of_pos_right len g4; omega)
              rwa [List.append_nil] at this
    | _ => simp [hd] at hc

theorem makeSlice_sound (hX : XOk X) (h : Holds X ε σ a w) {t : TypeId} {x y : Operand} {p : Prop} {eff : Eff} (ho : o.op = .makeSlice t x y) (hkx : constOk x) (hky : constOk y) (hc : opMakeSlice X.tt σ.regs σ.nxt t x y = some (p, eff)) (hp : p)
    (hn : ∀ ε' x w', Fits X ε σ eff ε' x w' → next (a.put o.dst x) w') : o.wp X.P a w next Q := by
  unfold opMakeSlice at hc
  split at hc
  · rename_i te q1 n q2 c ht h1 h2
    have hty := hX.tt t te ht
    cases hd : te.d with
    | sl e esz eb =>
      simp only [hd] at hc
      obtain ⟨hu, ti, hti, htis, htib⟩ := sl_of hty hd
      cases hee : look X.tt e with
      | none => simp [hee] at hc
      | some ee =>
        simp only [hee] at hc
        obtain ⟨i, z, hi, his, hib, hz, hrel⟩ := sizes_of hX.tt hee
        rw [hti] at hi
        injection hi with hi
        subst hi
        have hzs : z.cells.toList.length = esz := by rw [Rel1.width (hrel ε), (hX.tt e ee hee).wid, ← his, htis]
        have all : ∃ b, b = zeroRow ee n.toNat ∧ (p = (q1 ∧ q2 ∧ 0 ≤ n ∧ n ≤ c ∧ c * eb ≤ 140737488355328)) ∧ eff = .fresh (.v (.c (.sl σ.nxt 0 n.toNat esz))) [.mem true e (some esz) b] := by
          cases hb : zeroRow ee n.toNat with
          | flat l =>
            simp only [hb, Option.some.injEq, Prod.mk.injEq] at hc
            exact ⟨_, rfl, hc.1.symm, hc.2.symm⟩
          | rows m sz f =>
            simp only [hb, Option.some.injEq, Prod.mk.injEq] at hc
            exact ⟨_, rfl, hc.1.symm, hc.2.symm⟩
        obtain ⟨b, rfl, rfl, rfl⟩ := all
        obtain ⟨g1, g2, g3, g4, g5⟩ := hp
        obtain ⟨hx, kx⟩ := evC_rel h h1 hkx g1
        obtain ⟨hy, ky⟩ := evC_rel h h2 hky g2
        simp only [inK] at kx ky
        have hb := zeroRow_rel (hrel ε) (by rw [hzs, ← his, htis]) n.toNat
        have hcap : (rep z.cells.toList n.toNat ++ rep z.cells.toList (c.toNat - n.toNat)).length = c.toNat * esz := by
          rw [← rep_add, rep_length, hzs]
          congr 1
          omega
        refine wp_value ?_ (hn _ _ _ (Fits.of_row h hb hcap (by omega) (by omega)))
        have hrr := range_rep z.cells.toList c.toNat
        rw [hzs, Array.toArray_toList] at hrr
        have ea : rep z.cells.toList n.toNat ++ rep z.cells.toList (c.toNat - n.toNat) = rep z.cells.toList c.toNat := by
          rw [← rep_add]
          congr 1
          omega
        rw [ea]
        have wn : IntKind.i64.wrap n = n := wrap_in kx
        have wc : IntKind.i64.wrap c = c := wrap_in ky
        have t1 : ¬ ((c < 0 ∨ (eb : Int) * c > 2 ^ 48) ∨ n < 0) := by
          rw [Int.mul_comm]
          omega
        unfold execOp
        by_cases h0 : c.toNat * esz = 0
        · have hnil : rep z.cells.toList c.toNat = [] := by
            apply List.eq_nil_of_length_eq_zero
            rw [rep_length, hzs]
            exact h0
          have hr0 : ((Array.range (c.toNat * esz)).map fun i => (#[] : Array Value)[i % (#[] : Array Value).size]!) = (rep z.cells.toList c.toNat).toArray := by
            rw [hnil, h0]
            simp
          simp only [ho, hx, hy, Instr.makeSlice, asInt, asIntOf, Sem.run_bind, run_und hu, Result.andThen_ok, typeInfo, run_program, hti, Sem.run_pure, wn, wc, htib]
          rw [if_neg (by simp only [Bool.or_eq_true, decide_eq_true_eq]; omega)]
          simp only [Sem.run_bind, run_askRoom, Result.andThen_ok, run_size hti, htis, if_pos h0, Sem.run_pure, hr0, newRow, run_newObj]
          rfl
        · simp only [ho, hx, hy, Instr.makeSlice, asInt, asIntOf, Sem.run_bind, run_und hu, Result.andThen_ok, typeInfo, run_program, hti, Sem.run_pure, wn, wc, htib]
          rw [if_neg (by simp only [Bool.or_eq_true, decide_eq_true_eq]; omega)]
          simp only [Sem.run_bind, run_askRoom, Result.andThen_ok, run_size hti, htis, if_neg h0, zeroValue, typeInfo, run_program, hti, hz, Sem.run_pure, hrr, newRow, run_newObj]
          rfl
    | _ => simp [hd] at hc
  · cases hc

theorem range_sound (hX : XOk X) (h : Holds X ε σ a w) {t : TypeId} {x : Operand} {p : Prop} {eff : Eff} (ho : o.op = .range t x) (hk : constOk x) (hc : opRange X.tt σ.regs σ.nxt t x = some (p, eff)) (hp : p)
    (hn : ∀ ε' x w', Fits X ε σ eff ε' x w' → next (a.put o.dst x) w') : o.wp X.P a w next Q := by
  unfold opRange at hc
  split at hc
  · rename_i q s te h1 ht
    have hty := hX.tt t te ht
    cases hd : te.d with
    | str =>
      simp only [hd, Option.some.injEq, Prod.mk.injEq] at hc
      obtain ⟨rfl, rfl⟩ := hc
      obtain ⟨hx, _⟩ := evC_rel h h1 hk hp
      have hle := EnvLe.push ε ⟨w.heap.size, 0, 0, false, []⟩
      have hnx := h.tab.nxt
      refine wp_value (x := .pointer (some ⟨w.heap.size, 0, none⟩)) (w' := w.alloc (.stringIter s 0)) ?_ (hn (ε.push ⟨w.heap.size, 0, 0, false, []⟩) _ _ ⟨hle, fun u hu => ?_, ?_⟩)
      · unfold execOp
        simp only [ho, hx, Instr.range, Sem.run_bind, run_und (str_of hty hd), Result.andThen_ok, Sem.run_pure, run_newObj]
        rfl
      · simp only [Eff.sv, Option.some.injEq] at hu
        subst hu
        refine ⟨by rw [hnx]; exact Nat.lt_succ_self _, ?_, ?_⟩ <;> rw [hnx, Env.push_new]
      · exact h.tab.alloc (.stringIter s 0) 0 (.iter s 0) rfl rfl ⟨rfl, rfl, heap_push_new w _⟩
    | _ => simp [hd] at hc
  · cases hc
end

end Go.X
