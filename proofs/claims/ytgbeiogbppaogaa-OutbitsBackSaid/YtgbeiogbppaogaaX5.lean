/- Tables under growth and change; loads and stores in the model. -/
import Derived.Test.YtgbeiogbppaogaaX4
set_option linter.unusedVariables false
namespace Go.X

theorem heap_lt {w : World} {g : Nat} {o : Obj} (h : w.heap[g]? = some o) : g < w.heap.size := (Array.getElem?_eq_some_iff.1 h).1

theorem owned_lt {ε : Env} {w : World} {L : Loc} {e : E} (h : RelE ε w L e) : ∀ b ∈ owned L e, b < w.heap.size := by
  intro b hb
  cases e with
  | mem own ty tail bd =>
    cases hn : L.isnil with
    | true => simp [owned, hn] at hb
    | false =>
      simp [owned, hn] at hb
      subst hb
      obtain ⟨vs, junk, _, _, _, h4⟩ := h.2 hn
      cases own with
      | true => simp only [if_true] at h4; exact heap_lt h4.2
      | false => simp only [Bool.false_eq_true, if_false] at h4; exact h4.1
  | iter s pos =>
    simp [owned] at hb
    subst hb
    exact heap_lt h.2.2
  | obj k bits =>
    obtain ⟨_, _, ty, cap, junk, ⟨g1, g2, g3⟩ | ⟨g, g1, g2, g3, g4, g5⟩⟩ := h
    · simp [owned, g2] at hb; subst hb; exact heap_lt g3
    · simp [owned, g1] at hb
      rcases hb with rfl | rfl
      · exact heap_lt g4
      · exact heap_lt g5

theorem heap_push_old (w : World) (o : Obj) {i : Nat} (h : i < w.heap.size) : (w.alloc o).heap[i]? = w.heap[i]? := by
  show (w.heap.push o)[i]? = w.heap[i]?
  rw [Array.getElem?_push, if_neg (Nat.ne_of_lt h)]
theorem heap_push_new (w : World) (o : Obj) : (w.alloc o).heap[w.heap.size]? = some o := by
  show (w.heap.push o)[w.heap.size]? = some o
  simp
theorem heap_push_size (w : World) (o : Obj) : (w.alloc o).heap.size = w.heap.size + 1 := by
  show (w.heap.push o).size = _
  simp

theorem Keep.alloc {M : List Nat} {w0 w : World} (h : Keep M w0 w) (o : Obj) : Keep M w0 (w.alloc o) :=
  h.trans ⟨rfl, rfl, rfl, by rw [heap_push_size]; omega, fun k hk _ => heap_push_old w o hk⟩

/-- The same world but for what it has drawn. -/
theorem Tab.drew {X : Ctx} {ε : Env} {blks : Blks} {nxt : Nat} {w : World} (h : Tab X ε blks nxt w) (d : Nat) : Tab X ε blks nxt { w with drawn := d } :=
  ⟨h.nxt, fun id e he => ⟨(h.ent id e he).1, (h.ent id e he).2.frame fun _ _ => rfl⟩, h.sep, ⟨h.keep.os, h.keep.tape, h.keep.output, h.keep.size, h.keep.block⟩, h.mine⟩

/-- A new block. -/
theorem Tab.alloc {X : Ctx} {ε : Env} {blks : Blks} {nxt : Nat} {w : World} (h : Tab X ε blks nxt w) (o : Obj) (cap : Nat) (e : E)
    (hown : e.own = true) (how : owned ⟨w.heap.size, 0, cap, false, []⟩ e = [w.heap.size])
    (he : RelE (ε.push ⟨w.heap.size, 0, cap, false, []⟩) (w.alloc o) ⟨w.heap.size, 0, cap, false, []⟩ e) :
    Tab X (ε.push ⟨w.heap.size, 0, cap, false, []⟩) ((nxt, e) :: blks) (nxt + 1) (w.alloc o) := by
  have hle := EnvLe.push ε ⟨w.heap.size, 0, cap, false, []⟩
  have hold : ∀ id e', look blks id = some e' → id < ε.n ∧ id ≠ nxt := fun id e' he' => by
    have h1 := (h.ent id e' he').1
    have h2 := h.nxt
    exact ⟨h1, by omega⟩
  have hn := h.nxt
  have hnew : (ε.push ⟨w.heap.size, 0, cap, false, []⟩).f nxt = ⟨w.heap.size, 0, cap, false, []⟩ := by rw [h.nxt]; exact Env.push_new _ _
  have hoo : ∀ id e', look blks id = some e' → ∀ b ∈ owned (ε.f id) e', b < w.heap.size := fun id e' he' => owned_lt (h.ent id e' he').2
  refine ⟨by rw [h.nxt]; rfl, fun id e' he' => ?_, fun id id' e1 e2 h1 h2 hne ho b hb => ?_, h.keep.alloc o, fun id e1 h1 ho b hb => ?_⟩
  · rw [look_cons] at he'
    by_cases hid : id = nxt
    · rw [if_pos hid] at he'
      injection he' with he'
      subst hid he'
      refine ⟨by show id < ε.n + 1; omega, ?_⟩
      rw [hnew]
      exact he
    · rw [if_neg hid] at he'
      obtain ⟨g1, g2⟩ := h.ent id e' he'
      refine ⟨Nat.lt_of_lt_of_le g1 hle.n, ?_⟩
      rw [ε.push_old _ g1]
      exact (g2.frame fun b hb => heap_push_old w o (hoo id e' he' b hb)).mono hle
  · rw [look_cons] at h1 h2
    by_cases hid : id = nxt
    · rw [if_pos hid] at h1
      injection h1 with h1
      subst hid h1
      have hid' : id' ≠ id := fun e => hne e.symm
      rw [if_neg hid'] at h2
      rw [hnew, how] at hb
      rw [List.mem_singleton] at hb
      subst hb
      rw [ε.push_old _ (hold id' e2 h2).1]
      intro hm
      exact Nat.lt_irrefl _ (hoo id' e2 h2 _ hm)
    · rw [if_neg hid] at h1
      rw [ε.push_old _ (hold id e1 h1).1] at hb
      by_cases hid' : id' = nxt
      · rw [if_pos hid'] at h2
        injection h2 with h2
        subst hid' h2
        rw [hnew, how, List.mem_singleton]
        intro e'
        subst e'
        exact Nat.lt_irrefl _ (hoo id e1 h1 _ hb)
      · rw [if_neg hid'] at h2
        rw [ε.push_old _ (hold id' e2 h2).1]
        exact h.sep id id' e1 e2 h1 h2 hne ho b hb
  · rw [look_cons] at h1
    by_cases hid : id = nxt
    · rw [if_pos hid] at h1
      injection h1 with h1
      subst hid h1
      rw [hnew, how, List.mem_singleton] at hb
      subst hb
      exact .inl h.keep.size
    · rw [if_neg hid] at h1
      rw [ε.push_old _ (hold id e1 h1).1] at hb
      exact h.mine id e1 h1 ho b hb

/-- An entry of the call's own turns; its blocks stay the same ones. -/
theorem Tab.turn {X : Ctx} {ε : Env} {blks bl : Blks} {nxt : Nat} {w w' : World} (h : Tab X ε blks nxt w) {id : Nat} {e e' : E}
    (hid : look blks id = some e) (ho : e.own = true) (ho' : e'.own = true) (how : ∀ b ∈ owned (ε.f id) e', b ∈ owned (ε.f id) e)
    (hbl : upd blks id e' = some bl) (hw : ∀ b, b < w.heap.size → b ∉ owned (ε.f id) e → w'.heap[b]? = w.heap[b]?) (hs : w.heap.size ≤ w'.heap.size)
    (hos : w'.os = w.os) (htape : w'.tape = w.tape) (hout : w'.output = w.output)
    (he : RelE ε w' (ε.f id) e') : Tab X ε bl nxt w' := by
  have hoo : ∀ i x, look blks i = some x → ∀ b ∈ owned (ε.f i) x, b < w.heap.size := fun i x hx => owned_lt (h.ent i x hx).2
  have hk : Keep X.M X.w0 w' := by
    refine ⟨hos.trans h.keep.os, htape.trans h.keep.tape, hout.trans h.keep.output, Nat.le_trans h.keep.size hs, fun k hk hm => ?_⟩
    rw [hw k (Nat.lt_of_lt_of_le hk h.keep.size) (fun hb => ?_)]
    · exact h.keep.block k hk hm
    · rcases h.mine id e hid ho k hb with h1 | h1
      · omega
      · exact hm h1
  refine ⟨h.nxt, fun i x hx => ?_, fun i j x y hx hy hne hox b hb => ?_, hk, fun i x hx hox b hb => ?_⟩
  · rw [look_upd hbl] at hx
    by_cases hi : i = id
    · rw [if_pos hi] at hx
      injection hx with hx
      subst hi hx
      exact ⟨(h.ent i e hid).1, he⟩
    · rw [if_neg hi] at hx
      obtain ⟨g1, g2⟩ := h.ent i x hx
      exact ⟨g1, g2.frame fun b hb => hw b (hoo i x hx b hb) fun hm => h.sep id i e x hid hx (fun e => hi e.symm) ho b hm hb⟩
  · rw [look_upd hbl] at hx hy
    by_cases hi : i = id
    · rw [if_pos hi] at hx
      injection hx with hx
      subst hi hx
      rw [if_neg (fun e => hne e.symm)] at hy
      exact h.sep i j e y hid hy hne ho b (how b hb)
    · rw [if_neg hi] at hx
      by_cases hj : j = id
      · rw [if_pos hj] at hy
        injection hy with hy
        subst hj hy
        intro hm
        exact h.sep i j x e hx hid hne hox b hb (how b hm)
      · rw [if_neg hj] at hy
        exact h.sep i j x y hx hy hne hox b hb
  · rw [look_upd hbl] at hx
    by_cases hi : i = id
    · rw [if_pos hi] at hx
      injection hx with hx
      subst hi hx
      exact h.mine i e hid ho b (how b hb)
    · rw [if_neg hi] at hx
      exact h.mine i x hx hox b hb

/-! ### types in the model -/
theorem blt_true {a b : Nat} (h : Nat.blt a b = true) : a < b := Nat.le_of_ble_eq_true h

theorem szB_of {P : Program} {t : TypeId} {n : Nat} (h : szB P t n = true) : ∃ i, P.info? t = some i ∧ i.size = n := by
  unfold szB at h
  split at h
  · rename_i i hi; exact ⟨i, hi, Nat.eq_of_beq_eq_true h⟩
  · cases h

theorem byB_of {P : Program} {t : TypeId} {n : Nat} (h : byB P t n = true) : ∃ i, P.info? t = some i ∧ i.bytes = n := by
  unfold byB at h
  split at h
  · rename_i i hi; exact ⟨i, hi, Nat.eq_of_beq_eq_true h⟩
  · cases h

theorem run_size {P : Program} {t : TypeId} {i : TypeInfo} (h : P.info? t = some i) (w : World) : (sizeOf t).run P w = .ok i.size w := by
  simp [sizeOf, typeInfo, h]

theorem run_und {P : Program} {t : TypeId} {d : TypeDesc} (h : P.underlying t = some d) (w : World) : (underlying t).run P w = .ok d w := by
  simp [underlying, h]

theorem run_isAgg' {P : Program} {t : TypeId} {te : TE} (h : TyOk P t te) (w : World) : (isAgg t).run P w = .ok te.d.agg w := by
  obtain ⟨d, hu, hd⟩ := h.und
  unfold isAgg
  rw [Sem.run_bind, run_und hu, Result.andThen_ok]
  cases htd : te.d <;> cases d <;> simp_all [dB, TD.agg]

theorem run_loadVar_told {P : Program} {ε : Env} {t : TypeId} {te : TE} {vs : List Value} {w : World} {b o off : Nat} {v : V1} (ht : TyOk P t te)
    (hc : ∀ j x, vs[j]? = some x → w.cell? ⟨b, o + j, none⟩ = some x) (hT : Told ε vs off te.d.agg te.size v) :
    ∃ x, (loadVar t ⟨b, o + off, none⟩).run P w = .ok x w ∧ Rel1 ε v x := by
  obtain ⟨i, hi, hs, _⟩ := ht.inf
  unfold loadVar
  simp only [Sem.run_bind, run_isAgg' ht, Result.andThen_ok]
  unfold Told at hT
  cases hag : te.d.agg with
  | true =>
    simp only [hag, if_true] at hT ⊢
    obtain ⟨h1, h2⟩ := hT
    refine ⟨_, ?_, h2⟩
    have hl : ((vs.drop off).take te.size).length = te.size := by simp; omega
    have := run_loadCells_list (P := P) w ⟨b, o + off, none⟩ ((vs.drop off).take te.size) (fun j x hx => by
      have hadd : (⟨b, o + off, none⟩ : Addr).add j = ⟨b, o + (off + j), none⟩ := by unfold Addr.add; split <;> simp_all [Nat.add_assoc]
      rw [hadd]
      apply hc
      rw [List.getElem?_take, List.getElem?_drop] at hx
      split at hx
      · exact hx
      · cases hx)
    rw [hl] at this
    simp only [Sem.run_bind, run_size hi, hs, Result.andThen_ok, this, Sem.run_pure]
  | false =>
    simp only [hag, Bool.false_eq_true, if_false] at hT ⊢
    obtain ⟨x, hx, hr⟩ := hT
    refine ⟨x, ?_, hr⟩
    rw [run_load, hc off x hx]

theorem setRow_heap' (w : World) (g : Nat) (old cs : Array Value) (t : TypeId) (fr : Nat × Nat) (hg : w.heap[g]? = some (.cells old t fr)) : (w.setRow g cs).heap[g]? = some (.cells cs t fr) := setRow_heap w g old cs t fr hg

theorem run_storeVar_wr {P : Program} {t ty : TypeId} {i : TypeInfo} {w : World} {b off : Nat} {vs junk : List Value} {x : Value} (hi : P.info? t = some i)
    (hs : x.cells.toList.length = i.size) (hg : w.heap[b]? = some (.cells (vs ++ junk).toArray ty (0, 0))) (hf : off + i.size ≤ vs.length) (h1 : ∀ v ∈ x.cells.toList, v.oneCell' = true) :
    (storeVar t ⟨b, off, none⟩ x).run P w = .ok () (w.setRow b (wr vs off x.cells.toList ++ junk).toArray) := by
  have := run_storeCells_at (P := P) b off ty x.cells.toList 0 (vs ++ junk).toArray w hg (by simp; simp at hs; omega) h1
  have hs' : x.cells.size = i.size := by simpa using hs
  unfold storeVar
  simp only [Sem.run_bind, run_size hi, Result.andThen_ok, hs', ne_eq, not_true_eq_false, if_false, this]
  show Result.ok () _ = _
  congr 3
  simp only [Nat.add_zero, wr]
  rw [List.take_append_of_le_length (by omega), List.drop_append_of_le_length (by omega)]
  simp only [List.append_assoc]

theorem Rel1.cells_one {ε : Env} {x : V1} {v : Value} (h : Rel1 ε x v) : ∀ u ∈ v.cells.toList, u.oneCell' = true := by
  cases x with
  | c c =>
    have := RelC.one h
    intro u hu
    have hv : v.cells.toList = [v] := by cases v <;> simp_all [Value.cells, Value.oneCell']
    rw [hv, List.mem_singleton] at hu
    subst hu
    exact this
  | agg l =>
    obtain ⟨vs, rfl, hv⟩ := h
    simpa [Value.cells] using RelL.one hv

end Go.X
