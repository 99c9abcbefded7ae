/- Single operations are sound. -/
import Derived.Test.YtgbeiogbppaogaaX5
set_option linter.unusedVariables false
namespace Go.X

/-- Package-level variables hold what the table says. -/
def GtOk (gt : GT) (w : World) : Prop := ∀ g b, look gt g = some b → ∃ vs, RelB ⟨0, fun _ => default⟩ b vs ∧ g < w.heap.size ∧ ∀ j v, vs[j]? = some v → w.cell? ⟨g, j, none⟩ = some v

/-- A function meets its specification. -/
def FnOK (P : Program) (gt : GT) (f : FuncId) (spec : Spec) : Prop :=
  (∀ args w, (callFunc f args).run P w = .ok (.enter f args) w) ∧
  ∀ (X : Ctx) ε blks nxt args vals r, X.P = P → X.gt = gt → GtOk gt X.w0 → (∀ g b, look gt g = some b → g ∉ X.M) → Tab X ε blks nxt X.w0 → All2 (RelV ε) args vals → spec args (look blks) = some r → r.p →
    Calls P f vals.toArray X.w0 fun e w' => ∃ ε' x bl, e = .returned x ∧ EnvLe ε ε' ∧ RelV ε' (renV nxt r.r) x ∧ updAll blks r.up = some bl ∧ Tab X ε' (addE (r.new.map (renE nxt)) nxt bl).1 (addE (r.new.map (renE nxt)) nxt bl).2 w'

structure XOk (X : Ctx) : Prop where
  tt : TtOk X.P X.tt
  kt : ∀ f s, look X.kt f = some s → FnOK X.P X.gt f s
  gt : GtOk X.gt X.w0
  gm : ∀ g b, look X.gt g = some b → g ∉ X.M

def Eff.tab (σ : Sig) : Eff → Blks × Nat
  | .val _ => (σ.blks, σ.nxt)
  | .fresh _ new => addE new σ.nxt σ.blks
  | .turn _ bl new => addE new σ.nxt bl
def Eff.sv : Eff → Option SV
  | .val v => some v
  | .fresh v _ => some v
  | .turn v _ _ => v

/-- What an operation comes to, said of value and world. -/
structure Fits (X : Ctx) (ε : Env) (σ : Sig) (eff : Eff) (ε' : Env) (x : Value) (w' : World) : Prop where
  le : EnvLe ε ε'
  rel : ∀ v, eff.sv = some v → RelV ε' v x
  tab : Tab X ε' (eff.tab σ).1 (eff.tab σ).2 w'

section
variable {X : Ctx} {ε : Env} {σ : Sig} {a : Act} {w : World} {o : Oper} {next : Act → World → Prop} {Q : Exit → Act → World → Prop}

theorem wp_value {x : Value} {w' : World} (h : (execOp a.eval o).run X.P w = .ok (.value x) w') (hn : next (a.put o.dst x) w') : o.wp X.P a w next Q := by
  unfold Oper.wp
  rw [h]
  exact hn
theorem wp_unit {w' : World} (h : (execOp a.eval o).run X.P w = .ok .skip w') (hn : next (a.put o.dst undef) w') : o.wp X.P a w next Q := by
  unfold Oper.wp
  rw [h]
  exact hn

/-! ### operands -/
theorem constV_rel {v : Value} {x : V1} (h : constV v = some x) (hk : ∀ k n, v = .int k n → inK k n) (hs : ∀ s, v = .string s → (s.size : Int) ≤ 9223372036854775807) : Rel1 ε x v := by
  unfold constV at h
  split at h
  all_goals first | (exfalso; simp at h; done) | (simp only [Option.some.injEq] at h; subst h)
  · exact ⟨rfl, hk _ _ rfl⟩
  · rfl
  · exact ⟨rfl, hs _ rfl⟩
  · refine ⟨rfl, ?_⟩
    cases v <;> simp_all [Value.oneCell']

/-- Constants of the text are in range. -/
def constOk : Operand → Prop
  | .const (.int k n) => inK k n
  | .const (.string s) => (s.size : Int) ≤ 9223372036854775807
  | _ => True

theorem rawO_rel (h : Holds X ε σ a w) {x : Operand} {v : SV} (hv : rawO σ.regs x = some v) (hk : constOk x) : RelV ε v (a.eval x) := by
  cases x with
  | tmp t => exact h.regs t v hv
  | const c =>
    simp only [rawO] at hv
    cases hc : constV c with
    | none => simp [hc] at hv
    | some y =>
      simp only [hc, Option.some.injEq] at hv
      subst hv
      exact constV_rel hc (fun k n e => by subst e; exact hk) (fun s e => by subst e; exact hk)
  | global g =>
    simp only [rawO, Option.some.injEq] at hv
    subst hv
    simp [RelV, Rel1, RelC, Act.eval]
  | func f =>
    simp only [rawO, Option.some.injEq] at hv
    subst hv
    simp [RelV, Rel1, RelC, Act.eval]

theorem evO_rel (h : Holds X ε σ a w) {x : Operand} {v : SV} {p : Prop} (hv : evO σ.regs x = some (p, v)) (hk : constOk x) (hp : p) : RelV ε v (a.eval x) := by
  unfold evO at hv
  cases hr : rawO σ.regs x with
  | none => simp [hr] at hv
  | some s =>
    have := rawO_rel h hr hk
    cases s with
    | g b y =>
      simp only [hr, Option.some.injEq, Prod.mk.injEq] at hv
      obtain ⟨rfl, rfl⟩ := hv
      exact this.1 hp
    | _ =>
      simp only [hr, Option.some.injEq, Prod.mk.injEq] at hv
      obtain ⟨_, rfl⟩ := hv
      exact this

theorem ev1_rel (h : Holds X ε σ a w) {x : Operand} {v : V1} {p : Prop} (hv : ev1 σ.regs x = some (p, v)) (hk : constOk x) (hp : p) : Rel1 ε v (a.eval x) := by
  unfold ev1 at hv
  cases hr : rawO σ.regs x with
  | none => simp [hr] at hv
  | some s =>
    have := rawO_rel h hr hk
    cases s with
    | g b y =>
      simp only [hr, Option.some.injEq, Prod.mk.injEq] at hv
      obtain ⟨rfl, rfl⟩ := hv
      exact this.1 hp
    | v y =>
      simp only [hr, Option.some.injEq, Prod.mk.injEq] at hv
      obtain ⟨_, rfl⟩ := hv
      exact this
    | _ => simp [hr] at hv

theorem evC_rel (h : Holds X ε σ a w) {x : Operand} {c : C} {p : Prop} (hv : evC σ.regs x = some (p, c)) (hk : constOk x) (hp : p) : RelC ε c (a.eval x) := by
  unfold evC at hv
  cases hr : ev1 σ.regs x with
  | none => simp [hr] at hv
  | some s =>
    obtain ⟨q, y⟩ := s
    cases y with
    | agg l => simp [hr] at hv
    | c d =>
      simp only [hr, Option.some.injEq, Prod.mk.injEq] at hv
      obtain ⟨rfl, rfl⟩ := hv
      exact ev1_rel h hr hk hp

theorem Fits.of_val {v : SV} {x : Value} (h : Holds X ε σ a w) (hr : RelV ε v x) : Fits X ε σ (.val v) ε x w :=
  ⟨EnvLe.refl _, fun u hu => by simp only [Eff.sv, Option.some.injEq] at hu; subst hu; exact hr, h.tab⟩

/-! ### memory -/
theorem bodyOf_rel {x : V1} {v : Value} (h : Rel1 ε x v) : RelB ε (bodyOf x) v.cells.toList := by
  cases x with
  | c c =>
    have := RelC.one h
    have hv : v.cells.toList = [v] := by cases v <;> simp_all [Value.cells, Value.oneCell']
    rw [hv]
    exact RelL.single (s := .cs [c]) ⟨h, trivial⟩
  | agg l =>
    obtain ⟨vs, rfl, hv⟩ := h
    simpa [Value.cells, bodyOf, RelB] using hv

/-- A new block of a type's variable: its pointer, its entry. -/
theorem Fits.of_new (h : Holds X ε σ a w) {t : TypeId} {x : V1} {v : Value} (hx : Rel1 ε x v) :
    Fits X ε σ (.fresh (.v (.c (.ptr σ.nxt 0 0 0 0 0))) [.mem true t none (bodyOf x)]) (ε.push ⟨w.heap.size, 0, 0, false, []⟩) (.pointer (some ⟨w.heap.size, 0, none⟩)) (w.alloc (.cells v.cells t)) := by
  have hle := EnvLe.push ε ⟨w.heap.size, 0, 0, false, []⟩
  have hn := h.tab.nxt
  refine ⟨hle, fun u hu => ?_, ?_⟩
  · simp only [Eff.sv, Option.some.injEq] at hu
    subst hu
    refine ⟨by rw [hn]; exact Nat.lt_succ_self _, ?_, ?_⟩ <;> rw [hn, Env.push_new]
  · refine h.tab.alloc (.cells v.cells t) 0 (.mem true t none (bodyOf x)) rfl rfl ⟨(fun hh => by cases hh), fun _ => ⟨v.cells.toList, [], (bodyOf_rel hx).mono hle, fun _ => rfl, (fun sz hs => by cases hs), ?_⟩⟩
    simp only [if_true, List.append_nil, Array.toArray_toList]
    exact ⟨trivial, heap_push_new w _⟩

theorem alloc_sound (hX : XOk X) (h : Holds X ε σ a w) {t : TypeId} {p : Prop} {eff : Eff} (ho : o.op = .alloc t) (hc : opAlloc X.tt σ.nxt t = some (p, eff)) (hp : p)
    (hn : ∀ ε' x w', Fits X ε σ eff ε' x w' → next (a.put o.dst x) w') : o.wp X.P a w next Q := by
  unfold opAlloc at hc
  cases ht : look X.tt t with
  | none => simp [ht] at hc
  | some te =>
    simp only [ht, Option.some.injEq, Prod.mk.injEq] at hc
    obtain ⟨_, rfl⟩ := hc
    obtain ⟨i, hi, _, _, z, hz, hrel⟩ := (hX.tt t te ht).inf
    refine wp_value (x := .pointer (some ⟨w.heap.size, 0, none⟩)) (w' := w.alloc (.cells z.cells t)) ?_ (hn _ _ _ (Fits.of_new h (hrel ε)))
    unfold execOp
    simp only [ho, Instr.alloc, Sem.run_bind, zeroValue, typeInfo, run_program, hi, hz, Result.andThen_ok, Sem.run_pure, newVar, newRow, run_newObj]
    rfl

theorem box_sound (h : Holds X ε σ a w) {t : TypeId} {x : Operand} {p : Prop} {eff : Eff} (ho : o.op = .box t x) (hk : constOk x) (hc : opBox σ.regs σ.nxt t x = some (p, eff)) (hp : p)
    (hn : ∀ ε' x w', Fits X ε σ eff ε' x w' → next (a.put o.dst x) w') : o.wp X.P a w next Q := by
  unfold opBox at hc
  cases hv : ev1 σ.regs x with
  | none => simp [hv] at hc
  | some q =>
    obtain ⟨p', v⟩ := q
    simp only [hv, Option.some.injEq, Prod.mk.injEq] at hc
    obtain ⟨rfl, rfl⟩ := hc
    refine wp_value (x := .pointer (some ⟨w.heap.size, 0, none⟩)) (w' := w.alloc (.cells (a.eval x).cells t)) ?_ (hn _ _ _ (Fits.of_new h (ev1_rel h hv hk hp)))
    unfold execOp
    simp only [ho, Instr.box, Sem.run_bind, Result.andThen_ok, Sem.run_pure, newVar, newRow, run_newObj]
    rfl

/-- The cells behind a pointer. -/
theorem cells_of {id : Nat} {ow : Bool} {ty : TypeId} {tl : Option Nat} {b : Body} (h : Tab X ε σ.blks σ.nxt w) (he : look σ.blks id = some (.mem ow ty tl b)) (hn : (ε.f id).isnil = false) :
    ∃ vs junk, RelB ε b vs ∧ (∀ j v, vs[j]? = some v → w.cell? ⟨(ε.f id).blk, (ε.f id).off + j, none⟩ = some v) ∧
      (ow = true → (ε.f id).off = 0 ∧ w.heap[(ε.f id).blk]? = some (.cells (vs ++ junk).toArray ty (0, 0))) ∧ (tl = none → junk = []) ∧ (∀ sz, tl = some sz → (vs ++ junk).length = (ε.f id).cap * sz) := by
  obtain ⟨vs, junk, h1, h2, h3, h4⟩ := (h.ent id _ he).2.2 hn
  cases ow with
  | true =>
    simp only [if_true] at h4
    refine ⟨vs, junk, h1, fun j v hv => ?_, fun _ => h4, h2, h3⟩
    rw [h4.1, Nat.zero_add, cell_of_row w _ j _ _ _ h4.2]
    have := (List.getElem?_eq_some_iff.1 hv).1
    simp [List.getElem?_append_left this, hv]
  | false =>
    simp only [Bool.false_eq_true, if_false] at h4
    exact ⟨vs, junk, h1, h4.2, (fun e => by cases e), h2, h3⟩

theorem load_sound (hX : XOk X) (h : Holds X ε σ a w) {t : TypeId} {x : Operand} {p : Prop} {eff : Eff} (ho : o.op = .load t x) (hk : constOk x) (hc : opLoad X.tt X.gt σ t x = some (p, eff)) (hp : p)
    (hn : ∀ ε' x w', Fits X ε σ eff ε' x w' → next (a.put o.dst x) w') : o.wp X.P a w next Q := by
  unfold opLoad at hc
  cases hv : evC σ.regs x with
  | none => simp [hv] at hc
  | some q =>
    obtain ⟨q1, c⟩ := q
    cases ht : look X.tt t with
    | none => cases c <;> simp [hv, ht] at hc
    | some te =>
      have hty := hX.tt t te ht
      cases c with
      | ptr id rst row base stride idx =>
        simp only [hv, ht] at hc
        cases he : look σ.blks id with
        | none => simp [he] at hc
        | some e =>
          cases e with
          | mem ow ty tl b =>
            simp only [he] at hc
            cases hl : loadB b te.d.agg te.size rst row base stride idx with
            | none => simp [hl] at hc
            | some r =>
              obtain ⟨q2, v⟩ := r
              simp only [hl, Option.some.injEq, Prod.mk.injEq] at hc
              obtain ⟨rfl, rfl⟩ := hc
              obtain ⟨_, hnil, hx⟩ := evC_rel h hv hk hp.1
              obtain ⟨vs, junk, hb, hcell, _⟩ := cells_of h.tab he hnil
              have hT := loadB_rel hl hp.2 hb
              obtain ⟨y, hy, hrel⟩ := run_loadVar_told hty hcell hT
              refine wp_value (x := y) (w' := w) ?_ (hn _ _ _ (Fits.of_val h hrel))
              unfold execOp
              simp only [ho, hx, Instr.loadAt, Instr.sureAddr, Sem.run_bind, Sem.run_pure, Result.andThen_ok]
              rw [hy]
              rfl
          | _ => simp [he] at hc
      | gp g rst row base stride idx =>
        simp only [hv, ht] at hc
        cases he : look X.gt g with
        | none => simp [he] at hc
        | some b =>
          simp only [he] at hc
          cases hl : loadB b te.d.agg te.size rst row base stride idx with
          | none => simp [hl] at hc
          | some r =>
            obtain ⟨q2, v⟩ := r
            simp only [hl, Option.some.injEq, Prod.mk.injEq] at hc
            obtain ⟨rfl, rfl⟩ := hc
            have hx : a.eval x = _ := evC_rel h hv hk hp.1
            obtain ⟨vs, hb, hlt, hcell⟩ := hX.gt g b he
            have hle : EnvLe ⟨0, fun _ => default⟩ ε := ⟨Nat.zero_le _, fun i hi => absurd hi (Nat.not_lt_zero _), fun i hi => absurd hi (Nat.not_lt_zero _), fun i hi => absurd hi (Nat.not_lt_zero _), fun i hi => absurd hi (Nat.not_lt_zero _)⟩
            have hT := loadB_rel hl hp.2 (hb.mono hle)
            obtain ⟨y, hy, hrel⟩ := run_loadVar_told (P := X.P) (w := w) (b := g) (o := 0) hty (fun j v hj => by rw [Nat.zero_add, cell_congr (h.tab.keep.block g hlt (hX.gm g b he))]; exact hcell j v hj) hT
            refine wp_value (x := y) (w' := w) ?_ (hn _ _ _ (Fits.of_val h hrel))
            unfold execOp
            simp only [ho, hx, Instr.loadAt, Instr.sureAddr, Sem.run_bind, Sem.run_pure, Result.andThen_ok]
            rw [Nat.zero_add] at hy
            rw [hy]
            rfl
      | _ => simp [hv, ht] at hc

theorem store_sound (hX : XOk X) (h : Holds X ε σ a w) {t : TypeId} {x y : Operand} {p : Prop} {eff : Eff} (ho : o.op = .store t x y) (hkx : constOk x) (hky : constOk y) (hc : opStore X.tt σ t x y = some (p, eff)) (hp : p)
    (hn : ∀ ε' x w', Fits X ε σ eff ε' x w' → next (a.put o.dst x) w') : o.wp X.P a w next Q := by
  unfold opStore at hc
  cases hv : evC σ.regs x with
  | none => simp [hv] at hc
  | some q =>
    obtain ⟨q1, c⟩ := q
    cases hw : ev1 σ.regs y with
    | none => cases c <;> simp [hv, hw] at hc
    | some q' =>
      obtain ⟨q2, v⟩ := q'
      cases ht : look X.tt t with
      | none => cases c <;> simp [hv, hw, ht] at hc
      | some te =>
        cases c with
        | ptr id rst row base stride idx =>
          simp only [hv, hw, ht] at hc
          cases he : look σ.blks id with
          | none => simp [he] at hc
          | some e =>
            cases e with
            | mem ow ty tl b =>
              cases ow with
              | false => simp [he] at hc
              | true =>
                simp only [he] at hc
                cases hl : storeB b te.size rst row base stride idx v with
                | none => simp [hl] at hc
                | some r =>
                  obtain ⟨q3, b'⟩ := r
                  simp only [hl] at hc
                  cases hu : upd σ.blks id (.mem true ty tl b') with
                  | none => simp [hu] at hc
                  | some bl =>
                    simp only [hu, Option.some.injEq, Prod.mk.injEq] at hc
                    obtain ⟨rfl, rfl⟩ := hc
                    obtain ⟨_, hnil, hx⟩ := evC_rel h hv hkx hp.1
                    have hy := ev1_rel h hw hky hp.2.1
                    obtain ⟨vs, junk, hb, _, hown, htl, hcap⟩ := cells_of h.tab he hnil
                    obtain ⟨hoff, hblk⟩ := hown rfl
                    obtain ⟨i, hi, his, _⟩ := (hX.tt t te ht).inf
                    have hsz : (a.eval y).cells.toList.length = te.size := (Rel1.width hy).trans (storeB_size hl)
                    obtain ⟨hfit, hb'⟩ := storeB_rel hl hp.2.2 hb hy hsz
                    have hrun := run_storeVar_wr (P := X.P) (t := t) hi (by rw [his]; exact hsz) hblk (by rw [his]; exact hfit) (Rel1.cells_one hy)
                    refine wp_unit (w' := w.setRow (ε.f id).blk (wr vs (base + rst * row + stride * idx) (a.eval y).cells.toList ++ junk).toArray) ?_ (hn ε _ _ ⟨EnvLe.refl _, (fun u hu => by cases hu), ?_⟩)
                    · unfold execOp
                      simp only [ho, hx, Instr.storeAt, Instr.sureAddr, Sem.run_bind, Sem.run_pure, Result.andThen_ok]
                      rw [hoff, Nat.zero_add, hrun]
                      rfl
                    · refine h.tab.turn (e' := .mem true ty tl b') he rfl rfl (fun b hb => hb) hu (fun k _ hk => ?_) (by simp) rfl rfl rfl ⟨(fun hh => by rw [hnil] at hh; cases hh), fun _ => ⟨_, junk, hb', htl, fun sz hsz' => ?_, ?_⟩⟩
                      · refine setRow_other w _ k _ (fun e => hk ?_)
                        subst e
                        simp [owned, hnil]
                      · have := hcap sz hsz'
                        simp only [List.length_append] at this ⊢
                        rw [wr_length (by omega)]
                        exact this
                      · simp only [if_true]
                        exact ⟨hoff, setRow_heap' w _ _ _ _ _ hblk⟩
            | _ => simp [he] at hc
        | _ => simp [hv, hw, ht] at hc
end

end Go.X
