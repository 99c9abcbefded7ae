/- Slices, conversions, literals. -/
import Derived.Test.YtgbeiogbppaogaaX10
set_option linter.unusedVariables false
namespace Go.X

section
variable {X : Ctx} {ε : Env} {σ : Sig} {a : Act} {w : World} {o : Oper} {next : Act → World → Prop} {Q : Exit → Act → World → Prop}

theorem capIds_rel : ∀ {l : List V1} {vs : List Value} {ids : List Nat}, capIds l = some ids → All2 (Rel1 ε) l vs → (∀ i ∈ ids, i < ε.n ∧ (ε.f i).isnil = false) ∧ vs = ids.map fun i => Value.pointer (some ⟨(ε.f i).blk, (ε.f i).off, none⟩)
  | [], vs, ids, h, hr => by
    simp only [capIds, Option.some.injEq] at h
    subst h
    cases vs with
    | nil => exact ⟨by simp, rfl⟩
    | cons _ _ => exact absurd hr (by simp [All2])
  | x :: l, vs, ids, h, hr => by
    unfold capIds at h
    split at h
    · cases ‹_ :: _ = _›
    · rename_i id r he
      injection he with e1 e2
      subst e1 e2
      cases hc : capIds l with
      | none => simp [hc] at h
      | some t =>
        simp only [hc, Option.some.injEq] at h
        subst h
        cases vs with
        | nil => exact absurd hr (by simp [All2])
        | cons v vs =>
          obtain ⟨h1, h2⟩ := hr
          obtain ⟨g1, g2, rfl⟩ := h1
          obtain ⟨k1, k2⟩ := capIds_rel hc h2
          refine ⟨fun i hi => ?_, ?_⟩
          · rcases List.mem_cons.1 hi with rfl | hi
            · exact ⟨g1, g2⟩
            · exact k1 i hi
          · rw [k2]; simp
    · cases h

theorem ev1All_rel (h : Holds X ε σ a w) : ∀ {l : List Operand} {p : Prop} {vs : List V1}, ev1All σ.regs l = some (p, vs) → (∀ x ∈ l, constOk x) → p → All2 (Rel1 ε) vs (l.map a.eval)
  | [], p, vs, he, _, _ => by simp only [ev1All, Option.some.injEq, Prod.mk.injEq] at he; obtain ⟨_, rfl⟩ := he; trivial
  | x :: l, p, vs, he, hk, hp => by
    simp only [ev1All] at he
    cases h1 : ev1 σ.regs x with
    | none => simp [h1] at he
    | some q =>
      obtain ⟨q1, v⟩ := q
      cases h2 : ev1All σ.regs l with
      | none => simp [h1, h2] at he
      | some q' =>
        obtain ⟨q2, us⟩ := q'
        simp only [h1, h2, Option.some.injEq, Prod.mk.injEq] at he
        obtain ⟨rfl, rfl⟩ := he
        exact ⟨ev1_rel h h1 (hk x (by simp)) hp.1, ev1All_rel h h2 (fun y hy => hk y (by simp [hy])) hp.2⟩

theorem evAll_rel (h : Holds X ε σ a w) : ∀ {l : List Operand} {p : Prop} {vs : List SV}, evAll σ.regs l = some (p, vs) → (∀ x ∈ l, constOk x) → p → All2 (RelV ε) vs (l.map a.eval)
  | [], p, vs, he, _, _ => by simp only [evAll, Option.some.injEq, Prod.mk.injEq] at he; obtain ⟨_, rfl⟩ := he; trivial
  | x :: l, p, vs, he, hk, hp => by
    simp only [evAll] at he
    cases h1 : evO σ.regs x with
    | none => simp [h1] at he
    | some q =>
      obtain ⟨q1, v⟩ := q
      cases h2 : evAll σ.regs l with
      | none => simp [h1, h2] at he
      | some q' =>
        obtain ⟨q2, us⟩ := q'
        simp only [h1, h2, Option.some.injEq, Prod.mk.injEq] at he
        obtain ⟨rfl, rfl⟩ := he
        exact ⟨evO_rel h h1 (hk x (by simp)) hp.1, evAll_rel h h2 (fun y hy => hk y (by simp [hy])) hp.2⟩

theorem makeFunc_tells (h : Holds X ε σ a w) {fn : Fn} {first captured : Array Operand} {p : Prop} {eff : Eff} (ho : o.op = .makeFunc fn first captured) (hk : ∀ x ∈ first.toList ++ captured.toList, constOk x) (hc : opMakeFunc σ.regs fn first.toList captured.toList = some (p, eff)) (hp : p) :
    ∃ v, eff = .val v ∧ Tells X ε a w o v := by
  unfold opMakeFunc at hc
  cases fn with
  | func f =>
    cases h1 : ev1All σ.regs first.toList with
    | none => simp [h1] at hc
    | some q1 =>
      obtain ⟨p1, l1⟩ := q1
      cases h2 : ev1All σ.regs captured.toList with
      | none => simp [h1, h2] at hc
      | some q2 =>
        obtain ⟨p2, l2⟩ := q2
        simp only [h1, h2] at hc
        have hrun : (execOp a.eval o).run X.P w = .ok (.value (.func (.func f) (first.map a.eval) (captured.map a.eval))) w := by
          unfold execOp
          simp [ho, Instr.makeFunc]
        have gen : p1 → p2 → Tells X ε a w o (.fnv f l1 l2) := fun g1 g2 =>
          ⟨_, hrun, first.toList.map a.eval, captured.toList.map a.eval, by congr 1 <;> (apply Array.ext'; simp), ev1All_rel h h1 (fun x hx => hk x (by simp [hx])) g1, ev1All_rel h h2 (fun x hx => hk x (by simp [hx])) g2⟩
        cases l1 with
        | cons x r =>
          simp only [Option.some.injEq, Prod.mk.injEq] at hc
          obtain ⟨rfl, rfl⟩ := hc
          exact ⟨_, rfl, gen hp.1 hp.2⟩
        | nil =>
          cases hci : capIds l2 with
          | none =>
            simp only [hci, Option.some.injEq, Prod.mk.injEq] at hc
            obtain ⟨rfl, rfl⟩ := hc
            exact ⟨_, rfl, gen hp.1 hp.2⟩
          | some ids =>
            simp only [hci, Option.some.injEq, Prod.mk.injEq] at hc
            obtain ⟨rfl, rfl⟩ := hc
            obtain ⟨g1, g2⟩ := hp
            have r1 := ev1All_rel h h1 (fun x hx => hk x (by simp [hx])) g1
            have r2 := ev1All_rel h h2 (fun x hx => hk x (by simp [hx])) g2
            obtain ⟨k1, k2⟩ := capIds_rel hci r2
            refine ⟨_, rfl, _, hrun, k1, ?_⟩
            have e1 : first.map a.eval = #[] := by
              have := All2.length r1
              apply Array.eq_empty_of_size_eq_zero
              simpa using this.symm
            rw [e1]
            congr 1
            apply Array.ext'
            rw [Array.toList_map, k2]
  | _ => simp at hc

/-! ### slice expressions -/
theorem run_bound {k : IntKind} {i : Int} {y : Nat} {code : BoundsCode} (h : 0 ≤ i ∧ i ≤ y) (P : Program) (w : World) : (Instr.sliceBound (.int k i) y code).run P w = .ok i.toNat w := by
  simp [Instr.sliceBound, asIntOf, h]

theorem slice_tells (hX : XOk X) (h : Holds X ε σ a w) {t : TypeId} {x : Operand} {lo hi mx : Option Operand} {p : Prop} {eff : Eff} (ho : o.op = .slice t x lo hi mx) (hk : constOk x) (hkl : ∀ y, lo = some y → constOk y) (hkh : ∀ y, hi = some y → constOk y) (hc : opSlice X.tt σ t x lo hi mx = some (p, eff)) (hp : p) :
    ∃ v, eff = .val v ∧ Tells X ε a w o v := by
  unfold opSlice at hc
  cases mx with
  | some _ => simp at hc
  | none =>
    simp only at hc
    have hlo : ∀ q kl l, (match lo with | none => some (True, C.int .i64 0) | some o => evC σ.regs o) = some (q, C.int kl l) → q → (lo = none ∧ l = 0) ∨ ∃ y, lo = some y ∧ a.eval y = .int kl l := by
      intro q kl l he hq
      cases lo with
      | none => simp only [Option.some.injEq, Prod.mk.injEq, C.int.injEq] at he; exact .inl ⟨rfl, he.2.2.symm⟩
      | some y => exact .inr ⟨y, rfl, (evC_rel h he (hkl y rfl) hq).1⟩
    have hhi : ∀ (d : Int) r kh hh, (match hi with | none => some (True, C.int .i64 d) | some o => evC σ.regs o) = some (r, C.int kh hh) → r → (hi = none ∧ hh = d) ∨ ∃ y, hi = some y ∧ a.eval y = .int kh hh := by
      intro d r kh hh he hq
      cases hi with
      | none => simp only [Option.some.injEq, Prod.mk.injEq, C.int.injEq] at he; exact .inl ⟨rfl, he.2.2.symm⟩
      | some y => exact .inr ⟨y, rfl, (evC_rel h he (hkh y rfl) hq).1⟩
    have bounds : ∀ (isS : Bool) (len cap : Nat) (kl kh : IntKind) (l hh : Int), ((lo = none ∧ l = 0) ∨ ∃ y, lo = some y ∧ a.eval y = .int kl l) → ((hi = none ∧ hh = len) ∨ ∃ y, hi = some y ∧ a.eval y = .int kh hh) → 0 ≤ l → l ≤ hh → hh ≤ len → len ≤ cap →
        (Instr.sliceBounds isS len cap (lo.map a.eval) (hi.map a.eval) none).run X.P w = .ok (l.toNat, hh.toNat, cap) w := by
      intro isS len cap kl kh l hh g1 g2 b1 b2 b3 b4
      rcases g1 with ⟨rfl, rfl⟩ | ⟨y, rfl, hy⟩ <;> rcases g2 with ⟨rfl, rfl⟩ | ⟨z, rfl, hz⟩
      · simp [Instr.sliceBounds]
      · simp [Instr.sliceBounds, hz, run_bound (show 0 ≤ hh ∧ hh ≤ (cap : Int) by omega)]
      · simp [Instr.sliceBounds, hy, run_bound (show 0 ≤ l ∧ l ≤ (len : Int) by omega)]
      · simp [Instr.sliceBounds, hy, hz, run_bound (show 0 ≤ hh ∧ hh ≤ (cap : Int) by omega), run_bound (show 0 ≤ l ∧ l ≤ (hh.toNat : Int) by omega)]
    split at hc
    · -- a string
      rename_i q1 s te q2 kl l h1 ht h2
      have hty := hX.tt t te ht
      split at hc
      · rename_i r kh hh hd h3
        simp only [Option.some.injEq, Prod.mk.injEq] at hc
        obtain ⟨rfl, rfl⟩ := hc
        obtain ⟨g1, g2, g3, b1, b2, b3⟩ := hp
        obtain ⟨hx, hs⟩ : RelC ε (.str s) (a.eval x) := ev1_rel h h1 hk g1
        refine ⟨_, rfl, .string (s.extract l.toNat hh.toNat), ?_, rfl, ?_⟩
        · unfold execOp
          simp only [ho, hx, Instr.sliceAt, Instr.slice, Sem.run_bind, run_und (str_of hty hd), Result.andThen_ok, Option.map_none, Option.isSome_none, Bool.false_eq_true, if_false,
            bounds false s.size s.size kl kh l hh (hlo _ _ _ h2 g2) (hhi _ _ _ _ h3 g3) b1 b2 b3 (Nat.le_refl _), Sem.run_pure]
        · have : (s.extract l.toNat hh.toNat).size ≤ s.size := by rw [ByteArray.size_extract]; omega
          omega
      · cases hc
    · rename_i q1 id aa len sz te q2 kl l h1 ht h2
      have hty := hX.tt t te ht
      split at hc
      · rename_i e esz eb r kh hh hd h3
        have key : ∀ aa' len', aa' = aa + l.toNat → len' = (hh - l).toNat → q1 → q2 → r → 0 ≤ l → l ≤ hh → hh ≤ len → esz = sz → Tells X ε a w o (.v (.c (.sl id aa' len' sz))) := by
          intro aa' len' ea el g1 g2 g3 b1 b2 b3 b4
          obtain ⟨hu, ti, hti, htis, _⟩ := sl_of hty hd
          obtain ⟨r1, r2, r3⟩ : RelC ε (.sl id aa len sz) (a.eval x) := ev1_rel h h1 hk g1
          rcases r3 with ⟨hnil, hx, h0⟩ | ⟨hnil, hcap, ad, hx, had⟩
          · subst h0
            have hl0 : l = 0 := by omega
            have hh0 : hh = 0 := by omega
            refine ⟨.slice none 0 0, ?_, r1, by omega, .inl ⟨hnil, rfl, by omega⟩⟩
            unfold execOp
            have hb := bounds true 0 0 kl kh l hh (hlo _ _ _ h2 g2) (hhi _ _ _ _ h3 g3) b1 b2 b3 (Nat.le_refl _)
            simp only [ho, hx, Instr.sliceAt, Instr.slice, Sem.run_bind, run_und hu, Result.andThen_ok, Option.map_none, hb, run_size hti, Sem.run_pure]
            simp [hl0, hh0]
          · refine ⟨.slice (if (ε.f id).cap - aa = l.toNat then some ad else (some ad).map (·.add (l.toNat * sz))) (hh.toNat - l.toNat) ((ε.f id).cap - aa - l.toNat), ?_, r1, by omega, .inr ⟨hnil, by omega, ?_⟩⟩
            · unfold execOp
              have hb := bounds true len ((ε.f id).cap - aa) kl kh l hh (hlo _ _ _ h2 g2) (hhi _ _ _ _ h3 g3) b1 b2 b3 (by omega)
              simp only [ho, hx, Instr.sliceAt, Instr.slice, Sem.run_bind, run_und hu, Result.andThen_ok, Option.map_none, hb, run_size hti, htis, b4, Sem.run_pure]
            · have e1 : hh.toNat - l.toNat = len' := by omega
              have e2 : (ε.f id).cap - aa - l.toNat = (ε.f id).cap - aa' := by omega
              rw [e1, e2]
              by_cases hm : (ε.f id).cap - aa = l.toNat
              · rw [if_pos hm]
                refine ⟨ad, rfl, fun hlt => ?_⟩
                have h0 : aa' = 0 := by omega
                have h1 : aa = 0 := by omega
                rw [had (.inr h1), h0, h1]
              · rw [if_neg hm]
                refine ⟨_, rfl, fun hlt => ?_⟩
                show ad.add (l.toNat * sz) = _
                rw [had (by omega), add_none, ea, Nat.add_mul, Nat.add_assoc]
        cases hlo' : lo with
        | none =>
          simp only [hlo', Option.some.injEq, Prod.mk.injEq] at hc
          obtain ⟨rfl, rfl⟩ := hc
          obtain ⟨g1, g2, g3, b1, b2, b3⟩ := hp
          have hl0 : l = 0 := by
            rcases hlo _ _ _ h2 g2 with ⟨_, e⟩ | ⟨y, e, _⟩
            · exact e
            · rw [hlo'] at e; cases e
          exact ⟨_, rfl, key _ _ (by omega) (by omega) g1 g2 g3 (by omega) (by omega) b2 b3⟩
        | some y =>
          simp only [hlo'] at hc
          cases hb : Nat.beq aa 0 with
          | true =>
            simp only [hb, Option.some.injEq, Prod.mk.injEq] at hc
            obtain ⟨rfl, rfl⟩ := hc
            obtain ⟨g1, g2, g3, b1, b2, b3, b4⟩ := hp
            have := Nat.eq_of_beq_eq_true hb
            exact ⟨_, rfl, key _ _ (by omega) rfl g1 g2 g3 b1 b2 b3 b4⟩
          | false =>
            simp only [hb, Option.some.injEq, Prod.mk.injEq] at hc
            obtain ⟨rfl, rfl⟩ := hc
            obtain ⟨g1, g2, g3, b1, b2, b3, b4⟩ := hp
            exact ⟨_, rfl, key _ _ rfl rfl g1 g2 g3 b1 b2 b3 b4⟩
      · cases hc
    · cases hc
end

end Go.X
