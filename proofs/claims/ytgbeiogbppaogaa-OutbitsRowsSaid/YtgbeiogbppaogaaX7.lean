/- Operations on addresses, parts and numbers are sound. -/
import Derived.Test.YtgbeiogbppaogaaX6
set_option linter.unusedVariables false
namespace Go.X

section
variable {X : Ctx} {ε : Env} {σ : Sig} {a : Act} {w : World} {o : Oper} {next : Act → World → Prop} {Q : Exit → Act → World → Prop}

/-- An operation that only tells a value. -/
def Tells (X : Ctx) (ε : Env) (a : Act) (w : World) (o : Oper) (v : SV) : Prop := ∃ x, (execOp a.eval o).run X.P w = .ok (.value x) w ∧ RelV ε v x

theorem Tells.wp {v : SV} (ht : Tells X ε a w o v) (h : Holds X ε σ a w) (hn : ∀ ε' x w', Fits X ε σ (.val v) ε' x w' → next (a.put o.dst x) w') : o.wp X.P a w next Q := by
  obtain ⟨x, hr, hv⟩ := ht
  exact wp_value hr (hn _ _ _ (Fits.of_val h hv))

theorem add_none (b o n : Nat) : (⟨b, o, none⟩ : Addr).add n = ⟨b, o + n, none⟩ := by
  unfold Addr.add
  split <;> simp_all

theorem ok_ptr {b o o' : Nat} (h : o = o') (w : World) : Result.ok (Next.value (.pointer (some ⟨b, o, none⟩))) w = .ok (.value (.pointer (some ⟨b, o', none⟩))) w := by rw [h]

theorem fldB_nth {P : Program} : ∀ {flds : List Field} {fs : List (TypeId × Nat × Nat)} {i : Nat} {t off sz : Nat}, fldB P flds fs = true → nth fs i = some (t, off, sz) →
    ∃ f, flds[i]? = some f ∧ f.type = t ∧ f.offset = off ∧ 0 < sz ∧ ∃ ti, P.info? t = some ti ∧ ti.size = sz
  | [], [], i, _, _, _, _, h => by cases i <;> simp [nth] at h
  | f :: flds, (t, off, sz) :: fs, 0, _, _, _, hb, h => by
    simp only [nth, Option.some.injEq, Prod.mk.injEq] at h
    obtain ⟨rfl, rfl, rfl⟩ := h
    simp only [fldB, Bool.and_eq_true] at hb
    obtain ⟨h1, h2, h3, h4, _⟩ := hb
    exact ⟨f, rfl, Nat.eq_of_beq_eq_true h1, Nat.eq_of_beq_eq_true h2, blt_true h4, szB_of h3⟩
  | f :: flds, (t, off, sz) :: fs, i + 1, _, _, _, hb, h => by
    simp only [nth] at h
    simp only [fldB, Bool.and_eq_true] at hb
    obtain ⟨g, hg, r⟩ := fldB_nth hb.2.2.2.2.2 h
    exact ⟨g, by simpa using hg, r⟩
  | [], _ :: _, _, _, _, _, hb, _ => by simp [fldB] at hb
  | _ :: _, [], _, _, _, _, hb, _ => by simp [fldB] at hb

theorem strct_of {P : Program} {t : TypeId} {te : TE} {fs : List (TypeId × Nat × Nat)} (h : TyOk P t te) (hd : te.d = .strct fs) : ∃ flds, P.underlying t = some (.struct flds) ∧ fldB P flds.toList fs = true := by
  obtain ⟨d, hu, hb⟩ := h.und
  rw [hd] at hb
  cases d <;> simp [dB] at hb
  exact ⟨_, hu, hb⟩
theorem arr_of {P : Program} {t : TypeId} {te : TE} {n e esz : Nat} (h : TyOk P t te) (hd : te.d = .arr n e esz) : P.underlying t = some (.array n e) ∧ ∃ i, P.info? e = some i ∧ i.size = esz := by
  obtain ⟨d, hu, hb⟩ := h.und
  rw [hd] at hb
  cases d <;> simp [dB] at hb
  obtain ⟨h1, h2, h3⟩ := hb
  have := szB_of h3
  subst h1 h2
  exact ⟨hu, this⟩
theorem sl_of {P : Program} {t : TypeId} {te : TE} {e esz eb : Nat} (h : TyOk P t te) (hd : te.d = .sl e esz eb) : P.underlying t = some (.slice e) ∧ ∃ i, P.info? e = some i ∧ i.size = esz ∧ i.bytes = eb := by
  obtain ⟨d, hu, hb⟩ := h.und
  rw [hd] at hb
  cases d <;> simp [dB] at hb
  obtain ⟨h1, h2, h3⟩ := hb
  obtain ⟨i, hi, hs⟩ := szB_of h2
  obtain ⟨j, hj, hs'⟩ := byB_of h3
  rw [hi] at hj
  injection hj with hj
  subst h1 hj
  exact ⟨hu, i, hi, hs, hs'⟩
theorem int_of {P : Program} {t : TypeId} {te : TE} {k : IntKind} (h : TyOk P t te) (hd : te.d = .int k) : P.underlying t = some (.int k) := by
  obtain ⟨d, hu, hb⟩ := h.und
  rw [hd] at hb
  cases d <;> simp [dB] at hb
  subst hb
  exact hu
theorem bool_of {P : Program} {t : TypeId} {te : TE} (h : TyOk P t te) (hd : te.d = .bool) : P.underlying t = some .bool := by
  obtain ⟨d, hu, hb⟩ := h.und
  rw [hd] at hb
  cases d <;> simp [dB] at hb
  exact hu
theorem str_of {P : Program} {t : TypeId} {te : TE} (h : TyOk P t te) (hd : te.d = .str) : P.underlying t = some .string := by
  obtain ⟨d, hu, hb⟩ := h.und
  rw [hd] at hb
  cases d <;> simp [dB] at hb
  exact hu
theorem ptr_of {P : Program} {t : TypeId} {te : TE} {e : Nat} (h : TyOk P t te) (hd : te.d = .ptr e) : P.underlying t = some (.pointer e) := by
  obtain ⟨d, hu, hb⟩ := h.und
  rw [hd] at hb
  cases d <;> simp [dB] at hb
  subst hb
  exact hu

theorem fieldAddr_tells (hX : XOk X) (h : Holds X ε σ a w) {t : TypeId} {x : Operand} {i : Nat} {p : Prop} {eff : Eff} (ho : o.op = .fieldAddr t x i) (hk : constOk x) (hc : opFieldAddr X.tt σ.regs t x i = some (p, eff)) (hp : p) :
    ∃ v, eff = .val v ∧ Tells X ε a w o v := by
  unfold opFieldAddr at hc
  cases hv : evC σ.regs x with
  | none => simp [hv] at hc
  | some q =>
    obtain ⟨q1, c⟩ := q
    cases ht : look X.tt t with
    | none => cases c <;> simp [hv, ht] at hc
    | some te =>
      have hty := hX.tt t te ht
      cases c with
      | ptr id rst row base stride idx =>
        simp only [hv, ht] at hc
        cases hd : te.d with
        | strct fs =>
          simp only [hd] at hc
          cases hf : nth fs i with
          | none => simp [hf] at hc
          | some f =>
            obtain ⟨ft, off, sz⟩ := f
            simp only [hf] at hc
            obtain ⟨flds, hu, hfb⟩ := strct_of hty hd
            obtain ⟨fl, hfl, hft, hfo, hsz, ti, hti, htis⟩ := fldB_nth hfb hf
            have hfl' : flds[i]? = some fl := by simpa using hfl
            have key : ∀ s j, s * j = stride * idx → q1 → Tells X ε a w o (.v (.c (.ptr id rst row (base + off) s j))) := by
              intro s j hsj hq
              obtain ⟨h1, h2, hx⟩ := evC_rel h hv hk hq
              refine ⟨_, ?_, h1, h2, rfl⟩
              unfold execOp
              simp only [ho, hx, Instr.fieldAt, Instr.sureAddr, Sem.run_bind, Sem.run_pure, Result.andThen_ok, run_und hu, hfl', fieldPlace, hft, run_size hti, htis, Nat.ne_of_gt hsz, if_false, add_none, hfo]
              exact ok_ptr (by omega) w
            cases hs : Nat.beq stride 0 with
            | true =>
              simp only [hs, Option.some.injEq, Prod.mk.injEq] at hc
              obtain ⟨rfl, rfl⟩ := hc
              have hs := Nat.eq_of_beq_eq_true hs
              exact ⟨_, rfl, key 0 0 (by simp [hs]) hp⟩
            | false =>
              simp only [hs, Option.some.injEq, Prod.mk.injEq] at hc
              obtain ⟨rfl, rfl⟩ := hc
              exact ⟨_, rfl, key _ _ rfl hp⟩
        | _ => simp [hd] at hc
      | _ => simp [hv, ht] at hc

/-- An index into an array. -/
theorem run_indexAt_arr {P : Program} {t n e : Nat} {i : TypeInfo} {esz : Nat} (hu : P.underlying t = some (.array n e)) (hi : P.info? e = some i) (hs : i.size = esz) (b o : Nat) (k : IntKind) (j : Int) (hj : 0 ≤ j ∧ j < n) (w : World) :
    (Instr.indexAt t (.pointer (some ⟨b, o, none⟩)) (.int k j)).run P w = .ok (.pointer (some ⟨b, o + j.toNat * esz, none⟩)) w := by
  simp only [Instr.indexAt, asIntOf, Sem.run_bind, Sem.run_pure, Result.andThen_ok, run_und hu, Instr.sureAddr, if_pos hj, run_size hi, hs, add_none]

theorem run_indexAt_sl {P : Program} {t e : Nat} {i : TypeInfo} {esz : Nat} (hu : P.underlying t = some (.slice e)) (hi : P.info? e = some i) (hs : i.size = esz) (ad : Addr) (len cap : Nat) (k : IntKind) (j : Int) (hj : 0 ≤ j ∧ j < len) (w : World) :
    (Instr.indexAt t (.slice (some ad) len cap) (.int k j)).run P w = .ok (.pointer (some (ad.add (j.toNat * esz)))) w := by
  simp only [Instr.indexAt, asIntOf, Sem.run_bind, Sem.run_pure, Result.andThen_ok, run_und hu, if_pos hj, run_size hi, hs]

theorem mul_div_dvd {s esz i j : Nat} (h : s % esz = 0) : s * i + j * esz = esz * (i * (s / esz) + j) := by
  obtain ⟨q, rfl⟩ := Nat.dvd_of_mod_eq_zero h
  rcases Nat.eq_zero_or_pos esz with rfl | hp
  · simp
  · rw [Nat.mul_div_cancel_left _ hp, Nat.mul_add, Nat.mul_comm j esz, Nat.mul_comm i q, Nat.mul_assoc]

theorem indexAddr_tells (hX : XOk X) (h : Holds X ε σ a w) {t : TypeId} {x ix : Operand} {p : Prop} {eff : Eff} (ho : o.op = .indexAddr t x ix) (hk : constOk x) (hki : constOk ix) (hc : opIndexAddr X.tt σ.regs t x ix = some (p, eff)) (hp : p) :
    ∃ v, eff = .val v ∧ Tells X ε a w o v := by
  unfold opIndexAddr at hc
  cases hv : evC σ.regs x with
  | none => simp [hv] at hc
  | some q =>
    obtain ⟨q1, c⟩ := q
    cases hw : evC σ.regs ix with
    | none => cases c <;> simp [hv, hw] at hc
    | some q' =>
      obtain ⟨q2, d⟩ := q'
      cases d with
      | int k j =>
        cases ht : look X.tt t with
        | none => cases c <;> simp [hv, hw, ht] at hc
        | some te =>
          have hty := hX.tt t te ht
          cases c with
          | ptr id rst row base s i =>
            simp only [hv, hw, ht] at hc
            cases hd : te.d with
            | arr n e esz =>
              simp only [hd] at hc
              obtain ⟨hu, ti, hti, htis⟩ := arr_of hty hd
              have key : ∀ base' s' i', base + rst * row + s * i + j.toNat * esz = base' + rst * row + s' * i' → q1 → q2 → 0 ≤ j ∧ j < n → Tells X ε a w o (.v (.c (.ptr id rst row base' s' i'))) := by
                intro base' s' i' he g1 g2 hj
                obtain ⟨h1, h2, hx⟩ := evC_rel h hv hk g1
                obtain ⟨hy, _⟩ := evC_rel h hw hki g2
                refine ⟨_, ?_, h1, h2, rfl⟩
                unfold execOp
                simp only [ho, hx, hy, Sem.run_bind, run_indexAt_arr hu hti htis _ _ k j hj, Result.andThen_ok, Sem.run_pure]
                exact ok_ptr (by omega) w
              by_cases hcn : ∃ v, ix = .const v
              · obtain ⟨v, rfl⟩ := hcn
                simp only [Option.some.injEq, Prod.mk.injEq] at hc
                obtain ⟨rfl, rfl⟩ := hc
                exact ⟨_, rfl, key _ _ _ (by omega) hp.1 hp.2.1 hp.2.2⟩
              · have hc' : (match Nat.beq (s % esz) 0 with | true => some (q1 ∧ q2 ∧ 0 ≤ j ∧ j < n, Eff.val (.v (.c (movePtr id rst row base s i esz j.toNat)))) | false => none) = some (p, eff) := by
                  cases ix with
                  | const v => exact absurd ⟨v, rfl⟩ hcn
                  | _ => exact hc
                cases hm : Nat.beq (s % esz) 0 with
                | false => simp [hm] at hc'
                | true =>
                  simp only [hm, Option.some.injEq, Prod.mk.injEq] at hc'
                  obtain ⟨rfl, rfl⟩ := hc'
                  have hm := Nat.eq_of_beq_eq_true hm
                  refine ⟨_, rfl, ?_⟩
                  unfold movePtr
                  cases hs : Nat.beq s 0 with
                  | true =>
                    have hs := Nat.eq_of_beq_eq_true hs
                    exact key _ _ _ (by subst hs; rw [Nat.zero_mul, Nat.add_zero, Nat.mul_comm esz]) hp.1 hp.2.1 hp.2.2
                  | false =>
                    have := mul_div_dvd (i := i) (j := j.toNat) hm
                    exact key _ _ _ (by omega) hp.1 hp.2.1 hp.2.2
            | _ => simp [hd] at hc
          | gp g rst row base s i =>
            simp only [hv, hw, ht] at hc
            cases hd : te.d with
            | arr n e esz =>
              simp only [hd] at hc
              obtain ⟨hu, ti, hti, htis⟩ := arr_of hty hd
              have key : ∀ base' s' i', base + rst * row + s * i + j.toNat * esz = base' + rst * row + s' * i' → q1 → q2 → 0 ≤ j ∧ j < n → Tells X ε a w o (.v (.c (.gp g rst row base' s' i'))) := by
                intro base' s' i' he g1 g2 hj
                have hx : a.eval x = _ := evC_rel h hv hk g1
                obtain ⟨hy, _⟩ := evC_rel h hw hki g2
                refine ⟨_, ?_, rfl⟩
                unfold execOp
                simp only [ho, hx, hy, Sem.run_bind, run_indexAt_arr hu hti htis _ _ k j hj, Result.andThen_ok, Sem.run_pure]
                exact ok_ptr (by omega) w
              by_cases hcn : ∃ v, ix = .const v
              · obtain ⟨v, rfl⟩ := hcn
                simp only [Option.some.injEq, Prod.mk.injEq] at hc
                obtain ⟨rfl, rfl⟩ := hc
                exact ⟨_, rfl, key _ _ _ (by omega) hp.1 hp.2.1 hp.2.2⟩
              · have hc' : (match Nat.beq (s % esz) 0 with
                    | true => match Nat.beq s 0 with
                      | true => some (q1 ∧ q2 ∧ 0 ≤ j ∧ j < n, Eff.val (.v (.c (.gp g rst row base esz j.toNat))))
                      | false => some (q1 ∧ q2 ∧ 0 ≤ j ∧ j < n, Eff.val (.v (.c (.gp g rst row base esz (i * (s / esz) + j.toNat)))))
                    | false => none) = some (p, eff) := by
                  cases ix with
                  | const v => exact absurd ⟨v, rfl⟩ hcn
                  | _ => exact hc
                cases hm : Nat.beq (s % esz) 0 with
                | false => simp [hm] at hc'
                | true =>
                  simp only [hm] at hc'
                  have hm := Nat.eq_of_beq_eq_true hm
                  cases hs : Nat.beq s 0 with
                  | true =>
                    simp only [hs, Option.some.injEq, Prod.mk.injEq] at hc'
                    obtain ⟨rfl, rfl⟩ := hc'
                    have hs := Nat.eq_of_beq_eq_true hs
                    exact ⟨_, rfl, key _ _ _ (by subst hs; rw [Nat.zero_mul, Nat.add_zero, Nat.mul_comm esz]) hp.1 hp.2.1 hp.2.2⟩
                  | false =>
                    simp only [hs, Option.some.injEq, Prod.mk.injEq] at hc'
                    obtain ⟨rfl, rfl⟩ := hc'
                    have := mul_div_dvd (i := i) (j := j.toNat) hm
                    exact ⟨_, rfl, key _ _ _ (by omega) hp.1 hp.2.1 hp.2.2⟩
            | _ => simp [hd] at hc
          | sl id aa len sz =>
            simp only [hv, hw, ht] at hc
            cases hd : te.d with
            | sl e esz eb =>
              simp only [hd] at hc
              obtain ⟨hu, ti, hti, htis, _⟩ := sl_of hty hd
              cases hb : Nat.beq sz esz with
              | false => simp [hb] at hc
              | true =>
                simp only [hb] at hc
                have hb := Nat.eq_of_beq_eq_true hb
                subst hb
                have key : ∀ r, r = aa + j.toNat → q1 → q2 → 0 ≤ j ∧ j < len → Tells X ε a w o (.v (.c (.ptr id sz r 0 0 0))) := by
                  intro r hr g1 g2 hj
                  obtain ⟨h1, h2, h3⟩ := evC_rel h hv hk g1
                  obtain ⟨hy, _⟩ := evC_rel h hw hki g2
                  rcases h3 with ⟨_, _, rfl⟩ | ⟨hnil, hcap, ad, hx, had⟩
                  · exfalso; omega
                  · have had := had (by omega)
                    subst had
                    refine ⟨_, ?_, h1, hnil, rfl⟩
                    unfold execOp
                    simp only [ho, hx, hy, Sem.run_bind, run_indexAt_sl hu hti htis _ len _ k j hj, Result.andThen_ok, Sem.run_pure, add_none]
                    refine ok_ptr ?_ w
                    rw [hr, Nat.mul_add, Nat.mul_comm sz aa, Nat.mul_comm sz j.toNat]
                    omega
                cases hq : Nat.beq aa 0 with
                | true =>
                  simp only [hq, Option.some.injEq, Prod.mk.injEq] at hc
                  obtain ⟨rfl, rfl⟩ := hc
                  have := Nat.eq_of_beq_eq_true hq
                  exact ⟨_, rfl, key _ (by omega) hp.1 hp.2.1 hp.2.2⟩
                | false =>
                  simp only [hq, Option.some.injEq, Prod.mk.injEq] at hc
                  obtain ⟨rfl, rfl⟩ := hc
                  exact ⟨_, rfl, key _ rfl hp.1 hp.2.1 hp.2.2⟩
            | _ => simp [hd] at hc
          | _ => simp [hv, hw, ht] at hc
      | _ => cases c <;> simp [hv, hw] at hc
end

end Go.X
