/- Parts, numbers, choice, strings: operations that only tell a value. -/
import Derived.Test.YtgbeiogbppaogaaX7
set_option linter.unusedVariables false
namespace Go.X

section
variable {X : Ctx} {ε : Env} {σ : Sig} {a : Act} {w : World} {o : Oper} {next : Act → World → Prop} {Q : Exit → Act → World → Prop}

theorem run_part {P : Program} {ε : Env} {t : TypeId} {te : TE} {vs : List Value} {off size : Nat} {v : V1} (ht : TyOk P t te) (hs : te.size = size) (hT : Told ε vs off te.d.agg size v) (w : World) :
    ∃ x, (part t vs.toArray off).run P w = .ok x w ∧ Rel1 ε v x := by
  obtain ⟨i, hi, his, _⟩ := ht.inf
  unfold part
  simp only [Sem.run_bind, run_isAgg' ht, Result.andThen_ok]
  unfold Told at hT
  cases hag : te.d.agg with
  | true =>
    simp only [hag, if_true] at hT ⊢
    obtain ⟨h1, h2⟩ := hT
    refine ⟨_, ?_, h2⟩
    simp only [Sem.run_bind, run_size hi, his, hs, Result.andThen_ok, Sem.run_pure]
    congr 2
    apply Array.ext'
    simp
  | false =>
    simp only [hag, Bool.false_eq_true, if_false] at hT ⊢
    obtain ⟨x, hx, hr⟩ := hT
    refine ⟨x, ?_, hr⟩
    simp [hx]

theorem index_tells (hX : XOk X) (h : Holds X ε σ a w) {t : TypeId} {x ix : Operand} {p : Prop} {eff : Eff} (ho : o.op = .index t x ix) (hk : constOk x) (hki : constOk ix) (hc : opIndex X.tt σ.regs t x ix = some (p, eff)) (hp : p) :
    ∃ v, eff = .val v ∧ Tells X ε a w o v := by
  unfold opIndex at hc
  cases hv : ev1 σ.regs x with
  | none => simp [hv] at hc
  | some q =>
    obtain ⟨q1, c⟩ := q
    cases hw : evC σ.regs ix with
    | none => cases c with
      | c c => cases c <;> simp [hv, hw] at hc
      | agg l => simp [hv, hw] at hc
    | some q' =>
      obtain ⟨q2, d⟩ := q'
      cases d with
      | int k j =>
        cases ht : look X.tt t with
        | none => cases c with
          | c c => cases c <;> simp [hv, hw, ht] at hc
          | agg l => simp [hv, hw, ht] at hc
        | some te =>
          have hty := hX.tt t te ht
          cases c with
          | agg l =>
            simp only [hv, hw, ht] at hc
            cases hd : te.d with
            | arr n e esz =>
              simp only [hd] at hc
              cases hee : look X.tt e with
              | none => simp [hee] at hc
              | some ee =>
                simp only [hee] at hc
                cases hl : loadF l ee.d.agg esz 0 esz j.toNat 0 0 with
                | none => simp [hl] at hc
                | some r =>
                  obtain ⟨q3, v⟩ := r
                  simp only [hl, Option.some.injEq, Prod.mk.injEq] at hc
                  obtain ⟨rfl, rfl⟩ := hc
                  obtain ⟨g1, g2, g3, g4⟩ := hp
                  obtain ⟨vs, hx, hvs⟩ := ev1_rel h hv hk g1
                  obtain ⟨hy, _⟩ := evC_rel h hw hki g2
                  obtain ⟨hu, ti, hti, htis⟩ := arr_of hty hd
                  have hte := hX.tt e ee hee
                  have hsz : ee.size = esz := by
                    obtain ⟨i', hi', his', _⟩ := hte.inf
                    rw [hti] at hi'
                    injection hi' with hi'
                    rw [← his', ← hi', htis]
                  have hT := loadF_rel hl g4 hvs
                  obtain ⟨y, hy', hrel⟩ := run_part hte hsz hT w
                  refine ⟨_, rfl, y, ?_, hrel⟩
                  unfold execOp
                  simp only [ho, hx, hy, Instr.index, asIntOf, Sem.run_bind, Sem.run_pure, Result.andThen_ok, run_und hu, if_pos g3, run_size hti, htis]
                  rw [show 0 + (esz * j.toNat + 0 * 0) = j.toNat * esz by rw [Nat.mul_comm esz]; omega] at hy'
                  rw [hy']
                  rfl
            | _ => simp [hd] at hc
          | c c =>
            cases c with
            | str s =>
              simp only [hv, hw, ht] at hc
              cases hd : te.d with
              | str =>
                simp only [hd, Option.some.injEq, Prod.mk.injEq] at hc
                obtain ⟨rfl, rfl⟩ := hc
                obtain ⟨g1, g2, g3, g4⟩ := hp
                obtain ⟨hx, _⟩ : RelC ε (.str s) (a.eval x) := ev1_rel h hv hk g1
                obtain ⟨hy, _⟩ := evC_rel h hw hki g2
                have hlt : j.toNat < s.size := by omega
                have hlt' : j.toNat < s.data.toList.length := hlt
                have hb : s[j.toNat]? = some (s.data.toList.getD j.toNat 0) := by
                  rw [getElem?_pos s j.toNat hlt]
                  simp only [List.getD, List.getElem?_eq_getElem hlt', Option.getD_some]
                  rfl
                refine ⟨_, rfl, .int .u8 (byteI s j.toNat), ?_, rfl, ?_⟩
                · unfold execOp
                  simp only [ho, hx, hy, Instr.index, asIntOf, Sem.run_bind, Sem.run_pure, Result.andThen_ok, run_und (str_of hty hd), if_pos g3, hb]
                  rfl
                · have := UInt8.toNat_lt (s.data.toList.getD j.toNat 0)
                  simp only [inK, byteI]
                  omega
              | _ => simp [hd] at hc
            | _ => simp [hv, hw, ht] at hc
      | _ => cases c with
        | c c => cases c <;> simp [hv, hw] at hc
        | agg l => simp [hv, hw] at hc

theorem field_tells (hX : XOk X) (h : Holds X ε σ a w) {t : TypeId} {x : Operand} {i : Nat} {p : Prop} {eff : Eff} (ho : o.op = .field t x i) (hk : constOk x) (hc : opField X.tt σ.regs t x i = some (p, eff)) (hp : p) :
    ∃ v, eff = .val v ∧ Tells X ε a w o v := by
  unfold opField at hc
  cases hv : ev1 σ.regs x with
  | none => simp [hv] at hc
  | some q =>
    obtain ⟨q1, c⟩ := q
    cases c with
    | c c => simp [hv] at hc
    | agg l =>
      cases ht : look X.tt t with
      | none => simp [hv, ht] at hc
      | some te =>
        have hty := hX.tt t te ht
        simp only [hv, ht] at hc
        cases hd : te.d with
        | strct fs =>
          simp only [hd] at hc
          cases hf : nth fs i with
          | none => simp [hf] at hc
          | some f =>
            obtain ⟨ft, off, sz⟩ := f
            simp only [hf] at hc
            cases hee : look X.tt ft with
            | none => simp [hee] at hc
            | some fe =>
              simp only [hee] at hc
              cases hl : loadF l fe.d.agg sz off 0 0 0 0 with
              | none => simp [hl] at hc
              | some r =>
                obtain ⟨q3, v⟩ := r
                simp only [hl, Option.some.injEq, Prod.mk.injEq] at hc
                obtain ⟨rfl, rfl⟩ := hc
                obtain ⟨g1, g4⟩ := hp
                obtain ⟨vs, hx, hvs⟩ := ev1_rel h hv hk g1
                obtain ⟨flds, hu, hfb⟩ := strct_of hty hd
                obtain ⟨fl, hfl, hft, hfo, hsz, ti, hti, htis⟩ := fldB_nth hfb hf
                have hfl' : flds[i]? = some fl := by simpa using hfl
                have hte := hX.tt ft fe hee
                have hsz : fe.size = sz := by
                  obtain ⟨i', hi', his', _⟩ := hte.inf
                  rw [hti] at hi'
                  injection hi' with hi'
                  rw [← his', ← hi', htis]
                have hT := loadF_rel hl g4 hvs
                obtain ⟨y, hy', hrel⟩ := run_part hte hsz hT w
                refine ⟨_, rfl, y, ?_, hrel⟩
                unfold execOp
                simp only [ho, hx, Instr.field, asAgg, Sem.run_bind, Sem.run_pure, Result.andThen_ok, run_und hu, hfl', hft, hfo]
                simp only [Nat.add_zero, Nat.mul_zero] at hy'
                rw [hy']
                rfl
        | _ => simp [hd] at hc

/-! ### numbers -/
theorem wrap_in {k : IntKind} {n : Int} (h : inK k n) : k.wrap n = n := by
  cases k
  · exact IntWalk.i8_in n h
  · exact IntWalk.i16_in n h
  · exact IntWalk.i32_in n h
  · exact IntWalk.i64_in n h
  · exact IntWalk.u8_in n h
  · exact IntWalk.u16_in n h
  · exact IntWalk.u32_in n h
  · exact IntWalk.u64_in n h

theorem wrap_inK (k : IntKind) (n : Int) : inK k (k.wrap n) := by
  have h := n
  cases k <;> simp only [inK, IntKind.wrap, IntKind.bits, IntKind.signed] <;> (try simp) <;> (try split) <;> omega

theorem run_eqGuard_c (op : BinOp) (t : TypeId) (x y : Operand) {u v : Value} (hu : u.oneCell' = true) (hi : u ≠ .nilIface) (P : Program) (w : World) : (eqGuard op t x y u v).run P w = .ok () w := by
  unfold eqGuard
  cases op <;> simp only [Sem.run_pure, Bool.not_true, Bool.not_false, if_true, Bool.false_eq_true, if_false] <;> first | rfl | skip
  all_goals
    cases u <;> first | rfl | (simp [Value.oneCell'] at hu; done) | (exact absurd rfl hi) | skip

theorem pow_pos' (n : Nat) : (0 : Int) < 2 ^ n := by
  have : (0 : Int) < ((2 ^ n : Nat) : Int) := by exact_mod_cast Nat.pow_pos (by decide : 0 < 2)
  simpa using this

theorem inK_div {k : IntKind} {x y : Int} (h : inK k x) (h0 : 0 ≤ x) (hy : 0 < y) : inK k (x / y) := by
  have h1 : 0 ≤ x / y := Int.ediv_nonneg h0 (Int.le_of_lt hy)
  have h2 : x / y ≤ x := Int.ediv_le_self _ h0
  cases k <;> simp only [inK] at h ⊢ <;> omega

theorem inK_mod {k : IntKind} {x y : Int} (h : inK k x) (h0 : 0 ≤ x) (hy : 0 < y) : inK k (x % y) := by
  have h1 : 0 ≤ x % y := Int.emod_nonneg _ (by omega)
  have h2 : x % y ≤ x := by
    have := Int.mul_ediv_add_emod x y
    have h3 : 0 ≤ y * (x / y) := Int.mul_nonneg (by omega) (Int.ediv_nonneg h0 (by omega))
    omega
  cases k <;> simp only [inK] at h ⊢ <;> omega

theorem inK_tmod {k : IntKind} {x y : Int} (h : inK k x) : inK k (x.tmod y) := by
  have h1 : (x.tmod y).natAbs ≤ x.natAbs := by
    rw [Int.natAbs_tmod]
    exact Nat.mod_le _ _
  rcases Int.le_total 0 x with g | g
  · have h2 : 0 ≤ x.tmod y := Int.tmod_nonneg _ g
    cases k <;> simp only [inK] at h ⊢ <;> omega
  · have h2 : x.tmod y ≤ 0 := by
      have := Int.tmod_nonneg y (a := -x) (by omega)
      rw [Int.neg_tmod] at this
      omega
    cases k <;> simp only [inK] at h ⊢ <;> omega

theorem inK_shr {k : IntKind} {x : Int} (n : Nat) (h : inK k x) : inK k (x / 2 ^ n) := by
  have hp := pow_pos' n
  rcases Int.le_total 0 x with g | g
  · exact inK_div h g hp
  · have h1 : x / 2 ^ n ≤ 0 := by
      have := Int.ediv_le_ediv hp g
      simpa using this
    have h2 : x ≤ x / 2 ^ n := by
      rw [Int.le_ediv_iff_mul_le hp]
      have : x * (2 ^ n - 1) ≤ 0 := Int.mul_nonpos_of_nonpos_of_nonneg g (by omega)
      rw [Int.mul_sub, Int.mul_one] at this
      omega
    cases k <;> simp only [inK] at h ⊢ <;> omega

/-- The bounds of a kind's numbers from 0 on. -/
theorem inK_nat {k : IntKind} {n : Nat} : inK k n ↔ n < 2 ^ (if k.signed then k.bits - 1 else k.bits) := by
  cases k <;> simp only [inK, IntKind.signed, IntKind.bits] <;> (try simp) <;> omega

theorem bv_toNat {k : IntKind} {x : Int} (h : inK k x) (h0 : 0 ≤ x) : (BitVec.ofInt k.bits x).toNat = x.toNat := by
  obtain ⟨n, rfl⟩ := Int.eq_ofNat_of_zero_le h0
  have hlt := inK_nat.1 h
  rw [BitVec.ofInt_natCast, BitVec.toNat_ofNat, Int.toNat_natCast]
  refine Nat.mod_eq_of_lt (Nat.lt_of_lt_of_le hlt (Nat.pow_le_pow_right (by decide) ?_))
  split <;> omega

theorem inK_bits {k : IntKind} {x y : Int} (hx : inK k x) (hy : inK k y) (x0 : 0 ≤ x) (y0 : 0 ≤ y) :
    inK k ((x.toNat &&& y.toNat : Nat) : Int) ∧ inK k ((x.toNat ||| y.toNat : Nat) : Int) ∧ inK k ((x.toNat ^^^ y.toNat : Nat) : Int) := by
  obtain ⟨a, rfl⟩ := Int.eq_ofNat_of_zero_le x0
  obtain ⟨b, rfl⟩ := Int.eq_ofNat_of_zero_le y0
  rw [inK_nat] at hx hy
  simp only [Int.toNat_natCast, inK_nat]
  exact ⟨Nat.and_lt_two_pow _ hy, Nat.or_lt_two_pow hx hy, Nat.xor_lt_two_pow hx hy⟩

theorem binC_tells {md : Md} {op : BinOp} {t : TypeId} {x y : Operand} {c d : C} {p : Prop} {v : V1} {u1 u2 : Value} (hc : binC md op c d = some (p, v)) (hp : p) (h1 : RelC ε c u1) (h2 : RelC ε d u2) (P : Program) (w : World) :
    ∃ z, (do eqGuard op t x y u1 u2; binOp op t u1 u2 : Sem Value).run P w = .ok z w ∧ Rel1 ε v z := by
  cases c with
  | int k m =>
    cases d with
    | int k' n =>
      obtain ⟨rfl, r1⟩ := h1
      obtain ⟨rfl, r2⟩ := h2
      have g : (eqGuard op t x y (.int k m) (.int k' n)).run P w = .ok () w := run_eqGuard_c op t x y rfl (by simp) P w
      simp only [Sem.run_bind, g, Result.andThen_ok]
      clear g
      cases op
      case add | sub | mul =>
        simp only [binC] at hc
        cases hm : md.wrap with
        | true =>
          simp only [hm, Option.some.injEq, Prod.mk.injEq] at hc
          obtain ⟨rfl, rfl⟩ := hc
          obtain rfl := hp
          exact ⟨_, by simp [binOp, Op.intArith], rfl, wrap_inK _ _⟩
        | false =>
          simp only [hm, Option.some.injEq, Prod.mk.injEq] at hc
          obtain ⟨rfl, rfl⟩ := hc
          obtain ⟨rfl, hq⟩ := hp
          refine ⟨_, ?_, rfl, hq⟩
          simp only [binOp, Op.intArith, ne_eq, not_true_eq_false, if_false, Sem.run_pure]
          rw [wrap_in hq]
      case quo =>
        simp only [binC] at hc
        cases hm : md.tdiv with
        | false =>
          simp only [hm, Option.some.injEq, Prod.mk.injEq] at hc
          obtain ⟨rfl, rfl⟩ := hc
          obtain ⟨rfl, g1, g2⟩ := hp
          have hin := inK_div r1 g1 g2
          refine ⟨_, ?_, rfl, hin⟩
          simp only [binOp, Op.intDiv, ne_eq, not_true_eq_false, if_false, show ¬ n = 0 by omega, Sem.run_pure]
          rw [Int.tdiv_eq_ediv_of_nonneg g1, wrap_in hin]
        | true =>
          simp only [hm, Option.some.injEq, Prod.mk.injEq] at hc
          obtain ⟨rfl, rfl⟩ := hc
          obtain ⟨rfl, g1, g2⟩ := hp
          refine ⟨_, ?_, rfl, g2⟩
          simp only [binOp, Op.intDiv, ne_eq, not_true_eq_false, if_false, g1, Sem.run_pure]
          rw [wrap_in g2]
      case rem =>
        simp only [binC] at hc
        cases hm : md.tdiv with
        | false =>
          simp only [hm, Option.some.injEq, Prod.mk.injEq] at hc
          obtain ⟨rfl, rfl⟩ := hc
          obtain ⟨rfl, g1, g2⟩ := hp
          refine ⟨_, ?_, rfl, inK_mod r1 g1 g2⟩
          simp only [binOp, Op.intDiv, ne_eq, not_true_eq_false, if_false, show ¬ n = 0 by omega, Sem.run_pure]
          rw [Int.tmod_eq_emod_of_nonneg g1]
        | true =>
          simp only [hm, Option.some.injEq, Prod.mk.injEq] at hc
          obtain ⟨rfl, rfl⟩ := hc
          obtain ⟨rfl, g1⟩ := hp
          refine ⟨_, ?_, rfl, inK_tmod r1⟩
          simp only [binOp, Op.intDiv, ne_eq, not_true_eq_false, if_false, g1, Sem.run_pure]
      case and | or | xor =>
        simp only [binC, Option.some.injEq, Prod.mk.injEq] at hc
        obtain ⟨rfl, rfl⟩ := hc
        obtain ⟨rfl, g1, g2⟩ := hp
        obtain ⟨b1, b2, b3⟩ := inK_bits r1 r2 g1 g2
        first
          | (refine ⟨_, ?_, rfl, b1⟩
             simp only [binOp, Op.intBits, ne_eq, not_true_eq_false, if_false, Sem.run_pure, BitVec.toNat_and, bv_toNat r1 g1, bv_toNat r2 g2]
             rw [wrap_in b1])
          | (refine ⟨_, ?_, rfl, b2⟩
             simp only [binOp, Op.intBits, ne_eq, not_true_eq_false, if_false, Sem.run_pure, BitVec.toNat_or, bv_toNat r1 g1, bv_toNat r2 g2]
             rw [wrap_in b2])
          | (refine ⟨_, ?_, rfl, b3⟩
             simp only [binOp, Op.intBits, ne_eq, not_true_eq_false, if_false, Sem.run_pure, BitVec.toNat_xor, bv_toNat r1 g1, bv_toNat r2 g2]
             rw [wrap_in b3])
      case shl =>
        simp only [binC] at hc
        cases hm : md.wrap with
        | true =>
          simp only [hm, Option.some.injEq, Prod.mk.injEq] at hc
          obtain ⟨rfl, rfl⟩ := hc
          refine ⟨_, ?_, rfl, wrap_inK _ _⟩
          simp only [binOp, Op.shift, if_neg (Int.not_lt.2 hp), Sem.run_pure, shiftN]
        | false =>
          simp only [hm, Option.some.injEq, Prod.mk.injEq] at hc
          obtain ⟨rfl, rfl⟩ := hc
          obtain ⟨g1, g2, g3⟩ := hp
          refine ⟨_, ?_, rfl, g3⟩
          simp only [binOp, Op.shift, if_neg (Int.not_lt.2 g1), Sem.run_pure, Nat.min_eq_left g2]
          rw [wrap_in g3]
      case shr =>
        simp only [binC, Option.some.injEq, Prod.mk.injEq] at hc
        obtain ⟨rfl, rfl⟩ := hc
        obtain ⟨g1, g2⟩ := hp
        refine ⟨_, ?_, rfl, inK_shr _ r1⟩
        simp only [binOp, Op.shift, if_neg (Int.not_lt.2 g1), Sem.run_pure, Nat.min_eq_left g2]
        rw [Int.fdiv_eq_ediv_of_nonneg _ (Int.le_of_lt (pow_pos' _))]
      case eql | neq | lss | leq | gtr | geq =>
        simp only [binC, Option.some.injEq, Prod.mk.injEq] at hc
        obtain ⟨rfl, rfl⟩ := hc
        obtain rfl := hp
        refine ⟨_, ?_, rfl⟩
        simp only [binOp, Op.intCmp, ne_eq, not_true_eq_false, if_false, Sem.run_pure]
        first | done | exact congrArg (fun b => Result.ok (Value.bool b) w) (by rw [Bool.eq_iff_iff]; simp only [decide_eq_true_eq, beq_iff_eq, bne_iff_ne, ne_eq])
      all_goals simp [binC] at hc
    | _ => cases op <;> simp [binC] at hc
  | str s =>
    cases d with
    | str t' =>
      obtain ⟨rfl, r1⟩ := h1
      obtain ⟨rfl, r2⟩ := h2
      have g : (eqGuard op t x y (.string s) (.string t')).run P w = .ok () w := run_eqGuard_c op t x y rfl (by simp) P w
      simp only [Sem.run_bind, g, Result.andThen_ok]
      clear g
      cases op
      case add =>
        simp only [binC, Option.some.injEq, Prod.mk.injEq] at hc
        obtain ⟨rfl, rfl⟩ := hc
        refine ⟨_, ?_, rfl, by simpa using hp⟩
        have : ¬ (((s.size + t'.size : Nat) : Int) > IntKind.i64.max) := by
          have e : IntKind.i64.max = 9223372036854775807 := by decide
          rw [e]; omega
        simp only [binOp, Op.stringOp, if_neg this, Sem.run_pure]
      case eql | neq =>
        simp only [binC, Option.some.injEq, Prod.mk.injEq] at hc
        obtain ⟨_, rfl⟩ := hc
        refine ⟨_, ?_, rfl⟩
        simp only [binOp, Op.stringOp, Sem.run_pure]
        congr 2
        rw [Bool.eq_iff_iff]
        simp
      all_goals simp [binC] at hc
    | _ => cases op <;> simp [binC] at hc
  | _ => cases op <;> simp [binC] at hc
end

end Go.X
