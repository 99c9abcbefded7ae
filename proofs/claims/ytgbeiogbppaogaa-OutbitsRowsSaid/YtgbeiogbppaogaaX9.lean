/- Comparing, choice, small operations. -/
import Derived.Test.YtgbeiogbppaogaaX8
import Derived.ChangeKeysEq
set_option linter.unusedVariables false
namespace Go.X

section
variable {X : Ctx} {ε : Env} {σ : Sig} {a : Act} {w : World} {o : Oper} {next : Act → World → Prop} {Q : Exit → Act → World → Prop}

theorem info_cells {P : Program} {t : TypeId} {i : TypeInfo} (h : P.info? t = some i) : P.cellsOf t = i.size := by
  simp [Program.cellsOf, h]

/-- A part of a row of numbers. -/
theorem run_part_scalar {P : Program} {t : TypeId} {te : TE} (ht : TyOk P t te) (hag : te.d.agg = false) {vs : List Value} {off : Nat} {x : Value} (hx : vs[off]? = some x) (w : World) : (part t vs.toArray off).run P w = .ok x w := by
  unfold part
  simp only [Sem.run_bind, run_isAgg' ht, Result.andThen_ok, hag, Bool.false_eq_true, if_false]
  simp [hx]

theorem run_part_agg {P : Program} {t : TypeId} {te : TE} (ht : TyOk P t te) (hag : te.d.agg = true) (vs : List Value) (off : Nat) (w : World) : (part t vs.toArray off).run P w = .ok (.agg ((vs.drop off).take te.size).toArray) w := by
  obtain ⟨i, hi, his, _⟩ := ht.inf
  unfold part
  simp only [Sem.run_bind, run_isAgg' ht, Result.andThen_ok, hag, if_true, run_size hi, his, Sem.run_pure]
  congr 2
  apply Array.ext'
  simp

/-- Rows of numbers, compared in pieces of c cells, is as numbers compared. -/
theorem run_eqItems_ints {P : Program} (d : Nat) (e c : Nat) (k : IntKind) (xs ys : List Int) (w : World)
    (step : ∀ i, (i + 1) * c ≤ xs.length → (do let a ← part e (xs.map (Value.int k)).toArray (i * c); let b ← part e (ys.map (Value.int k)).toArray (i * c); Op.equalIn d e a b : Sem Bool).run P w = .ok (decide ((xs.drop (i * c)).take c = (ys.drop (i * c)).take c)) w) :
    ∀ n i, (i + n) * c ≤ xs.length → (Op.eqItems d e c (xs.map (Value.int k)).toArray (ys.map (Value.int k)).toArray (List.range' i n)).run P w = .ok (decide ((xs.drop (i * c)).take (n * c) = (ys.drop (i * c)).take (n * c))) w
  | 0, i, _ => by simp [Op.eqItems]
  | n + 1, i, hf => by
    have hs := step i (Nat.le_trans (Nat.mul_le_mul_right c (by omega)) hf)
    have ih := run_eqItems_ints d e c k xs ys w step n (i + 1) (by rw [show i + 1 + n = i + (n + 1) by omega]; exact hf)
    simp only [List.range'_succ, Op.eqItems, Sem.run_bind] at hs ⊢
    generalize (part e (xs.map (Value.int k)).toArray (i * c)).run P w = r1 at hs ⊢
    cases r1 with
    | halt x w1 => simp [Result.andThen] at hs
    | ok u w1 =>
      simp only [Result.andThen_ok] at hs ⊢
      generalize (part e (ys.map (Value.int k)).toArray (i * c)).run P w1 = r2 at hs ⊢
      cases r2 with
      | halt x w2 => simp [Result.andThen] at hs
      | ok v w2 =>
        simp only [Result.andThen_ok] at hs ⊢
        rw [hs]
        simp only [Result.andThen_ok, Sem.run_ite]
        have hspl : ∀ l : List Int, (l.drop (i * c)).take ((n + 1) * c) = (l.drop (i * c)).take c ++ (l.drop ((i + 1) * c)).take (n * c) := by
          intro l
          rw [Nat.succ_mul, Nat.add_comm (n * c) c, List.take_add, List.drop_drop, Nat.succ_mul]
        by_cases he : (xs.drop (i * c)).take c = (ys.drop (i * c)).take c
        · simp only [he, decide_true, Bool.not_true, Bool.false_eq_true, if_false]
          rw [ih, hspl xs, hspl ys, he]
          congr 1
          rw [Bool.eq_iff_iff]
          simp
        · simp only [he, decide_false, Bool.not_false, if_true, Sem.run_pure]
          congr 1
          rw [Bool.eq_iff_iff]
          simp only [Bool.false_eq_true, decide_eq_true_eq, false_iff]
          intro hh
          rw [hspl xs, hspl ys] at hh
          apply he
          have hlx : ((xs.drop (i * c)).take c).length = c := by
            have : (i + 1) * c ≤ xs.length := Nat.le_trans (Nat.mul_le_mul_right c (by omega)) hf
            rw [Nat.succ_mul] at this
            simp; omega
          have hl := congrArg (List.take c) hh
          rw [List.take_left' hlx] at hl
          rw [hl]
          rw [List.take_append, List.take_take, Nat.min_self]
          have hly : ((ys.drop (i * c)).take c).length = c ∨ ((ys.drop (i * c)).take c).length < c := by
            have : ((ys.drop (i * c)).take c).length ≤ c := by simp; omega
            omega
          rcases hly with hly | hly
          · simp [hly]
          · have hnil : ys.drop ((i + 1) * c) = [] := by
              apply List.drop_of_length_le
              simp only [List.length_take, List.length_drop] at hly
              rw [Nat.succ_mul]
              omega
            simp [hnil]

theorem run_equalIn_ints {P : Program} {tt : TT} (htt : TtOk P tt) (k : IntKind) : ∀ (dep : Nat) (t : TypeId) (te : TE), look tt t = some te → leafInt tt dep t = true → te.d.agg = true → ∀ (d : Nat), dep ≤ d → ∀ (xs ys : List Int) (w : World), xs.length = te.size → ys.length = te.size →
    (Op.equalIn (d + 1) t (.agg (xs.map (Value.int k)).toArray) (.agg (ys.map (Value.int k)).toArray)).run P w = .ok (decide (xs = ys)) w
  | 0, t, te, ht, hl, hag, d, hd, xs, ys, w, hx, hy => by simp [leafInt] at hl
  | dep + 1, t, te, ht, hl, hag, d, hd, xs, ys, w, hx, hy => by
    simp only [leafInt, ht] at hl
    cases hte : te.d with
    | arr n e esz =>
      simp only [hte] at hl
      have hty := htt t te ht
      obtain ⟨hu, i, hi, his⟩ := arr_of hty hte
      cases hsz : Nat.beq te.size (n * esz) with
      | false => simp [hsz] at hl
      | true =>
        simp only [hsz] at hl
        have hsz := Nat.eq_of_beq_eq_true hsz
        cases hee : look tt e with
        | none => cases dep <;> simp [leafInt, hee] at hl
        | some ee =>
          have htye := htt e ee hee
          obtain ⟨ie, hie, hies, _⟩ := htye.inf
          have hse : ee.size = esz := by rw [hi] at hie; injection hie with hie; rw [← hies, ← hie, his]
          rw [run_equalIn_array w d _ _ hu hi, info_cells hi, his, List.range_eq_range']
          have hfit : (0 + n) * esz ≤ xs.length := by rw [hx, hsz, Nat.zero_add]; exact Nat.le_refl _
          rw [run_eqItems_ints d e esz k xs ys w ?_ n 0 hfit]
          · congr 1
            rw [Bool.eq_iff_iff]
            simp only [Nat.zero_mul, List.drop_zero, decide_eq_true_eq]
            rw [List.take_of_length_le (by omega), List.take_of_length_le (by omega)]
          · intro j hj
            obtain ⟨d', rfl⟩ : ∃ d', d = d' + 1 := ⟨d - 1, by omega⟩
            have hj' : j * esz + esz ≤ xs.length := by rw [← Nat.succ_mul]; exact hj
            cases hea : ee.d.agg with
            | true =>
              simp only [Sem.run_bind, run_part_agg htye hea, Result.andThen_ok, hse, ← List.map_drop, ← List.map_take]
              exact run_equalIn_ints htt k dep e ee hee hl hea d' (by omega) _ _ w (by simp; omega) (by simp; omega)
            | false =>
              have hint : ∃ k', ee.d = .int k' ∧ esz = 1 := by
                cases dep with
                | zero => simp [leafInt] at hl
                | succ dep =>
                  simp only [leafInt, hee] at hl
                  cases hd : ee.d with
                  | int k' =>
                    simp only [hd] at hl
                    exact ⟨k', rfl, hse ▸ Nat.eq_of_beq_eq_true hl⟩
                  | arr _ _ _ => simp [hd, TD.agg] at hea
                  | _ => simp [hd] at hl
              obtain ⟨k', hk', rfl⟩ := hint
              have hjx : j < xs.length := by omega
              have hjy : j < ys.length := by omega
              simp only [Nat.mul_one] at *
              simp only [Sem.run_bind, run_part_scalar htye hea (show (xs.map (Value.int k))[j]? = some (.int k xs[j]) by simp [hjx]),
                run_part_scalar htye hea (show (ys.map (Value.int k))[j]? = some (.int k ys[j]) by simp [hjy]), Result.andThen_ok]
              rw [run_equalIn_int w d' e k k' _ _ (int_of htye hk')]
              congr 1
              rw [Bool.eq_iff_iff]
              rw [List.drop_eq_getElem_cons hjx, List.drop_eq_getElem_cons hjy]
              simp only [decide_eq_true_eq, beq_iff_eq, List.take_succ_cons, List.take_zero, List.cons.injEq, and_true]
    | int k' => simp [hte, TD.agg] at hag
    | _ => simp [hte] at hl

/-- Structs of numbers and bools, compared field by field. -/
theorem run_eqCs {P : Program} {tt : TT} (htt : TtOk P tt) (ε : Env) (d : Nat) (pre1 pre2 : List Value) : ∀ (fs : List (TypeId × Nat × Nat)) (flds : List Field) (l l' : List C) (vs vs' : List Value) (p : Prop) (r : Bool) (w : World),
    fldB P flds fs = true → eqCs tt fs l l' = some (p, r) → p → All2 (RelC ε) l vs → All2 (RelC ε) l' vs' → ∀ off, (∀ j, ∀ f, nth fs j = some f → f.2.1 = off + j) → pre1.length = off → pre2.length = off →
    (Op.eqFields (d + 1) (pre1 ++ vs).toArray (pre2 ++ vs').toArray flds).run P w = .ok r w := by
  intro fs
  induction fs generalizing pre1 pre2 with
  | nil =>
    intro flds l l' vs vs' p r w hf he hp h1 h2 off hoff hl1 hl2
    cases flds with
    | cons _ _ => simp [fldB] at hf
    | nil =>
      cases l <;> cases l' <;> simp [eqCs] at he
      obtain ⟨_, rfl⟩ := he
      simp [Op.eqFields]
  | cons g fs ih =>
    intro flds l l' vs vs' p r w hf he hp h1 h2 off hoff hl1 hl2
    obtain ⟨t, o, sz⟩ := g
    cases flds with
    | nil => simp [fldB] at hf
    | cons f flds =>
      simp only [fldB, Bool.and_eq_true] at hf
      obtain ⟨q1, q2, q3, q4, q5, q6⟩ := hf
      have hft := Nat.eq_of_beq_eq_true q1
      have hfo := Nat.eq_of_beq_eq_true q2
      have ho : o = off := by have := hoff 0 _ rfl; simpa using this
      have hne : f.name ≠ "_" := by simpa using q5
      cases l with
      | nil => simp [eqCs] at he
      | cons c l =>
        cases l' with
        | nil => cases c <;> simp [eqCs] at he
        | cons c' l' =>
          cases vs with
          | nil => exact absurd h1 (by simp [All2])
          | cons v vs =>
            cases vs' with
            | nil => exact absurd h2 (by simp [All2])
            | cons v' vs' =>
              have hpart : ∀ (te : TE), look tt t = some te → te.d.agg = false → (part f.type (pre1 ++ v :: vs).toArray f.offset).run P w = .ok v w ∧ (part f.type (pre2 ++ v' :: vs').toArray f.offset).run P w = .ok v' w := by
                intro te ht hag
                rw [hft, hfo, ho]
                exact ⟨run_part_scalar (htt t te ht) hag (by rw [List.getElem?_append_right (by omega)]; simp [hl1]) w, run_part_scalar (htt t te ht) hag (by rw [List.getElem?_append_right (by omega)]; simp [hl2]) w⟩
              have hrest : ∀ (p' : Prop) (r' : Bool), eqCs tt fs l l' = some (p', r') → p' → (Op.eqFields (d + 1) (pre1 ++ v :: vs).toArray (pre2 ++ v' :: vs').toArray flds).run P w = .ok r' w := by
                intro p' r' he' hp'
                have := ih (pre1 ++ [v]) (pre2 ++ [v']) flds l l' vs vs' p' r' w q6 he' hp' h1.2 h2.2 (off + 1) (fun j f' hj => by have := hoff (j + 1) f' hj; omega) (by simp [hl1]) (by simp [hl2])
                simpa using this
              cases c with
              | int k m =>
                cases c' with
                | int k' n =>
                  simp only [eqCs] at he
                  cases ht : look tt t with
                  | none => simp [ht] at he
                  | some te =>
                    simp only [ht] at he
                    cases hd : te.d with
                    | int kt =>
                      simp only [hd] at he
                      cases he' : eqCs tt fs l l' with
                      | none => simp [he'] at he
                      | some pr =>
                        obtain ⟨p', r'⟩ := pr
                        simp only [he', Option.some.injEq, Prod.mk.injEq] at he
                        obtain ⟨rfl, rfl⟩ := he
                        obtain ⟨rfl, hp'⟩ := hp
                        obtain ⟨rfl, _⟩ := h1.1
                        obtain ⟨rfl, _⟩ := h2.1
                        obtain ⟨g1, g2⟩ := hpart te ht (by simp [hd, TD.agg])
                        have g3 : (Op.equalIn (d + 1) f.type (.int k' m) (.int k' n)).run P w = .ok (m == n) w := run_equalIn_int w d f.type k' kt m n (by rw [hft]; exact int_of (htt t te ht) hd)
                        simp only [Op.eqFields, hne, ne_eq, not_false_eq_true, if_true, Sem.run_bind, g1, g2, g3, Result.andThen_ok, Sem.run_ite]
                        by_cases hmn : m = n
                        · subst hmn
                          simp only [beq_self_eq_true, Bool.not_true, Bool.false_eq_true, if_false, decide_true, Bool.true_and]
                          exact hrest p' r' he' hp'
                        · simp [hmn]
                    | _ => simp [hd] at he
                | _ => simp [eqCs] at he
              | bool m =>
                cases c' with
                | bool n =>
                  simp only [eqCs] at he
                  cases ht : look tt t with
                  | none => simp [ht] at he
                  | some te =>
                    simp only [ht] at he
                    cases hd : te.d with
                    | bool =>
                      simp only [hd] at he
                      cases he' : eqCs tt fs l l' with
                      | none => simp [he'] at he
                      | some pr =>
                        obtain ⟨p', r'⟩ := pr
                        simp only [he', Option.some.injEq, Prod.mk.injEq] at he
                        obtain ⟨rfl, rfl⟩ := he
                        obtain rfl := h1.1
                        obtain rfl := h2.1
                        obtain ⟨g1, g2⟩ := hpart te ht (by simp [hd, TD.agg])
                        have g3 : (Op.equalIn (d + 1) f.type (.bool m) (.bool n)).run P w = .ok (m == n) w := run_equalIn_bool w d f.type m n (by rw [hft]; exact bool_of (htt t te ht) hd)
                        simp only [Op.eqFields, hne, ne_eq, not_false_eq_true, if_true, Sem.run_bind, g1, g2, g3, Result.andThen_ok, Sem.run_ite]
                        by_cases hmn : m = n
                        · subst hmn
                          simp only [beq_self_eq_true, Bool.not_true, Bool.false_eq_true, if_false, Bool.true_and]
                          exact hrest p' r' he' hp
                        · simp [hmn]
                    | _ => simp [hd] at he
                | _ => simp [eqCs] at he
              | _ => simp [eqCs] at he
end

end Go.X
