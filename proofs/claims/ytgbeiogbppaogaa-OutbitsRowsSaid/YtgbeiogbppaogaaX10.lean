/- Operations that only tell a value, continued. -/
import Derived.Test.YtgbeiogbppaogaaX9
set_option linter.unusedVariables false
namespace Go.X

theorem consec_off : ∀ {fs : List (TypeId × Nat × Nat)} {n : Nat}, consec n fs = true → ∀ j f, nth fs j = some f → f.2.1 = n + j
  | [], _, _, j, f, h => by cases j <;> simp [nth] at h
  | (t, off, sz) :: fs, n, hc, j, f, h => by
    simp only [consec] at hc
    cases hb : Nat.beq off n with
    | false => simp [hb] at hc
    | true =>
      simp only [hb] at hc
      have hb := Nat.eq_of_beq_eq_true hb
      cases j with
      | zero => simp only [nth, Option.some.injEq] at h; subst h; simpa using hb
      | succ j => have := consec_off hc j f (by simpa [nth] using h); omega

section
variable {X : Ctx} {ε : Env} {σ : Sig} {a : Act} {w : World} {o : Oper} {next : Act → World → Prop} {Q : Exit → Act → World → Prop}

theorem run_eq_ptr_nil {P : Program} (d : Nat) {t e : TypeId} (q : Option Addr) (h : P.underlying t = some (.pointer e)) (w : World) : (Op.equalIn (d + 1) t (.pointer q) (.pointer none)).run P w = .ok q.isNone w := by
  cases q <;> simp [Op.equalIn, run_und h]

theorem eqV_run {P : Program} {tt : TT} (htt : TtOk P tt) {t : TypeId} {x y : V1} {u v : Value} {p : Prop} {r : Bool} (h : eqV tt t x y = some (p, r)) (hp : p) (h1 : Rel1 ε x u) (h2 : Rel1 ε y v) (ox oy : Operand) (w : World) :
    (∀ op, (eqGuard op t ox oy u v).run P w = .ok () w) ∧ (binOp .eql t u v).run P w = .ok (.bool r) w ∧ (binOp .neq t u v).run P w = .ok (.bool (!r)) w := by
  have two : ∀ (u v : Value), (Op.equal t u v).run P w = .ok r w → (∀ k m, u ≠ .int k m) → (∀ s, u ≠ .string s) → (∀ k m, u ≠ .float k m) → (∀ k m n, u ≠ .complex k m n) →
      (binOp .eql t u v).run P w = .ok (.bool r) w ∧ (binOp .neq t u v).run P w = .ok (.bool (!r)) w := by
    intro u v he n1 n2 n3 n4
    constructor
    · cases u <;> first | (exact absurd rfl (n1 _ _)) | (exact absurd rfl (n2 _)) | (exact absurd rfl (n3 _ _)) | (exact absurd rfl (n4 _ _ _)) | (simp [binOp, he])
    · cases u <;> first | (exact absurd rfl (n1 _ _)) | (exact absurd rfl (n2 _)) | (exact absurd rfl (n3 _ _)) | (exact absurd rfl (n4 _ _ _)) | (simp [binOp, he])
  unfold eqV at h
  split at h
  · -- bool
    rename_i b c
    obtain rfl := h1
    obtain rfl := h2
    cases ht : look tt t with
    | none => simp [ht] at h
    | some te =>
      simp only [ht] at h
      cases hd : te.d with
      | bool =>
        simp only [hd, Option.some.injEq, Prod.mk.injEq] at h
        obtain ⟨_, rfl⟩ := h
        exact ⟨fun op => run_eqGuard_c op t ox oy rfl (by simp) P w, two _ _ (run_equal_bool w t b c (bool_of (htt t te ht) hd)) (by simp) (by simp) (by simp) (by simp)⟩
      | _ => simp [hd] at h
  · obtain ⟨_, _, rfl⟩ := h1
    obtain ⟨rfl, _⟩ := h2
    cases ht : look tt t with
    | none => simp [ht] at h
    | some te =>
      simp only [ht] at h
      cases hd : te.d with
      | ptr e =>
        simp only [hd, Option.some.injEq, Prod.mk.injEq] at h
        obtain ⟨_, rfl⟩ := h
        exact ⟨fun op => run_eqGuard_c op t ox oy rfl (by simp) P w, two _ _ (run_eq_ptr_nil 9999 _ (ptr_of (htt t te ht) hd) w) (by simp) (by simp) (by simp) (by simp)⟩
      | _ => simp [hd] at h
  · obtain ⟨rfl, _⟩ := h1
    obtain ⟨rfl, _⟩ := h2
    cases ht : look tt t with
    | none => simp [ht] at h
    | some te =>
      simp only [ht] at h
      cases hd : te.d with
      | ptr e =>
        simp only [hd, Option.some.injEq, Prod.mk.injEq] at h
        obtain ⟨_, rfl⟩ := h
        exact ⟨fun op => run_eqGuard_c op t ox oy rfl (by simp) P w, two _ _ (run_eq_ptr_nil 9999 _ (ptr_of (htt t te ht) hd) w) (by simp) (by simp) (by simp) (by simp)⟩
      | _ => simp [hd] at h
  · obtain ⟨us, rfl, hus⟩ := h1
    obtain ⟨vs, rfl, hvs⟩ := h2
    rename_i l l'
    cases ht : look tt t with
    | none => simp [ht] at h
    | some te =>
      simp only [ht] at h
      have hty := htt t te ht
      cases hcm : te.cmp with
      | false => cases hd : te.d <;> simp [hcm, hd] at h
      | true =>
        obtain ⟨c1, c2⟩ := hty.cmp hcm
        refine ⟨fun op => run_eqGuard_agg w op t ox oy _ _ c2, ?_⟩
        refine two _ _ ?_ (by simp) (by simp) (by simp) (by simp)
        cases hd : te.d with
        | arr n e esz =>
          simp only [hcm, hd] at h
          cases l with
          | nil => simp at h
          | cons s1 r1 =>
            cases s1 with
            | cs _ => simp at h
            | ints n1 k xs =>
              cases r1 with
              | cons _ _ => simp at h
              | nil =>
                cases l' with
                | nil => simp at h
                | cons s2 r2 =>
                  cases s2 with
                  | cs _ => simp at h
                  | ints n2 k' ys =>
                    cases r2 with
                    | cons _ _ => simp at h
                    | nil =>
                      simp only at h
                      cases hl : leafInt tt 6 t with
                      | false => simp [hl] at h
                      | true =>
                        simp only [hl, Option.some.injEq, Prod.mk.injEq] at h
                        obtain ⟨rfl, rfl⟩ := h
                        obtain ⟨rfl, rfl, hn⟩ := hp
                        obtain ⟨u1, u2, rfl, ⟨g1, rfl, _⟩, g2⟩ := hus
                        obtain ⟨v1, v2, rfl, ⟨k1, rfl, _⟩, k2⟩ := hvs
                        simp only [RelL] at g2 k2
                        subst g2 k2
                        simp only [List.append_nil]
                        exact run_equalIn_ints htt k' 6 t te ht hl (by simp [hd, TD.agg]) 9999 (by omega) xs ys w (by omega) (by omega)
        | strct fs =>
          simp only [hcm, hd] at h
          cases l with
          | nil => simp at h
          | cons s1 r1 =>
            cases s1 with
            | ints _ _ _ => simp at h
            | cs c1' =>
              cases r1 with
              | cons _ _ => simp at h
              | nil =>
                cases l' with
                | nil => simp at h
                | cons s2 r2 =>
                  cases s2 with
                  | ints _ _ _ => simp at h
                  | cs c2' =>
                    cases r2 with
                    | cons _ _ => simp at h
                    | nil =>
                      simp only at h
                      cases hl : consec 0 fs with
                      | false => simp [hl] at h
                      | true =>
                        simp only [hl] at h
                        obtain ⟨u1, u2, rfl, g1, g2⟩ := hus
                        obtain ⟨v1, v2, rfl, k1, k2⟩ := hvs
                        simp only [RelL] at g2 k2
                        subst g2 k2
                        simp only [List.append_nil]
                        obtain ⟨flds, hu, hfb⟩ := strct_of hty hd
                        have hfo : P.fieldsOf t = flds := by simp [Program.fieldsOf, hu]
                        have := run_eqCs htt ε 9998 [] [] fs flds.toList c1' c2' u1 v1 p r w hfb h hp g1 k1 0 (fun j f hj => by have := consec_off hl j f hj; omega) rfl rfl
                        show (Op.equalIn (9999 + 1) t _ _).run P w = _
                        rw [run_equalIn_struct w 9999 t _ _ (by rw [hfo]; exact hu) c1, hfo]
                        simpa using this
        | _ => simp [hcm, hd] at h
  · cases h

theorem bin_tells (hX : XOk X) (h : Holds X ε σ a w) {md : Md} {op : BinOp} {t ty : TypeId} {x y : Operand} {p : Prop} {eff : Eff} (ho : o.op = .binOp op t x y ty) (hk : constOk x) (hky : constOk y) (hc : opBin X.tt md σ.regs op t x y = some (p, eff)) (hp : p) :
    ∃ v, eff = .val v ∧ Tells X ε a w o v := by
  unfold opBin at hc
  cases hv : ev1 σ.regs x with
  | none => simp [hv] at hc
  | some q =>
    obtain ⟨q1, u⟩ := q
    cases hw : ev1 σ.regs y with
    | none => simp [hv, hw] at hc
    | some q' =>
      obtain ⟨q2, v⟩ := q'
      simp only [hv, hw] at hc
      have fin : ∀ z r, (do eqGuard op t x y (a.eval x) (a.eval y); binOp op t (a.eval x) (a.eval y) : Sem Value).run X.P w = .ok z w → Rel1 ε r z → Tells X ε a w o (.v r) := by
        intro z r hz hr
        refine ⟨z, ?_, hr⟩
        unfold execOp
        simp only [ho]
        rw [Sem.run_bind, hz]
        rfl
      have agg : ∀ (pr : Prop) (e : Bool), eqV X.tt t u v = some (pr, e) → q1 → q2 → pr → op = .eql → Tells X ε a w o (.v (.c (.bool e))) := by
        intro pr e he g1 g2 g3 hop
        subst hop
        obtain ⟨k1, k2, k3⟩ := eqV_run hX.tt he g3 (ev1_rel h hv hk g1) (ev1_rel h hw hky g2) x y w
        exact fin _ _ (by simp only [Sem.run_bind, k1, Result.andThen_ok, k2]) rfl
      have agg' : ∀ (pr : Prop) (e : Bool), eqV X.tt t u v = some (pr, e) → q1 → q2 → pr → op = .neq → Tells X ε a w o (.v (.c (.bool (!e)))) := by
        intro pr e he g1 g2 g3 hop
        subst hop
        obtain ⟨k1, k2, k3⟩ := eqV_run hX.tt he g3 (ev1_rel h hv hk g1) (ev1_rel h hw hky g2) x y w
        exact fin _ _ (by simp only [Sem.run_bind, k1, Result.andThen_ok, k3]) rfl
      have rest : eqEff X.tt op t u v q1 q2 = some (p, eff) → ∃ v, eff = .val v ∧ Tells X ε a w o v := by
        intro hr
        by_cases h1 : op = .eql
        · subst h1
          simp only [eqEff] at hr
          cases he : eqV X.tt t u v with
          | none => simp [he] at hr
          | some pe =>
            obtain ⟨pr, e⟩ := pe
            simp only [he, Option.some.injEq, Prod.mk.injEq] at hr
            obtain ⟨rfl, rfl⟩ := hr
            exact ⟨_, rfl, agg pr e he hp.1 hp.2.1 hp.2.2 rfl⟩
        · by_cases h2 : op = .neq
          · subst h2
            simp only [eqEff] at hr
            cases he : eqV X.tt t u v with
            | none => simp [he] at hr
            | some pe =>
              obtain ⟨pr, e⟩ := pe
              simp only [he, Option.some.injEq, Prod.mk.injEq] at hr
              obtain ⟨rfl, rfl⟩ := hr
              exact ⟨_, rfl, agg' pr e he hp.1 hp.2.1 hp.2.2 rfl⟩
          · exfalso
            cases op <;> first | (exact h1 rfl) | (exact h2 rfl) | (simp [eqEff] at hr)
      cases hb : bin1 md op u v with
      | none => rw [hb] at hc; exact rest hc
      | some pr =>
        obtain ⟨q3, r⟩ := pr
        simp only [hb, Option.some.injEq, Prod.mk.injEq] at hc
        obtain ⟨rfl, rfl⟩ := hc
        cases u with
        | agg l => simp [bin1] at hb
        | c c =>
          cases v with
          | agg l => simp [bin1] at hb
          | c d =>
            obtain ⟨z, hz, hr⟩ := binC_tells (t := t) (x := x) (y := y) hb hp.2.2 (ev1_rel h hv hk hp.1) (ev1_rel h hw hky hp.2.1) X.P w
            exact ⟨_, rfl, fin z r hz hr⟩

theorem un_tells (h : Holds X ε σ a w) {md : Md} {op : UnOp} {ty : TypeId} {x : Operand} {p : Prop} {eff : Eff} (ho : o.op = .unOp op ty x) (hk : constOk x) (hc : opUn md σ.regs op x = some (p, eff)) (hp : p) :
    ∃ v, eff = .val v ∧ Tells X ε a w o v := by
  unfold opUn at hc
  cases hv : evC σ.regs x with
  | none => cases op <;> simp [hv] at hc
  | some q =>
    obtain ⟨q1, c⟩ := q
    cases op with
    | neg =>
      cases c with
      | int k n =>
        simp only [hv] at hc
        cases hm : md.wrap with
        | true =>
          simp only [hm, Option.some.injEq, Prod.mk.injEq] at hc
          obtain ⟨rfl, rfl⟩ := hc
          obtain ⟨hx, _⟩ := evC_rel h hv hk hp
          refine ⟨_, rfl, .int k (k.wrap (0 - n)), ?_, rfl, wrap_inK _ _⟩
          unfold execOp
          simp [ho, hx, Op.unary, Op.intArith]
        | false =>
          simp only [hm, Option.some.injEq, Prod.mk.injEq] at hc
          obtain ⟨rfl, rfl⟩ := hc
          obtain ⟨hx, _⟩ := evC_rel h hv hk hp.1
          refine ⟨_, rfl, .int k (-n), ?_, rfl, hp.2⟩
          unfold execOp
          have : k.wrap (0 - n) = -n := by rw [Int.zero_sub]; exact wrap_in hp.2
          simp only [ho, hx, Op.unary, Op.intArith, Sem.run_bind, Sem.run_pure, Result.andThen_ok, this]
      | _ => simp [hv] at hc
    | not =>
      cases c with
      | bool b =>
        simp only [hv, Option.some.injEq, Prod.mk.injEq] at hc
        obtain ⟨rfl, rfl⟩ := hc
        have hx : a.eval x = .bool b := evC_rel h hv hk hp
        refine ⟨_, rfl, .bool (!b), ?_, rfl⟩
        unfold execOp
        simp [ho, hx, Op.unary]
      | _ => simp [hv] at hc
    | _ => cases c <;> simp at hc

theorem partG_rel (h : Holds X ε σ a w) {x : Operand} {g : Bool} {v : V1} (hv : partG σ.regs x = some (g, v)) (hk : constOk x) (hg : g = true) : Rel1 ε v (a.eval x) := by
  unfold partG at hv
  cases hr : rawO σ.regs x with
  | none => simp [hr] at hv
  | some s =>
    have := rawO_rel h hr hk
    cases s with
    | g b y =>
      simp only [hr, Option.some.injEq, Prod.mk.injEq] at hv
      obtain ⟨rfl, rfl⟩ := hv
      exact this.1 hg
    | v y =>
      simp only [hr, Option.some.injEq, Prod.mk.injEq] at hv
      obtain ⟨_, rfl⟩ := hv
      exact this
    | _ => simp [hr] at hv

theorem pick_tells (h : Holds X ε σ a w) {c x y : Operand} {p : Prop} {eff : Eff} (ho : o.op = .pick c x y) (hk : constOk c) (hkx : constOk x) (hky : constOk y) (hc : opPick σ.regs c x y = some (p, eff)) (hp : p) :
    ∃ v, eff = .val v ∧ Tells X ε a w o v := by
  unfold opPick at hc
  split at hc
  · rename_i q g gx u gy v h1 h2 h3
    simp only [Option.some.injEq, Prod.mk.injEq] at hc
    obtain ⟨rfl, rfl⟩ := hc
    obtain ⟨g1, g2, g3⟩ := hp
    have hb : a.eval c = .bool g := evC_rel h h1 hk g1
    refine ⟨_, rfl, .bool (bif g then u else v), ?_, rfl⟩
    unfold execOp
    cases g with
    | true =>
      have hx : a.eval x = .bool u := partG_rel h h2 hkx (g2 rfl)
      simp [ho, hb, hx, asBool]
    | false =>
      have hy : a.eval y = .bool v := partG_rel h h3 hky (g3 rfl)
      simp [ho, hb, hy, asBool]
  · rename_i q g gx k u gy k' v h1 h2 h3
    simp only [Option.some.injEq, Prod.mk.injEq] at hc
    obtain ⟨rfl, rfl⟩ := hc
    obtain ⟨g1, rfl, g2, g3⟩ := hp
    have hb : a.eval c = .bool g := evC_rel h h1 hk g1
    refine ⟨_, rfl, .int k' (bif g then u else v), ?_, rfl, ?_⟩
    · unfold execOp
      cases g with
      | true =>
        obtain ⟨hx, _⟩ := partG_rel h h2 hkx (g2 rfl)
        simp [ho, hb, hx, asBool]
      | false =>
        obtain ⟨hy, _⟩ := partG_rel h h3 hky (g3 rfl)
        simp [ho, hb, hy, asBool]
    · cases g with
      | true => exact (partG_rel h h2 hkx (g2 rfl)).2
      | false => exact (partG_rel h h3 hky (g3 rfl)).2
  · cases hc

theorem extract_tells (h : Holds X ε σ a w) {x : Operand} {i : Nat} {p : Prop} {eff : Eff} (ho : o.op = .extract x i) (hk : constOk x) (hc : opExtract σ.regs x i = some (p, eff)) (hp : p) :
    ∃ v, eff = .val v ∧ Tells X ε a w o v := by
  unfold opExtract at hc
  cases hv : evO σ.regs x with
  | none => simp [hv] at hc
  | some q =>
    obtain ⟨q1, c⟩ := q
    cases c with
    | tup l =>
      simp only [hv] at hc
      cases hn : nth l i with
      | none => simp [hn] at hc
      | some v =>
        simp only [hn, Option.some.injEq, Prod.mk.injEq] at hc
        obtain ⟨rfl, rfl⟩ := hc
        obtain ⟨vs, hx, hr⟩ := evO_rel h hv hk hp
        obtain ⟨y, hy, hry⟩ := All2.nth hr hn
        refine ⟨_, rfl, y, ?_, hry⟩
        unfold execOp
        simp [ho, hx, Instr.extract, hy]
    | _ => simp [hv] at hc

theorem move_tells (h : Holds X ε σ a w) {x : Operand} {p : Prop} {v : SV} (ho : o.op = .move x ∨ o.op = .assign x) (hk : constOk x) (hc : evO σ.regs x = some (p, v)) (hp : p) : Tells X ε a w o v := by
  refine ⟨a.eval x, ?_, evO_rel h hc hk hp⟩
  unfold execOp
  rcases ho with ho | ho <;> simp [ho]

theorem nilCheck_tells (h : Holds X ε σ a w) {x : Operand} {p : Prop} {eff : Eff} (ho : o.op = .nilCheck x) (hk : constOk x) (hc : opNilCheck σ.regs x = some (p, eff)) (hp : p) :
    ∃ v, eff = .val v ∧ Tells X ε a w o v := by
  unfold opNilCheck at hc
  split at hc
  · rename_i q id rst row base stride idx hv
    simp only [Option.some.injEq, Prod.mk.injEq] at hc
    obtain ⟨rfl, rfl⟩ := hc
    have hr := evC_rel h hv hk hp
    obtain ⟨h1, h2, hx⟩ := hr
    refine ⟨_, rfl, _, ?_, h1, h2, rfl⟩
    unfold execOp
    simp [ho, hx]
  · rename_i q f caps hv
    simp only [Option.some.injEq, Prod.mk.injEq] at hc
    obtain ⟨rfl, rfl⟩ := hc
    have hr := evC_rel h hv hk hp
    obtain ⟨h1, hx⟩ := hr
    refine ⟨_, rfl, _, ?_, h1, rfl⟩
    unfold execOp
    simp [ho, hx]
  · cases hc

theorem len_tells (hX : XOk X) (h : Holds X ε σ a w) {c : Call} {t : TypeId} {x : Operand} {p : Prop} {eff : Eff} (ho : o.op = .call c) (hcal : c.callee = .builtin .len) (hts : c.argTypes.toList = [t]) (hargs : c.args.toList = [x]) (hk : constOk x) (hc : opLen X.tt σ.regs t x = some (p, eff)) (hp : p) :
    ∃ v, eff = .val v ∧ Tells X ε a w o v := by
  have hrun : (execOp a.eval o).run X.P w = ((Builtin.len_ #[t] o.type #[a.eval x]).run X.P w).andThen fun z w' => .ok (.value z) w' := by
    unfold execOp
    have e1 : c.argTypes = #[t] := by rw [← Array.toList_inj, hts]
    have e2 : c.args = #[x] := by rw [← Array.toList_inj, hargs]
    simp [ho, resolve, hcal, invoke, builtin, e1, e2]
  unfold opLen at hc
  cases ht : look X.tt t with
  | none => simp [ht] at hc
  | some te =>
    simp only [ht] at hc
    have hty := hX.tt t te ht
    cases hd : te.d with
    | arr n e esz =>
      simp only [hd, Option.some.injEq, Prod.mk.injEq] at hc
      obtain ⟨rfl, rfl⟩ := hc
      refine ⟨_, rfl, .int .i64 n, ?_, rfl, by simp only [inK]; omega⟩
      rw [hrun]
      cases hx : a.eval x <;> simp [Builtin.len_, run_und (arr_of hty hd).1, goInt]
    | str =>
      simp only [hd] at hc
      cases hv : evC σ.regs x with
      | none => simp [hv] at hc
      | some q =>
        obtain ⟨q1, d⟩ := q
        cases d with
        | str s =>
          simp only [hv, Option.some.injEq, Prod.mk.injEq] at hc
          obtain ⟨rfl, rfl⟩ := hc
          obtain ⟨hx, hs⟩ := evC_rel h hv hk hp
          refine ⟨_, rfl, .int .i64 s.size, ?_, rfl, by simp only [inK]; omega⟩
          rw [hrun]
          simp [hx, Builtin.len_, run_und (str_of hty hd), goInt]
        | _ => simp [hv] at hc
    | sl e esz eb =>
      simp only [hd] at hc
      split at hc
      · rename_i q id aa len sz hv
        simp only [Option.some.injEq, Prod.mk.injEq] at hc
        obtain ⟨rfl, rfl⟩ := hc
        obtain ⟨h1, h2, h3⟩ := evC_rel h hv hk hp
        refine ⟨_, rfl, .int .i64 len, ?_, rfl, by simp only [inK]; omega⟩
        rw [hrun]
        rcases h3 with ⟨_, hx, h0⟩ | ⟨_, _, ad, hx, _⟩
        · subst h0; simp [hx, Builtin.len_, run_und (sl_of hty hd).1, goInt]
        · simp [hx, Builtin.len_, run_und (sl_of hty hd).1, goInt]
      · rename_i q hv
        simp only [Option.some.injEq, Prod.mk.injEq] at hc
        obtain ⟨rfl, rfl⟩ := hc
        obtain ⟨hx, _⟩ := evC_rel h hv hk hp
        refine ⟨_, rfl, .int .i64 0, ?_, rfl, inK_zero _⟩
        rw [hrun]
        simp [hx, Builtin.len_, run_und (sl_of hty hd).1, goInt]
      · cases hc
    | _ => simp [hd] at hc

theorem minMax_tells (h : Holds X ε σ a w) {c : Call} {mx : Bool} {p : Prop} {eff : Eff} (ho : o.op = .call c) (hcal : c.callee = .builtin (if mx then .max else .min)) (hk : ∀ x ∈ c.args.toList, constOk x) (hc : opMinMax mx σ.regs c.args.toList = some (p, eff)) (hp : p) :
    ∃ v, eff = .val v ∧ Tells X ε a w o v := by
  unfold opMinMax at hc
  split at hc
  · rename_i x y hargs
    split at hc
    · rename_i q1 k u q2 k' v h1 h2
      simp only [Option.some.injEq, Prod.mk.injEq] at hc
      obtain ⟨rfl, rfl⟩ := hc
      obtain ⟨g1, g2, rfl⟩ := hp
      obtain ⟨hx, r1⟩ := evC_rel h h1 (hk x (by rw [hargs]; simp)) g1
      obtain ⟨hy, r2⟩ := evC_rel h h2 (hk y (by rw [hargs]; simp)) g2
      have e2 : c.args = #[x, y] := by rw [← Array.toList_inj, hargs]
      cases mx with
      | true =>
        refine ⟨_, rfl, .int k' (max u v), ?_, rfl, by cases k' <;> simp only [inK] at * <;> omega⟩
        unfold execOp
        simp only [ho, resolve, hcal, invoke, builtin, e2, if_true]
        simp only [Sem.run_bind, Sem.run_pure, Result.andThen_ok, List.map_cons, List.map_nil, List.map_toArray, hx, hy, run_max_int2]
        congr 3
        omega
      | false =>
        refine ⟨_, rfl, .int k' (min u v), ?_, rfl, by cases k' <;> simp only [inK] at * <;> omega⟩
        unfold execOp
        simp only [ho, resolve, hcal, invoke, builtin, e2, Bool.false_eq_true, if_false]
        simp only [Sem.run_bind, Sem.run_pure, Result.andThen_ok, List.map_cons, List.map_nil, List.map_toArray, hx, hy, run_min_int2]
        congr 3
        omega
    · cases hc
  · cases hc
end

end Go.X
