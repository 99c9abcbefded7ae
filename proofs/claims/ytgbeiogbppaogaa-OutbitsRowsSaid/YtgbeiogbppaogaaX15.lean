/- Calls; any operation is sound. -/
import Derived.Test.YtgbeiogbppaogaaX14
set_option linter.unusedVariables false
namespace Go.X

/-! ### constants of the text -/
def inKB : IntKind → Int → Bool
  | .i8, .ofNat n => Nat.ble n 127
  | .i16, .ofNat n => Nat.ble n 32767
  | .i32, .ofNat n => Nat.ble n 2147483647
  | .i64, .ofNat n => Nat.ble n 9223372036854775807
  | .u8, .ofNat n => Nat.ble n 255
  | .u16, .ofNat n => Nat.ble n 65535
  | .u32, .ofNat n => Nat.ble n 4294967295
  | .u64, .ofNat n => Nat.ble n 18446744073709551615
  | .i8, .negSucc n => Nat.blt n 128
  | .i16, .negSucc n => Nat.blt n 32768
  | .i32, .negSucc n => Nat.blt n 2147483648
  | .i64, .negSucc n => Nat.blt n 9223372036854775808
  | _, .negSucc _ => false

theorem inKB_ok {k : IntKind} {n : Int} (h : inKB k n = true) : inK k n := by
  cases n with
  | ofNat n =>
    cases k <;> simp only [inKB] at h <;> have := Nat.le_of_ble_eq_true h <;> simp only [inK, Int.ofNat_eq_natCast] <;> omega
  | negSucc n =>
    cases k <;> simp only [inKB] at h <;> first | (cases h; done) | (have := blt_true h; simp only [inK]; omega)

def constB : Operand → Bool
  | .const (.int k n) => inKB k n
  | .const (.string s) => Nat.ble s.size 9223372036854775807
  | _ => true
def constsB : List Operand → Bool
  | [] => true
  | x :: l => match constB x with
    | true => constsB l
    | false => false

theorem constB_ok {x : Operand} (h : constB x = true) : constOk x := by
  cases x with
  | const v =>
    cases v <;> first | trivial | skip
    · exact inKB_ok h
    · have := Nat.le_of_ble_eq_true h
      simp only [constOk]
      omega
  | _ => trivial

theorem constsB_ok : ∀ {l : List Operand}, constsB l = true → ∀ x ∈ l, constOk x
  | [], _, x, hx => by simp at hx
  | y :: l, h, x, hx => by
    simp only [constsB] at h
    cases hy : constB y with
    | false => simp [hy] at h
    | true =>
      simp only [hy] at h
      rcases List.mem_cons.1 hx with rfl | hx
      · exact constB_ok hy
      · exact constsB_ok h x hx

def snds : List (Nat × Operand) → List Operand
  | [] => []
  | (_, x) :: l => x :: snds l
theorem snds_mem : ∀ {l : List (Nat × Operand)} {y : Nat × Operand}, y ∈ l → y.2 ∈ snds l
  | (i, x) :: l, y, h => by
    rcases List.mem_cons.1 h with rfl | h
    · simp [snds]
    · simp [snds, snds_mem h]

def optL : Option Operand → List Operand
  | none => []
  | some x => [x]

def operB (o : Oper) : Bool :=
  match o.op with
  | .move x | .assign x | .box _ x | .load _ x | .nilCheck x | .unOp _ _ x | .convert _ _ x | .fieldAddr _ x _ | .field _ x _ | .range _ x | .extract x _ => constB x
  | .pick c x y => constsB [c, x, y]
  | .store _ x y | .binOp _ _ x y _ | .makeSlice _ x y | .indexAddr _ x y | .index _ x y => constsB [x, y]
  | .build _ ps | .buildSlice _ _ ps => constsB (snds ps.toList)
  | .slice _ x lo hi _ => constsB (x :: (optL lo ++ optL hi))
  | .makeFunc _ a c => constsB (a.toList ++ c.toList)
  | .call c => match c.callee with
    | .value f => constsB (f :: c.args.toList)
    | _ => constsB c.args.toList
  | _ => true

def opersB : List Oper → Bool
  | [] => true
  | o :: l => match operB o with
    | true => opersB l
    | false => false

theorem opersB_ok : ∀ {l : List Oper}, opersB l = true → ∀ o ∈ l, operB o = true
  | [], _, x, hx => by simp at hx
  | y :: l, h, x, hx => by
    simp only [opersB] at h
    cases hy : operB y with
    | false => simp [hy] at h
    | true =>
      simp only [hy] at h
      rcases List.mem_cons.1 hx with rfl | hx
      · exact hy
      · exact opersB_ok h x hx

/-! ### calls -/
def allOwn (ε : Env) (blks : Blks) : List Nat := (blks.map (·.1)).flatMap fun id => match look blks id with
  | some e => if e.own then owned (ε.f id) e else []
  | none => []

theorem mem_allOwn {ε : Env} {blks : Blks} {b : Nat} : b ∈ allOwn ε blks ↔ ∃ id e, look blks id = some e ∧ e.own = true ∧ b ∈ owned (ε.f id) e := by
  unfold allOwn
  simp only [List.mem_flatMap, List.mem_map]
  constructor
  · rintro ⟨id, _, hb⟩
    cases hl : look blks id with
    | none => simp [hl] at hb
    | some e =>
      simp only [hl] at hb
      cases ho : e.own with
      | false => simp [ho] at hb
      | true => simp only [ho, if_true] at hb; exact ⟨id, e, hl, ho, hb⟩
  · rintro ⟨id, e, hl, ho, hb⟩
    exact ⟨id, ⟨(id, e), look_mem hl, rfl⟩, by simp [hl, ho, hb]⟩

section
variable {X : Ctx} {ε : Env} {σ : Sig} {a : Act} {w : World} {o : Oper} {next : Act → World → Prop} {Q : Exit → Act → World → Prop}

theorem GtOk.keep (hX : XOk X) (h : Keep X.M X.w0 w) : GtOk X.gt w := by
  intro g b hg
  obtain ⟨vs, h1, h2, h3⟩ := hX.gt g b hg
  exact ⟨vs, h1, Nat.lt_of_lt_of_le h2 h.size, fun j v hv => by rw [cell_congr (h.block g h2 (hX.gm g b hg))]; exact h3 j v hv⟩

theorem callF_sound (hX : XOk X) (h : Tab X ε σ.blks σ.nxt w) {f : FuncId} {args : List SV} {vals : List Value} {q : Prop} {eff : Eff} (hc : opCallF X.kt σ f args = some (q, eff)) (hq : q) (hr : All2 (RelV ε) args vals) {K : Value → World → Prop}
    (hn : ∀ ε' x w', Fits X ε σ eff ε' x w' → K x w') : (∀ as w, (callFunc f as).run X.P w = .ok (.enter f as) w) ∧ Calls X.P f vals.toArray w fun e w' => ∃ x, e = .returned x ∧ K x w' := by
  unfold opCallF at hc
  cases hs : look X.kt f with
  | none => simp [hs] at hc
  | some spec =>
    simp only [hs] at hc
    cases hsp : spec args (look σ.blks) with
    | none => simp [hsp] at hc
    | some r =>
      simp only [hsp] at hc
      obtain ⟨hent, hcall⟩ := hX.kt f spec hs
      refine ⟨hent, ?_⟩
      have hT : Tab { X with w0 := w, M := allOwn ε σ.blks } ε σ.blks σ.nxt w :=
        ⟨h.nxt, h.ent, h.sep, Keep.refl _ _, fun id e hl ho b hb => .inr (mem_allOwn.2 ⟨id, e, hl, ho, hb⟩)⟩
      have hM : ∀ b ∈ allOwn ε σ.blks, X.w0.heap.size ≤ b ∨ b ∈ X.M := fun b hb => by
        obtain ⟨id, e, hl, ho, hb⟩ := mem_allOwn.1 hb
        exact h.mine id e hl ho b hb
      have hgm : ∀ g b, look X.gt g = some b → g ∉ allOwn ε σ.blks := fun g b hg hm => by
        obtain ⟨vs, _, h2, _⟩ := hX.gt g b hg
        rcases hM g hm with h3 | h3
        · omega
        · exact hX.gm g b hg h3
      have hp : r.p := by
        cases hu : r.up with
        | nil => simp only [hu, Option.some.injEq, Prod.mk.injEq] at hc; rw [hc.1]; exact hq
        | cons y l =>
          simp only [hu] at hc
          cases hua : updAll σ.blks (y :: l) with
          | none => simp [hua] at hc
          | some bl => simp only [hua, Option.some.injEq, Prod.mk.injEq] at hc; rw [hc.1]; exact hq
      refine (hcall { X with w0 := w, M := allOwn ε σ.blks } ε σ.blks σ.nxt args vals r rfl rfl (GtOk.keep hX h.keep) hgm hT hr hsp hp).mono ?_
      rintro e w' ⟨ε', x, bl, rfl, hle, hrx, hup, hT'⟩
      refine ⟨x, rfl, hn ε' x w' ?_⟩
      have hTX : Tab X ε' (addE (r.new.map (renE σ.nxt)) σ.nxt bl).1 (addE (r.new.map (renE σ.nxt)) σ.nxt bl).2 w' := by
        refine ⟨hT'.nxt, hT'.ent, hT'.sep, ⟨hT'.keep.os.trans h.keep.os, hT'.keep.tape.trans h.keep.tape, hT'.keep.output.trans h.keep.output, Nat.le_trans h.keep.size hT'.keep.size, fun k hk hm => ?_⟩, fun id e hl ho b hb => ?_⟩
        · refine (hT'.keep.block k (Nat.lt_of_lt_of_le hk h.keep.size) fun hka => ?_).trans (h.keep.block k hk hm)
          rcases hM k hka with h1 | h1
          · omega
          · exact hm h1
        · rcases hT'.mine id e hl ho b hb with h1 | h1
          · exact .inl (Nat.le_trans h.keep.size h1)
          · exact hM b h1
      cases hu : r.up with
      | nil =>
        simp only [hu, Option.some.injEq, Prod.mk.injEq] at hc
        obtain ⟨_, rfl⟩ := hc
        rw [hu] at hup
        simp only [updAll, Option.some.injEq] at hup
        subst hup
        exact ⟨hle, fun v hv => by simp only [Eff.sv, Option.some.injEq] at hv; subst hv; exact hrx, hTX⟩
      | cons y l =>
        simp only [hu] at hc
        rw [hu] at hup
        simp only [hup, Option.some.injEq, Prod.mk.injEq] at hc
        obtain ⟨_, rfl⟩ := hc
        exact ⟨hle, fun v hv => by simp only [Eff.sv, Option.some.injEq] at hv; subst hv; exact hrx, hTX⟩

theorem All2.mapr {α : Type} {R : α → Value → Prop} {l : List α} {vs : List Value} (h : All2 R l vs) {γ : Type} {S : γ → Value → Prop} {g : α → γ} (hg : ∀ x v, R x v → S (g x) v) : All2 S (l.map g) vs := by
  induction l generalizing vs with
  | nil => cases vs with
    | nil => trivial
    | cons _ _ => exact absurd h (by simp [All2])
  | cons x l ih => cases vs with
    | nil => exact absurd h (by simp [All2])
    | cons v vs => exact ⟨hg _ _ h.1, ih h.2⟩

theorem call_sound (hX : XOk X) (h : Holds X ε σ a w) {c : Call} {f : Operand} {p : Prop} {eff : Eff} (ho : o.op = .call c) (hcal : c.callee = .value f) (hkf : constOk f) (hk : ∀ x ∈ c.args.toList, constOk x) (hc : opCall X.kt σ f c.args.toList = some (p, eff)) (hp : p)
    (hn : ∀ ε' x w', Fits X ε σ eff ε' x w' → next (a.put o.dst x) w') : o.wp X.P a w next Q := by
  have fin : ∀ (g : FuncId) (fs cs : List Value) (args : List SV) (q : Prop), a.eval f = .func (.func g) fs.toArray cs.toArray → All2 (RelV ε) args (fs ++ c.args.toList.map a.eval ++ cs) → opCallF X.kt σ g args = some (q, eff) → q → o.wp X.P a w next Q := by
    intro g fs cs args q hf hargs hcf hq
    obtain ⟨hent, hcalls⟩ := callF_sound hX h.tab hcf hq hargs (K := fun x w' => next (a.put o.dst x) w') hn
    unfold Oper.wp
    have hrun : (execOp a.eval o).run X.P w = .ok (.enter g (fs ++ c.args.toList.map a.eval ++ cs).toArray) w := by
      unfold execOp
      have e : (fs ++ c.args.toList.map a.eval ++ cs).toArray = fs.toArray ++ c.args.map a.eval ++ cs.toArray := by
        apply Array.ext'
        simp
      simp only [ho, resolve, hcal, hf, Deferred.ofValue, Sem.run_bind, Sem.run_pure, Result.andThen_ok, invoke]
      rw [e]
      exact hent _ _
    rw [hrun]
    refine hcalls.mono ?_
    rintro e w' ⟨x, rfl, hx⟩
    exact hx
  unfold opCall at hc
  split at hc
  · rename_i g caps q vs hf hargs
    have hfe := rawO_rel h hf hkf
    obtain ⟨h1, h2⟩ := hfe
    have r := fun hq => evAll_rel h hargs hk hq
    cases caps with
    | nil =>
      simp only at hc
      cases hcf : opCallF X.kt σ g vs with
      | none => simp [hcf] at hc
      | some qe =>
        obtain ⟨q2, e2⟩ := qe
        simp only [hcf, Option.some.injEq, Prod.mk.injEq] at hc
        obtain ⟨rfl, rfl⟩ := hc
        exact fin g [] [] vs q2 h2 (by simpa using r hp.1) hcf hp.2
    | cons i is =>
      simp only at hc
      cases hcf : opCallF X.kt σ g (vs ++ (i :: is).map fun i => .v (.c (.ptr i 0 0 0 0 0))) with
      | none => rw [hcf] at hc; cases hc
      | some qe =>
        obtain ⟨q2, e2⟩ := qe
        rw [hcf] at hc
        simp only [Option.some.injEq, Prod.mk.injEq] at hc
        obtain ⟨rfl, rfl⟩ := hc
        refine fin g [] _ _ q2 h2 ?_ hcf hp.2
        rw [List.nil_append]
        refine All2.append (r hp.1) ?_
        have key : ∀ l : List Nat, (∀ j ∈ l, j < ε.n ∧ (ε.f j).isnil = false) → All2 (RelV ε) (l.map fun i => SV.v (.c (.ptr i 0 0 0 0 0))) (l.map fun i => Value.pointer (some ⟨(ε.f i).blk, (ε.f i).off, none⟩)) := by
          intro l hl
          induction l with
          | nil => trivial
          | cons j l ih => exact ⟨⟨(hl j (by simp)).1, (hl j (by simp)).2, by simp⟩, ih fun k hk => hl k (by simp [hk])⟩
        exact key _ h1
  · rename_i g first caps q vs hf hargs
    obtain ⟨fs, cs, h1, h2, h3⟩ := rawO_rel h hf hkf
    have r := fun hq => evAll_rel h hargs hk hq
    cases hcf : opCallF X.kt σ g (first.map .v ++ vs ++ caps.map .v) with
    | none => rw [hcf] at hc; cases hc
    | some qe =>
      obtain ⟨q2, e2⟩ := qe
      rw [hcf] at hc
      simp only [Option.some.injEq, Prod.mk.injEq] at hc
      obtain ⟨rfl, rfl⟩ := hc
      exact fin g fs cs _ q2 h1 (All2.append (All2.append (h2.mapr (S := RelV ε) (g := SV.v) fun _ _ h => h) (r hp.1)) (h3.mapr (S := RelV ε) (g := SV.v) fun _ _ h => h)) hcf hp.2
  · cases hc

theorem core_sound (hX : XOk X) (h : Holds X ε σ a w) {md : Md} {p : Prop} {eff : Eff} (hk : operB o = true) (hc : core X.tt X.kt X.gt md σ o = some (p, eff)) (hp : p)
    (hn : ∀ ε' x w', Fits X ε σ eff ε' x w' → next (a.put o.dst x) w') : o.wp X.P a w next Q := by
  unfold core at hc
  unfold operB at hk
  cases ho : o.op with
  | move x =>
    simp only [ho] at hc hk
    cases he : evO σ.regs x with
    | none => simp [he] at hc
    | some q =>
      obtain ⟨q1, v⟩ := q
      simp only [he, Option.some.injEq, Prod.mk.injEq] at hc
      obtain ⟨rfl, rfl⟩ := hc
      exact (move_tells h (.inl ho) (constB_ok hk) he hp).wp h hn
  | assign x =>
    simp only [ho] at hc hk
    cases he : evO σ.regs x with
    | none => simp [he] at hc
    | some q =>
      obtain ⟨q1, v⟩ := q
      simp only [he, Option.some.injEq, Prod.mk.injEq] at hc
      obtain ⟨rfl, rfl⟩ := hc
      exact (move_tells h (.inr ho) (constB_ok hk) he hp).wp h hn
  | pick c x y =>
    simp only [ho] at hc hk
    have hk := constsB_ok hk
    obtain ⟨v, rfl, ht⟩ := pick_tells h ho (hk c (by simp)) (hk x (by simp)) (hk y (by simp)) hc hp
    exact ht.wp h hn
  | alloc t =>
    simp only [ho] at hc
    exact alloc_sound hX h ho hc hp hn
  | box t x =>
    simp only [ho] at hc hk
    exact box_sound h ho (constB_ok hk) hc hp hn
  | build t parts =>
    simp only [ho] at hc hk
    have hk := constsB_ok hk
    obtain ⟨v, rfl, ht⟩ := build_tells hX h ho (fun x hx => hk _ (snds_mem hx)) hc hp
    exact ht.wp h hn
  | buildSlice t len parts =>
    simp only [ho] at hc hk
    have hk := constsB_ok hk
    exact buildSlice_sound hX h ho (fun x hx => hk _ (snds_mem hx)) hc hp hn
  | load t x =>
    simp only [ho] at hc hk
    exact load_sound hX h ho (constB_ok hk) hc hp hn
  | store t x y =>
    simp only [ho] at hc hk
    have hk := constsB_ok hk
    exact store_sound hX h ho (hk x (by simp)) (hk y (by simp)) hc hp hn
  | nilCheck x =>
    simp only [ho] at hc hk
    obtain ⟨v, rfl, ht⟩ := nilCheck_tells h ho (constB_ok hk) hc hp
    exact ht.wp h hn
  | binOp op t x y ty =>
    simp only [ho] at hc hk
    have hk := constsB_ok hk
    obtain ⟨v, rfl, ht⟩ := bin_tells hX h ho (hk x (by simp)) (hk y (by simp)) hc hp
    exact ht.wp h hn
  | unOp op t x =>
    simp only [ho] at hc hk
    obtain ⟨v, rfl, ht⟩ := un_tells h ho (constB_ok hk) hc hp
    exact ht.wp h hn
  | convert src dst x =>
    simp only [ho] at hc hk
    obtain ⟨v, rfl, ht⟩ := convert_tells hX h ho (constB_ok hk) hc hp
    exact ht.wp h hn
  | makeFunc fn first captured =>
    simp only [ho] at hc hk
    obtain ⟨v, rfl, ht⟩ := makeFunc_tells h ho (constsB_ok hk) hc hp
    exact ht.wp h hn
  | makeSlice t x y =>
    simp only [ho] at hc hk
    have hk := constsB_ok hk
    exact makeSlice_sound hX h ho (hk x (by simp)) (hk y (by simp)) hc hp hn
  | slice t x lo hi mx =>
    simp only [ho] at hc hk
    have hk := constsB_ok hk
    obtain ⟨v, rfl, ht⟩ := slice_tells hX h ho (hk x (by simp)) (fun y hy => hk y (by simp [hy, optL])) (fun y hy => hk y (by simp [hy, optL])) hc hp
    exact ht.wp h hn
  | fieldAddr t x i =>
    simp only [ho] at hc hk
    obtain ⟨v, rfl, ht⟩ := fieldAddr_tells hX h ho (constB_ok hk) hc hp
    exact ht.wp h hn
  | field t x i =>
    simp only [ho] at hc hk
    obtain ⟨v, rfl, ht⟩ := field_tells hX h ho (constB_ok hk) hc hp
    exact ht.wp h hn
  | indexAddr t x y =>
    simp only [ho] at hc hk
    have hk := constsB_ok hk
    obtain ⟨v, rfl, ht⟩ := indexAddr_tells hX h ho (hk x (by simp)) (hk y (by simp)) hc hp
    exact ht.wp h hn
  | index t x y =>
    simp only [ho] at hc hk
    have hk := constsB_ok hk
    obtain ⟨v, rfl, ht⟩ := index_tells hX h ho (hk x (by simp)) (hk y (by simp)) hc hp
    exact ht.wp h hn
  | range t x =>
    simp only [ho] at hc hk
    exact range_sound hX h ho (constB_ok hk) hc hp hn
  | extract x i =>
    simp only [ho] at hc hk
    obtain ⟨v, rfl, ht⟩ := extract_tells h ho (constB_ok hk) hc hp
    exact ht.wp h hn
  | call c =>
    simp only [ho] at hc hk
    cases hcal : c.callee with
    | value f =>
      simp only [hcal] at hc hk
      have hk := constsB_ok hk
      exact call_sound hX h ho hcal (hk f (by simp)) (fun x hx => hk x (by simp [hx])) hc hp hn
    | invoke r m => simp [hcal] at hc
    | builtin b =>
      simp only [hcal] at hc hk
      have hk := constsB_ok hk
      cases b with
      | len =>
        simp only at hc
        split at hc
        · rename_i t x h1 h2
          obtain ⟨v, rfl, ht⟩ := len_tells hX h ho hcal h1 h2 (hk x (by rw [h2]; simp)) hc hp
          exact ht.wp h hn
        · cases hc
      | max =>
        simp only at hc
        obtain ⟨v, rfl, ht⟩ := minMax_tells (mx := true) h ho hcal hk hc hp
        exact ht.wp h hn
      | min =>
        simp only at hc
        obtain ⟨v, rfl, ht⟩ := minMax_tells (mx := false) h ho hcal hk hc hp
        exact ht.wp h hn
      | append =>
        simp only at hc
        split at hc
        · rename_i t t' x y h1 h2
          cases hb : Nat.beq t t' with
          | false =>
            simp only [hb] at hc
            exact appendS_sound hX h ho hcal h1 h2 (hk x (by rw [h2]; simp)) (hk y (by rw [h2]; simp)) hc hp hn
          | true =>
            simp only [hb] at hc
            have hb := Nat.eq_of_beq_eq_true hb
            subst hb
            exact append_sound hX h ho hcal h1 h2 (hk x (by rw [h2]; simp)) (hk y (by rw [h2]; simp)) hc hp hn
        · cases hc
      | _ => simp at hc
  | _ => simp [ho] at hc
end

end Go.X
