/- From a local proof to a function's contract. -/
import Derived.Test.YtgbeiogbppaogaaX18
set_option linter.unusedVariables false
namespace Go.X

theorem callFunc_enters {P : Program} {f : FuncId} {fn : Func} (hf : P.funcs[f]? = some fn) (hn : (fn.name == "runtime.NumGoroutine") = false) (hb : fn.body.isNone = false) (args : Array Value) (w : World) :
    (callFunc f args).run P w = .ok (.enter f args) w := by
  unfold callFunc
  simp only [Sem.run_bind, run_program, Result.andThen_ok, hf, hn, hb, Bool.false_eq_true, if_false, Sem.run_pure]

theorem addE_at : ∀ (new : List E) (n : Nat) (b : Blks) (id : Nat), n ≤ id → id < n + new.length → look (addE new n b).1 id = new[id - n]?
  | [], n, b, id, h1, h2 => by simp at h2; omega
  | e :: l, n, b, id, h1, h2 => by
    simp only [addE]
    by_cases h : id = n
    · subst h
      rw [addE_look l (id + 1) _ id (by omega), look_cons, if_pos rfl]
      simp
    · rw [addE_at l (n + 1) _ id (by omega) (by simp at h2; omega), show id - n = (id - (n + 1)) + 1 by omega, List.getElem?_cons_succ]
theorem addE_above : ∀ (new : List E) (n : Nat) (b : Blks) (id : Nat), n + new.length ≤ id → look (addE new n b).1 id = look b id
  | [], n, b, id, h => rfl
  | e :: l, n, b, id, h => by
    simp only [addE]
    rw [addE_above l (n + 1) _ id (by simp at h; omega), look_cons, if_neg (by simp at h; omega)]

theorem upd_some {α : Type} : ∀ {l : List (Nat × α)} {n : Nat} {x : α} (y : α), look l n = some x → ∃ r, upd l n y = some r
  | [], n, x, y, h => by simp [look] at h
  | (k, z) :: l, n, x, y, h => by
    rw [look_cons] at h
    simp only [upd]
    cases hb : Nat.beq k n with
    | true => exact ⟨_, rfl⟩
    | false =>
      rw [if_neg (fun e => by subst e; simp [Nat.beq_refl] at hb)] at h
      obtain ⟨r, hr⟩ := upd_some y h
      simp [hr]

theorem updAll_some : ∀ {l : List (Nat × E)} {b : Blks}, (∀ q ∈ l, ∃ e, look b q.1 = some e) → (l.map (·.1)).Nodup → ∃ r, updAll b l = some r ∧ (∀ q ∈ l, look r q.1 = some q.2) ∧ ∀ i, i ∉ l.map (·.1) → look r i = look b i
  | [], b, _, _ => ⟨b, rfl, by simp, fun _ _ => rfl⟩
  | (k, e) :: l, b, h, hd => by
    obtain ⟨e0, h0⟩ := h (k, e) (by simp)
    obtain ⟨r1, hr1⟩ := upd_some e h0
    have hl1 := look_upd hr1
    simp only [List.map_cons, List.nodup_cons] at hd
    obtain ⟨r, hr, h1, h2⟩ := updAll_some (l := l) (b := r1) (fun q hq => by
      obtain ⟨e2, he2⟩ := h q (by simp [hq])
      rw [hl1]
      by_cases hk : q.1 = k
      · exact ⟨e, by rw [if_pos hk]⟩
      · exact ⟨e2, by rw [if_neg hk]; exact he2⟩) hd.2
    refine ⟨r, by simp only [updAll, hr1]; exact hr, fun q hq => ?_, fun i hi => ?_⟩
    · rcases List.mem_cons.1 hq with rfl | hq
      · rw [h2 _ hd.1, hl1, if_pos rfl]
      · exact h1 q hq
    · simp only [List.map_cons, List.mem_cons, not_or] at hi
      rw [h2 i hi.2, hl1, if_neg hi.1]

/-- A table's part, renamed, as a table of its own. -/
theorem Tab.local {X Y : Ctx} {ε : Env} {blks lb : Blks} {nxt m : Nat} {ι : Nat → Nat} (h : Tab X ε blks nxt X.w0)
    (hl : ∀ i e, look lb i = some e → i < m ∧ inE (fun k => Nat.blt k m) e ∧ ∃ e0, look blks (ι i) = some e0 ∧ Sub e0 (mapE ι e))
    (hinj : ∀ i j e e', look lb i = some e → look lb j = some e' → i ≠ j → e.own = true → ι i ≠ ι j)
    (hι : ∀ i, i < m → ι i < ε.n) (hw : Y.w0 = X.w0) (hM : Y.M = allOwn ⟨m, fun j => ε.f (ι j)⟩ lb) :
    Tab Y ⟨m, fun j => ε.f (ι j)⟩ lb m X.w0 := by
  have hE : EMap (fun k => Nat.blt k m) ι ⟨m, fun j => ε.f (ι j)⟩ ε := fun i hi => by
    have := blt_true hi
    exact ⟨⟨fun _ => hι i this, fun _ => this⟩, rfl, rfl, rfl, rfl⟩
  refine ⟨rfl, fun i e he => ?_, fun i j e e' hi hj hij ho b hb => ?_, ?_, fun i e he ho b hb => .inr ?_⟩
  · obtain ⟨h1, h2, e0, h3, h4⟩ := hl i e he
    exact ⟨h1, (RelE.map hE h2).2 (RelE.sub h4 (h.ent _ _ h3).2)⟩
  · obtain ⟨_, _, e0, h3, h4⟩ := hl i e hi
    obtain ⟨_, _, e0', h3', h4'⟩ := hl j e' hj
    have o1 := Sub.owned h4 (ε.f (ι i))
    have o2 := Sub.owned h4' (ε.f (ι j))
    rw [mapE_owned] at o1 o2
    rw [o2]
    rw [o1] at hb
    exact h.sep _ _ e0 e0' h3 h3' (hinj i j e e' hi hj hij ho) (Sub.own h4 (by rw [mapE_own]; exact ho)) b hb
  · rw [hw]; exact Keep.refl _ _
  · rw [hM]
    exact mem_allOwn.2 ⟨i, e, he, ho, hb⟩

theorem All2.get {α β : Type} {R : α → β → Prop} : ∀ {as : List α} {bs : List β}, All2 R as bs → ∀ (i : Nat) (a : α), as[i]? = some a → ∃ b, bs[i]? = some b ∧ R a b
  | [], [], _, i, a, h => by simp at h
  | [], _ :: _, h, _, _, _ => absurd h (by simp [All2])
  | _ :: _, [], h, _, _, _ => absurd h (by simp [All2])
  | x :: as, y :: bs, h, 0, a, ha => by simp at ha; subst ha; exact ⟨y, rfl, h.1⟩
  | x :: as, y :: bs, h, i + 1, a, ha => by simp at ha; obtain ⟨b, h1, h2⟩ := All2.get h.2 i a ha; exact ⟨b, by simpa using h1, h2⟩
theorem All2.get' {α β : Type} {R : α → β → Prop} : ∀ {as : List α} {bs : List β}, All2 R as bs → ∀ (i : Nat) (b : β), bs[i]? = some b → ∃ a, as[i]? = some a ∧ R a b
  | [], [], _, i, a, h => by simp at h
  | [], _ :: _, h, _, _, _ => absurd h (by simp [All2])
  | _ :: _, [], h, _, _, _ => absurd h (by simp [All2])
  | x :: as, y :: bs, h, 0, a, ha => by simp at ha; subst ha; exact ⟨x, rfl, h.1⟩
  | x :: as, y :: bs, h, i + 1, a, ha => by simp at ha; obtain ⟨b, h1, h2⟩ := All2.get' h.2 i a ha; exact ⟨b, by simpa using h1, h2⟩

theorem nodup_idx : ∀ {ks : List Nat}, ks.Nodup → ∀ {i k : Nat}, ks[i]? = some k → idxN k ks = i
  | [], _, i, k, h => by simp at h
  | x :: l, hd, 0, k, h => by simp at h; subst h; simp [idxN, Nat.beq_refl]
  | x :: l, hd, i + 1, k, h => by
    simp at h
    simp only [List.nodup_cons] at hd
    have hk : k ∈ l := List.mem_of_getElem? h
    simp only [idxN]
    cases hb : Nat.beq x k with
    | true => exact absurd (Nat.eq_of_beq_eq_true hb ▸ hk) hd.1
    | false => simp [nodup_idx hd.2 h]

open Classical in
/-- The caller's places after the call. -/
noncomputable def envAfter (ε ε1 : Env) (ι : Nat → Nat) (ks : List Nat) (us : List (Nat × E)) : Env :=
  ⟨ε.n + ks.length, fun i => if i < ε.n then (if h : ∃ j, (∃ e, (j, e) ∈ us) ∧ ι j = i then ε1.f h.choose else ε.f i) else ε1.f (ks.getD (i - ε.n) 0)⟩

theorem envAfter_old {ε ε1 : Env} {ι : Nat → Nat} {ks : List Nat} {us : List (Nat × E)} {i : Nat} (hi : i < ε.n) (hn : ∀ q ∈ us, ι q.1 ≠ i) : (envAfter ε ε1 ι ks us).f i = ε.f i := by
  simp only [envAfter, hi, if_true]
  rw [dif_neg]
  rintro ⟨j, ⟨e, he⟩, rfl⟩
  exact hn _ he rfl
theorem envAfter_up {ε ε1 : Env} {ι : Nat → Nat} {ks : List Nat} {us : List (Nat × E)} {q : Nat × E} (hq : q ∈ us) (hi : ι q.1 < ε.n) (hinj : ∀ q' ∈ us, ι q'.1 = ι q.1 → q'.1 = q.1) : (envAfter ε ε1 ι ks us).f (ι q.1) = ε1.f q.1 := by
  have hx : ∃ j, (∃ e, (j, e) ∈ us) ∧ ι j = ι q.1 := ⟨q.1, ⟨q.2, hq⟩, rfl⟩
  simp only [envAfter, hi, if_true]
  rw [dif_pos hx]
  obtain ⟨⟨e, he⟩, h2⟩ := hx.choose_spec
  rw [show hx.choose = q.1 from hinj _ he h2]
theorem envAfter_new {ε ε1 : Env} {ι : Nat → Nat} {ks : List Nat} {us : List (Nat × E)} {i k : Nat} (hk : ks[i]? = some k) : (envAfter ε ε1 ι ks us).f (ε.n + i) = ε1.f k := by
  simp only [envAfter]
  rw [if_neg (by omega), Nat.add_sub_cancel_left, List.getD_eq_getElem?_getD, hk]
  rfl

end Go.X
