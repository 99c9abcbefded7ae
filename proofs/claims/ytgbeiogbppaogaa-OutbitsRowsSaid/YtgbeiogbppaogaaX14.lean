/- append; calls. -/
import Derived.Test.YtgbeiogbppaogaaX13
import Derived.Deep.AppendSrc
set_option linter.unusedVariables false
namespace Go.X

/-- An entry goes, another comes in its blocks' place, or in new ones. -/
theorem Tab.move {X : Ctx} {ε : Env} {blks bl : Blks} {nxt : Nat} {w w' : World} (h : Tab X ε blks nxt w) (hbl : ∀ i e, look bl i = some e → look blks i = some e) (S : List Nat)
    (hS : ∀ b ∈ S, (X.w0.heap.size ≤ b ∨ b ∈ X.M) ∧ ∀ i e, look bl i = some e → b ∉ owned (ε.f i) e)
    (hw : ∀ b, b < w.heap.size → b ∉ S → w'.heap[b]? = w.heap[b]?) (hs : w.heap.size ≤ w'.heap.size) (hos : w'.os = w.os) (htape : w'.tape = w.tape) (hout : w'.output = w.output)
    (L : Loc) (e : E) (how : ∀ b ∈ owned L e, b ∈ S ∨ w.heap.size ≤ b) (he : RelE (ε.push L) w' L e) : Tab X (ε.push L) ((nxt, e) :: bl) (nxt + 1) w' := by
  have hle := EnvLe.push ε L
  have hn := h.nxt
  have hold : ∀ id e', look bl id = some e' → id < ε.n ∧ id ≠ nxt := fun id e' he' => by
    have h1 := (h.ent id e' (hbl _ _ he')).1
    exact ⟨h1, by omega⟩
  have hnew : (ε.push L).f nxt = L := by rw [h.nxt]; exact Env.push_new _ _
  have hoo : ∀ id e', look bl id = some e' → ∀ b ∈ owned (ε.f id) e', b < w.heap.size := fun id e' he' => owned_lt (h.ent id e' (hbl _ _ he')).2
  have hnS : ∀ id e', look bl id = some e' → ∀ b ∈ owned (ε.f id) e', b ∉ S := fun id e' he' b hb hbs => (hS b hbs).2 id e' he' hb
  refine ⟨by rw [h.nxt]; rfl, fun id e' he' => ?_, fun id id' e1 e2 h1 h2 hne ho b hb => ?_, ⟨hos.trans h.keep.os, htape.trans h.keep.tape, hout.trans h.keep.output, Nat.le_trans h.keep.size hs, fun k hk hm => ?_⟩, fun id e1 h1 ho b hb => ?_⟩
  · rw [look_cons] at he'
    by_cases hid : id = nxt
    · rw [if_pos hid] at he'
      injection he' with he'
      subst hid he'
      refine ⟨by show id < ε.n + 1; omega, ?_⟩
      rw [hnew]
      exact he
    · rw [if_neg hid] at he'
      obtain ⟨g1, g2⟩ := h.ent id e' (hbl _ _ he')
      refine ⟨Nat.lt_of_lt_of_le g1 hle.n, ?_⟩
      rw [ε.push_old _ g1]
      exact (g2.frame fun b hb => hw b (hoo id e' he' b hb) (hnS id e' he' b hb)).mono hle
  · rw [look_cons] at h1 h2
    by_cases hid : id = nxt
    · rw [if_pos hid] at h1
      injection h1 with h1
      subst hid h1
      have hid' : id' ≠ id := fun e => hne e.symm
      rw [if_neg hid'] at h2
      rw [hnew] at hb
      rw [ε.push_old _ (hold id' e2 h2).1]
      intro hm
      rcases how b hb with g | g
      · exact hnS id' e2 h2 b hm g
      · have := hoo id' e2 h2 b hm; omega
    · rw [if_neg hid] at h1
      rw [ε.push_old _ (hold id e1 h1).1] at hb
      by_cases hid' : id' = nxt
      · rw [if_pos hid'] at h2
        injection h2 with h2
        subst hid' h2
        rw [hnew]
        intro hm
        rcases how b hm with g | g
        · exact hnS id e1 h1 b hb g
        · have := hoo id e1 h1 b hb; omega
      · rw [if_neg hid'] at h2
        rw [ε.push_old _ (hold id' e2 h2).1]
        exact h.sep id id' e1 e2 (hbl _ _ h1) (hbl _ _ h2) hne ho b hb
  · rw [hw k (Nat.lt_of_lt_of_le hk h.keep.size) (fun hb => ?_)]
    · exact h.keep.block k hk hm
    · rcases (hS k hb).1 with h1 | h1
      · omega
      · exact hm h1
  · rw [look_cons] at h1
    by_cases hid : id = nxt
    · rw [if_pos hid] at h1
      injection h1 with h1
      subst hid h1
      rw [hnew] at hb
      rcases how b hb with g | g
      · exact (hS b g).1
      · exact .inl (Nat.le_trans h.keep.size g)
    · rw [if_neg hid] at h1
      rw [ε.push_old _ (hold id e1 h1).1] at hb
      exact h.mine id e1 (hbl _ _ h1) ho b hb

section
variable {X : Ctx} {ε : Env} {σ : Sig} {a : Act} {w : World} {o : Oper} {next : Act → World → Prop} {Q : Exit → Act → World → Prop}

theorem appB_rel {b b' nb : Body} {s : Prop} {vs us : List Value} (h : appB b b' = some (s, nb)) (hs : s) (h1 : RelB ε b vs) (h2 : RelB ε b' us) : RelB ε nb (vs ++ us) := by
  unfold appB at h
  split at h
  · rename_i n k xs m k' ys
    simp only [Option.some.injEq, Prod.mk.injEq] at h
    obtain ⟨rfl, rfl⟩ := h
    obtain rfl := hs
    obtain ⟨v1, v2, rfl, ⟨g1, rfl, g3⟩, g2⟩ := h1
    obtain ⟨u1, u2, rfl, ⟨k1, rfl, k3⟩, k2⟩ := h2
    simp only [RelL] at g2 k2
    subst g2 k2
    refine RelL.single ⟨by simp [g1, k1], by simp, fun x hx => ?_⟩
    rcases List.mem_append.1 hx with hx | hx
    · exact g3 x hx
    · exact k3 x hx
  · rename_i n sz f m sz' g
    cases hb : Nat.beq sz sz' with
    | false => simp [hb] at h
    | true =>
      simp only [hb, Option.some.injEq, Prod.mk.injEq] at h
      obtain ⟨_, rfl⟩ := h
      have hb := Nat.eq_of_beq_eq_true hb
      subst hb
      obtain ⟨l1, r1⟩ := h1
      obtain ⟨l2, r2⟩ := h2
      refine ⟨by rw [List.length_append, l1, l2, Nat.add_mul], fun i hi => ?_⟩
      show RelL ε (bif Nat.blt i n then f i else g (i - n)) _
      by_cases hin : i < n
      · rw [show Nat.blt i n = true from Nat.ble_eq_true_of_le hin, cond_true]
        have hle : (i + 1) * sz ≤ n * sz := Nat.mul_le_mul_right _ hin
        rw [Nat.succ_mul] at hle
        rw [List.drop_append_of_le_length (by omega), List.take_append_of_le_length (by simp; omega)]
        exact r1 i hin
      · have hb : Nat.blt i n = false := by
          cases hq : Nat.blt i n with
          | false => rfl
          | true => exact absurd (blt_true hq) hin
        rw [hb, cond_false]
        have := r2 (i - n) (by omega)
        have e : i * sz = n * sz + (i - n) * sz := by rw [← Nat.add_mul]; congr 1; omega
        rw [e, List.drop_append, List.drop_of_length_le (by omega), List.nil_append, l1, Nat.add_sub_cancel_left]
        exact this
  · cases h

theorem bodyN_len {b : Body} {len sz : Nat} {vs : List Value} (hn : bodyN b len sz) (hb : RelB ε b vs) : vs.length = len * sz := by
  unfold bodyN at hn
  split at hn
  · rename_i n k xs
    obtain ⟨rfl, rfl⟩ := hn
    obtain ⟨v1, v2, rfl, ⟨g1, rfl, _⟩, g2⟩ := hb
    simp only [RelL] at g2
    subst g2
    simp; omega
  · obtain ⟨rfl, rfl⟩ := hn
    exact hb.1
  · exact hn.elim

/-- append of a slice's elements to one of the call's own (or to none). -/
theorem run_append_all {P : Program} {t e ty : TypeId} {ti : TypeInfo} {z : Value} {w : World} (hu : P.underlying t = some (.slice e)) (hi : P.info? e = some ti) (hz : ti.zero = some z)
    (hsz : z.cells.toList.length = ti.size) (hpos : 0 < ti.size)
    {ad : Option Addr} {m c : Nat} {news : List Value} (hl : news.length = m * ti.size) (hcell : ∀ j u, news[j]? = some u → ∃ d, ad = some d ∧ w.cell? (d.add j) = some u) (h1 : ∀ u ∈ news, u.oneCell' = true) (hnone : ad = none → m = 0 ∧ c = 0) :
    (∀ (n cap g : Nat) (vs junk : List Value), w.heap[g]? = some (.cells (vs ++ junk).toArray e (0, 0)) → vs.length = n * ti.size → (vs ++ junk).length = cap * ti.size → n ≤ cap → (n + m) * ti.bytes ≤ 140737488355328 → n + m ≤ 9223372036854775807 →
      ∃ g' cap' vs' junk' w', (Builtin.append_ #[t, t] ty #[.slice (some ⟨g, 0, none⟩) n cap, .slice ad m c]).run P w = .ok (.slice (some ⟨g', 0, none⟩) (n + m) cap') w' ∧ vs' = vs ++ news ∧ w'.heap[g']? = some (.cells (vs' ++ junk').toArray e (0, 0)) ∧
        (vs' ++ junk').length = cap' * ti.size ∧ n + m ≤ cap' ∧ (g' = g ∨ g' = w.heap.size) ∧ (∀ b, b < w.heap.size → b ≠ g → w'.heap[b]? = w.heap[b]?) ∧ w.heap.size ≤ w'.heap.size ∧ w'.os = w.os ∧ w'.tape = w.tape ∧ w'.output = w.output) ∧
    (m * ti.bytes ≤ 140737488355328 → m ≤ 9223372036854775807 →
      (m = 0 ∧ (Builtin.append_ #[t, t] ty #[.slice none 0 0, .slice ad m c]).run P w = .ok (.slice none 0 0) w) ∨
      (0 < m ∧ ∃ cap' junk' w', (Builtin.append_ #[t, t] ty #[.slice none 0 0, .slice ad m c]).run P w = .ok (.slice (some ⟨w.heap.size, 0, none⟩) m cap') w' ∧ w'.heap[w.heap.size]? = some (.cells (news ++ junk').toArray e (0, 0)) ∧
        (news ++ junk').length = cap' * ti.size ∧ m ≤ cap' ∧ (∀ b, b < w.heap.size → w'.heap[b]? = w.heap[b]?) ∧ w.heap.size ≤ w'.heap.size ∧ w'.os = w.os ∧ w'.tape = w.tape ∧ w'.output = w.output)) := by
  have firstC : ∀ w' : World, w'.heap = w.heap → (Builtin.firstCells ti.size m (.slice ad m c)).run P w' = .ok news.toArray w' := by
    intro w' hw
    cases ad with
    | none =>
      obtain ⟨h0, _⟩ := hnone rfl
      subst h0
      have : news = [] := List.eq_nil_of_length_eq_zero (by omega)
      subst this
      rfl
    | some d =>
      have := run_loadCells_list (P := P) w' d news (fun j v hj => by
        obtain ⟨d', e', hc⟩ := hcell j v hj
        injection e' with e'
        subst e'
        rw [show w'.cell? (d.add j) = w.cell? (d.add j) by simp [World.cell?, hw]]
        exact hc)
      rw [hl] at this
      exact this
  have capge : ∀ (need old : Nat), need ≤ 9223372036854775807 → need ≤ grownCap w need old e := by
    intro need old hn
    unfold grownCap Question.cut
    exact Nat.le_add_right _ _
  have zc : ∀ k, Builtin.zeroCells z.cells k = (rep z.cells.toList k).toArray := by
    intro k
    have := zeroCells_rep z.cells.toList k
    rwa [Array.toArray_toList] at this
  constructor
  · intro n cap g vs junk hg hvl hcap hncap hby h63
    by_cases hroom : n + m ≤ cap
    · refine ⟨g, cap, vs ++ news, junk.drop news.length, w.setRow g ((vs ++ news) ++ junk.drop news.length).toArray, ?_, rfl, setRow_heap' w g _ _ _ _ hg, ?_, hroom, .inl rfl, fun b _ hb => setRow_other w g b _ hb, by simp, rfl, rfl, rfl⟩
      · have hfit : n * ti.size + news.length ≤ (vs ++ junk).toArray.size := by
          rw [hl, ← Nat.add_mul, List.size_toArray, hcap]
          exact Nat.mul_le_mul_right _ hroom
        have hf := firstC w rfl
        have hst := run_storeCells_at P g (n * ti.size) e news 0 (vs ++ junk).toArray w hg (by simpa using hfit) h1
        simp only [Nat.add_zero] at hst
        have e1 : (List.take (n * ti.size) (vs ++ junk) ++ news ++ List.drop (n * ti.size + news.length) (vs ++ junk)) = vs ++ news ++ junk.drop news.length := by
          rw [← hvl, List.take_left' rfl, List.drop_append, List.drop_of_length_le (by omega), List.nil_append, Nat.add_sub_cancel_left]
        rw [e1] at hst
        simp [Builtin.append_, run_underlying hu, sizeOf, typeInfo, hi, Builtin.lenOf, hroom, hf, add_none, hst]
      · rw [List.length_append, List.length_append, List.length_drop]
        rw [List.length_append] at hcap
        have := Nat.mul_le_mul_right ti.size hroom
        rw [Nat.add_mul] at this
        omega
    · have hlt : cap < n + m := by omega
      obtain ⟨d, rfl⟩ : ∃ d, ad = some d := by
        cases ad with
        | none => obtain ⟨h0, _⟩ := hnone rfl; omega
        | some d => exact ⟨d, rfl⟩
      have hg0 := capge (n + m) cap h63
      have hrun := run_append_grow w t ty e ti z hu hi hz ⟨g, 0, none⟩ n cap vs hvl (fun j v hv => by
          rw [add_none, Nat.zero_add, cell_of_row w g j _ _ _ hg]
          have := (List.getElem?_eq_some_iff.1 hv).1
          simp [List.getElem?_append_left this, hv]) d m c news hl (fun j u hj => by
          obtain ⟨d', e', hc⟩ := hcell j u hj
          injection e' with e'
          subst e'
          exact hc) hlt (by omega) (growslice_fits hlt hby)
      rw [zc] at hrun
      refine ⟨w.heap.size, grownCap w (n + m) cap e, vs ++ news, rep z.cells.toList (grownCap w (n + m) cap e - (n + m)), _, hrun, rfl, ?_, ?_, hg0, .inr rfl, fun b hb _ => heap_push_old w.drew _ hb, ?_, rfl, rfl, rfl⟩
      · have := heap_push_new w.drew (.cells (vs.toArray ++ news.toArray ++ (rep z.cells.toList (grownCap w (n + m) cap e - (n + m))).toArray) e)
        simpa using this
      · rw [List.length_append, List.length_append, rep_length, hvl, hl, hsz, ← Nat.add_mul, ← Nat.add_mul]
        congr 1
        omega
      · rw [heap_push_size]
        exact Nat.le_succ _
  · intro hby h63
    rcases Nat.eq_zero_or_pos m with h0 | hm
    · left
      subst h0
      have hn0 : news = [] := List.eq_nil_of_length_eq_zero (by omega)
      subst hn0
      refine ⟨rfl, ?_⟩
      have hf := firstC w rfl
      simp [Builtin.append_, run_underlying hu, sizeOf, typeInfo, hi, Builtin.lenOf, hf]
    · right
      have hg0 := capge m 0 h63
      refine ⟨hm, grownCap w m 0 e, rep z.cells.toList (grownCap w m 0 e - m), w.drew.alloc (.cells (news ++ rep z.cells.toList (grownCap w m 0 e - m)).toArray e), ?_, heap_push_new w.drew _, ?_, hg0, fun b hb => heap_push_old w.drew _ hb, ?_, rfl, rfl, rfl⟩
      · have hf := firstC w.drew rfl
        have hn : m ≠ 0 := by omega
        have h63' : ¬ (9223372036854775807 < (m : Int)) := by omega
        have h48' : ¬ (281474976710656 < Builtin.nextslicecap m 0 * ti.bytes) := by rw [nextslicecap_zero hm]; omega
        simp [Builtin.append_, run_underlying hu, sizeOf, typeInfo, zeroValue, hi, hz, Builtin.lenOf, hn, h63', h48', Question.forced, run_firstCells_none, hf, newRow, grownCap, zc]
      · rw [List.length_append, rep_length, hl, hsz, ← Nat.add_mul]
        congr 1
        omega
      · rw [heap_push_size]
        exact Nat.le_succ _

/-- The same of whatever is appended. -/
theorem run_append_src {P : Program} {t tx e ty : TypeId} {ti : TypeInfo} {z : Value} {w : World} (hu : P.underlying t = some (.slice e)) (hi : P.info? e = some ti) (hz : ti.zero = some z)
    (hsz : z.cells.toList.length = ti.size) (hpos : 0 < ti.size)
    {x : Value} {m : Nat} {news : List Value} (hs : Src P ti.size tx x m news w) :
    (∀ (n cap g : Nat) (vs junk : List Value), w.heap[g]? = some (.cells (vs ++ junk).toArray e (0, 0)) → vs.length = n * ti.size → (vs ++ junk).length = cap * ti.size → n ≤ cap → (n + m) * ti.bytes ≤ 140737488355328 → n + m ≤ 9223372036854775807 →
      ∃ g' cap' vs' junk' w', (Builtin.append_ #[t, tx] ty #[.slice (some ⟨g, 0, none⟩) n cap, x]).run P w = .ok (.slice (some ⟨g', 0, none⟩) (n + m) cap') w' ∧ vs' = vs ++ news ∧ w'.heap[g']? = some (.cells (vs' ++ junk').toArray e (0, 0)) ∧
        (vs' ++ junk').length = cap' * ti.size ∧ n + m ≤ cap' ∧ (g' = g ∨ g' = w.heap.size) ∧ (∀ b, b < w.heap.size → b ≠ g → w'.heap[b]? = w.heap[b]?) ∧ w.heap.size ≤ w'.heap.size ∧ w'.os = w.os ∧ w'.tape = w.tape ∧ w'.output = w.output) ∧
    (m * ti.bytes ≤ 140737488355328 → m ≤ 9223372036854775807 →
      (m = 0 ∧ (Builtin.append_ #[t, tx] ty #[.slice none 0 0, x]).run P w = .ok (.slice none 0 0) w) ∨
      (0 < m ∧ ∃ cap' junk' w', (Builtin.append_ #[t, tx] ty #[.slice none 0 0, x]).run P w = .ok (.slice (some ⟨w.heap.size, 0, none⟩) m cap') w' ∧ w'.heap[w.heap.size]? = some (.cells (news ++ junk').toArray e (0, 0)) ∧
        (news ++ junk').length = cap' * ti.size ∧ m ≤ cap' ∧ (∀ b, b < w.heap.size → w'.heap[b]? = w.heap[b]?) ∧ w.heap.size ≤ w'.heap.size ∧ w'.os = w.os ∧ w'.tape = w.tape ∧ w'.output = w.output)) := by
  have hl := hs.newsLen
  have h1 := hs.one
  have capge : ∀ (need old : Nat), need ≤ 9223372036854775807 → need ≤ grownCap w need old e := by
    intro need old hn
    unfold grownCap Question.cut
    exact Nat.le_add_right _ _
  have zc : ∀ k, Builtin.zeroCells z.cells k = (rep z.cells.toList k).toArray := by
    intro k
    have := zeroCells_rep z.cells.toList k
    rwa [Array.toArray_toList] at this
  constructor
  · intro n cap g vs junk hg hvl hcap hncap hby h63
    by_cases hroom : n + m ≤ cap
    · refine ⟨g, cap, vs ++ news, junk.drop news.length, w.setRow g ((vs ++ news) ++ junk.drop news.length).toArray, ?_, rfl, setRow_heap' w g _ _ _ _ hg, ?_, hroom, .inl rfl, fun b _ hb => setRow_other w g b _ hb, by simp, rfl, rfl, rfl⟩
      · have hfit : n * ti.size + news.length ≤ (vs ++ junk).toArray.size := by
          rw [hl, ← Nat.add_mul, List.size_toArray, hcap]
          exact Nat.mul_le_mul_right _ hroom
        have hf := hs.cells
        have hst := run_storeCells_at P g (n * ti.size) e news 0 (vs ++ junk).toArray w hg (by simpa using hfit) h1
        simp only [Nat.add_zero] at hst
        have e1 : (List.take (n * ti.size) (vs ++ junk) ++ news ++ List.drop (n * ti.size + news.length) (vs ++ junk)) = vs ++ news ++ junk.drop news.length := by
          rw [← hvl, List.take_left' rfl, List.drop_append, List.drop_of_length_le (by omega), List.nil_append, Nat.add_sub_cancel_left]
        rw [e1] at hst
        rcases hs.kind with ⟨e', hk⟩ | hk <;> simp [Builtin.append_, run_underlying hu, run_underlying hk, sizeOf, typeInfo, hi, hs.len, hroom, hf, add_none, hst]
      · rw [List.length_append, List.length_append, List.length_drop]
        rw [List.length_append] at hcap
        have := Nat.mul_le_mul_right ti.size hroom
        rw [Nat.add_mul] at this
        omega
    · have hlt : cap < n + m := by omega
      have hg0 := capge (n + m) cap h63
      have hold : (Builtin.firstCells ti.size n (.slice (some ⟨g, 0, none⟩) n cap)).run P w.drew = .ok vs.toArray w.drew := run_firstCells_some (P := P) w.drew ti.size n ⟨g, 0, none⟩ n cap vs hvl (fun j v hv => by
          rw [add_none, Nat.zero_add, show w.drew.cell? ⟨g, j, none⟩ = w.cell? ⟨g, j, none⟩ from rfl, cell_of_row w g j _ _ _ hg]
          have := (List.getElem?_eq_some_iff.1 hv).1
          simp [List.getElem?_append_left this, hv])
      have hrun := run_append_grow_src (P := P) w t tx ty e ti z hu hi hz (some ⟨g, 0, none⟩) n cap vs hold x m news hs hlt (by omega) (growslice_fits hlt hby)
      rw [zc] at hrun
      refine ⟨w.heap.size, grownCap w (n + m) cap e, vs ++ news, rep z.cells.toList (grownCap w (n + m) cap e - (n + m)), _, hrun, rfl, ?_, ?_, hg0, .inr rfl, fun b hb _ => heap_push_old w.drew _ hb, ?_, rfl, rfl, rfl⟩
      · have := heap_push_new w.drew (.cells ((vs ++ news).toArray ++ (rep z.cells.toList (grownCap w (n + m) cap e - (n + m))).toArray) e)
        simpa using this
      · rw [List.length_append, List.length_append, rep_length, hvl, hl, hsz, ← Nat.add_mul, ← Nat.add_mul]
        congr 1
        omega
      · rw [heap_push_size]
        exact Nat.le_succ _
  · intro hby h63
    rcases Nat.eq_zero_or_pos m with h0 | hm
    · left
      subst h0
      have hn0 : news = [] := List.eq_nil_of_length_eq_zero (by omega)
      subst hn0
      refine ⟨rfl, ?_⟩
      have hf := hs.cells
      rcases hs.kind with ⟨e', hk⟩ | hk <;> simp [Builtin.append_, run_underlying hu, run_underlying hk, sizeOf, typeInfo, hi, hs.len, hf]
    · right
      have hg0 := capge m 0 h63
      refine ⟨hm, grownCap w m 0 e, rep z.cells.toList (grownCap w m 0 e - m), w.drew.alloc (.cells (news ++ rep z.cells.toList (grownCap w m 0 e - m)).toArray e), ?_, heap_push_new w.drew _, ?_, hg0, fun b hb => heap_push_old w.drew _ hb, ?_, rfl, rfl, rfl⟩
      · have hf := hs.cellsD
        have hn : m ≠ 0 := by omega
        have h63' : ¬ (9223372036854775807 < (m : Int)) := by omega
        have h48' : ¬ (281474976710656 < Builtin.nextslicecap m 0 * ti.bytes) := by rw [nextslicecap_zero hm]; omega
        rcases hs.kind with ⟨e', hk⟩ | hk <;> simp [Builtin.append_, run_underlying hu, run_underlying hk, sizeOf, typeInfo, zeroValue, hi, hz, hs.len, hn, h63', h48', Question.forced, run_firstCells_none, hf, newRow, grownCap, zc]
      · rw [List.length_append, rep_length, hl, hsz, ← Nat.add_mul]
        congr 1
        omega
      · rw [heap_push_size]
        exact Nat.le_succ _

theorem rowOf_cells (h : Tab X ε σ.blks σ.nxt w) {c : C} {v : Value} (hv : RelC ε c v) {r : Prop} {m sz : Nat} {b : Body} (he : rowOf σ.blks c = some (r, m, sz, some b)) (hr : r) :
    ∃ ad cc news, v = .slice ad m cc ∧ RelB ε b news ∧ news.length = m * sz ∧ (∀ j u, news[j]? = some u → ∃ d, ad = some d ∧ w.cell? (d.add j) = some u) ∧ (ad = none → m = 0 ∧ cc = 0) := by
  unfold rowOf at he
  split at he
  · simp at he
  · rename_i id aa len sz'
    split at he
    · rename_i ow ty tl b' hl
      cases hs : subB b' aa len sz' with
      | none => simp [hs] at he
      | some q =>
        obtain ⟨q1, b''⟩ := q
        simp only [hs, Option.some.injEq, Prod.mk.injEq] at he
        obtain ⟨rfl, rfl, rfl, rfl⟩ := he
        exact slice_cells h hv hl hs hr
    · cases he
  · cases he

theorem append_sound (hX : XOk X) (h : Holds X ε σ a w) {c : Call} {t : TypeId} {x y : Operand} {p : Prop} {eff : Eff} (ho : o.op = .call c) (hcal : c.callee = .builtin .append) (hts : c.argTypes.toList = [t, t]) (hargs : c.args.toList = [x, y]) (hkx : constOk x) (hky : constOk y)
    (hc : opAppend X.tt σ t x y = some (p, eff)) (hp : p) (hn : ∀ ε' x w', Fits X ε σ eff ε' x w' → next (a.put o.dst x) w') : o.wp X.P a w next Q := by
  have hrun : ∀ z w', (Builtin.append_ #[t, t] o.type #[a.eval x, a.eval y]).run X.P w = .ok z w' → (execOp a.eval o).run X.P w = .ok (.value z) w' := by
    intro z w' hz
    have e1 : c.argTypes = #[t, t] := by rw [← Array.toList_inj, hts]
    have e2 : c.args = #[x, y] := by rw [← Array.toList_inj, hargs]
    unfold execOp
    simp [ho, resolve, hcal, invoke, builtin, e1, e2, hz]
  unfold opAppend at hc
  cases ht : look X.tt t with
  | none => simp [ht] at hc
  | some te =>
    cases hvx : evC σ.regs x with
    | none => simp [ht, hvx] at hc
    | some qx =>
      obtain ⟨q1, cx⟩ := qx
      cases hvy : evC σ.regs y with
      | none => simp [ht, hvx, hvy] at hc
      | some qy =>
        obtain ⟨q2, cy⟩ := qy
        simp only [ht, hvx, hvy] at hc
        have hty := hX.tt t te ht
        cases hd : te.d with
        | sl e esz eb =>
          simp only [hd] at hc
          obtain ⟨hu, ti, hti, htis, htib⟩ := sl_of hty hd
          cases hee : look X.tt e with
          | none => simp [hee] at hc
          | some ee =>
            obtain ⟨i, z, hi, his, hib, hz, hrel⟩ := sizes_of hX.tt hee
            rw [hti] at hi
            injection hi with hi
            subst hi
            have hzs : z.cells.toList.length = ti.size := by rw [Rel1.width (hrel ε), (hX.tt e ee hee).wid, his]
            have hnx := h.tab.nxt
            have bget : ∀ {m : Nat}, (m : Int) ≤ 9223372036854775807 ↔ m ≤ 9223372036854775807 := by intro m; omega
            -- what a new or a moved row gives
            have fin : ∀ (bl : Blks) (S : List Nat) (nb : Body) (L : Loc) (v : Value) (w' : World) (len : Nat), (∀ i e, look bl i = some e → look σ.blks i = some e) →
                (∀ b ∈ S, (X.w0.heap.size ≤ b ∨ b ∈ X.M) ∧ ∀ i e, look bl i = some e → b ∉ owned (ε.f i) e) →
                (∀ b, b < w.heap.size → b ∉ S → w'.heap[b]? = w.heap[b]?) → w.heap.size ≤ w'.heap.size → w'.os = w.os → w'.tape = w.tape → w'.output = w.output →
                (∀ b ∈ owned L (.mem true e (some esz) nb), b ∈ S ∨ w.heap.size ≤ b) → RelE (ε.push L) w' L (.mem true e (some esz) nb) → len ≤ 9223372036854775807 →
                ((L.isnil = true ∧ v = .slice none 0 0 ∧ len = 0) ∨ (L.isnil = false ∧ 0 + len ≤ L.cap ∧ ∃ ad, v = .slice (some ad) len (L.cap - 0) ∧ (0 < L.cap ∨ (0 : Nat) = 0 → ad = ⟨L.blk, L.off + 0 * esz, none⟩))) →
                Fits X ε σ (.turn (some (.v (.c (.sl σ.nxt 0 len esz)))) bl [.mem true e (some esz) nb]) (ε.push L) v w' := by
              intro bl S nb L v w' len f1 f2 f3 f4 f5 f6 f7 f8 f9 f10 f11
              refine ⟨EnvLe.push ε L, fun u hu => ?_, h.tab.move f1 S f2 f3 f4 f5 f6 f7 L _ f8 f9⟩
              simp only [Eff.sv, Option.some.injEq] at hu
              subst hu
              refine ⟨by rw [hnx]; exact Nat.lt_succ_self _, bget.2 f10, ?_⟩
              rw [hnx, Env.push_new]
              exact f11
            split at hc
            · rename_i eeh hd' id ty len sz body r m sz' body' he1 he2 he3
              cases hab : appB body body' with
              | none => simp [hab] at hc
              | some q =>
                obtain ⟨q3, nb⟩ := q
                simp only [hab] at hc
                cases hdl : del σ.blks id with
                | none => simp [hdl] at hc
                | some bl =>
                  simp only [hdl, Option.some.injEq, Prod.mk.injEq] at hc
                  obtain ⟨rfl, rfl⟩ := hc
                  obtain ⟨g1, g2, g3, g4, g5, rfl, rfl, rfl, g9, g10, g11⟩ := hp
                  obtain ⟨ad, cc, news, hy, hb', hnl, hcell, hnone⟩ := rowOf_cells h.tab (evC_rel h hvy hky g2) he3 g3
                  have hx := evC_rel h hvx hkx g1
                  unfold headRow at he2
                  split at he2
                  · simp at he2
                  · rename_i id' aa len' sz''
                    split at he2
                    · rename_i ty' tl' b'' hbq hl
                      cases hq : Nat.beq sz'' tl' with
                      | false => simp [hq] at he2
                      | true =>
                        simp only [hq, Option.some.injEq, Prod.mk.injEq] at he2
                        obtain ⟨rfl, rfl, rfl, rfl, rfl⟩ := he2
                        have hq := Nat.eq_of_beq_eq_true hq
                        subst hq
                        have ha0 := Nat.eq_of_beq_eq_true hbq
                        subst ha0
                        obtain ⟨x1, x2, x3⟩ := hx
                        have hlb : ∀ i e, look bl i = some e → i ≠ id' ∧ look σ.blks i = some e := by
                          intro i e' he
                          rw [look_del hdl] at he
                          by_cases hi : i = id'
                          · simp [hi] at he
                          · rw [if_neg hi] at he; exact ⟨hi, he⟩
                        have hS : ∀ b ∈ owned (ε.f id') (.mem true ty' (some sz'') b''), (X.w0.heap.size ≤ b ∨ b ∈ X.M) ∧ ∀ i e, look bl i = some e → b ∉ owned (ε.f i) e := fun b hb =>
                          ⟨h.tab.mine id' _ hl rfl b hb, fun i e' he => h.tab.sep id' i _ e' hl (hlb i e' he).2 (fun e => (hlb i e' he).1 e.symm) rfl b hb⟩
                        obtain ⟨A, B⟩ := run_append_all (ty := o.type) (w := w) hu hti hz hzs (by rw [htis]; exact g9) (by rw [htis]; exact hnl) hcell (RelB.one hb') hnone
                        rcases x3 with ⟨hnil, hx, h0⟩ | ⟨hnil, hcap, ad0, hx, had⟩
                        · subst h0
                          simp only [Nat.zero_add] at g10 g11 hn
                          have hbn := ((h.tab.ent id' _ hl).2.1 hnil).1
                          rcases B (by rw [htib]; exact g10) g11 with ⟨hm0, hr⟩ | ⟨hmp, cap', junk', w', hr, k1, k2, k3, k4, k5, k6, k7, k8⟩
                          · subst hm0
                            have hn0 : news = [] := List.eq_nil_of_length_eq_zero (by omega)
                            subst hn0
                            refine wp_value (hrun _ _ (by rw [hx, hy]; exact hr)) (hn (ε.push ⟨0, 0, 0, true, []⟩) _ _ ?_)
                            exact fin bl [] nb ⟨0, 0, 0, true, []⟩ _ w 0 (fun i e he => (hlb i e he).2) (by simp) (fun _ _ _ => rfl) (Nat.le_refl _) rfl rfl rfl (by simp [owned])
                              ⟨fun _ => ⟨(appB_rel hab g4 hbn hb').mono (EnvLe.push _ _), rfl⟩, (fun hh => by cases hh)⟩ (by omega) (.inl ⟨rfl, rfl, rfl⟩)
                          · refine wp_value (hrun _ _ (by rw [hx, hy]; exact hr)) (hn (ε.push ⟨w.heap.size, 0, cap', false, []⟩) _ _ ?_)
                            refine fin bl [] nb ⟨w.heap.size, 0, cap', false, []⟩ _ w' m (fun i e he => (hlb i e he).2) (by simp) (fun b hb _ => k4 b hb) k5 k6 k7 k8 (by simp [owned]) ⟨(fun hh => by cases hh), fun _ => ⟨news, junk', ?_, (fun hh => by cases hh), (fun s hs => by cases hs; rw [k2, htis]), ?_⟩⟩ g11 (.inr ⟨rfl, by simpa using k3, ⟨w.heap.size, 0, none⟩, rfl, fun _ => by simp⟩)
                            · have := appB_rel hab g4 hbn hb'
                              rw [List.nil_append] at this
                              exact this.mono (EnvLe.push _ _)
                            · simp only [if_true]; exact ⟨trivial, k1⟩
                        · obtain ⟨vs, junk, hb, _, hown, _, hcp⟩ := cells_of h.tab hl hnil
                          obtain ⟨hoff, hblk⟩ := hown rfl
                          have hvl := bodyN_len g5 hb
                          have hadd := had (.inr rfl)
                          rw [hoff, Nat.zero_mul, Nat.zero_add] at hadd
                          subst hadd
                          rw [Nat.sub_zero] at hx
                          have hcp' := hcp sz'' rfl
                          rw [← htis] at hcp' hvl
                          obtain ⟨g', cap', vs', junk', w', hr, rfl, k1, k2, k3, k4, k5, k6, k7, k8, k9⟩ := A len' (ε.f id').cap (ε.f id').blk vs junk hblk hvl hcp' (by omega) (by rw [htib]; exact g10) g11
                          refine wp_value (hrun _ _ (by rw [hx, hy]; exact hr)) (hn (ε.push ⟨g', 0, cap', false, []⟩) _ _ ?_)
                          refine fin bl [(ε.f id').blk] nb ⟨g', 0, cap', false, []⟩ _ w' (len' + m) (fun i e he => (hlb i e he).2) (fun b hb => hS b (by simpa [owned, hnil] using hb)) (fun b hb hne => k5 b hb (by simpa using hne)) k6 k7 k8 k9 (fun b hb => ?_)
                            ⟨(fun hh => by cases hh), fun _ => ⟨vs ++ news, junk', (appB_rel hab g4 hb hb').mono (EnvLe.push _ _), (fun hh => by cases hh), (fun s hs => by cases hs; rw [k2, htis]), ?_⟩⟩ g11 (.inr ⟨rfl, by simpa using k3, ⟨g', 0, none⟩, rfl, fun _ => by simp⟩)
                          · simp [owned] at hb
                            subst hb
                            rcases k4 with k4 | k4
                            · left; simp [k4]
                            · right; omega
                          · simp only [if_true]; exact ⟨trivial, k1⟩
                    · cases he2
                  · cases he2
            · rename_i eeh hd' o1 o2 o3 o4 r m sz' body' he1 he2 he3
              simp only [Option.some.injEq, Prod.mk.injEq] at hc
              obtain ⟨rfl, rfl⟩ := hc
              obtain ⟨g1, g2, g3, rfl, g9, g10, g11⟩ := hp
              obtain ⟨ad, cc, news, hy, hb', hnl, hcell, hnone⟩ := rowOf_cells h.tab (evC_rel h hvy hky g2) he3 g3
              have hx := evC_rel h hvx hkx g1
              unfold headRow at he2
              split at he2
              · obtain ⟨hx, _⟩ := hx
                obtain ⟨A, B⟩ := run_append_all (ty := o.type) (w := w) hu hti hz hzs (by rw [htis]; exact g9) (by rw [htis]; exact hnl) hcell (RelB.one hb') hnone
                rcases B (by rw [htib]; exact g10) g11 with ⟨hm0, hr⟩ | ⟨hmp, cap', junk', w', hr, k1, k2, k3, k4, k5, k6, k7, k8⟩
                · subst hm0
                  have hn0 : news = [] := List.eq_nil_of_length_eq_zero (by omega)
                  subst hn0
                  refine wp_value (hrun _ _ (by rw [hx, hy]; exact hr)) (hn (ε.push ⟨0, 0, 0, true, []⟩) _ _ ?_)
                  exact fin σ.blks [] body' ⟨0, 0, 0, true, []⟩ _ w 0 (fun i e he => he) (by simp) (fun _ _ _ => rfl) (Nat.le_refl _) rfl rfl rfl (by simp [owned])
                    ⟨fun _ => ⟨hb'.mono (EnvLe.push _ _), rfl⟩, (fun hh => by cases hh)⟩ (by omega) (.inl ⟨rfl, rfl, rfl⟩)
                · refine wp_value (hrun _ _ (by rw [hx, hy]; exact hr)) (hn (ε.push ⟨w.heap.size, 0, cap', false, []⟩) _ _ ?_)
                  refine fin σ.blks [] body' ⟨w.heap.size, 0, cap', false, []⟩ _ w' m (fun i e he => he) (by simp) (fun b hb _ => k4 b hb) k5 k6 k7 k8 (by simp [owned]) ⟨(fun hh => by cases hh), fun _ => ⟨news, junk', hb'.mono (EnvLe.push _ _), (fun hh => by cases hh), (fun s hs => by cases hs; rw [k2, htis]), ?_⟩⟩ g11 (.inr ⟨rfl, by simpa using k3, ⟨w.heap.size, 0, none⟩, rfl, fun _ => by simp⟩)
                  simp only [if_true]; exact ⟨trivial, k1⟩
              · split at he2
                · rename_i hq hl
                  split at he2 <;> simp at he2
                · cases he2
              · cases he2
            · cases hc
        | _ => simp [hd] at hc
theorem appendS_sound (hX : XOk X) (h : Holds X ε σ a w) {c : Call} {t t' : TypeId} {x y : Operand} {p : Prop} {eff : Eff} (ho : o.op = .call c) (hcal : c.callee = .builtin .append) (hts : c.argTypes.toList = [t, t']) (hargs : c.args.toList = [x, y]) (hkx : constOk x) (hky : constOk y)
    (hc : opAppendS X.tt σ t t' x y = some (p, eff)) (hp : p) (hn : ∀ ε' x w', Fits X ε σ eff ε' x w' → next (a.put o.dst x) w') : o.wp X.P a w next Q := by
  have hrun : ∀ z w', (Builtin.append_ #[t, t'] o.type #[a.eval x, a.eval y]).run X.P w = .ok z w' → (execOp a.eval o).run X.P w = .ok (.value z) w' := by
    intro z w' hz
    have e1 : c.argTypes = #[t, t'] := by rw [← Array.toList_inj, hts]
    have e2 : c.args = #[x, y] := by rw [← Array.toList_inj, hargs]
    unfold execOp
    simp [ho, resolve, hcal, invoke, builtin, e1, e2, hz]
  unfold opAppendS at hc
  cases ht : look X.tt t with
  | none => simp [ht] at hc
  | some te =>
    cases hvx : evC σ.regs x with
    | none => simp [ht, hvx] at hc
    | some qx =>
      obtain ⟨q1, cx⟩ := qx
      cases hvy : evC σ.regs y with
      | none => simp [ht, hvx, hvy] at hc
      | some qy =>
        obtain ⟨q2, cy⟩ := qy
        cases ht' : look X.tt t' with
        | none => simp [ht, ht', hvx, hvy] at hc
        | some te' =>
        obtain ⟨s, rfl⟩ : ∃ s, cy = .str s := by cases cy <;> first | exact ⟨_, rfl⟩ | (simp [ht, ht', hvx, hvy] at hc)
        simp only [ht, ht', hvx, hvy] at hc
        have hty := hX.tt t te ht
        cases hd : te.d with
        | sl e esz eb =>
          have hd2 : te'.d = .str := by
            cases h2 : te'.d <;> first | rfl | (simp [hd, h2] at hc)
          simp only [hd, hd2] at hc
          obtain ⟨hu, ti, hti, htis, htib⟩ := sl_of hty hd
          cases hee : look X.tt e with
          | none => simp [hee] at hc
          | some ee =>
            obtain ⟨i, z, hi, his, hib, hz, hrel⟩ := sizes_of hX.tt hee
            rw [hti] at hi
            injection hi with hi
            subst hi
            have hzs : z.cells.toList.length = ti.size := by rw [Rel1.width (hrel ε), (hX.tt e ee hee).wid, his]
            have hnx := h.tab.nxt
            have bget : ∀ {m : Nat}, (m : Int) ≤ 9223372036854775807 ↔ m ≤ 9223372036854775807 := by intro m; omega
            -- what a new or a moved row gives
            have fin : ∀ (bl : Blks) (S : List Nat) (nb : Body) (L : Loc) (v : Value) (w' : World) (len : Nat), (∀ i e, look bl i = some e → look σ.blks i = some e) →
                (∀ b ∈ S, (X.w0.heap.size ≤ b ∨ b ∈ X.M) ∧ ∀ i e, look bl i = some e → b ∉ owned (ε.f i) e) →
                (∀ b, b < w.heap.size → b ∉ S → w'.heap[b]? = w.heap[b]?) → w.heap.size ≤ w'.heap.size → w'.os = w.os → w'.tape = w.tape → w'.output = w.output →
                (∀ b ∈ owned L (.mem true e (some esz) nb), b ∈ S ∨ w.heap.size ≤ b) → RelE (ε.push L) w' L (.mem true e (some esz) nb) → len ≤ 9223372036854775807 →
                ((L.isnil = true ∧ v = .slice none 0 0 ∧ len = 0) ∨ (L.isnil = false ∧ 0 + len ≤ L.cap ∧ ∃ ad, v = .slice (some ad) len (L.cap - 0) ∧ (0 < L.cap ∨ (0 : Nat) = 0 → ad = ⟨L.blk, L.off + 0 * esz, none⟩))) →
                Fits X ε σ (.turn (some (.v (.c (.sl σ.nxt 0 len esz)))) bl [.mem true e (some esz) nb]) (ε.push L) v w' := by
              intro bl S nb L v w' len f1 f2 f3 f4 f5 f6 f7 f8 f9 f10 f11
              refine ⟨EnvLe.push ε L, fun u hu => ?_, h.tab.move f1 S f2 f3 f4 f5 f6 f7 L _ f8 f9⟩
              simp only [Eff.sv, Option.some.injEq] at hu
              subst hu
              refine ⟨by rw [hnx]; exact Nat.lt_succ_self _, bget.2 f10, ?_⟩
              rw [hnx, Env.push_new]
              exact f11
            have hbl : RelB ε (.flat [.ints s.size .u8 (bl s)]) (byteCells s) := ⟨byteCells s, [], by simp, ⟨by simp [bl], by simp [bl, byteCells, Function.comp_def], fun x hx => by
              obtain ⟨b, _, rfl⟩ := List.mem_map.1 hx
              have := b.toNat_lt
              simp only [inK]; omega⟩, rfl⟩
            split at hc
            · rename_i eeh hd' id ty len sz body he1 he2
              cases hab : appB body (.flat [.ints s.size .u8 (bl s)]) with
              | none => simp [hab] at hc
              | some q =>
                obtain ⟨q3, nb⟩ := q
                simp only [hab] at hc
                cases hdl : del σ.blks id with
                | none => simp [hdl] at hc
                | some bl =>
                  simp only [hdl, Option.some.injEq, Prod.mk.injEq] at hc
                  obtain ⟨rfl, rfl⟩ := hc
                  obtain ⟨g1, g2, g4, g5, rfl, rfl, g9, g10, g11⟩ := hp
                  obtain ⟨hy, _⟩ := evC_rel h hvy hky g2
                  have hb' := hbl
                  have hsrc : Src X.P ti.size t' (.string s) s.size (byteCells s) w := by rw [htis, g9]; exact Src.ofString w (str_of (hX.tt t' te' ht') hd2) s
                  have hx := evC_rel h hvx hkx g1
                  unfold headRow at he2
                  split at he2
                  · simp at he2
                  · rename_i id' aa len' sz''
                    split at he2
                    · rename_i ty' tl' b'' hbq hl
                      cases hq : Nat.beq sz'' tl' with
                      | false => simp [hq] at he2
                      | true =>
                        simp only [hq, Option.some.injEq, Prod.mk.injEq] at he2
                        obtain ⟨rfl, rfl, rfl, rfl, rfl⟩ := he2
                        have hq := Nat.eq_of_beq_eq_true hq
                        subst hq
                        have ha0 := Nat.eq_of_beq_eq_true hbq
                        subst ha0
                        obtain ⟨x1, x2, x3⟩ := hx
                        have hlb : ∀ i e, look bl i = some e → i ≠ id' ∧ look σ.blks i = some e := by
                          intro i e' he
                          rw [look_del hdl] at he
                          by_cases hi : i = id'
                          · simp [hi] at he
                          · rw [if_neg hi] at he; exact ⟨hi, he⟩
                        have hS : ∀ b ∈ owned (ε.f id') (.mem true ty' (some sz'') b''), (X.w0.heap.size ≤ b ∨ b ∈ X.M) ∧ ∀ i e, look bl i = some e → b ∉ owned (ε.f i) e := fun b hb =>
                          ⟨h.tab.mine id' _ hl rfl b hb, fun i e' he => h.tab.sep id' i _ e' hl (hlb i e' he).2 (fun e => (hlb i e' he).1 e.symm) rfl b hb⟩
                        obtain ⟨A, B⟩ := run_append_src (ty := o.type) (w := w) hu hti hz hzs (by rw [htis, g9]; omega) hsrc
                        rcases x3 with ⟨hnil, hx, h0⟩ | ⟨hnil, hcap, ad0, hx, had⟩
                        · subst h0
                          simp only [Nat.zero_add] at g10 g11 hn
                          have hbn := ((h.tab.ent id' _ hl).2.1 hnil).1
                          rcases B (by rw [htib]; exact g10) g11 with ⟨hm0, hr⟩ | ⟨hmp, cap', junk', w', hr, k1, k2, k3, k4, k5, k6, k7, k8⟩
                          · skip
                            have hn0 : byteCells s = [] := List.eq_nil_of_length_eq_zero (by rw [byteCells_length]; omega)
                            rw [hn0] at hb'
                            refine wp_value (hrun _ _ (by rw [hx, hy]; exact hr)) (hn (ε.push ⟨0, 0, 0, true, []⟩) _ _ ?_)
                            exact fin bl [] nb ⟨0, 0, 0, true, []⟩ _ w s.size (fun i e he => (hlb i e he).2) (by simp) (fun _ _ _ => rfl) (Nat.le_refl _) rfl rfl rfl (by simp [owned])
                              ⟨fun _ => ⟨(appB_rel hab g4 hbn hb').mono (EnvLe.push _ _), rfl⟩, (fun hh => by cases hh)⟩ (by omega) (.inl ⟨rfl, rfl, hm0⟩)
                          · refine wp_value (hrun _ _ (by rw [hx, hy]; exact hr)) (hn (ε.push ⟨w.heap.size, 0, cap', false, []⟩) _ _ ?_)
                            refine fin bl [] nb ⟨w.heap.size, 0, cap', false, []⟩ _ w' s.size (fun i e he => (hlb i e he).2) (by simp) (fun b hb _ => k4 b hb) k5 k6 k7 k8 (by simp [owned]) ⟨(fun hh => by cases hh), fun _ => ⟨byteCells s, junk', ?_, (fun hh => by cases hh), (fun s hs => by cases hs; rw [k2, htis]), ?_⟩⟩ g11 (.inr ⟨rfl, by simpa using k3, ⟨w.heap.size, 0, none⟩, rfl, fun _ => by simp⟩)
                            · have := appB_rel hab g4 hbn hb'
                              rw [List.nil_append] at this
                              exact this.mono (EnvLe.push _ _)
                            · simp only [if_true]; exact ⟨trivial, k1⟩
                        · obtain ⟨vs, junk, hb, _, hown, _, hcp⟩ := cells_of h.tab hl hnil
                          obtain ⟨hoff, hblk⟩ := hown rfl
                          have hvl := bodyN_len g5 hb
                          have hadd := had (.inr rfl)
                          rw [hoff, Nat.zero_mul, Nat.zero_add] at hadd
                          subst hadd
                          rw [Nat.sub_zero] at hx
                          have hcp' := hcp sz'' rfl
                          rw [← htis] at hcp' hvl
                          obtain ⟨g', cap', vs', junk', w', hr, rfl, k1, k2, k3, k4, k5, k6, k7, k8, k9⟩ := A len' (ε.f id').cap (ε.f id').blk vs junk hblk hvl hcp' (by omega) (by rw [htib]; exact g10) g11
                          refine wp_value (hrun _ _ (by rw [hx, hy]; exact hr)) (hn (ε.push ⟨g', 0, cap', false, []⟩) _ _ ?_)
                          refine fin bl [(ε.f id').blk] nb ⟨g', 0, cap', false, []⟩ _ w' (len' + s.size) (fun i e he => (hlb i e he).2) (fun b hb => hS b (by simpa [owned, hnil] using hb)) (fun b hb hne => k5 b hb (by simpa using hne)) k6 k7 k8 k9 (fun b hb => ?_)
                            ⟨(fun hh => by cases hh), fun _ => ⟨vs ++ byteCells s, junk', (appB_rel hab g4 hb hb').mono (EnvLe.push _ _), (fun hh => by cases hh), (fun s hs => by cases hs; rw [k2, htis]), ?_⟩⟩ g11 (.inr ⟨rfl, by simpa using k3, ⟨g', 0, none⟩, rfl, fun _ => by simp⟩)
                          · simp [owned] at hb
                            subst hb
                            rcases k4 with k4 | k4
                            · left; simp [k4]
                            · right; omega
                          · simp only [if_true]; exact ⟨trivial, k1⟩
                    · cases he2
                  · cases he2
            · rename_i eeh hd' o1 o2 o3 o4 he1 he2
              simp only [Option.some.injEq, Prod.mk.injEq] at hc
              obtain ⟨rfl, rfl⟩ := hc
              obtain ⟨g1, g2, g9, g10, g11⟩ := hp
              obtain ⟨hy, _⟩ := evC_rel h hvy hky g2
              have hb' := hbl
              have hsrc : Src X.P ti.size t' (.string s) s.size (byteCells s) w := by rw [htis, g9]; exact Src.ofString w (str_of (hX.tt t' te' ht') hd2) s
              have hx := evC_rel h hvx hkx g1
              unfold headRow at he2
              split at he2
              · obtain ⟨hx, _⟩ := hx
                obtain ⟨A, B⟩ := run_append_src (ty := o.type) (w := w) hu hti hz hzs (by rw [htis, g9]; omega) hsrc
                rcases B (by rw [htib]; exact g10) g11 with ⟨hm0, hr⟩ | ⟨hmp, cap', junk', w', hr, k1, k2, k3, k4, k5, k6, k7, k8⟩
                · skip
                  have hn0 : byteCells s = [] := List.eq_nil_of_length_eq_zero (by rw [byteCells_length]; omega)
                  rw [hn0] at hb'
                  refine wp_value (hrun _ _ (by rw [hx, hy]; exact hr)) (hn (ε.push ⟨0, 0, 0, true, []⟩) _ _ ?_)
                  exact fin σ.blks [] (.flat [.ints s.size .u8 (bl s)]) ⟨0, 0, 0, true, []⟩ _ w s.size (fun i e he => he) (by simp) (fun _ _ _ => rfl) (Nat.le_refl _) rfl rfl rfl (by simp [owned])
                    ⟨fun _ => ⟨hb'.mono (EnvLe.push _ _), rfl⟩, (fun hh => by cases hh)⟩ (by omega) (.inl ⟨rfl, rfl, hm0⟩)
                · refine wp_value (hrun _ _ (by rw [hx, hy]; exact hr)) (hn (ε.push ⟨w.heap.size, 0, cap', false, []⟩) _ _ ?_)
                  refine fin σ.blks [] (.flat [.ints s.size .u8 (bl s)]) ⟨w.heap.size, 0, cap', false, []⟩ _ w' s.size (fun i e he => he) (by simp) (fun b hb _ => k4 b hb) k5 k6 k7 k8 (by simp [owned]) ⟨(fun hh => by cases hh), fun _ => ⟨byteCells s, junk', hb'.mono (EnvLe.push _ _), (fun hh => by cases hh), (fun s hs => by cases hs; rw [k2, htis]), ?_⟩⟩ g11 (.inr ⟨rfl, by simpa using k3, ⟨w.heap.size, 0, none⟩, rfl, fun _ => by simp⟩)
                  simp only [if_true]; exact ⟨trivial, k1⟩
              · split at he2
                · rename_i hq hl
                  split at he2 <;> simp at he2
                · cases he2
              · cases he2
            · cases hc
        | _ => simp [hd] at hc
end

end Go.X
