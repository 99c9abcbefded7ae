/- Objects that hold digits, opened and shut; ends of functions that turn entries. -/
import Derived.Test.YtgbeiogbppaogaaX30
set_option linter.unusedVariables false
namespace Go.X

theorem packB_length (bits : List Bool) : (packB bits).length = (bits.length + 7) / 8 := by simp [packB]
theorem bool_in (b : Bool) : 0 ≤ b.toInt ∧ b.toInt ≤ 1 := by cases b <;> simp [Bool.toInt]
theorem byteAt_in (bits : List Bool) (i : Nat) : 0 ≤ byteAt bits i ∧ byteAt bits i ≤ 255 := by
  unfold byteAt
  have h0 := bool_in (bits.getD (8 * i) false)
  have h1 := bool_in (bits.getD (8 * i + 1) false)
  have h2 := bool_in (bits.getD (8 * i + 2) false)
  have h3 := bool_in (bits.getD (8 * i + 3) false)
  have h4 := bool_in (bits.getD (8 * i + 4) false)
  have h5 := bool_in (bits.getD (8 * i + 5) false)
  have h6 := bool_in (bits.getD (8 * i + 6) false)
  have h7 := bool_in (bits.getD (8 * i + 7) false)
  omega
theorem packB_in (bits : List Bool) : ∀ x ∈ packB bits, inK .u8 x := by
  intro x hx
  obtain ⟨i, _, rfl⟩ := List.mem_map.1 hx
  exact byteAt_in bits i

/-- One place's own blocks told anew. -/
def Env.setAux (ε : Env) (i : Nat) (l : List Nat) : Env := ⟨ε.n, fun j => if j = i then { ε.f i with aux := l } else ε.f j⟩
theorem EnvLe.setAux (ε : Env) (i : Nat) (l : List Nat) : EnvLe ε (ε.setAux i l) := by
  refine ⟨Nat.le_refl _, fun j _ => ?_, fun j _ => ?_, fun j _ => ?_, fun j _ => ?_⟩ <;> simp only [Env.setAux] <;> split <;> simp_all
theorem setAux_at (ε : Env) (i : Nat) (l : List Nat) : (ε.setAux i l).f i = { ε.f i with aux := l } := by simp [Env.setAux]
theorem setAux_off (ε : Env) {i j : Nat} (l : List Nat) (h : j ≠ i) : (ε.setAux i l).f j = ε.f j := by simp [Env.setAux, h]

section
variable {X : Ctx} {ε : Env} {σ : Sig} {a : Act} {w : World} {Q : Exit → Act → World → Prop}

theorem nil_cells {ε : Env} {vs : List Value} (h : RelB ε (.flat [.cs [.val (.slice none 0 0), .int .i64 0]]) vs) : vs = [.slice none 0 0, .int .i64 0] := by
  obtain ⟨v1, v2, rfl, h1, rfl⟩ := h
  match v1, h1 with
  | [a, b], h1 =>
    obtain ⟨⟨rfl, _⟩, ⟨rfl, _⟩, _⟩ := h1
    rfl
theorem two_cells {ε : Env} {g len : Nat} {n : Int} {vs : List Value} (h : RelB ε (.flat [.cs [.sl g 0 len 1, .int .i64 n]]) vs) : ∃ v, vs = [v, .int .i64 n] ∧ RelC ε (.sl g 0 len 1) v ∧ inK .i64 n := by
  obtain ⟨v1, v2, rfl, h1, rfl⟩ := h
  match v1, h1 with
  | [a, b], h1 =>
    obtain ⟨h2, ⟨rfl, h3⟩, _⟩ := h1
    exact ⟨a, by simp, h2, h3⟩

/-- A fresh object without digits. -/
theorem Tab.shut0 {bl bl' : Blks} {nxt id k : Nat} {ty : TypeId} (h : Tab X ε bl nxt w) (hl : look bl id = some (.mem true ty none (.flat [.cs [.val (.slice none 0 0), .int .i64 0]]))) (hu : upd bl id (.obj k []) = some bl') :
    Tab X (ε.setAux id []) bl' nxt w := by
  have hlk := look_upd hu
  obtain ⟨h1, h2⟩ := h.ent id _ hl
  have hn : (ε.f id).isnil = false := by
    cases hh : (ε.f id).isnil with
    | false => rfl
    | true => exact absurd (nil_cells (h2.1 hh).1) (by simp)
  obtain ⟨vs, junk, g1, g2, g3, g4⟩ := h2.2 hn
  simp only [if_true] at g4
  have hobj : RelE (ε.setAux id []) w ((ε.setAux id []).f id) (.obj k []) := by
    rw [setAux_at]
    refine ⟨hn, g4.1, ty, 0, [], .inl ⟨rfl, rfl, ?_⟩⟩
    show w.heap[(ε.f id).blk]? = _
    rw [g4.2, nil_cells g1, g2 rfl]; rfl
  have own : owned ((ε.setAux id []).f id) (.obj k []) = [(ε.f id).blk] := by rw [setAux_at]; rfl
  have own0 : owned (ε.f id) (.mem true ty none (.flat [.cs [.val (.slice none 0 0), .int .i64 0]])) = [(ε.f id).blk] := by simp [owned, hn]
  refine ⟨h.nxt, fun i e he => ?_, fun i j e f he hf hne ho b hb hb' => ?_, h.keep, fun i e he ho b hb => ?_⟩
  · rw [hlk] at he
    by_cases hi : i = id
    · rw [if_pos hi] at he
      injection he with he
      subst he hi
      exact ⟨h1, hobj⟩
    · rw [if_neg hi] at he
      rw [setAux_off _ _ hi]
      exact ⟨(h.ent i e he).1, (h.ent i e he).2.mono (EnvLe.setAux _ _ _)⟩
  · rw [hlk] at he hf
    by_cases hi : i = id
    · have hj : j ≠ id := fun hj => hne (hi.trans hj.symm)
      rw [if_pos hi] at he
      rw [if_neg hj] at hf
      injection he with he
      subst he hi
      rw [own] at hb
      rw [setAux_off _ _ hj] at hb'
      exact h.sep i j _ _ hl hf hne rfl b (by rw [own0]; exact hb) hb'
    · rw [if_neg hi] at he
      rw [setAux_off _ _ hi] at hb
      by_cases hj : j = id
      · rw [if_pos hj] at hf
        injection hf with hf
        subst hf hj
        rw [own] at hb'
        exact h.sep i j _ _ he hl hne ho b hb (by rw [own0]; exact hb')
      · rw [if_neg hj] at hf
        rw [setAux_off _ _ hj] at hb'
        exact h.sep i j _ _ he hf hne ho b hb hb'
  · rw [hlk] at he
    by_cases hi : i = id
    · rw [if_pos hi] at he
      injection he with he
      subst he hi
      rw [own] at hb
      exact h.mine i _ hl rfl b (by rw [own0]; exact hb)
    · rw [if_neg hi] at he
      rw [setAux_off _ _ hi] at hb
      exact h.mine i e he ho b hb

theorem Holds.shut0 {bl' : Blks} {id k : Nat} {ty : TypeId} (h : Holds X ε σ a w) (hl : look σ.blks id = some (.mem true ty none (.flat [.cs [.val (.slice none 0 0), .int .i64 0]]))) (hu : upd σ.blks id (.obj k []) = some bl') :
    Holds X (ε.setAux id []) ⟨σ.regs, bl', σ.nxt⟩ a w :=
  ⟨h.defers, h.size, fun s v hs => (h.regs s v hs).mono (EnvLe.setAux _ _ _), h.tab.shut0 hl hu⟩

theorem rShut0 (id k : Nat) {c : Code} {bl' : Blks} {ty : TypeId} (hl : look σ.blks id = some (.mem true ty none (.flat [.cs [.val (.slice none 0 0), .int .i64 0]]))) (hu : upd σ.blks id (.obj k []) = some bl') (h : SW X c Q ε ⟨σ.regs, bl', σ.nxt⟩) : SW X c Q ε σ :=
  fun ε' a w hle hh => h _ a w (hle.trans (EnvLe.setAux _ _ _)) (hh.shut0 hl hu)
theorem rShut0Q (id k : Nat) {e : Exit} {bl' : Blks} {ty : TypeId} (hl : look σ.blks id = some (.mem true ty none (.flat [.cs [.val (.slice none 0 0), .int .i64 0]]))) (hu : upd σ.blks id (.obj k []) = some bl') (h : SQ X Q e ε ⟨σ.regs, bl', σ.nxt⟩) : SQ X Q e ε σ :=
  fun ε' a w hle hh => h _ a w (hle.trans (EnvLe.setAux _ _ _)) (hh.shut0 hl hu)

/-- An object opened, at a function's begin. -/
theorem rOpen {c : Code} {regs : Regs} {k : Nat} {bits : List Bool} (hlen : (bits.length : Int) ≤ 9223372036854775800)
    (h0 : bits = [] → ∀ ty, SW X c Q ε ⟨regs, [(0, .mem true ty none (.flat [.cs [.val (.slice none 0 0), .int .i64 0]]))], 1⟩)
    (h1 : ∀ ty, SW X c Q ε ⟨regs, [(1, .mem true k (some 1) (.flat [.ints ((bits.length + 7) / 8) .u8 (packB bits)])), (0, .mem true ty none (.flat [.cs [.sl 1 0 ((bits.length + 7) / 8) 1, .int .i64 bits.length]]))], 2⟩) :
    SW X c Q ε ⟨regs, [(0, .obj k bits)], 1⟩ := by
  intro ε' a w hle hh
  obtain ⟨e1, e2⟩ := hh.tab.ent 0 (.obj k bits) rfl
  obtain ⟨hn, hoff, ty, cap, junk, hc⟩ := e2
  have hnx : 1 = ε'.n := hh.tab.nxt
  have hmine := hh.tab.mine 0 (.obj k bits) rfl rfl
  rcases hc with ⟨rfl, haux, hheap⟩ | ⟨g, haux, hne, hcap, hheap, hg⟩
  · refine h0 rfl ty ε' a w hle ⟨hh.defers, hh.size, hh.regs, hh.tab.nxt, fun i e he => ?_, fun i j e f he hf hij => ?_, hh.tab.keep, fun i e he ho b hb => ?_⟩
    · rw [look_cons] at he
      by_cases hi : i = 0
      · rw [if_pos hi] at he
        injection he with he
        subst he hi
        refine ⟨e1, fun h => (by rw [hn] at h; cases h), fun _ => ⟨[.slice none 0 0, .int .i64 0], [], ⟨[.slice none 0 0, .int .i64 0], [], rfl, ⟨⟨rfl, rfl⟩, ⟨rfl, by simp [inK]⟩, trivial⟩, rfl⟩, fun _ => rfl, fun sz h => (by cases h), ?_⟩⟩
        simp only [if_true]
        exact ⟨hoff, hheap⟩
      · rw [if_neg hi] at he; cases he
    · rw [look_cons] at he hf
      by_cases hi : i = 0
      · by_cases hj : j = 0
        · exact absurd (hi.trans hj.symm) hij
        · rw [if_neg hj] at hf; cases hf
      · rw [if_neg hi] at he; cases he
    · rw [look_cons] at he
      by_cases hi : i = 0
      · rw [if_pos hi] at he
        injection he with he
        subst he hi
        simp [owned, hn] at hb
        subst hb
        exact hmine _ (by simp [owned])
      · rw [if_neg hi] at he; cases he
  · let L : Loc := ⟨g, 0, cap, false, []⟩
    have hle' := EnvLe.push ε' L
    have f0 : (ε'.push L).f 0 = ε'.f 0 := by rw [ε'.push_old L e1]
    have f1 : (ε'.push L).f 1 = L := by
      show (if 1 = ε'.n then L else _) = L
      rw [if_pos hnx]
    have hpl := packB_length bits
    rw [hpl] at hheap hcap
    refine h1 ty (ε'.push L) a w (hle.trans hle') ⟨hh.defers, hh.size, fun s v hs => (hh.regs s v hs).mono hle', by show 2 = ε'.n + 1; omega, fun i e he => ?_, fun i j e f he hf hij ho b hb hb' => ?_, hh.tab.keep, fun i e he ho b hb => ?_⟩
    · rw [look_cons, look_cons] at he
      by_cases hi : i = 1
      · rw [if_pos hi] at he
        injection he with he
        subst he hi
        refine ⟨by show 1 < ε'.n + 1; omega, ?_⟩
        rw [f1]
        refine ⟨fun h => (by cases h), fun _ => ⟨(packB bits).map (Value.int .u8), junk, ⟨_, [], (by rw [List.append_nil]), ⟨hpl, rfl, packB_in bits⟩, rfl⟩, fun h => (by cases h), fun sz h => ?_, ?_⟩⟩
        · injection h with h
          subst h
          show ((packB bits).map (Value.int .u8) ++ junk).length = cap * 1
          simp [hpl]; omega
        · simp only [if_true]
          exact ⟨rfl, hg⟩
      · rw [if_neg hi] at he
        by_cases hi0 : i = 0
        · rw [if_pos hi0] at he
          injection he with he
          subst he hi0
          refine ⟨by show 0 < ε'.n + 1; omega, ?_⟩
          rw [f0]
          refine ⟨fun h => (by rw [hn] at h; cases h), fun _ => ⟨[.slice (some ⟨g, 0, none⟩) ((bits.length + 7) / 8) cap, .int .i64 bits.length], [], ⟨[.slice (some ⟨g, 0, none⟩) ((bits.length + 7) / 8) cap, .int .i64 bits.length], [], rfl, ⟨⟨by show 1 < ε'.n + 1; omega, by omega, .inr ⟨by rw [f1], ?_, ?_⟩⟩, ⟨rfl, by simp only [inK]; omega⟩, trivial⟩, rfl⟩, fun _ => rfl, fun sz h => (by cases h), ?_⟩⟩
          · rw [f1]; show 0 + (bits.length + 7) / 8 ≤ cap; omega
          · rw [f1]; exact ⟨⟨g, 0, none⟩, rfl, fun _ => rfl⟩
          · simp only [if_true]
            exact ⟨hoff, hheap⟩
        · rw [if_neg hi0] at he; cases he
    · have key : ∀ i e, look [(1, E.mem true k (some 1) (.flat [.ints ((bits.length + 7) / 8) .u8 (packB bits)])), (0, E.mem true ty none (.flat [.cs [.sl 1 0 ((bits.length + 7) / 8) 1, .int .i64 bits.length]]))] i = some e → ∀ b, b ∈ owned ((ε'.push L).f i) e → (i = 1 ∧ b = g) ∨ (i = 0 ∧ b = (ε'.f 0).blk) := by
        intro i e he b hb
        rw [look_cons, look_cons] at he
        by_cases hi : i = 1
        · rw [if_pos hi] at he
          injection he with he
          subst he hi
          rw [f1] at hb
          simp [owned, L] at hb
          exact .inl ⟨rfl, hb⟩
        · rw [if_neg hi] at he
          by_cases hi0 : i = 0
          · rw [if_pos hi0] at he
            injection he with he
            subst he hi0
            rw [f0] at hb
            simp [owned, hn] at hb
            exact .inr ⟨rfl, hb⟩
          · rw [if_neg hi0] at he; cases he
      rcases key i e he b hb with ⟨rfl, r1⟩ | ⟨rfl, r1⟩ <;> rcases key j f hf b hb' with ⟨rfl, r2⟩ | ⟨rfl, r2⟩
      · exact hij rfl
      · exact hne (r1.symm.trans r2)
      · exact hne (r2.symm.trans r1)
      · exact hij rfl
    · rw [look_cons, look_cons] at he
      by_cases hi : i = 1
      · rw [if_pos hi] at he
        injection he with he
        subst he hi
        rw [f1] at hb
        simp [owned, L] at hb
        subst hb
        exact hmine _ (by simp [owned, haux])
      · rw [if_neg hi] at he
        by_cases hi0 : i = 0
        · rw [if_pos hi0] at he
          injection he with he
          subst he hi0
          rw [f0] at hb
          simp [owned, hn] at hb
          subst hb
          exact hmine _ (by simp [owned])
        · rw [if_neg hi0] at he; cases he

/-- Its struct and its bytes make an object. -/
theorem Tab.shut {bl : Blks} {nxt g k len : Nat} {ty : TypeId} {n : Int} {xs : List Int} {bits : List Bool} (h : Tab X ε bl nxt w) (hl : look bl 0 = some (.mem true ty none (.flat [.cs [.sl g 0 len 1, .int .i64 n]])))
    (hg : look bl g = some (.mem true k (some 1) (.flat [.ints len .u8 xs]))) (hne : g ≠ 0) (hx : xs = packB bits) (hn : n = bits.length) : ∃ l, Tab X (ε.setAux 0 l) [(0, .obj k bits)] nxt w := by
  obtain ⟨a1, a2⟩ := h.ent 0 _ hl
  obtain ⟨b1, b2⟩ := h.ent g _ hg
  have hnil : (ε.f 0).isnil = false := by
    cases hh : (ε.f 0).isnil with
    | false => rfl
    | true => obtain ⟨v, hv, _⟩ := two_cells (a2.1 hh).1; cases hv
  obtain ⟨vs, junk, c1, c2, c3, c4⟩ := a2.2 hnil
  simp only [if_true] at c4
  obtain ⟨v, rfl, hv, hin⟩ := two_cells c1
  rw [c2 rfl] at c4
  have m0 := h.mine 0 _ hl rfl
  have mg := h.mine g _ hg rfl
  obtain ⟨_, hlen, hv⟩ := hv
  have fin : ∀ l, RelE ε w { ε.f 0 with aux := l } (.obj k bits) → (∀ b ∈ l, X.w0.heap.size ≤ b ∨ b ∈ X.M) → Tab X (ε.setAux 0 l) [(0, .obj k bits)] nxt w := by
    intro l hobj hl'
    refine ⟨h.nxt, fun i e he => ?_, fun i j e f he hf hij => ?_, h.keep, fun i e he ho b hb => ?_⟩
    · rw [look_cons] at he
      by_cases hi : i = 0
      · rw [if_pos hi] at he
        injection he with he
        subst he hi
        rw [setAux_at]
        exact ⟨a1, hobj⟩
      · rw [if_neg hi] at he; cases he
    · rw [look_cons] at he hf
      by_cases hi : i = 0
      · by_cases hj : j = 0
        · exact absurd (hi.trans hj.symm) hij
        · rw [if_neg hj] at hf; cases hf
      · rw [if_neg hi] at he; cases he
    · rw [look_cons] at he
      by_cases hi : i = 0
      · rw [if_pos hi] at he
        injection he with he
        subst he hi
        rw [setAux_at] at hb
        rcases List.mem_cons.1 hb with hb | hb
        · subst hb; exact m0 _ (by simp [owned, hnil])
        · exact hl' b hb
      · rw [if_neg hi] at he; cases he
  rcases hv with ⟨hgn, rfl, rfl⟩ | ⟨hgn, hcap, ad, rfl, had⟩
  · obtain ⟨v1, v2, e0, ⟨e1, e2, _⟩, _⟩ := (b2.1 hgn).1
    have hb0 : bits = [] := by
      have : (packB bits).length = 0 := by rw [← hx, e1]
      rw [packB_length] at this
      exact List.length_eq_zero_iff.1 (by omega)
    subst hb0
    refine ⟨[], fin [] ⟨hnil, c4.1, ty, 0, [], .inl ⟨rfl, rfl, ?_⟩⟩ (by simp)⟩
    rw [hn] at c4
    exact c4.2
  · obtain ⟨vs, junk', d1, d2, d3, d4⟩ := b2.2 hgn
    simp only [if_true] at d4
    obtain ⟨v1, v2, rfl, ⟨e1, rfl, e2⟩, rfl⟩ := d1
    have hd := had (.inr rfl)
    rw [d4.1] at hd
    simp only [Nat.zero_mul, Nat.add_zero] at hd
    subst hd
    have hc := d3 1 rfl
    subst hx hn
    refine ⟨[(ε.f g).blk], fin [(ε.f g).blk] ⟨hnil, c4.1, ty, (ε.f g).cap, junk', .inr ⟨(ε.f g).blk, rfl, fun he => ?_, ?_, ?_, ?_⟩⟩ (fun b hb => ?_)⟩
    · refine h.sep g 0 _ _ hg hl hne rfl (ε.f g).blk (by simp [owned, hgn]) ?_
      simp only [owned, hnil, Bool.false_eq_true, if_false, List.mem_singleton]
      exact he
    · simp at hc; omega
    · rw [e1]; exact c4.2
    · rw [d4.2]; simp
    · simp only [List.mem_singleton] at hb
      subst hb
      exact mg _ (by simp [owned, hgn])

/-! ### ends -/
/-- Some entries new, some turned. -/
theorem rDoneAll {fn : Func} {ε0 : Env} {m : Nat} {ι : Nat → Nat} {lb : Blks} {r : Res} (ks : List Nat) (es : List E) (us : List (Nat × E)) (hX : XOk X) {p : Prop} {xs : List V1} (hr : resAll X.tt σ fn.results.toList = some (p, xs)) (hp : p) (hle : EnvLe ε0 ε)
    (hr' : r.r = mapV (fun j => idxN j ks) (retV xs)) (hin : inV (fun j => memN j ks) (retV xs) = true) (hn : r.new = es.map (mapE fun j => idxN j ks))
    (hks : All2 (fun k e => m ≤ k ∧ look σ.blks k = some e ∧ e.own = true ∧ inE (fun k => memN k ks) e) ks es) (hkn : ks.Nodup)
    (hu : r.up = us.map (fun q => (ι q.1, mapE ι q.2))) (hus : ∀ q ∈ us, q.1 < m ∧ look σ.blks q.1 = some q.2 ∧ q.2.own = true ∧ inE (fun k => Nat.blt k m) q.2 ∧ ∃ e, look lb q.1 = some e ∧ e.own = true)
    (hall : ∀ i e, look lb i = some e → e.own = true → ∃ q ∈ us, q.1 = i) (hud : (us.map (·.1)).Nodup) : SQ X (Post X fn ε0 m ι lb r) .ret ε σ :=
  (post_end hX hr hp hle fun v w ε' hle' hrel hT => ⟨ε', σ.blks, σ.nxt, retV xs, ks, es, us, hle', hrel, hT, hr', hin, hn, hks, hkn, hu, hus, hall, hud⟩).1

/-- One entry, handed in, turned. -/
theorem rDoneUp {fn : Func} {ε0 : Env} {ι : Nat → Nat} {e0 e : E} {r : Res} (hX : XOk X) {p : Prop} {xs : List V1} (hr : resAll X.tt σ fn.results.toList = some (p, xs)) (hp : p) (hle : EnvLe ε0 ε)
    (hr' : r.r = mapV (fun j => idxN j []) (retV xs)) (hin : inV (fun j => memN j []) (retV xs) = true) (hn : r.new = []) (he : look σ.blks 0 = some e) (ho : e.own = true) (ho0 : e0.own = true) (hie : inE (fun k => Nat.blt k 1) e)
    (hu : r.up = [(ι 0, mapE ι e)]) : SQ X (Post X fn ε0 1 ι [(0, e0)] r) .ret ε σ :=
  rDoneAll [] [] [(0, e)] hX hr hp hle hr' hin hn trivial List.nodup_nil hu (fun q hq => by
    simp only [List.mem_singleton] at hq
    subst hq
    exact ⟨Nat.zero_lt_one, he, ho, hie, e0, rfl, ho0⟩) (fun i e hi _ => by
    rw [look_cons] at hi
    by_cases h : i = 0
    · exact ⟨_, List.mem_singleton.2 rfl, h.symm⟩
    · rw [if_neg h] at hi; cases hi) (by simp)

/-- The object, opened at the begin, shut at the end. -/
theorem rDoneObj {fn : Func} {ε0 : Env} {ι : Nat → Nat} {e0 : E} {r : Res} (bits : List Bool) (hX : XOk X) {p : Prop} {xs : List V1} (hr : resAll X.tt σ fn.results.toList = some (p, xs)) (hp : p) (hle : EnvLe ε0 ε)
    (hr' : r.r = mapV (fun j => idxN j []) (retV xs)) (hin : inV (fun j => memN j []) (retV xs) = true) (hn : r.new = []) {g k len : Nat} {ty : TypeId} {n : Int} {ys : List Int}
    (hl : look σ.blks 0 = some (.mem true ty none (.flat [.cs [.sl g 0 len 1, .int .i64 n]]))) (hg : look σ.blks g = some (.mem true k (some 1) (.flat [.ints len .u8 ys]))) (hne : Nat.beq g 0 = false) (hx : ys = packB bits) (hnn : n = bits.length) (ho0 : e0.own = true)
    (hu : r.up = [(ι 0, .obj k bits)]) : SQ X (Post X fn ε0 1 ι [(0, e0)] r) .ret ε σ :=
  (post_end hX hr hp hle fun v w ε' hle' hrel hT => by
    obtain ⟨l, hT'⟩ := hT.shut hl hg (fun h => by subst h; cases hne) hx hnn
    refine ⟨ε'.setAux 0 l, [(0, .obj k bits)], σ.nxt, retV xs, [], [], [(0, .obj k bits)], hle'.trans (EnvLe.setAux _ _ _), hrel.mono (EnvLe.setAux _ _ _), hT', hr', hin, hn, trivial, List.nodup_nil, hu, fun q hq => ?_, fun i e hi _ => ?_, by simp⟩
    · simp only [List.mem_singleton] at hq
      subst hq
      exact ⟨Nat.zero_lt_one, rfl, rfl, trivial, e0, rfl, ho0⟩
    · rw [look_cons] at hi
      by_cases h : i = 0
      · exact ⟨_, List.mem_singleton.2 rfl, h.symm⟩
      · rw [if_neg h] at hi; cases hi).1
theorem rDoneObj0 {fn : Func} {ε0 : Env} {ι : Nat → Nat} {e0 : E} {r : Res} (k : Nat) (hX : XOk X) {p : Prop} {xs : List V1} (hr : resAll X.tt σ fn.results.toList = some (p, xs)) (hp : p) (hle : EnvLe ε0 ε)
    (hr' : r.r = mapV (fun j => idxN j []) (retV xs)) (hin : inV (fun j => memN j []) (retV xs) = true) (hn : r.new = []) {ty : TypeId}
    (hl : look σ.blks 0 = some (.mem true ty none (.flat [.cs [.val (.slice none 0 0), .int .i64 0]]))) (ho0 : e0.own = true)
    (hu : r.up = [(ι 0, .obj k [])]) : SQ X (Post X fn ε0 1 ι [(0, e0)] r) .ret ε σ :=
  (post_end hX hr hp hle fun v w ε' hle' hrel hT => by
    have hT' := (hT.sub (bl' := [(0, .mem true ty none (.flat [.cs [.val (.slice none 0 0), .int .i64 0]]))]) (fun i e hi => by
      rw [look_cons] at hi
      by_cases h : i = 0
      · rw [if_pos h] at hi; injection hi with hi; subst hi h; exact hl
      · rw [if_neg h] at hi; cases hi)).shut0 (id := 0) (k := k) rfl rfl
    refine ⟨ε'.setAux 0 [], [(0, .obj k [])], σ.nxt, retV xs, [], [], [(0, .obj k [])], hle'.trans (EnvLe.setAux _ _ _), hrel.mono (EnvLe.setAux _ _ _), hT', hr', hin, hn, trivial, List.nodup_nil, hu, fun q hq => ?_, fun i e hi _ => ?_, by simp⟩
    · simp only [List.mem_singleton] at hq
      subst hq
      exact ⟨Nat.zero_lt_one, rfl, rfl, trivial, e0, rfl, ho0⟩
    · rw [look_cons] at hi
      by_cases h : i = 0
      · exact ⟨_, List.mem_singleton.2 rfl, h.symm⟩
      · rw [if_neg h] at hi; cases hi).1
end
end Go.X
