/- Steps that change no memory: rows told as values that stay, nil slices told as empty rows, objects opened and shut; ends with new and turned entries. -/
import Derived.Test.YtbcgkdigfkapcaaDoorL9
set_option linter.unusedVariables false
namespace Go.X

/-! ### rows that stay -/
def frzB (e : Sh) : Body → Option (List e.den)
  | .lst e' xs => castL e' e xs
  | .rows n sz f => match Nat.beq sz e.size with
    | true => closeN e f n 0
    | false => none
  | .flat [.ints n k xs] => castL (.int k) e xs
  | _ => none
theorem ints_lst {z : Zp} {k : IntKind} {xs : List Int} (h2 : ∀ x ∈ xs, inK k x) : (xs.map (Value.int k)).length = xs.length * 1 ∧ ∀ i x, xs[i]? = some x → RelZ z (.int k) x (((xs.map (Value.int k)).drop (i * 1)).take 1) := by
  refine ⟨by simp, fun i x hi => ?_⟩
  refine ⟨?_, h2 x (List.mem_of_getElem? hi)⟩
  have hx : (List.map (Value.int k) xs)[i]? = some (Value.int k x) := by rw [List.getElem?_map]; exact congrArg _ hi
  obtain ⟨hl, hg⟩ := List.getElem?_eq_some_iff.1 hx
  rw [Nat.mul_one, List.drop_eq_getElem_cons hl, hg]
  rfl
theorem frzB_rel {ε : Env} {e : Sh} {b : Body} {xs : List e.den} {vs : List Value} (h : frzB e b = some xs) (hr : RelB ε b vs) : RelB ε (.lst e xs) vs := by
  unfold frzB at h
  split at h
  · obtain ⟨rfl, rfl⟩ := castL_some h
    exact hr
  · split at h
    · rename_i hsz
      have := Nat.eq_of_beq_eq_true hsz
      subst this
      exact closeN_rel h hr
    · cases h
  · obtain ⟨rfl, rfl⟩ := castL_some h
    obtain ⟨v1, v2, rfl, ⟨h1, rfl, h2⟩, rfl⟩ := hr
    rw [List.append_nil]
    exact ints_lst h2
  · cases h

def frzC (g : Nat) (e : Sh) (xs : List e.den) : C → C → Prop
  | .sl i a l z, .fz e' ys => (i = g ∧ a = 0 ∧ z = e.size) ∧ l = xs.length ∧ castL e e' xs = some ys
  | c, c' => c = c'
def nilC (g sz : Nat) : C → C → Prop
  | .val (.slice none 0 0), .sl i a l z => i = g ∧ a = 0 ∧ l = 0 ∧ z = sz
  | c, c' => c = c'

/-! ### one state's cells told as another one's -/
def lftCs (ρ : C → C → Prop) : List C → List C → Prop
  | [], [] => True
  | a :: s, b :: t => ρ a b ∧ lftCs ρ s t
  | _, _ => False
def lftS (ρ : C → C → Prop) : S0 → S0 → Prop
  | .cs l, .cs l' => lftCs ρ l l'
  | s, s' => s = s'
def lftL (ρ : C → C → Prop) : List S0 → List S0 → Prop
  | [], [] => True
  | a :: s, b :: t => lftS ρ a b ∧ lftL ρ s t
  | _, _ => False
def lft1 (ρ : C → C → Prop) : V1 → V1 → Prop
  | .c c, .c c' => ρ c c'
  | .agg l, .agg l' => lftL ρ l l'
  | _, _ => False
def lft1s (ρ : C → C → Prop) : List V1 → List V1 → Prop
  | [], [] => True
  | a :: s, b :: t => lft1 ρ a b ∧ lft1s ρ s t
  | _, _ => False
def lftV (ρ : C → C → Prop) : SV → SV → Prop
  | .v x, .v y => lft1 ρ x y
  | .tup l, .tup l' => lft1s ρ l l'
  | v, v' => v = v'
def lftB (ρ : C → C → Prop) : Body → Body → Prop
  | .flat l, .flat l' => lftL ρ l l'
  | b, b' => b = b'
def lftE (ρ : C → C → Prop) : E → E → Prop
  | .mem o ty tl b, .mem o' ty' tl' b' => (o = o' ∧ ty = ty' ∧ tl = tl') ∧ lftB ρ b b'
  | e, e' => e = e'
def lftR (ρ : C → C → Prop) (r : Regs) : Regs → Prop
  | [] => True
  | (s, v') :: t => (match look r s with
    | some v => lftV ρ v v'
    | none => False) ∧ lftR ρ r t
def lftBl (ρ : C → C → Prop) (g : Nat) (r : Blks) : Blks → Prop
  | [] => True
  | (i, e') :: t => (Nat.beq i g = false ∧ (match look r i with
    | some e => lftE ρ e e'
    | none => False)) ∧ lftBl ρ g r t
section
variable {ε ε' : Env} {ρ : C → C → Prop}
theorem lftCs_ok (hρ : ∀ c c' v, ρ c c' → RelC ε c v → RelC ε' c' v) : ∀ {l l' : List C} {vs : List Value}, lftCs ρ l l' → All2 (RelC ε) l vs → All2 (RelC ε') l' vs
  | [], [], vs, _, h => by cases vs with
    | nil => trivial
    | cons => exact h.elim
  | [], _ :: _, _, h, _ => h.elim
  | _ :: _, [], _, h, _ => h.elim
  | _ :: _, _ :: _, [], _, hv => hv.elim
  | _ :: _, _ :: _, _ :: _, h, hv => ⟨hρ _ _ _ h.1 hv.1, lftCs_ok hρ h.2 hv.2⟩
theorem lftS_ok (hle : EnvLe ε ε') (hρ : ∀ c c' v, ρ c c' → RelC ε c v → RelC ε' c' v) {s s' : S0} {vs : List Value} (h : lftS ρ s s') (hs : RelS ε s vs) : RelS ε' s' vs := by
  unfold lftS at h
  split at h
  · exact lftCs_ok hρ h hs
  · subst h; exact RelS.mono hle hs
theorem lftL_ok (hle : EnvLe ε ε') (hρ : ∀ c c' v, ρ c c' → RelC ε c v → RelC ε' c' v) : ∀ {l l' : List S0} {vs : List Value}, lftL ρ l l' → RelL ε l vs → RelL ε' l' vs
  | [], [], _, _, h => h
  | [], _ :: _, _, h, _ => h.elim
  | _ :: _, [], _, h, _ => h.elim
  | _ :: _, _ :: _, _, h, ⟨v1, v2, e, h1, h2⟩ => ⟨v1, v2, e, lftS_ok hle hρ h.1 h1, lftL_ok hle hρ h.2 h2⟩
theorem lft1_ok (hle : EnvLe ε ε') (hρ : ∀ c c' v, ρ c c' → RelC ε c v → RelC ε' c' v) {x y : V1} {v : Value} (h : lft1 ρ x y) (hv : Rel1 ε x v) : Rel1 ε' y v := by
  unfold lft1 at h
  split at h
  · exact hρ _ _ _ h hv
  · obtain ⟨vs, e, hv⟩ := hv; exact ⟨vs, e, lftL_ok hle hρ h hv⟩
  · exact h.elim
theorem lft1s_ok (hle : EnvLe ε ε') (hρ : ∀ c c' v, ρ c c' → RelC ε c v → RelC ε' c' v) : ∀ {l l' : List V1} {vs : List Value}, lft1s ρ l l' → All2 (Rel1 ε) l vs → All2 (Rel1 ε') l' vs
  | [], [], vs, _, h => by cases vs with
    | nil => trivial
    | cons => exact h.elim
  | [], _ :: _, _, h, _ => h.elim
  | _ :: _, [], _, h, _ => h.elim
  | _ :: _, _ :: _, [], _, hv => hv.elim
  | _ :: _, _ :: _, _ :: _, h, hv => ⟨lft1_ok hle hρ h.1 hv.1, lft1s_ok hle hρ h.2 hv.2⟩
theorem lftV_ok (hle : EnvLe ε ε') (hρ : ∀ c c' v, ρ c c' → RelC ε c v → RelC ε' c' v) {x y : SV} {v : Value} (h : lftV ρ x y) (hv : RelV ε x v) : RelV ε' y v := by
  unfold lftV at h
  split at h
  · exact lft1_ok hle hρ h hv
  · obtain ⟨vs, e, hv⟩ := hv; exact ⟨vs, e, lft1s_ok hle hρ h hv⟩
  · subst h; exact hv.mono hle
theorem lftB_ok (hle : EnvLe ε ε') (hρ : ∀ c c' v, ρ c c' → RelC ε c v → RelC ε' c' v) {x y : Body} {vs : List Value} (h : lftB ρ x y) (hv : RelB ε x vs) : RelB ε' y vs := by
  unfold lftB at h
  split at h
  · exact lftL_ok hle hρ h hv
  · subst h; exact RelB.mono hle hv
theorem lftE_ok (hle : EnvLe ε ε') (hρ : ∀ c c' v, ρ c c' → RelC ε c v → RelC ε' c' v) {x y : E} {w : World} {L : Loc} (h : lftE ρ x y) (hv : RelE ε w L x) : RelE ε' w L y ∧ y.own = x.own ∧ owned L y = owned L x := by
  unfold lftE at h
  split at h
  · obtain ⟨⟨rfl, rfl, rfl⟩, h⟩ := h
    refine ⟨⟨fun hn => ⟨lftB_ok hle hρ h (hv.1 hn).1, (hv.1 hn).2⟩, fun hn => ?_⟩, rfl, rfl⟩
    obtain ⟨vs, junk, hb, h1⟩ := hv.2 hn
    exact ⟨vs, junk, lftB_ok hle hρ h hb, h1⟩
  · subst h; exact ⟨hv.mono hle, rfl, rfl⟩
end
theorem lftR_at {ρ : C → C → Prop} {r : Regs} : ∀ {t : Regs}, lftR ρ r t → ∀ s v', look t s = some v' → ∃ v, look r s = some v ∧ lftV ρ v v'
  | [], _, s, v', h => by cases h
  | (k, x) :: t, hr, s, v', h => by
    rw [look_cons] at h
    split at h
    · rename_i hk
      injection h with h
      subst h hk
      have h1 := hr.1
      cases hl : look r s with
      | none => simp only [hl] at h1
      | some v => simp only [hl] at h1; exact ⟨v, rfl, h1⟩
    · exact lftR_at hr.2 s v' h
theorem lftBl_at {ρ : C → C → Prop} {g : Nat} {r : Blks} : ∀ {t : Blks}, lftBl ρ g r t → ∀ i e', look t i = some e' → i ≠ g ∧ ∃ e, look r i = some e ∧ lftE ρ e e'
  | [], _, i, e', h => by cases h
  | (k, x) :: t, hr, i, e', h => by
    rw [look_cons] at h
    split at h
    · rename_i hk
      injection h with h
      subst h hk
      obtain ⟨h0, h1⟩ := hr.1
      refine ⟨fun e => (by rw [e, Nat.beq_refl] at h0; cases h0), ?_⟩
      cases hl : look r i with
      | none => simp only [hl] at h1
      | some v => simp only [hl] at h1; exact ⟨v, rfl, h1⟩
    · exact lftBl_at hr.2 i e' h

/-- What the places of row g hold, now that it stays. -/
def FrzAt (ε ε' : Env) (g : Nat) (e : Sh) (xs : List e.den) : Prop :=
  ∀ l v, l = xs.length → RelC ε (.sl g 0 l e.size) v → SlZ ε'.z e.size (RelZ ε'.z e) xs v
theorem frzC_ok {ε ε' : Env} {g : Nat} {e : Sh} {xs : List e.den} (hle : EnvLe ε ε') (hF : FrzAt ε ε' g e xs) (c c' : C) (v : Value) (h : frzC g e xs c c') (hc : RelC ε c v) : RelC ε' c' v := by
  unfold frzC at h
  split at h
  · obtain ⟨⟨rfl, rfl, rfl⟩, h2, h3⟩ := h
    obtain ⟨rfl, rfl⟩ := castL_some h3
    exact hF _ _ h2 hc
  · subst h; exact hc.mono hle
theorem nilC_ok {ε : Env} {sz : Nat} (c c' : C) (v : Value) (h : nilC ε.n sz c c') (hc : RelC ε c v) : RelC (ε.push ⟨0, 0, 0, true, []⟩) c' v := by
  unfold nilC at h
  split at h
  · obtain ⟨rfl, rfl, rfl, rfl⟩ := h
    obtain ⟨rfl, _⟩ := hc
    exact ⟨Nat.lt_succ_self _, by omega, .inl ⟨by rw [ε.push_new], rfl, rfl⟩⟩
  · subst h; exact hc.mono (EnvLe.push _ _)

def Env.frz (ε : Env) (b : Nat) (o : Obj) : Env := ⟨ε.n, ε.f, fun k => if k = b then some o else ε.z k⟩
section
variable {X : Ctx} {ε : Env} {σ : Sig} {a : Act} {w : World} {Q : Exit → Act → World → Prop}
theorem Holds.freeze {g ty : Nat} {e : Sh} {b : Body} {xs : List e.den} {r : Regs} {bl : Blks} (hg : look σ.blks g = some (.mem true ty (some e.size) b)) (hb : frzB e b = some xs)
    (hr : lftR (frzC g e xs) σ.regs r) (hbl : lftBl (frzC g e xs) g σ.blks bl) (h : Holds X ε σ a w) :
    ∃ ε', EnvLe ε ε' ∧ Holds X ε' ⟨r, bl, σ.nxt⟩ a w := by
  obtain ⟨g1, g2⟩ := h.tab.ent g _ hg
  cases hn : (ε.f g).isnil with
  | true =>
    obtain ⟨h1, h2⟩ := g2.1 hn
    have h3 := frzB_rel hb h1
    have hF : FrzAt ε ε g e xs := by
      intro l v hl ⟨q1, q2, q3⟩
      rcases q3 with ⟨_, rfl, hl0⟩ | ⟨q, _⟩
      · have : xs = [] := List.length_eq_zero_iff.1 (by omega)
        subst this
        exact SlZ.nil
      · rw [hn] at q; cases q
    have hρ := fun c c' v => frzC_ok (EnvLe.refl ε) hF c c' v
    refine ⟨ε, EnvLe.refl _, h.defers, h.size, fun t u hu => ?_, h.tab.nxt, fun i e1 he => ?_, fun i j e1 f he hf hne ho b' hb' => ?_, h.tab.keep, fun i e1 he ho b' hb' => ?_, fun b' o hz => ⟨(h.tab.froz b' o hz).1, fun i e1 he ho hm => ?_⟩, h.tab.newz⟩
    · obtain ⟨v, h4, h5⟩ := lftR_at hr t u hu
      exact lftV_ok (EnvLe.refl _) hρ h5 (h.regs _ _ h4)
    · obtain ⟨_, e0, h4, h5⟩ := lftBl_at hbl i e1 he
      exact ⟨(h.tab.ent i e0 h4).1, (lftE_ok (EnvLe.refl _) hρ h5 (h.tab.ent i e0 h4).2).1⟩
    · obtain ⟨_, e0, h4, h5⟩ := lftBl_at hbl i e1 he
      obtain ⟨_, f0, h6, h7⟩ := lftBl_at hbl j f hf
      obtain ⟨_, k1, k2⟩ := lftE_ok (EnvLe.refl _) hρ h5 (h.tab.ent i e0 h4).2
      obtain ⟨_, _, k3⟩ := lftE_ok (EnvLe.refl _) hρ h7 (h.tab.ent j f0 h6).2
      rw [k2] at hb'; rw [k3]
      exact h.tab.sep i j e0 f0 h4 h6 hne (by rw [← k1]; exact ho) b' hb'
    · obtain ⟨_, e0, h4, h5⟩ := lftBl_at hbl i e1 he
      obtain ⟨_, k1, k2⟩ := lftE_ok (EnvLe.refl _) hρ h5 (h.tab.ent i e0 h4).2
      rw [k2] at hb'
      exact h.tab.mine i e0 h4 (by rw [← k1]; exact ho) b' hb'
    · obtain ⟨_, e0, h4, h5⟩ := lftBl_at hbl i e1 he
      obtain ⟨_, k1, k2⟩ := lftE_ok (EnvLe.refl _) hρ h5 (h.tab.ent i e0 h4).2
      rw [k2] at hm
      exact (h.tab.froz b' o hz).2 i e0 h4 (by rw [← k1]; exact ho) hm
  | false =>
    obtain ⟨vs, junk, h1, h2, h3, h4⟩ := g2.2 hn
    simp only [if_true] at h4
    obtain ⟨h40, h41⟩ := h4
    have h5 := frzB_rel hb h1
    have hown : ∀ x, x ∈ owned (ε.f g) (E.mem true ty (some e.size) b) ↔ x = (ε.f g).blk := by intro x; simp [owned, hn]
    let o : Obj := .cells (vs ++ junk).toArray ty (0, 0)
    have hnz : ∀ q, ε.z (ε.f g).blk ≠ some q := fun q hq => (h.tab.froz _ q hq).2 g _ hg rfl ((hown _).2 rfl)
    have hle : EnvLe ε (ε.frz (ε.f g).blk o) := by
      refine ⟨Nat.le_refl _, fun _ _ => rfl, fun _ _ => rfl, fun _ _ => rfl, fun _ _ => rfl, fun b q hq => ?_⟩
      show (if b = (ε.f g).blk then some o else ε.z b) = some q
      rw [if_neg]
      · exact hq
      · intro e; rw [e] at hq; exact hnz q hq
    have hF : FrzAt ε (ε.frz (ε.f g).blk o) g e xs := by
      intro l v hl ⟨q1, q2, q3⟩
      rcases q3 with ⟨q, _⟩ | ⟨_, q4, ad, rfl, q5⟩
      · rw [hn] at q; cases q
      · have q6 := q5 (.inr rfl)
        subst hl
        refine ⟨some ad, (ε.f g).cap - 0, rfl, by omega, q2, (fun h => by cases h), fun _ => ⟨(ε.f g).blk, 0, ?_, fun i x hi => ?_⟩⟩
        · rw [q6, h40]; simp
        · have h6 := RelZ.mono hle.z e (h5.2 i x hi)
          refine ⟨_, h6, RelZ.length e h6, fun j c hc => ?_⟩
          have hz : zcell (ε.frz (ε.f g).blk o).z (ε.f g).blk (0 + i * e.size + j) = (vs ++ junk).toArray[0 + i * e.size + j]? := by
            unfold zcell Env.frz
            simp only [if_true]
            rfl
          rw [hz, List.getElem?_toArray]
          rw [List.getElem?_take] at hc
          split at hc
          · rw [List.getElem?_drop] at hc
            rw [List.getElem?_append_left (by have := (List.getElem?_eq_some_iff.1 hc).1; omega), Nat.zero_add]
            exact hc
          · cases hc
    have hρ := fun c c' v => frzC_ok hle hF c c' v
    refine ⟨ε.frz (ε.f g).blk o, hle, h.defers, h.size, fun t u hu => ?_, h.tab.nxt, fun i e1 he => ?_, fun i j e1 f he hf hne ho b' hb' => ?_, h.tab.keep, fun i e1 he ho b' hb' => ?_, fun b' q hz => ?_, fun b' q hz => ?_⟩
    · obtain ⟨v, h4, h5⟩ := lftR_at hr t u hu
      exact lftV_ok hle hρ h5 (h.regs _ _ h4)
    · obtain ⟨_, e0, h4, h5⟩ := lftBl_at hbl i e1 he
      exact ⟨(h.tab.ent i e0 h4).1, (lftE_ok hle hρ h5 (h.tab.ent i e0 h4).2).1⟩
    · obtain ⟨_, e0, h4, h5⟩ := lftBl_at hbl i e1 he
      obtain ⟨_, f0, h6, h7⟩ := lftBl_at hbl j f hf
      obtain ⟨_, k1, k2⟩ := lftE_ok hle hρ h5 (h.tab.ent i e0 h4).2
      obtain ⟨_, _, k3⟩ := lftE_ok hle hρ h7 (h.tab.ent j f0 h6).2
      have k2' : owned (ε.f i) e1 = owned (ε.f i) e0 := k2
      have k3' : owned (ε.f j) f = owned (ε.f j) f0 := k3
      show b' ∉ owned (ε.f j) f
      have hb'' : b' ∈ owned (ε.f i) e1 := hb'
      rw [k2'] at hb''; rw [k3']
      exact h.tab.sep i j e0 f0 h4 h6 hne (by rw [← k1]; exact ho) b' hb''
    · obtain ⟨_, e0, h4, h5⟩ := lftBl_at hbl i e1 he
      obtain ⟨_, k1, k2⟩ := lftE_ok hle hρ h5 (h.tab.ent i e0 h4).2
      have hb'' : b' ∈ owned (ε.f i) e1 := hb'
      rw [k2] at hb''
      exact h.tab.mine i e0 h4 (by rw [← k1]; exact ho) b' hb''
    · have hz' : (if b' = (ε.f g).blk then some o else ε.z b') = some q := hz
      split at hz'
      · rename_i hb'
        injection hz' with hz'
        subst hz' hb'
        refine ⟨h41, fun i e1 he ho hm => ?_⟩
        obtain ⟨hne, e0, h4, h5⟩ := lftBl_at hbl i e1 he
        obtain ⟨_, k1, k2⟩ := lftE_ok hle hρ h5 (h.tab.ent i e0 h4).2
        have hm' : (ε.f g).blk ∈ owned (ε.f i) e1 := hm
        rw [k2] at hm'
        exact h.tab.sep i g e0 _ h4 hg hne (by rw [← k1]; exact ho) _ hm' ((hown _).2 rfl)
      · refine ⟨(h.tab.froz b' q hz').1, fun i e1 he ho hm => ?_⟩
        obtain ⟨hne, e0, h4, h5⟩ := lftBl_at hbl i e1 he
        obtain ⟨_, k1, k2⟩ := lftE_ok hle hρ h5 (h.tab.ent i e0 h4).2
        have hm' : b' ∈ owned (ε.f i) e1 := hm
        rw [k2] at hm'
        exact (h.tab.froz b' q hz').2 i e0 h4 (by rw [← k1]; exact ho) hm'
    · have hz' : (if b' = (ε.f g).blk then some o else ε.z b') = some q := hz
      split at hz'
      · rename_i hb'
        subst hb'
        exact .inr (h.tab.mine g _ hg rfl _ ((hown _).2 rfl))
      · exact h.tab.newz b' q hz'
/-- A row, told as a value that stays. -/
theorem rFreeze (g : Nat) {ty : Nat} (e : Sh) (xs : List e.den) {b : Body} (r : Regs) (bl : Blks) {c : Code} (hg : look σ.blks g = some (.mem true ty (some e.size) b)) (hb : frzB e b = some xs)
    (hr : lftR (frzC g e xs) σ.regs r) (hbl : lftBl (frzC g e xs) g σ.blks bl) (k : SW X c Q ε ⟨r, bl, σ.nxt⟩) : SW X c Q ε σ := fun ε' a w hle hh => by
  obtain ⟨ε'', h1, h2⟩ := hh.freeze hg hb hr hbl
  exact k ε'' a w (hle.trans h1) h2
theorem rFreezeQ (g : Nat) {ty : Nat} (e : Sh) (xs : List e.den) {b : Body} (r : Regs) (bl : Blks) {x : Exit} (hg : look σ.blks g = some (.mem true ty (some e.size) b)) (hb : frzB e b = some xs)
    (hr : lftR (frzC g e xs) σ.regs r) (hbl : lftBl (frzC g e xs) g σ.blks bl) (k : SQ X Q x ε ⟨r, bl, σ.nxt⟩) : SQ X Q x ε σ := fun ε' a w hle hh => by
  obtain ⟨ε'', h1, h2⟩ := hh.freeze hg hb hr hbl
  exact k ε'' a w (hle.trans h1) h2
theorem Holds.lst {g ty : Nat} {e : Sh} {b : Body} {xs : List e.den} {bl : Blks} (hg : look σ.blks g = some (.mem true ty (some e.size) b)) (hb : frzB e b = some xs) (hu : upd σ.blks g (.mem true ty (some e.size) (.lst e xs)) = some bl) (h : Holds X ε σ a w) :
    Holds X ε ⟨σ.regs, bl, σ.nxt⟩ a w := by
  have old : ∀ {i e'}, look bl i = some e' → ∃ e0, look σ.blks i = some e0 ∧ RelE ε w (ε.f i) e' ∧ e'.own = e0.own ∧ owned (ε.f i) e' = owned (ε.f i) e0 := by
    intro i e' he
    rw [look_upd hu] at he
    split at he
    · rename_i hi
      injection he with he
      subst he hi
      refine ⟨_, hg, ?_, rfl, rfl⟩
      have h1 := (h.tab.ent _ _ hg).2
      refine ⟨fun hn => ⟨frzB_rel hb (h1.1 hn).1, (h1.1 hn).2⟩, fun hn => ?_⟩
      obtain ⟨vs, junk, h2, h3⟩ := h1.2 hn
      exact ⟨vs, junk, frzB_rel hb h2, h3⟩
    · exact ⟨e', he, (h.tab.ent i e' he).2, rfl, rfl⟩
  refine ⟨h.defers, h.size, h.regs, h.tab.nxt, fun i e' he => ?_, fun i j e1 f he hf hne ho b' hb' => ?_, h.tab.keep, fun i e' he ho b' hb' => ?_, fun b' o hz => ⟨(h.tab.froz b' o hz).1, fun i e' he ho hm => ?_⟩, h.tab.newz⟩
  · obtain ⟨e0, h1, h2, _⟩ := old he
    exact ⟨(h.tab.ent i e0 h1).1, h2⟩
  · obtain ⟨e0, h1, h2, h3, h4⟩ := old he
    obtain ⟨f0, g1, g2, g3, g4⟩ := old hf
    rw [h4] at hb'; rw [g4]
    exact h.tab.sep i j e0 f0 h1 g1 hne (by rw [← h3]; exact ho) b' hb'
  · obtain ⟨e0, h1, h2, h3, h4⟩ := old he
    rw [h4] at hb'
    exact h.tab.mine i e0 h1 (by rw [← h3]; exact ho) b' hb'
  · obtain ⟨e0, h1, h2, h3, h4⟩ := old he
    rw [h4] at hm
    exact (h.tab.froz b' o hz).2 i e0 h1 (by rw [← h3]; exact ho) hm
/-- Rows told one by one, told as a list. -/
theorem rLst (g : Nat) {ty : Nat} (e : Sh) (xs : List e.den) {b : Body} {bl : Blks} {c : Code} (hg : look σ.blks g = some (.mem true ty (some e.size) b)) (hb : frzB e b = some xs) (hu : upd σ.blks g (.mem true ty (some e.size) (.lst e xs)) = some bl)
    (k : SW X c Q ε ⟨σ.regs, bl, σ.nxt⟩) : SW X c Q ε σ := fun ε' a w hle hh => k ε' a w hle (hh.lst hg hb hu)
theorem rLstQ (g : Nat) {ty : Nat} (e : Sh) (xs : List e.den) {b : Body} {bl : Blks} {x : Exit} (hg : look σ.blks g = some (.mem true ty (some e.size) b)) (hb : frzB e b = some xs) (hu : upd σ.blks g (.mem true ty (some e.size) (.lst e xs)) = some bl)
    (k : SQ X Q x ε ⟨σ.regs, bl, σ.nxt⟩) : SQ X Q x ε σ := fun ε' a w hle hh => k ε' a w hle (hh.lst hg hb hu)
theorem nil_lst (e : Sh) : ∀ ε, RelB ε (.lst e []) [] := fun ε => ⟨by simp, fun i x hi => by simp at hi⟩

theorem Holds.nilRows {ty sz : Nat} {b : Body} {r : Regs} {bl : Blks} (hbd : ∀ ε, RelB ε b []) (hr : lftR (nilC σ.nxt sz) σ.regs r) (hbl : lftBl (nilC σ.nxt sz) σ.nxt σ.blks bl) (h : Holds X ε σ a w) :
    Holds X (ε.push ⟨0, 0, 0, true, []⟩) ⟨r, (σ.nxt, .mem true ty (some sz) b) :: bl, σ.nxt + 1⟩ a w := by
  have hn : σ.nxt = ε.n := h.tab.nxt
  have hle := EnvLe.push ε ⟨0, 0, 0, true, []⟩
  have hρ : ∀ c c' v, nilC σ.nxt sz c c' → RelC ε c v → RelC (ε.push ⟨0, 0, 0, true, []⟩) c' v := by rw [hn]; exact nilC_ok
  have hnew : (ε.push ⟨0, 0, 0, true, []⟩).f σ.nxt = ⟨0, 0, 0, true, []⟩ := by rw [hn]; exact ε.push_new _
  have old : ∀ {i e'}, look bl i = some e' → i ≠ σ.nxt ∧ i < ε.n ∧ (ε.push ⟨0, 0, 0, true, []⟩).f i = ε.f i ∧ ∃ e0, look σ.blks i = some e0 ∧ RelE (ε.push ⟨0, 0, 0, true, []⟩) w (ε.f i) e' ∧ e'.own = e0.own ∧ owned (ε.f i) e' = owned (ε.f i) e0 := by
    intro i e' he
    obtain ⟨h1, e0, h2, h3⟩ := lftBl_at hbl i e' he
    have h4 := h.tab.ent i e0 h2
    obtain ⟨k0, k1, k2⟩ := lftE_ok hle hρ h3 h4.2
    exact ⟨h1, h4.1, ε.push_old _ h4.1, e0, h2, k0, k1, k2⟩
  refine ⟨h.defers, h.size, fun t v hv => ?_, by show σ.nxt + 1 = ε.n + 1; omega, fun i e he => ?_, fun i j e f he hf hne ho b' hb hb' => ?_, h.tab.keep, fun i e he ho b' hb => ?_, fun b' ob hz => ?_, h.tab.newz⟩
  · obtain ⟨v0, h1, h2⟩ := lftR_at hr t v hv
    exact lftV_ok hle hρ h2 (h.regs t v0 h1)
  · rw [look_cons] at he
    by_cases e' : i = σ.nxt
    · rw [if_pos e'] at he
      injection he with he
      subst he e'
      refine ⟨by show σ.nxt < ε.n + 1; omega, ?_⟩
      rw [hnew]
      exact ⟨fun _ => ⟨hbd _, rfl⟩, fun hh => by cases hh⟩
    · rw [if_neg e'] at he
      obtain ⟨h1, h2, h3, e0, h4, h5, h6, h7⟩ := old he
      rw [h3]
      exact ⟨by show i < ε.n + 1; omega, h5⟩
  · rw [look_cons] at he hf
    by_cases ei : i = σ.nxt
    · rw [if_pos ei] at he
      injection he with he
      subst he ei
      rw [hnew] at hb
      simp [owned] at hb
    · rw [if_neg ei] at he
      obtain ⟨h1, h2, h3, e0, h4, h5, h6, h7⟩ := old he
      rw [h3, h7] at hb
      by_cases ej : j = σ.nxt
      · rw [if_pos ej] at hf
        injection hf with hf
        subst hf ej
        rw [hnew] at hb'
        simp [owned] at hb'
      · rw [if_neg ej] at hf
        obtain ⟨g1, g2, g3, f0, g4, g5, g6, g7⟩ := old hf
        rw [g3, g7] at hb'
        exact h.tab.sep i j e0 f0 h4 g4 hne (by rw [← h6]; exact ho) b' hb hb'
  · rw [look_cons] at he
    by_cases ei : i = σ.nxt
    · rw [if_pos ei] at he
      injection he with he
      subst he ei
      rw [hnew] at hb
      simp [owned] at hb
    · rw [if_neg ei] at he
      obtain ⟨h1, h2, h3, e0, h4, h5, h6, h7⟩ := old he
      rw [h3, h7] at hb
      exact h.tab.mine i e0 h4 (by rw [← h6]; exact ho) b' hb
  · obtain ⟨g1, g2⟩ := h.tab.froz b' ob hz
    refine ⟨g1, fun i e he ho hm => ?_⟩
    rw [look_cons] at he
    by_cases ei : i = σ.nxt
    · rw [if_pos ei] at he
      injection he with he
      subst he ei
      rw [hnew] at hm
      simp [owned] at hm
    · rw [if_neg ei] at he
      obtain ⟨h1, h2, h3, e0, h4, h5, h6, h7⟩ := old he
      rw [h3, h7] at hm
      exact g2 i e0 h4 (by rw [← h6]; exact ho) hm
/-- A nil slice, told as an empty row. -/
theorem rNil (ty sz : Nat) (b : Body) (r : Regs) (bl : Blks) {c : Code} (hbd : ∀ ε, RelB ε b []) (hr : lftR (nilC σ.nxt sz) σ.regs r) (hbl : lftBl (nilC σ.nxt sz) σ.nxt σ.blks bl)
    (k : SW X c Q ε ⟨r, (σ.nxt, .mem true ty (some sz) b) :: bl, σ.nxt + 1⟩) : SW X c Q ε σ := fun ε' a w hle hh => k _ a w (hle.trans (EnvLe.push _ _)) (hh.nilRows hbd hr hbl)
theorem rNilQ (ty sz : Nat) (b : Body) (r : Regs) (bl : Blks) {x : Exit} (hbd : ∀ ε, RelB ε b []) (hr : lftR (nilC σ.nxt sz) σ.regs r) (hbl : lftBl (nilC σ.nxt sz) σ.nxt σ.blks bl)
    (k : SQ X Q x ε ⟨r, (σ.nxt, .mem true ty (some sz) b) :: bl, σ.nxt + 1⟩) : SQ X Q x ε σ := fun ε' a w hle hh => k _ a w (hle.trans (EnvLe.push _ _)) (hh.nilRows hbd hr hbl)

/-- Up to the first operation that the executor does not take. -/
theorem rSLStop (md : Md) {ops l rest : List Oper} {σ' : Sig} {p : Prop} (hX : XOk X) (hk : opersB l = true) (hd : dstsB X.nt l = true) (he : execKL X.tt X.kt X.gt md ops l σ = .stop p σ' rest) (hp : p) (hn : SL X ops Q rest ε σ') : SL X ops Q l ε σ := by
  rw [execKL_eq] at he
  exact (execL_upto hX l rest σ σ' True p hk hd he hp fun _ _ => hn).1
theorem rJoinKL {α R : Type} {K : α → Option R} {F : (α → Option R) → Option R} {x : R} (hT : joinK K F = some x) (S : α → Sig) {ops l : List Oper} (hj : ∀ v, K v = some x → SQ X Q .normal ε (S v)) (h : ∀ k : α → Option R, (∀ v, k v = some x → SQ X Q .normal ε (S v)) → F k = some x → SL X ops Q l ε σ) : SL X ops Q l ε σ := h K hj hT
def unpB (ys : List Int) (n : Int) : List Bool := (unpack ys).take n.toNat

/-! ### objects -/
/-- An object opened, at a function's begin: its bytes are a row. -/
theorem rOpen1 {c : Code} {regs : Regs} {k : Nat} {bits : List Bool} (hlen : (bits.length : Int) ≤ 9223372036854775800) (hre : lftR (nilC 1 1) regs regs)
    (h1 : ∀ ty, SW X c Q ε ⟨regs, [(1, .mem true k (some 1) (.flat [.ints ((bits.length + 7) / 8) .u8 (packB bits)])), (0, .mem true ty none (.flat [.cs [.sl 1 0 ((bits.length + 7) / 8) 1, .int .i64 bits.length]]))], 2⟩) :
    SW X c Q ε ⟨regs, [(0, .obj k bits)], 1⟩ := by
  refine rOpen hlen (fun hb ty => ?_) h1
  subst hb
  exact rNil (σ := ⟨regs, [(0, .mem true ty none (.flat [.cs [.val (.slice none 0 0), .int .i64 0]]))], 1⟩) k 1 (.flat [.ints 0 .u8 []]) regs [(0, .mem true ty none (.flat [.cs [.sl 1 0 0 1, .int .i64 0]]))] (nil_ints .u8) hre
    ⟨⟨rfl, ⟨rfl, rfl, rfl⟩, ⟨⟨rfl, rfl, rfl, rfl⟩, rfl, trivial⟩, trivial⟩, trivial⟩ (h1 ty)

theorem cTl {α : Type} {b : Bool} {x y : α} (h : b = true) : (bif b then x else y) = x := by rw [h]; rfl
theorem cFl {α : Type} {b : Bool} {x y : α} (h : b = false) : (bif b then x else y) = y := by rw [h]; rfl
theorem selF {b : Bool} (h : b = false) : sel b false = true := by rw [h]; rfl
theorem selT {b : Bool} (h : b = true) : sel b true = true := by rw [h]; rfl
theorem beq_ff {a b : Nat} (h : Nat.beq a b = false) : Nat.beq b a = false := by
  cases hb : Nat.beq b a with
  | false => rfl
  | true =>
    have := Nat.eq_of_beq_eq_true hb
    subst this
    rw [Nat.beq_refl] at h
    cases h
theorem sub_frz {o : Bool} {ty ty' : TypeId} {tl : Option Nat} {e : Sh} {b : Body} {xs : List e.den} (h : frzB e b = some xs) : Sub (.mem o ty tl b) (.mem false ty' none (.lst e xs)) := .inr ⟨o, .lst e xs, ty, ty', tl, b, rfl, rfl, fun _ _ hr => frzB_rel h hr⟩

/-! ### two contracts of one function -/
def orSpec (s t : Spec) : Spec := fun args lk => match s args lk with
  | some r => some r
  | none => t args lk
theorem FnOK.or {P : Program} {gt : GT} {f : FuncId} {s t : Spec} (h : FnOK P gt f s) (k : FnOK P gt f t) : FnOK P gt f (orSpec s t) := by
  refine ⟨h.1, fun X ε blks nxt args vals r hP hgt hG hM hT ha hs hp => ?_⟩
  unfold orSpec at hs
  split at hs
  · rename_i r' hr
    injection hs with hs
    subst hs
    exact h.2 X ε blks nxt args vals _ hP hgt hG hM hT ha hr hp
  · exact k.2 X ε blks nxt args vals r hP hgt hG hM hT ha hs hp

/-! ### ends -/
def nodB : List Nat → Bool
  | [] => true
  | a :: t => allB (fun b => !Nat.beq a b) t && nodB t
theorem nodB_ok : ∀ {l : List Nat}, nodB l = true → l.Nodup
  | [], _ => List.nodup_nil
  | a :: t, h => by
    simp only [nodB, Bool.and_eq_true] at h
    refine List.nodup_cons.2 ⟨fun hm => ?_, nodB_ok h.2⟩
    have := allB_mem h.1 a hm
    rw [Nat.beq_refl] at this
    cases this
/-- New entries and turned ones. -/
theorem rEndA (ks : List Nat) (es : List E) (us : List (Nat × E)) (y : SV) {fn : Func} {m : Nat} {ι : Nat → Nat} {lb : Blks} {r : Res} (hX : XOk X) {p : Prop} {xs : List V1} (hr : resAll X.tt σ fn.results.toList = some (p, xs)) (hp : p) (hv : leV (retV xs) y)
    (hr' : r.r = mapV (fun j => idxN j ks) y) (hin : inV (fun j => memN j ks) y = true) (hn : r.new = es.map (mapE fun j => idxN j ks))
    (hks : All2 (fun k e => Nat.ble m k = true ∧ look σ.blks k = some e ∧ e.own = true ∧ inE (fun k => memN k ks) e) ks es) (hkn : nodB ks = true)
    (hu : r.up = us.map (fun q => (ι q.1, mapE ι q.2))) (hus : UpOK m σ.blks lb us) (hown : ownIn (us.map (·.1)) lb = true) (hud : nodB (us.map (·.1)) = true) : SQ X (Post X fn ε m ι lb r) .ret ε σ :=
  (post_end hX hr hp (EnvLe.refl _) fun v w ε' hle' hrel hT => ⟨ε', σ.blks, σ.nxt, y, ks, es, us, hle', leV_ok hv _ _ hrel, hT, hr', hin, hn, All2.imp (fun _ _ h => ⟨Nat.le_of_ble_eq_true h.1, h.2⟩) hks, nodB_ok hkn, hu, UpOK.at hus, ownIn_ok hown, nodB_ok hud⟩).1
/-- The object, opened at the begin, shut at the end. -/
theorem rEndObj (bits : List Bool) {fn : Func} {ι : Nat → Nat} {e0 : E} {r : Res} (hX : XOk X) {p : Prop} {xs : List V1} (hr : resAll X.tt σ fn.results.toList = some (p, xs)) (hp : p)
    (hr' : r.r = mapV (fun j => idxN j []) (retV xs)) (hin : inV (fun j => memN j []) (retV xs) = true) (hn : r.new = []) {g k len len' : Nat} {ty : TypeId} {n : Int} {ys : List Int}
    (hl : look σ.blks 0 = some (.mem true ty none (.flat [.cs [.sl g 0 len 1, .int .i64 n]]))) (hg : look σ.blks g = some (.mem true k (some 1) (.flat [.ints len' .u8 ys]))) (hlen : len' = len) (hne : Nat.beq g 0 = false) (hx : packB bits = ys) (hnn : (bits.length : Int) = n) (ho0 : e0.own = true)
    (hu : r.up = [(ι 0, .obj k bits)]) : SQ X (Post X fn ε 1 ι [(0, e0)] r) .ret ε σ := by
  subst hlen
  exact rDoneObj bits hX hr hp (EnvLe.refl _) hr' hin hn hl hg hne hx.symm hnn.symm ho0 hu
end
end Go.X
