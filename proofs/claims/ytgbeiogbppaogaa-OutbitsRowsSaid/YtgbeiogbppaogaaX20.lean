/- The contract of a function, from a local proof. -/
import Derived.Test.YtgbeiogbppaogaaX19
set_option linter.unusedVariables false
namespace Go.X

theorem fnOK_mk {P : Program} {gt : GT} {f : FuncId} {fn : Func} {c : Code} {spec : Spec} {tt : TT} {kt : KT} (hf : P.funcs[f]? = some fn) (hb : fn.body = some c) (hnum : (fn.name == "runtime.NumGoroutine") = false)
    (htt : TtOk P tt) (hkt : ∀ f s, look kt f = some s → FnOK P gt f s)
    (H : ∀ args lk r, spec args lk = some r → r.p → ∃ (m : Nat) (ι : Nat → Nat) (largs : List SV) (lb : Blks), args = largs.map (mapV ι) ∧ allB (inV fun k => Nat.blt k m) largs = true ∧ largs.length ≤ fn.ntmps ∧ (∀ i, i < m → (lk (ι i)).isSome = true) ∧
      (∀ i e, look lb i = some e → i < m ∧ inE (fun k => Nat.blt k m) e ∧ ∃ e0, lk (ι i) = some e0 ∧ Sub e0 (mapE ι e)) ∧
      (∀ i j e e', look lb i = some e → look lb j = some e' → i ≠ j → e.own = true → ι i ≠ ι j) ∧
      ∀ w0 M ε0, XOk ⟨P, tt, kt, gt, w0, M, fn.ntmps⟩ → SW ⟨P, tt, kt, gt, w0, M, fn.ntmps⟩ c (bodyPost P fn fun e w' => ∃ v, e = .returned v ∧ EndOK ⟨P, tt, kt, gt, w0, M, fn.ntmps⟩ ε0 m ι lb r v w') ε0 ⟨argRegs 0 largs, lb, m⟩) :
    FnOK P gt f spec := by
  refine ⟨callFunc_enters hf hnum (by rw [hb]; rfl), ?_⟩
  intro X ε blks nxt args vals r hXP hXgt hgt hgm hT hargs hsp hp
  obtain ⟨m, ι, largs, lb, rfl, hin, hlen, hdef, hl, hinj, hbody⟩ := H args (look blks) r hsp hp
  have hι : ∀ i, i < m → ι i < ε.n := fun i hi => by
    have := hdef i hi
    cases hlk : look blks (ι i) with
    | none => simp [hlk] at this
    | some e => exact (hT.ent _ _ hlk).1
  let ε0 : Env := ⟨m, fun j => ε.f (ι j)⟩
  let Y : Ctx := ⟨P, tt, kt, gt, X.w0, allOwn ε0 lb, fn.ntmps⟩
  have hE0 : EMap (fun k => Nat.blt k m) ι ε0 ε := fun i hi => by
    have := blt_true hi
    exact ⟨⟨fun _ => hι i this, fun _ => this⟩, rfl, rfl, rfl, rfl⟩
  have hY : Tab Y ε0 lb m X.w0 := Tab.local hT hl hinj hι rfl rfl
  -- the local call's own blocks are the caller's own
  have hMo : ∀ b ∈ Y.M, b < X.w0.heap.size ∧ ∃ i e e0, look lb i = some e ∧ e.own = true ∧ look blks (ι i) = some e0 ∧ e0.own = true ∧ b ∈ owned (ε.f (ι i)) e0 := fun b hb => by
    obtain ⟨i, e, h1, h2, h3⟩ := mem_allOwn.1 hb
    obtain ⟨_, _, e0, h4, h5⟩ := hl i e h1
    have o1 := Sub.owned h5 (ε.f (ι i))
    rw [mapE_owned] at o1
    have h6 : b ∈ owned (ε.f (ι i)) e0 := by rw [← o1]; exact h3
    exact ⟨owned_lt (hT.ent _ _ h4).2 b h6, i, e, e0, h1, h2, h4, Sub.own h5 (by rw [mapE_own]; exact h2), h6⟩
  have hMX : ∀ b ∈ Y.M, b ∈ X.M := fun b hb => by
    obtain ⟨h1, i, e, e0, h2, h3, h4, h5, h6⟩ := hMo b hb
    rcases hT.mine _ _ h4 h5 b h6 with h | h
    · omega
    · exact h
  have hXY : XOk Y := ⟨htt, hkt, hgt, fun g b hg hm => hgm g b hg (hMX g hm)⟩
  have hargs0 : All2 (RelV ε0) largs vals := (All2.map_iff (R := RelV ε0) (R' := RelV ε) (g := mapV ι) (p := inV fun k => Nat.blt k m) (fun x v hx => RelV.map hE0 hx) hin).2 hargs
  have hsz : vals.length = largs.length := (All2.length hargs0).symm
  refine calls_of_wp hf hb ?_
  refine wp_mono (hbody X.w0 Y.M ε0 hXY ε0 _ _ (EnvLe.refl _) ⟨rfl, ?_, ?_, hY⟩) ?_
  · show (vals.toArray ++ Array.replicate (fn.ntmps - vals.toArray.size) undef).size = fn.ntmps
    simp
    omega
  · intro s v hv
    obtain ⟨_, x, h1, h2⟩ := argRegs_look hargs0 hv
    simp only [Nat.sub_zero] at h1
    have hs : s < vals.length := by
      rcases Nat.lt_or_ge s vals.length with h | h
      · exact h
      · rw [List.getElem?_eq_none h] at h1; cases h1
    rw [Array.getD_eq_getD_getElem?, Array.getElem?_append_left (by simpa using hs)]
    simp only [List.getElem?_toArray, h1, Option.getD_some]
    exact h2
  · -- back to the caller's table
    have key : ∀ v w', EndOK Y ε0 m ι lb r v w' → ∃ ε' x bl, Ending.returned v = .returned x ∧ EnvLe ε ε' ∧ RelV ε' (renV nxt r.r) x ∧ updAll blks r.up = some bl ∧ Tab X ε' (addE (r.new.map (renE nxt)) nxt bl).1 (addE (r.new.map (renE nxt)) nxt bl).2 w' := by
      intro v w' ⟨ε1, b1, n1, x, ks, es, us, hle, hx, hT1, hr, hxin, hnew, hks, hksd, hup, hus, husall, husd⟩
      have hn : nxt = ε.n := hT.nxt
      subst hn
      have huι : ∀ q ∈ us, ι q.1 < ε.n := fun q hq => hι _ (hus q hq).1
      have huinj : ∀ q ∈ us, ∀ q' ∈ us, ι q'.1 = ι q.1 → q'.1 = q.1 := fun q hq q' hq' he => by
        obtain ⟨_, _, _, _, e, h1, h2⟩ := hus q hq
        obtain ⟨_, _, _, _, e', h1', h2'⟩ := hus q' hq'
        apply Decidable.byContradiction
        intro hne
        exact hinj _ _ e' e h1' h1 hne h2' he
      let ε2 := envAfter ε ε1 ι ks us
      have fold : ∀ i, i < ε.n → (∀ q ∈ us, ι q.1 ≠ i) → ε2.f i = ε.f i := fun i hi hn => envAfter_old hi hn
      have fup : ∀ q ∈ us, ε2.f (ι q.1) = ε1.f q.1 := fun q hq => envAfter_up hq (huι q hq) (fun q' hq' => huinj q hq q' hq')
      have fnew : ∀ i k, ks[i]? = some k → ε2.f (ε.n + i) = ε1.f k := fun i k hk => envAfter_new hk
      have hle2 : EnvLe ε ε2 := by
        have hn2 : ε.n ≤ ε2.n := Nat.le_add_right _ _
        have hcase : ∀ i, i < ε.n → ε2.f i = ε.f i ∨ ∃ q ∈ us, ι q.1 = i ∧ ε2.f i = ε1.f q.1 := fun i hi => by
          by_cases h : ∃ q ∈ us, ι q.1 = i
          · obtain ⟨q, hq, rfl⟩ := h
            exact .inr ⟨q, hq, rfl, fup q hq⟩
          · exact .inl (fold i hi fun q hq he => h ⟨q, hq, he⟩)
        refine ⟨hn2, fun i hi => ?_, fun i hi => ?_, fun i hi => ?_, fun i hi => ?_⟩
        · rcases hcase i hi with h | ⟨q, hq, rfl, h⟩
          · rw [h]
          · rw [h]; exact hle.blk _ (hus q hq).1
        · rcases hcase i hi with h | ⟨q, hq, rfl, h⟩
          · rw [h]
          · rw [h]; exact hle.off _ (hus q hq).1
        · rcases hcase i hi with h | ⟨q, hq, rfl, h⟩
          · rw [h]
          · rw [h]; exact hle.cap _ (hus q hq).1
        · rcases hcase i hi with h | ⟨q, hq, rfl, h⟩
          · rw [h]
          · rw [h]; exact hle.nil _ (hus q hq).1
      -- renaming of the new ones
      have hk1 : ∀ k, memN k ks = true → k < ε1.n ∧ idxN k ks < ks.length ∧ ks[idxN k ks]? = some k := fun k hk => by
        obtain ⟨h1, h2⟩ := memN_idx hk
        obtain ⟨e, _, _, h3, _⟩ := All2.get hks _ _ h2
        exact ⟨(hT1.ent _ _ h3).1, h1, h2⟩
      have hEn : EMap (fun k => memN k ks) (fun k => ε.n + idxN k ks) ε1 ε2 := fun k hk => by
        obtain ⟨h1, h2, h3⟩ := hk1 k hk
        have := fnew _ _ h3
        refine ⟨⟨fun _ => ?_, fun _ => h1⟩, ?_⟩
        · show ε.n + idxN k ks < ε.n + ks.length; omega
        · rw [this]; exact ⟨rfl, rfl, rfl, rfl⟩
      have hEo : EMap (fun k => Nat.blt k m) ι ε1 ε2 := fun i hi => by
        have him := blt_true hi
        have h1 : ε0.n ≤ ε1.n := hle.n
        have hm1 : i < ε1.n := Nat.lt_of_lt_of_le him h1
        have h2 : ι i < ε2.n := Nat.lt_of_lt_of_le (hι i him) hle2.n
        refine ⟨⟨fun _ => h2, fun _ => hm1⟩, ?_, ?_, ?_, ?_⟩
        · rw [hle2.blk _ (hι i him)]; exact (hle.blk i him).symm
        · rw [hle2.off _ (hι i him)]; exact (hle.off i him).symm
        · rw [hle2.cap _ (hι i him)]; exact (hle.cap i him).symm
        · rw [hle2.nil _ (hι i him)]; exact (hle.nil i him).symm
      obtain ⟨bl, hbl, hbl1, hbl2⟩ := updAll_some (l := r.up) (b := blks) (fun q hq => by
        rw [hup] at hq
        obtain ⟨q', hq', rfl⟩ := List.mem_map.1 hq
        obtain ⟨_, _, _, _, e, h1, _⟩ := hus q' hq'
        obtain ⟨_, _, e0, h2, _⟩ := hl _ _ h1
        exact ⟨e0, h2⟩) (by
        rw [hup, List.map_map]
        have : ∀ l : List (Nat × E), (∀ q ∈ l, q ∈ us) → (l.map (·.1)).Nodup → (l.map ((fun x : Nat × E => x.1) ∘ fun q => (ι q.1, mapE ι q.2))).Nodup := by
          intro l
          induction l with
          | nil => intro _ _; simp
          | cons y l ih =>
            intro hy hd
            simp only [List.map_cons, List.nodup_cons] at hd ⊢
            refine ⟨fun hm => ?_, ih (fun q hq => hy q (by simp [hq])) hd.2⟩
            obtain ⟨z, hz, hze⟩ := List.mem_map.1 hm
            exact hd.1 (List.mem_map.2 ⟨z, hz, huinj y (hy y (by simp)) z (hy z (by simp [hz])) hze⟩)
        exact this us (fun _ h => h) husd)
      have hnl : (r.new.map (renE ε.n)).length = ks.length := by
        rw [hnew]; simp [(All2.length hks).symm]
      -- every entry of the caller's table after the call
      have cls : ∀ id e, look (addE (r.new.map (renE ε.n)) ε.n bl).1 id = some e →
          (∃ k e1 D ρ, look b1 k = some e1 ∧ e1.own = true ∧ e = mapE ρ e1 ∧ inE D e1 ∧ EMap D ρ ε1 ε2 ∧ ε2.f id = ε1.f k ∧ id < ε2.n ∧ ((∃ i, ks[i]? = some k ∧ id = ε.n + i) ∨ ((k, e1) ∈ us ∧ id = ι k))) ∨
          (look blks id = some e ∧ id < ε.n ∧ ε2.f id = ε.f id ∧ ∀ q ∈ us, ι q.1 ≠ id) := by
        intro id e he
        by_cases hid : ε.n ≤ id
        · by_cases hid2 : id < ε.n + (r.new.map (renE ε.n)).length
          · rw [addE_at _ _ _ _ hid hid2] at he
            rw [hnew, List.map_map, List.getElem?_map] at he
            cases hes : es[id - ε.n]? with
            | none => simp [hes] at he
            | some e1 =>
              rw [hes] at he
              simp only [Option.map_some, Option.some.injEq, Function.comp] at he
              rw [renE_map] at he
              obtain ⟨k, hk, h1, h2, h3, h4⟩ := All2.get' hks _ _ hes
              refine .inl ⟨k, e1, _, _, h2, h3, he.symm, h4, hEn, ?_, ?_, .inl ⟨_, hk, by omega⟩⟩
              · rw [← fnew _ _ hk]; congr 1; omega
              · show id < ε.n + ks.length; omega
          · rw [addE_above _ _ _ _ (by omega)] at he
            have : id ∉ r.up.map (·.1) := fun hm => by
              rw [hup, List.map_map] at hm
              obtain ⟨q, hq, hqe⟩ := List.mem_map.1 hm
              have := huι q hq
              simp only [Function.comp] at hqe
              omega
            rw [hbl2 _ this] at he
            have := (hT.ent _ _ he).1
            omega
        · rw [addE_look _ _ _ _ (by omega)] at he
          by_cases hm : id ∈ r.up.map (·.1)
          · rw [hup, List.map_map] at hm
            obtain ⟨q, hq, rfl⟩ := List.mem_map.1 hm
            have h1 := hbl1 (ι q.1, mapE ι q.2) (by rw [hup]; exact List.mem_map.2 ⟨q, hq, rfl⟩)
            have he' : look bl (ι q.1) = some e := he
            rw [h1] at he'
            injection he' with he'
            obtain ⟨h2, h3, h4, h5, _⟩ := hus q hq
            exact .inl ⟨q.1, q.2, _, _, h3, h4, he'.symm, h5, hEo, fup q hq, Nat.lt_of_lt_of_le (huι q hq) hle2.n, .inr ⟨hq, rfl⟩⟩
          · rw [hbl2 _ hm] at he
            have hid' : id < ε.n := by omega
            have hno : ∀ q ∈ us, ι q.1 ≠ id := fun q hq hqe => hm (by rw [hup, List.map_map]; exact List.mem_map.2 ⟨q, hq, hqe⟩)
            exact .inr ⟨he, hid', fold id hid' hno, hno⟩
      -- blocks of the local call's own entries and blocks of old ones are apart
      have apart : ∀ k e1 id e, look b1 k = some e1 → e1.own = true → look blks id = some e → (∀ q ∈ us, ι q.1 ≠ id) → ∀ b, b ∈ owned (ε1.f k) e1 → b ∈ owned (ε.f id) e → False := by
        intro k e1 id e h1 h2 h3 h4 b hb1 hb2
        have hlt := owned_lt (hT.ent _ _ h3).2 b hb2
        rcases hT1.mine k e1 h1 h2 b hb1 with h | h
        · exact absurd h (by show ¬ X.w0.heap.size ≤ b; omega)
        · obtain ⟨_, i, ei, e0, g1, g2, g3, g4, g5⟩ := hMo b h
          obtain ⟨q, hq, rfl⟩ := husall i ei g1 g2
          exact hT.sep _ _ e0 e g3 h3 (h4 q hq) g4 b g5 hb2
      refine ⟨ε2, v, bl, rfl, hle2, ?_, hbl, ?_⟩
      · rw [hr, renV_map]
        exact (RelV.map hEn hxin).1 hx
      · refine ⟨?_, fun id e he => ?_, fun id id' e e' he he' hne ho b hb hb' => ?_, ?_, fun id e he ho b hb => ?_⟩
        · rw [addE_nxt, hnl]; rfl
        · rcases cls id e he with ⟨k, e1, D, ρ, h1, h2, rfl, h3, h4, h5, h6, _⟩ | ⟨h1, h2, h3, h4⟩
          · refine ⟨h6, ?_⟩
            rw [h5]
            exact (RelE.map h4 h3).1 (hT1.ent _ _ h1).2
          · refine ⟨Nat.lt_of_lt_of_le h2 hle2.n, ?_⟩
            rw [h3]
            refine ((hT.ent _ _ h1).2.frame fun b hb => ?_).mono hle2
            refine hT1.keep.block b (owned_lt (hT.ent _ _ h1).2 b hb) fun hm => ?_
            obtain ⟨_, i, ei, e0, g1, g2, g3, g4, g5⟩ := hMo b hm
            obtain ⟨q, hq, rfl⟩ := husall i ei g1 g2
            exact hT.sep _ _ e0 e g3 h1 (h4 q hq) g4 b g5 hb
        · rcases cls id e he with ⟨k, e1, D, ρ, h1, h2, rfl, h3, h4, h5, h6, h7⟩ | ⟨h1, h2, h3, h4⟩ <;> rcases cls id' e' he' with ⟨k', e1', D', ρ', h1', h2', rfl, h3', h4', h5', h6', h7'⟩ | ⟨h1', h2', h3', h4'⟩
          · rw [h5, mapE_owned] at hb
            rw [h5', mapE_owned] at hb'
            refine hT1.sep k k' e1 e1' h1 h1' (fun hkk => ?_) h2 b hb hb'
            subst hkk
            rcases h7 with ⟨i, g1, g2⟩ | ⟨g1, g2⟩ <;> rcases h7' with ⟨j, g1', g2'⟩ | ⟨g1', g2'⟩
            · have := nodup_idx hksd g1
              have := nodup_idx hksd g1'
              omega
            · obtain ⟨_, _, hm, _⟩ := All2.get hks _ _ g1
              have := (hus _ g1').1
              simp only at this
              omega
            · obtain ⟨_, _, hm, _⟩ := All2.get hks _ _ g1'
              have := (hus _ g1).1
              simp only at this
              omega
            · exact hne (g2.trans g2'.symm)
          · rw [h5, mapE_owned] at hb
            rw [h3'] at hb'
            exact apart _ _ _ _ h1 h2 h1' h4' b hb hb'
          · rw [h5', mapE_owned] at hb'
            rw [h3] at hb
            exact apart _ _ _ _ h1' h2' h1 h4 b hb' hb
          · rw [h3] at hb
            rw [h3'] at hb'
            exact hT.sep id id' e e' h1 h1' hne ho b hb hb'
        · exact hT1.keep.mono fun b hb _ => hMX b hb
        · rcases cls id e he with ⟨k, e1, D, ρ, h1, h2, rfl, h3, h4, h5, h6, h7⟩ | ⟨h1, h2, h3, h4⟩
          · rw [h5, mapE_owned] at hb
            rcases hT1.mine k e1 h1 h2 b hb with h | h
            · exact .inl h
            · exact .inr (hMX b h)
          · rw [h3] at hb
            exact hT.mine id e h1 ho b hb
    intro e a' w' hq
    cases e with
    | normal =>
      obtain ⟨hd, v, hv, v', hv', hend⟩ := hq
      injection hv' with hv'
      subst hv'
      exact ⟨hd, v, hv, key _ _ hend⟩
    | ret =>
      obtain ⟨hd, v, hv, v', hv', hend⟩ := hq
      injection hv' with hv'
      subst hv'
      exact ⟨hd, v, hv, key _ _ hend⟩
    | panic c =>
      obtain ⟨_, v', hv', hend⟩ := hq
      cases hv'
    | outgrown =>
      obtain ⟨v', hv', hend⟩ := hq
      cases hv'
    | _ => exact hq.elim

end Go.X
