/- A digit put behind others, in bytes; how a function of one place is handed in. -/
import Derived.Test.YtgbeiogbppaogaaX34
set_option linter.unusedVariables false
namespace Go.X

theorem getD_out (bits : List Bool) (i : Nat) (h : bits.length ≤ i) : bits.getD i false = false := by
  rw [List.getD_eq_getElem?_getD, List.getElem?_eq_none h]; rfl
theorem getD_app (bits : List Bool) (b : Bool) (i : Nat) : (bits ++ [b]).getD i false = if i < bits.length then bits.getD i false else if i = bits.length then b else false := by
  rw [List.getD_eq_getElem?_getD, List.getD_eq_getElem?_getD]
  split
  · rename_i h; rw [List.getElem?_append_left h]
  · rename_i h
    rw [List.getElem?_append_right (by omega)]
    split
    · rename_i h'; rw [h', Nat.sub_self]; rfl
    · rename_i h'
      rw [List.getElem?_eq_none (by simp; omega)]; rfl

theorem or_step (k q : Nat) : (2 ^ (k + 1) * q) ||| 2 ^ k = 2 ^ (k + 1) * q + 2 ^ k :=
  (Nat.two_pow_add_eq_or_of_lt (show 2 ^ k < 2 ^ (k + 1) from Nat.pow_lt_pow_right (by omega) (by omega)) q).symm

/-- The byte in which the next digit lies. -/
theorem byteAt_last (bits : List Bool) : ∃ q : Nat, byteAt bits (bits.length / 8) = ((2 ^ (7 - bits.length % 8 + 1) * q : Nat) : Int) ∧
    ∀ b : Bool, byteAt (bits ++ [b]) (bits.length / 8) = byteAt bits (bits.length / 8) + b.toInt * 2 ^ (7 - bits.length % 8) := by
  have hr : bits.length % 8 < 8 := by omega
  generalize hi : bits.length / 8 = i at *
  generalize hrr : bits.length % 8 = r at *
  have hl : bits.length = 8 * i + r := by omega
  have hold : ∀ j, r ≤ j → (bits.getD (8 * i + j) false).toInt = 0 := fun j hj => by rw [getD_out _ _ (by omega)]; rfl
  have hnew : ∀ (b : Bool) j, (j < r → ((bits ++ [b]).getD (8 * i + j) false).toInt = (bits.getD (8 * i + j) false).toInt) ∧ (j = r → ((bits ++ [b]).getD (8 * i + j) false).toInt = b.toInt) ∧ (r < j → ((bits ++ [b]).getD (8 * i + j) false).toInt = 0) := fun b j => by
    rw [getD_app]
    refine ⟨fun h => ?_, fun h => ?_, fun h => ?_⟩
    · rw [if_pos (by omega)]
    · rw [if_neg (by omega), if_pos (by omega)]
    · rw [if_neg (by omega), if_neg (by omega)]; rfl
  have cases8 : r = 0 ∨ r = 1 ∨ r = 2 ∨ r = 3 ∨ r = 4 ∨ r = 5 ∨ r = 6 ∨ r = 7 := by omega
  have z0 := hold 0
  rw [Nat.add_zero] at z0
  have z1 := hold 1
  have z2 := hold 2
  have z3 := hold 3
  have z4 := hold 4
  have z5 := hold 5
  have z6 := hold 6
  have z7 := hold 7
  unfold byteAt
  have e0 := bool_in (bits.getD (8 * i) false)
  have e1 := bool_in (bits.getD (8 * i + 1) false)
  have e2 := bool_in (bits.getD (8 * i + 2) false)
  have e3 := bool_in (bits.getD (8 * i + 3) false)
  have e4 := bool_in (bits.getD (8 * i + 4) false)
  have e5 := bool_in (bits.getD (8 * i + 5) false)
  have e6 := bool_in (bits.getD (8 * i + 6) false)
  have e7 := bool_in (bits.getD (8 * i + 7) false)
  generalize hx0 : (bits.getD (8 * i) false).toInt = x0 at *
  generalize hx1 : (bits.getD (8 * i + 1) false).toInt = x1 at *
  generalize hx2 : (bits.getD (8 * i + 2) false).toInt = x2 at *
  generalize hx3 : (bits.getD (8 * i + 3) false).toInt = x3 at *
  generalize hx4 : (bits.getD (8 * i + 4) false).toInt = x4 at *
  generalize hx5 : (bits.getD (8 * i + 5) false).toInt = x5 at *
  generalize hx6 : (bits.getD (8 * i + 6) false).toInt = x6 at *
  generalize hx7 : (bits.getD (8 * i + 7) false).toInt = x7 at *
  refine ⟨(x0 * 128 + x1 * 64 + x2 * 32 + x3 * 16 + x4 * 8 + x5 * 4 + x6 * 2 + x7).toNat / 2 ^ (7 - r + 1), ?_, fun b => ?_⟩
  · clear hnew hold
    rcases cases8 with rfl | rfl | rfl | rfl | rfl | rfl | rfl | rfl
    · rw [z0 (by decide), z1 (by decide), z2 (by decide), z3 (by decide), z4 (by decide), z5 (by decide), z6 (by decide), z7 (by decide)]
      clear z0 z1 z2 z3 z4 z5 z6 z7
      simp only [Nat.reduceSub, Nat.reduceAdd, Nat.reducePow]; omega
    · rw [z1 (by decide), z2 (by decide), z3 (by decide), z4 (by decide), z5 (by decide), z6 (by decide), z7 (by decide)]
      clear z0 z1 z2 z3 z4 z5 z6 z7
      simp only [Nat.reduceSub, Nat.reduceAdd, Nat.reducePow]; omega
    · rw [z2 (by decide), z3 (by decide), z4 (by decide), z5 (by decide), z6 (by decide), z7 (by decide)]
      clear z0 z1 z2 z3 z4 z5 z6 z7
      simp only [Nat.reduceSub, Nat.reduceAdd, Nat.reducePow]; omega
    · rw [z3 (by decide), z4 (by decide), z5 (by decide), z6 (by decide), z7 (by decide)]
      clear z0 z1 z2 z3 z4 z5 z6 z7
      simp only [Nat.reduceSub, Nat.reduceAdd, Nat.reducePow]; omega
    · rw [z4 (by decide), z5 (by decide), z6 (by decide), z7 (by decide)]
      clear z0 z1 z2 z3 z4 z5 z6 z7
      simp only [Nat.reduceSub, Nat.reduceAdd, Nat.reducePow]; omega
    · rw [z5 (by decide), z6 (by decide), z7 (by decide)]
      clear z0 z1 z2 z3 z4 z5 z6 z7
      simp only [Nat.reduceSub, Nat.reduceAdd, Nat.reducePow]; omega
    · rw [z6 (by decide), z7 (by decide)]
      clear z0 z1 z2 z3 z4 z5 z6 z7
      simp only [Nat.reduceSub, Nat.reduceAdd, Nat.reducePow]; omega
    · rw [z7 (by decide)]
      clear z0 z1 z2 z3 z4 z5 z6 z7
      simp only [Nat.reduceSub, Nat.reduceAdd, Nat.reducePow]; omega
  · have y0 := hnew b 0
    rw [Nat.add_zero] at y0
    have y1 := hnew b 1
    have y2 := hnew b 2
    have y3 := hnew b 3
    have y4 := hnew b 4
    have y5 := hnew b 5
    have y6 := hnew b 6
    have y7 := hnew b 7
    rw [hx0] at y0
    rw [hx1] at y1
    rw [hx2] at y2
    rw [hx3] at y3
    rw [hx4] at y4
    rw [hx5] at y5
    rw [hx6] at y6
    rw [hx7] at y7
    clear hnew hold
    generalize ((bits ++ [b]).getD (8 * i) false).toInt = w0 at *
    generalize ((bits ++ [b]).getD (8 * i + 1) false).toInt = w1 at *
    generalize ((bits ++ [b]).getD (8 * i + 2) false).toInt = w2 at *
    generalize ((bits ++ [b]).getD (8 * i + 3) false).toInt = w3 at *
    generalize ((bits ++ [b]).getD (8 * i + 4) false).toInt = w4 at *
    generalize ((bits ++ [b]).getD (8 * i + 5) false).toInt = w5 at *
    generalize ((bits ++ [b]).getD (8 * i + 6) false).toInt = w6 at *
    generalize ((bits ++ [b]).getD (8 * i + 7) false).toInt = w7 at *
    rcases cases8 with rfl | rfl | rfl | rfl | rfl | rfl | rfl | rfl
    · rw [y0.2.1 rfl, y1.2.2 (by decide), y2.2.2 (by decide), y3.2.2 (by decide), y4.2.2 (by decide), y5.2.2 (by decide), y6.2.2 (by decide), y7.2.2 (by decide), z0 (by decide), z1 (by decide), z2 (by decide), z3 (by decide), z4 (by decide), z5 (by decide), z6 (by decide), z7 (by decide)]
      clear y0 y1 y2 y3 y4 y5 y6 y7 z0 z1 z2 z3 z4 z5 z6 z7
      simp only [Nat.reduceSub, Int.reducePow]; omega
    · rw [y0.1 (by decide), y1.2.1 rfl, y2.2.2 (by decide), y3.2.2 (by decide), y4.2.2 (by decide), y5.2.2 (by decide), y6.2.2 (by decide), y7.2.2 (by decide), z1 (by decide), z2 (by decide), z3 (by decide), z4 (by decide), z5 (by decide), z6 (by decide), z7 (by decide)]
      clear y0 y1 y2 y3 y4 y5 y6 y7 z0 z1 z2 z3 z4 z5 z6 z7
      simp only [Nat.reduceSub, Int.reducePow]; omega
    · rw [y0.1 (by decide), y1.1 (by decide), y2.2.1 rfl, y3.2.2 (by decide), y4.2.2 (by decide), y5.2.2 (by decide), y6.2.2 (by decide), y7.2.2 (by decide), z2 (by decide), z3 (by decide), z4 (by decide), z5 (by decide), z6 (by decide), z7 (by decide)]
      clear y0 y1 y2 y3 y4 y5 y6 y7 z0 z1 z2 z3 z4 z5 z6 z7
      simp only [Nat.reduceSub, Int.reducePow]; omega
    · rw [y0.1 (by decide), y1.1 (by decide), y2.1 (by decide), y3.2.1 rfl, y4.2.2 (by decide), y5.2.2 (by decide), y6.2.2 (by decide), y7.2.2 (by decide), z3 (by decide), z4 (by decide), z5 (by decide), z6 (by decide), z7 (by decide)]
      clear y0 y1 y2 y3 y4 y5 y6 y7 z0 z1 z2 z3 z4 z5 z6 z7
      simp only [Nat.reduceSub, Int.reducePow]; omega
    · rw [y0.1 (by decide), y1.1 (by decide), y2.1 (by decide), y3.1 (by decide), y4.2.1 rfl, y5.2.2 (by decide), y6.2.2 (by decide), y7.2.2 (by decide), z4 (by decide), z5 (by decide), z6 (by decide), z7 (by decide)]
      clear y0 y1 y2 y3 y4 y5 y6 y7 z0 z1 z2 z3 z4 z5 z6 z7
      simp only [Nat.reduceSub, Int.reducePow]; omega
    · rw [y0.1 (by decide), y1.1 (by decide), y2.1 (by decide), y3.1 (by decide), y4.1 (by decide), y5.2.1 rfl, y6.2.2 (by decide), y7.2.2 (by decide), z5 (by decide), z6 (by decide), z7 (by decide)]
      clear y0 y1 y2 y3 y4 y5 y6 y7 z0 z1 z2 z3 z4 z5 z6 z7
      simp only [Nat.reduceSub, Int.reducePow]; omega
    · rw [y0.1 (by decide), y1.1 (by decide), y2.1 (by decide), y3.1 (by decide), y4.1 (by decide), y5.1 (by decide), y6.2.1 rfl, y7.2.2 (by decide), z6 (by decide), z7 (by decide)]
      clear y0 y1 y2 y3 y4 y5 y6 y7 z0 z1 z2 z3 z4 z5 z6 z7
      simp only [Nat.reduceSub, Int.reducePow]; omega
    · rw [y0.1 (by decide), y1.1 (by decide), y2.1 (by decide), y3.1 (by decide), y4.1 (by decide), y5.1 (by decide), y6.1 (by decide), y7.2.1 rfl, z7 (by decide)]
      clear y0 y1 y2 y3 y4 y5 y6 y7 z0 z1 z2 z3 z4 z5 z6 z7
      simp only [Nat.reduceSub, Int.reducePow]; omega

theorem packB_get (bits : List Bool) (i : Nat) : (packB bits)[i]? = if i < (bits.length + 7) / 8 then some (byteAt bits i) else none := by
  unfold packB
  rw [List.getElem?_map]
  split
  · rename_i h; rw [List.getElem?_range h]; rfl
  · rename_i h; rw [List.getElem?_eq_none (by simpa using h)]; rfl

/-- With room for one digit more. -/
def roomy (bits : List Bool) : List Int := if (bits.length : Int) % 8 = 0 then packB bits ++ [0] else packB bits
theorem roomy_get (bits : List Bool) (i : Nat) : (roomy bits)[i]? = if i ≤ bits.length / 8 then some (byteAt bits i) else none := by
  unfold roomy
  split
  · rename_i h
    rw [List.getElem?_append, packB_length]
    split
    · rename_i h'
      rw [packB_get, if_pos h', if_pos (by omega)]
    · rename_i h'
      split
      · rename_i h2
        have hi : i = bits.length / 8 := by omega
        have e : byteAt bits i = 0 := by
          obtain ⟨q, hq, _⟩ := byteAt_last bits
          subst hi
          unfold byteAt
          rw [getD_out _ _ (by omega), getD_out _ _ (by omega), getD_out _ _ (by omega), getD_out _ _ (by omega), getD_out _ _ (by omega), getD_out _ _ (by omega), getD_out _ _ (by omega), getD_out _ _ (by omega)]
          rfl
        rw [show i - (bits.length + 7) / 8 = 0 by omega, e]; rfl
      · rename_i h2
        rw [List.getElem?_eq_none (by simp; omega)]
  · rename_i h
    rw [packB_get]
    by_cases h' : i ≤ bits.length / 8
    · rw [if_pos h', if_pos (by omega)]
    · rw [if_neg h', if_neg (by omega)]
theorem roomy_length (bits : List Bool) : (roomy bits).length = bits.length / 8 + 1 := by
  unfold roomy
  split
  · rw [List.length_append, packB_length]; simp; omega
  · rw [packB_length]; omega

theorem packB_zero (bits : List Bool) : packB (bits ++ [false]) = roomy bits := by
  apply List.ext_getElem?
  intro i
  rw [packB_get, roomy_get]
  by_cases h : i ≤ bits.length / 8
  · rw [if_pos h, if_pos (by simp; omega)]
    congr 1
    rcases Nat.lt_or_ge i (bits.length / 8) with h' | h'
    · exact byteAt_append _ _ _ (by omega)
    · have hi : i = bits.length / 8 := by omega
      subst hi
      obtain ⟨q, _, h2⟩ := byteAt_last bits
      rw [h2]; simp [Bool.toInt]
  · rw [if_neg h, if_neg (by simp; omega)]
theorem packB_one (bits : List Bool) : packB (bits ++ [true]) = (roomy bits).set (bits.length / 8) (((((roomy bits).getD (bits.length / 8) 0).toNat ||| ((1 : Int) * 2 ^ (7 - (bits.length : Int) % 8).toNat).toNat : Nat) : Int)) := by
  have hget : (roomy bits).getD (bits.length / 8) 0 = byteAt bits (bits.length / 8) := by
    rw [List.getD_eq_getElem?_getD, roomy_get, if_pos (Nat.le_refl _)]; rfl
  obtain ⟨q, h1, h2⟩ := byteAt_last bits
  have hexp : (7 - (bits.length : Int) % 8).toNat = 7 - bits.length % 8 := by omega
  have hor : (((byteAt bits (bits.length / 8)).toNat ||| ((1 : Int) * 2 ^ (7 - (bits.length : Int) % 8).toNat).toNat : Nat) : Int) = byteAt (bits ++ [true]) (bits.length / 8) := by
    rw [h2 true, h1, hexp, Int.one_mul, Int.toNat_natCast]
    have : ((2 : Int) ^ (7 - bits.length % 8)).toNat = 2 ^ (7 - bits.length % 8) := by
      rw [show (2 : Int) ^ (7 - bits.length % 8) = ((2 ^ (7 - bits.length % 8) : Nat) : Int) by simp, Int.toNat_natCast]
    rw [this, or_step]
    simp [Bool.toInt]
  rw [hget, hor]
  apply List.ext_getElem?
  intro i
  rw [packB_get, List.getElem?_set, roomy_length, roomy_get]
  by_cases h : i ≤ bits.length / 8
  · rw [if_pos (by simp; omega)]
    by_cases h' : bits.length / 8 = i
    · rw [if_pos h', if_pos (by omega), h']
    · rw [if_neg h', if_pos h]
      exact congrArg some (byteAt_append _ _ _ (by omega))
  · rw [if_neg (by simp; omega), if_neg (by omega), if_neg h]

theorem up_obj {id k : Nat} {a b : List Bool} (h : a = b) : [(id, E.obj k a)] = [(id, E.obj k b)] := by rw [h]
theorem up_rd {id : Nat} {ty : TypeId} {s : ByteArray} {a b : Int} (h : a = b) : [(id, rdE true ty s a)] = [(id, rdE true ty s b)] := by rw [h]

/-! ### how a function is handed in -/
section
variable {P : Program} {gt : GT} {fn : Func} {c : Code} {tt : TT} {kt : KT} {args : List SV} {lk : Nat → Option E} {r : Res}

/-- What fnOK_mk asks of a call. -/
def Handed (P : Program) (gt : GT) (fn : Func) (c : Code) (tt : TT) (kt : KT) (args : List SV) (lk : Nat → Option E) (r : Res) : Prop :=
  ∃ (m : Nat) (ι : Nat → Nat) (largs : List SV) (lb : Blks), args = largs.map (mapV ι) ∧ allB (inV fun k => Nat.blt k m) largs = true ∧ largs.length ≤ fn.ntmps ∧ (∀ i, i < m → (lk (ι i)).isSome = true) ∧
      (∀ i e, look lb i = some e → i < m ∧ inE (fun k => Nat.blt k m) e ∧ ∃ e0, lk (ι i) = some e0 ∧ Sub e0 (mapE ι e)) ∧
      (∀ i j e e', look lb i = some e → look lb j = some e' → i ≠ j → e.own = true → ι i ≠ ι j) ∧
      ∀ w0 M ε0, XOk ⟨P, tt, kt, gt, w0, M, fn.ntmps⟩ → SW ⟨P, tt, kt, gt, w0, M, fn.ntmps⟩ c (Post ⟨P, tt, kt, gt, w0, M, fn.ntmps⟩ fn ε0 m ι lb r) ε0 ⟨argRegs 0 largs, lb, m⟩

theorem fnOK_handed {f : FuncId} {spec : Spec} (hf : P.funcs[f]? = some fn) (hb : fn.body = some c) (hnum : (fn.name == "runtime.NumGoroutine") = false) (htt : TtOk P tt) (hkt : ∀ f s, look kt f = some s → FnOK P gt f s)
    (H : ∀ args lk r, spec args lk = some r → r.p → Handed P gt fn c tt kt args lk r) : FnOK P gt f spec := fnOK_mk hf hb hnum htt hkt H

/-- Values alone. -/
theorem hand0 (h1 : allB (inV fun _ => false) args = true) (h2 : Nat.ble args.length fn.ntmps = true)
    (h : ∀ w0 M ε0, XOk ⟨P, tt, kt, gt, w0, M, fn.ntmps⟩ → SW ⟨P, tt, kt, gt, w0, M, fn.ntmps⟩ c (Post ⟨P, tt, kt, gt, w0, M, fn.ntmps⟩ fn ε0 0 id [] r) ε0 ⟨argRegs 0 args, [], 0⟩) : Handed P gt fn c tt kt args lk r := by
  refine ⟨0, id, args, [], ?_, ?_, Nat.le_of_ble_eq_true h2, fun i hi => (by omega), fun i e he => (by cases he), fun i j e e' he => (by cases he), h⟩
  · rw [mapV_id]; simp
  · have : (fun k => Nat.blt k 0) = fun _ => false := funext fun k => by
      cases h : Nat.blt k 0 with
      | false => rfl
      | true => exact absurd (blt_true h) (by omega)
    rw [this]; exact h1

/-- One place. -/
theorem hand1 {id : Nat} {e e0 : E} (largs : List SV) (ha : args = largs.map (mapV fun _ => id)) (h1 : allB (inV fun k => Nat.blt k 1) largs = true) (h2 : Nat.ble largs.length fn.ntmps = true) (hl : lk id = some e0) (hs : Sub e0 (mapE (fun _ => id) e)) (hi : inE (fun k => Nat.blt k 1) e)
    (h : ∀ w0 M ε0, XOk ⟨P, tt, kt, gt, w0, M, fn.ntmps⟩ → SW ⟨P, tt, kt, gt, w0, M, fn.ntmps⟩ c (Post ⟨P, tt, kt, gt, w0, M, fn.ntmps⟩ fn ε0 1 (fun _ => id) [(0, e)] r) ε0 ⟨argRegs 0 largs, [(0, e)], 1⟩) : Handed P gt fn c tt kt args lk r := by
  refine ⟨1, fun _ => id, largs, [(0, e)], ha, h1, Nat.le_of_ble_eq_true h2, fun i _ => (by rw [hl]; rfl), fun i x hx => ?_, fun i j x y hx hy hij => ?_, h⟩
  · rw [look_cons] at hx
    by_cases h : i = 0
    · rw [if_pos h] at hx
      injection hx with hx
      subst hx h
      exact ⟨by omega, hi, e0, hl, hs⟩
    · rw [if_neg h] at hx; cases hx
  · rw [look_cons] at hx hy
    by_cases h : i = 0
    · by_cases h' : j = 0
      · exact absurd (h.trans h'.symm) hij
      · rw [if_neg h'] at hy; cases hy
    · rw [if_neg h] at hx; cases hx
theorem sub_ro {o : Bool} {ty ty' : TypeId} {tl : Option Nat} {b : Body} : Sub (.mem o ty tl b) (.mem false ty' none b) := .inr ⟨o, b, ty, ty', tl, b, rfl, rfl, Ble.refl _⟩
end
end Go.X
