/- Plain laws of the models: loops of a counted number of rounds, lists as tables of a function. -/
import Derived.Test.YtbcgkdigfkapcaaDoorL9
set_option linter.unusedVariables false
namespace Go.X

/-- The list of the first n answers. -/
def tab {α : Type} (n : Nat) (f : Nat → α) : List α := (List.range n).map f
section
variable {α : Type}
theorem tab_len (n : Nat) (f : Nat → α) : (tab n f).length = n := by simp [tab]
theorem tab_get {n i : Nat} (f : Nat → α) (d : α) (h : i < n) : (tab n f).getD i d = f i := by
  simp [tab, List.getD, h]
theorem tab_out {n i : Nat} (f : Nat → α) (d : α) (h : n ≤ i) : (tab n f).getD i d = d := by
  simp [tab, List.getD, Nat.not_lt.mpr h]
theorem tab_ext {n : Nat} {f g : Nat → α} (h : ∀ k, k < n → f k = g k) : tab n f = tab n g :=
  List.map_congr_left fun k hk => h k (List.mem_range.mp hk)
theorem tab_inj {n : Nat} {f g : Nat → α} (h : tab n f = tab n g) (k : Nat) (hk : k < n) : f k = g k := by
  have := congrArg (fun l => l.getD k (f k)) h
  simpa only [tab_get _ _ hk] using this
theorem tab_set (n i : Nat) (f : Nat → α) (v : α) : (tab n f).set i v = tab n (fun k => if k = i then v else f k) := by
  apply List.ext_getElem
  · simp [tab]
  · intro j h1 h2
    simp only [tab, List.getElem_set, List.getElem_map, List.getElem_range]
    by_cases h : i = j
    · subst h; simp
    · rw [if_neg h, if_neg (fun e => h e.symm)]
theorem tab_of {n : Nat} {xs : List α} (d : α) (h : xs.length = n) : xs = tab n (fun k => xs.getD k d) := by
  subst h
  apply List.ext_getElem
  · simp [tab]
  · intro j h1 h2
    simp [tab, h1]
theorem rep_tab (n : Nat) (a : α) : List.replicate n a = tab n (fun _ => a) := by
  apply List.ext_getElem
  · simp [tab]
  · intro j h1 h2; simp [tab]
theorem tab_dec [DecidableEq α] {n : Nat} {f g : Nat → α} : tab n f = tab n g ↔ ∀ k, k < n → f k = g k :=
  ⟨fun h k hk => tab_inj h k hk, tab_ext⟩
end

/-! ### loops -/
/-- A loop whose places are known round by round. -/
theorem iter_count {S O : Type} {body : S → Option (S ⊕ O)} (st : Nat → S) (n : Nat) (o : O) (hs : ∀ i, i < n → body (st i) = some (.inl (st (i + 1)))) (he : body (st n) = some (.inr o)) :
    ∀ (d k N : Nat), k + d = n → d < N → iter body N (st k) = some o := by
  intro d
  induction d with
  | zero =>
    intro k N hk hN
    obtain ⟨N, rfl⟩ : ∃ m, N = m + 1 := ⟨N - 1, by omega⟩
    have : k = n := by omega
    subst this
    simp only [iter, he]
  | succ d ih =>
    intro k N hk hN
    obtain ⟨N, rfl⟩ : ∃ m, N = m + 1 := ⟨N - 1, by omega⟩
    simp only [iter, hs k (by omega)]
    exact ih (k + 1) N (by omega) (by omega)
theorem iter_to {S O : Type} {body : S → Option (S ⊕ O)} (st : Nat → S) (n : Nat) {s0 : S} {o : O} {N : Nat} (h0 : s0 = st 0) (hs : ∀ i, i < n → body (st i) = some (.inl (st (i + 1)))) (he : body (st n) = some (.inr o)) (hN : n < N) : iter body N s0 = some o := by
  subst h0; exact iter_count st n o hs he n 0 N (by omega) hN
/-- A loop that lays cell after cell. -/
theorem iter_fill {α : Type} {body : Int × List α → Option ((Int × List α) ⊕ List α)} (n N : Nat) (f g : Nat → α)
    (hs : ∀ i, i < n → body ((i : Int), tab n (fun k => if k < i then f k else g k)) = some (.inl ((i : Int) + 1, (tab n (fun k => if k < i then f k else g k)).set i (f i))))
    (he : ∀ xs, body ((n : Int), xs) = some (.inr xs)) (hN : n < N) : iter body N (0, tab n g) = some (tab n f) := by
  refine iter_to (fun i => ((i : Int), tab n (fun k => if k < i then f k else g k))) n ?_ ?_ ?_ hN
  · simp
  · intro i hi
    rw [hs i hi]
    refine congrArg (fun s => some (Sum.inl s)) (Prod.ext ?_ ?_)
    · exact (Int.natCast_succ i).symm
    · show _ = _
      rw [tab_set]
      refine tab_ext fun k hk => ?_
      by_cases h1 : k = i
      · rw [if_pos h1, if_pos (by omega), h1]
      · by_cases h2 : k < i
        · rw [if_neg h1, if_pos h2, if_pos (by omega)]
        · rw [if_neg h1, if_neg h2, if_neg (by omega)]
  · rw [he]
    refine congrArg (fun s => some (Sum.inr s)) (tab_ext fun k hk => ?_)
    rw [if_pos hk]

/-! ### sums -/
def psum (f : Nat → Int) : Nat → Int
  | 0 => 0
  | n + 1 => psum f n + f n
theorem psum_ext {f g : Nat → Int} {n : Nat} (h : ∀ k, k < n → f k = g k) : psum f n = psum g n := by
  induction n with
  | zero => rfl
  | succ n ih => simp only [psum]; rw [ih fun k hk => h k (by omega), h n (by omega)]
theorem psum_abs {f : Nat → Int} {n : Nat} {b : Int} (h : ∀ k, k < n → -b ≤ f k ∧ f k ≤ b) : -(n * b) ≤ psum f n ∧ psum f n ≤ n * b := by
  induction n with
  | zero => simp [psum]
  | succ n ih =>
    obtain ⟨h1, h2⟩ := ih fun k hk => h k (by omega)
    obtain ⟨h3, h4⟩ := h n (by omega)
    simp only [psum, Int.natCast_succ, Int.add_mul, Int.one_mul]
    omega
theorem psum_mul (c : Int) (f : Nat → Int) (n : Nat) : c * psum f n = psum (fun k => c * f k) n := by
  induction n with
  | zero => simp [psum]
  | succ n ih => simp only [psum]; rw [Int.mul_add, ih]
theorem psum_add (f : Nat → Int) (m n : Nat) : psum f (m + n) = psum f m + psum (fun k => f (m + k)) n := by
  induction n with
  | zero => simp [psum]
  | succ n ih => show psum f (m + n) + f (m + n) = _; rw [ih]; simp only [psum]; omega
theorem psum_zero {f : Nat → Int} {n : Nat} (h : ∀ k, k < n → f k = 0) : psum f n = 0 := by
  induction n with
  | zero => rfl
  | succ n ih => simp only [psum]; rw [ih fun k hk => h k (by omega), h n (by omega)]; rfl
/-- Rows of rows. -/
theorem psum_rows (f : Nat → Nat → Int) (w : Nat) (hw : 0 < w) (n : Nat) : psum (fun c => psum (f c) w) n = psum (fun k => f (k / w) (k % w)) (n * w) := by
  induction n with
  | zero => simp [psum]
  | succ n ih =>
    rw [Nat.succ_mul, psum_add (fun k => f (k / w) (k % w)) (n * w) w]
    show psum (fun c => psum (f c) w) n + psum (f n) w = _
    rw [ih]
    refine congrArg (fun y => psum (fun k => f (k / w) (k % w)) (n * w) + y) (psum_ext fun k hk => ?_)
    show f n k = f ((n * w + k) / w) ((n * w + k) % w)
    have h1 : (n * w + k) / w = n := by rw [Nat.mul_comm, Nat.mul_add_div hw, Nat.div_eq_of_lt hk]; omega
    have h2 : (n * w + k) % w = k := by rw [Nat.mul_comm, Nat.mul_add_mod, Nat.mod_eq_of_lt hk]
    rw [h1, h2]
/-- A loop that adds. -/
theorem iter_sum {body : Int × Int → Option ((Int × Int) ⊕ Int)} (n N : Nat) (f : Nat → Int)
    (hs : ∀ i, i < n → body (psum f i, (i : Int)) = some (.inl (psum f i + f i, (i : Int) + 1)))
    (he : ∀ x, body (x, (n : Int)) = some (.inr x)) (hN : n < N) : iter body N (0, 0) = some (psum f n) := by
  refine iter_to (fun i => (psum f i, (i : Int))) n rfl ?_ (he _) hN
  intro i hi
  rw [hs i hi]; rfl

/-- The first place where something holds, if there is one. -/
theorem first_or (P : Nat → Prop) [DecidablePred P] (n : Nat) : (∀ k, k < n → ¬ P k) ∨ ∃ k, k < n ∧ P k ∧ ∀ j, j < k → ¬ P j := by
  induction n with
  | zero => exact .inl fun k hk => absurd hk (Nat.not_lt_zero k)
  | succ n ih =>
    rcases ih with h | ⟨k, h1, h2, h3⟩
    · by_cases hp : P n
      · exact .inr ⟨n, by omega, hp, h⟩
      · exact .inl fun k hk => by
          by_cases e : k = n
          · rw [e]; exact hp
          · exact h k (by omega)
    · exact .inr ⟨k, by omega, h2, h3⟩

def clip (a lo hi : Int) : Int := if a < lo then lo else if hi < a then hi else a
theorem clip_ge {a lo hi : Int} (h : lo ≤ hi) : lo ≤ clip a lo hi := by unfold clip; split <;> (try split) <;> omega
theorem clip_le {a lo hi : Int} (h : lo ≤ hi) : clip a lo hi ≤ hi := by unfold clip; split <;> (try split) <;> omega
theorem clip_id {a lo hi : Int} (h1 : lo ≤ a) (h2 : a ≤ hi) : clip a lo hi = a := by unfold clip; rw [if_neg (by omega), if_neg (by omega)]
theorem in64 {x : Int} (h1 : -9223372036854775808 ≤ x) (h2 : x ≤ 9223372036854775807) : inK .i64 x := by unfold inK; constructor <;> omega
theorem inU64 {x : Int} (h1 : 0 ≤ x) (h2 : x ≤ 18446744073709551615) : inK .u64 x := by unfold inK; constructor <;> omega
end Go.X
