/- What the printed models answer: plain laws. -/
import Derived.Test.YtcfffichdcnlgaaDoorBB
set_option linter.unusedVariables false
set_option linter.unusedSimpArgs false
namespace Go.Proofs.YtcfffichdcnlgaaDoor
open Go.X

def rowsC : List (Int × Nat) := [(3, 7), (2, 2), (15, 4), (21, 6), (23, 7), (31, 8), (37, 9), (36, 9), (33, 10), (32, 10), (7, 11), (6, 11), (32, 11), (7, 4), (25, 9), (5, 11), (6, 3), (20, 6), (30, 8), (15, 10), (33, 11), (80, 12), (15, 6), (4, 11), (14, 4), (29, 8), (14, 10), (81, 12), (14, 6), (13, 5), (35, 9), (13, 10), (13, 6), (12, 5), (34, 9), (82, 12), (12, 6), (11, 5), (12, 10), (83, 12), (19, 7), (19, 6), (11, 10), (84, 12), (18, 7), (18, 6), (10, 10), (17, 7), (17, 6), (9, 10), (16, 7), (16, 6), (8, 10), (26, 8), (22, 7), (85, 12), (25, 8), (21, 7), (24, 8), (20, 7), (23, 8), (28, 8), (22, 8), (27, 8), (21, 8), (33, 9), (20, 8), (32, 9), (19, 8), (31, 9), (24, 9), (30, 9), (23, 9), (29, 9), (22, 9), (28, 9), (21, 9), (27, 9), (20, 9), (26, 9), (19, 9), (34, 11), (18, 9), (35, 11), (17, 9), (86, 12), (7, 10), (87, 12), (6, 10), (5, 10), (4, 10), (36, 11), (37, 11), (38, 11), (39, 11), (88, 12), (89, 12), (90, 12), (91, 12), (92, 12), (93, 12), (94, 12), (95, 12)]
def rowsB : List (List Bool) := rowsC.map fun q => digits q.1 q.2
def evsB : List Ev := [(false, 0, 0), (false, 0, 1), (false, 0, 2), (false, 0, 3), (false, 0, 4), (false, 0, 5), (false, 0, 6), (false, 0, 7), (false, 0, 8), (false, 0, 9), (false, 0, 10), (false, 0, 11), (false, 0, 12), (true, 0, 1), (true, 0, 2), (true, 0, 3), (false, 1, 1), (false, 1, 2), (false, 1, 3), (false, 1, 4), (false, 1, 5), (false, 1, 6), (true, 1, 1), (true, 1, 2), (false, 2, 1), (false, 2, 2), (false, 2, 3), (false, 2, 4), (true, 2, 1), (false, 3, 1), (false, 3, 2), (false, 3, 3), (true, 3, 1), (false, 4, 1), (false, 4, 2), (false, 4, 3), (true, 4, 1), (false, 5, 1), (false, 5, 2), (false, 5, 3), (true, 5, 1), (false, 6, 1), (false, 6, 2), (false, 6, 3), (true, 6, 1), (false, 7, 1), (false, 7, 2), (true, 7, 1), (false, 8, 1), (false, 8, 2), (true, 8, 1), (false, 9, 1), (false, 9, 2), (true, 9, 1), (false, 10, 1), (false, 10, 2), (true, 10, 1), (false, 11, 1), (true, 11, 1), (false, 12, 1), (true, 12, 1), (false, 13, 1), (true, 13, 1), (false, 14, 1), (true, 14, 1), (false, 15, 1), (true, 15, 1), (false, 16, 1), (true, 16, 1), (false, 17, 1), (true, 17, 1), (false, 18, 1), (true, 18, 1), (false, 19, 1), (true, 19, 1), (false, 20, 1), (true, 20, 1), (false, 21, 1), (true, 21, 1), (false, 22, 1), (true, 22, 1), (false, 23, 1), (true, 23, 1), (false, 24, 1), (true, 24, 1), (false, 25, 1), (true, 25, 1), (false, 26, 1), (true, 26, 1), (true, 27, 1), (true, 28, 1), (true, 29, 1), (true, 30, 1), (true, 31, 1), (true, 32, 1), (true, 33, 1), (true, 34, 1), (true, 35, 1), (true, 36, 1), (true, 37, 1), (true, 38, 1), (true, 39, 1), (true, 40, 1)]
def nodesB : List (List Bool) := ([(0, 0), (0, 1), (1, 1), (0, 2), (1, 2), (3, 2), (0, 3), (1, 3), (2, 3), (3, 3), (7, 3), (0, 4), (1, 4), (2, 4), (3, 4), (4, 4), (5, 4), (6, 4), (0, 5), (1, 5), (2, 5), (3, 5), (4, 5), (5, 5), (6, 5), (7, 5), (8, 5), (9, 5), (10, 5), (0, 6), (1, 6), (2, 6), (3, 6), (4, 6), (5, 6), (6, 6), (7, 6), (8, 6), (9, 6), (10, 6), (11, 6), (0, 7), (1, 7), (2, 7), (4, 7), (5, 7), (6, 7), (7, 7), (8, 7), (9, 7), (10, 7), (11, 7), (12, 7), (13, 7), (14, 7), (15, 7), (0, 8), (1, 8), (2, 8), (3, 8), (4, 8), (5, 8), (8, 8), (9, 8), (10, 8), (11, 8), (12, 8), (13, 8), (14, 8), (15, 8), (16, 8), (17, 8), (18, 8), (1, 9), (2, 9), (3, 9), (4, 9), (5, 9), (6, 9), (7, 9), (8, 9), (9, 9), (10, 9), (11, 9), (16, 9), (2, 10), (3, 10), (16, 10), (17, 10), (18, 10), (19, 10), (20, 10), (21, 10), (22, 10), (23, 10), (40, 11), (41, 11), (42, 11), (43, 11), (44, 11), (45, 11), (46, 11), (47, 11)] : List (Int × Nat)).map fun q => digits q.1 q.2
def fi (w : List Bool) : Nat → Option Nat
  | 0 => none
  | i + 1 => match fi w i with
    | some j => some j
    | none => if rowsB.getD i [] = w then some i else none
def pa (w : List Bool) : Nat → Bool
  | 0 => false
  | i + 1 => bif pa w i then true else w.isPrefixOf (rowsB.getD i [])
def evJ (j : Nat) : Ev := evsB.getD j (false, ((0 : Int), (0 : Int)))
def chkN (N : Nat) (w : List Bool) : Bool :=
  bif decide (w.length = 7) && decide (numB w = 3) then decide (fi w 103 = some 0)
  else match tcoef_find N (numB w) (w.length : Int) with
    | some (a, m) => bif decide (0 ≤ a) then
        (match fi w 103 with
         | some j => decide (a < 102) && (decide (0 < j) && (decide (tcoef_event N a = some (evJ j)) && (decide (1 ≤ (evJ j).2.2) && decide ((evJ j).2.2 ≤ 127))))
         | none => false)
      else decide (fi w 103 = none) && (decide (a = -1) && (decide (m = pa w 103) && (!m || decide (w ∈ nodesB))))
    | none => false
theorem ckN (M : Nat) : (nodesB.all fun w => chkN (M + 200) (w ++ [false]) && chkN (M + 200) (w ++ [true])) = true := by kernel_rfl
theorem nodes_len : (nodesB.all fun w => decide (w.length ≤ 11)) = true := by kernel_rfl
theorem rowsB_len : rowsB.length = 103 := by kernel_rfl
theorem rows_at (M : Nat) : iter (ref09_Take_b1 (M + 200)) (M + 200) (1, 1, 0, ([⟨#[48, 48, 48, 48, 48, 49, 49]⟩] : List ByteArray), [(false, ((0 : Int), (0 : Int)))]) = some (103, 103, rowsB.map rowT, evsB) := by kernel_rfl
def chkH (N : Nat) (l : Bool) (r : Nat) : Bool := match ref09_rows N l r, tcoef_many N l r with
  | some rows, some n => decide ((rows.length : Int) = n) && (List.range rows.length).all fun i => decide (bl (rows.getD i ⟨#[]⟩) ≠ []) && match tcoef_place N l r ((i : Int) + 1) with
    | some a => decide (0 ≤ a)
    | none => false
  | _, _ => false
theorem ckH (M : Nat) : ((List.range 64).all fun r => chkH (M + 200) false r && chkH (M + 200) true r) = true := by kernel_rfl
end Go.Proofs.YtcfffichdcnlgaaDoor
