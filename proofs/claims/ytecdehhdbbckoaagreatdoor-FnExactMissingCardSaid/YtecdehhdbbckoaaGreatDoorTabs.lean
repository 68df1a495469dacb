/- The seat's tables for the interpreter. Conditions: none but those that each theorem names. -/
import Derived.Test.YtecdehhdbbckoaaGreatDoorLiteC
import Derived.Test.YtecdehhdbbckoaaGreatDoorLiteE
import Derived.Test.YtecdehhdbbckoaaGreatDoorProg

namespace Go.Proofs.Try1
open Go Go.Lite
def locTab : List (Nat × List Nat) := [(3, [3, 8]),
  (8, [2]),
  (9, [3, 6]),
  (11, [1, 2, 3]),
  (12, [5]),
  (15, [2, 3]),
  (17, [2]),
  (36, [1]),
  (40, [2]),
  (44, [3, 4]),
  (45, [2]),
  (46, [1, 2, 3]),
  (49, [4]),
  (50, [1, 4]),
  (51, [4]),
  (52, [2]),
  (53, [2, 3]),
  (84, [2]),
  (95, [2]),
  (96, [2]),
  (97, [1]),
  (100, [1, 2, 3]),
  (101, [1, 2, 3]),
  (102, [1]),
  (104, [1]),
  (105, [4, 7]),
  (108, [2, 3]),
  (109, [2, 3]),
  (145, [1]),
  (146, [1]),
  (150, [2]),
  (158, [2]),
  (165, [2]),
  (204, [9])]
def ordTab : List (Nat × List (Nat × Hint)) := [(3, [(8, ⟨[0, 2, 1, 3, 4, 5], [], [], [(2, 3)]⟩), (16, ⟨[0, 1, 2, 3, 4], [], [], [(0, 8), (1, 3)]⟩), (31, ⟨[0, 2, 1, 3, 4, 5], [], [], [(2, 3)]⟩)]),
  (19, [(4, ⟨[0, 1, 2, 3, 4, 5, 6], [5], [3], []⟩)]),
  (102, [(8, ⟨[0, 1, 2, 3, 4, 8, 9, 5, 6, 7, 10, 11, 12, 13, 14, 15, 16, 17, 18, 19, 20, 21, 22, 23, 24], [5, 6], [8], [(1, 1), (19, 1)]⟩)]),
  (105, [(5, ⟨[0, 1, 2, 3, 5, 6, 8, 9, 4, 7, 10, 11, 12, 13], [], [], [(1, 7), (3, 7), (6, 7), (9, 7), (12, 4)]⟩)]),
  (130, [(4, ⟨[0, 1, 2, 3, 4, 5, 6, 7, 8, 9, 10, 11, 12, 13, 14, 16, 17, 18, 19, 15, 20, 21, 22, 23], [15], [19], []⟩)])]
def fids : List Nat := [3, 7, 8, 9, 10, 11, 12, 13, 14, 15, 16, 17, 18, 19, 20, 22, 36, 40, 41, 42, 43, 44, 45, 46, 47, 48, 49, 50, 51, 52, 53, 54, 55, 56, 57, 58, 60, 66, 82, 83, 84, 85, 86, 88, 90, 95, 96, 97, 98, 99, 100, 101, 102, 103, 104, 105, 106, 107, 108, 109, 113, 114, 116, 130, 131, 133, 134, 135, 136, 137, 138, 139, 140, 141, 142, 143, 144, 145, 146, 147, 148, 149, 150, 151, 155, 156, 157, 158, 159, 160, 161, 162, 164, 165, 166, 171, 172, 174, 175, 176, 187, 188, 189, 190, 191, 192, 196, 204, 206, 219, 220, 221, 227]
def primTab : Nat → Option (List V → List Ob → Option (V × List Ob)) := fun f => if f = 173 then some sortPrim else if f = 203 then some cmpPrim else none
def tabs : Tabs := { locs := fun f => (locTab.lookup f).getD [], ord := fun f id => ((ordTab.lookup f).getD []).lookup id, prim := primTab, fids := fids }
theorem mixed : Tryz.prog.follows .mixedOrders = true := rfl
theorem ok : progB Tryz.prog tabs = true := by decide +kernel
end Go.Proofs.Try1
