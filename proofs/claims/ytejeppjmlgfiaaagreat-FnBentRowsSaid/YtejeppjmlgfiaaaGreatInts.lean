/- Contracts of the laws' own helpers on slices of integers: the copy, the comparison, the marks. Conditions: the lists are short. -/
import Derived.Test.YtejeppjmlgfiaaaGreatDig2
import Derived.Deep.QuietTactic
import Derived.BigQuiet
namespace Go.Proofs.YtejeppjmlgfiaaaGreat
open Go.RowKit
set_option linter.unusedVariables false

theorem fill_set (l : List Int) (k : Nat) (x : Int) (hk : k < l.length) (hx : l[k]? = some x) :
    (((l.take k).map (Value.int .i64)) ++ List.replicate (l.length - k) (Value.int .i64 0)).set k (.int .i64 x) = ((l.take (k + 1)).map (Value.int .i64)) ++ List.replicate (l.length - (k + 1)) (Value.int .i64 0) := by
  have h1 : l.take (k + 1) = l.take k ++ [x] := by
    rw [List.take_add_one, hx]; rfl
  have h2 : l.length - k = (l.length - (k + 1)) + 1 := by omega
  rw [h1, h2, List.replicate_succ, List.set_append_right _ _ (by simp; omega)]
  simp [Nat.min_eq_left (Nat.le_of_lt hk)]

/-- The marks k, k + 1, .. of n places. -/
def marks (k : Int) (n : Nat) : List Int := (List.range n).map fun (i : Nat) => k + (i : Int)
theorem marks_length (k : Int) (n : Nat) : (marks k n).length = n := by simp [marks]
theorem marks_set (l : List Int) (k : Int) (j : Nat) (hj : j < l.length) :
    ((marks k j ++ l.drop j).map (Value.int .i64)).set j (.int .i64 (k + j)) = (marks k (j + 1) ++ l.drop (j + 1)).map (Value.int .i64) := by
  have h1 : l.drop j = l[j] :: l.drop (j + 1) := List.drop_eq_getElem_cons hj
  have h2 : marks k (j + 1) = marks k j ++ [k + (j : Int)] := by simp [marks, List.range_succ]
  rw [h1, h2, List.map_append, List.set_append_right _ _ (by simp [marks_length]), List.map_append, List.map_append]
  simp only [List.length_map, marks_length, Nat.sub_self, List.map_cons, List.set_cons_zero, List.map_nil, List.append_assoc, List.singleton_append]

/-- Two owned slices, the one below B, the other from B on, lie apart. -/
theorem apart_new {B : Nat} {u v : Value} (hv : ∀ g, v.ownBlock = some g → B ≤ g) (hu : ∀ g, u.ownBlock = some g → g < B) : ∀ g, v.ownBlock = some g → some g ≠ u.ownBlock :=
  fun g hg e => by have h1 := hv g hg; have h2 := hu g e.symm; omega
theorem apart_old {B : Nat} {u v : Value} (hv : ∀ g, v.ownBlock = some g → B ≤ g) (hu : ∀ g, u.ownBlock = some g → g < B) : ∀ g, u.ownBlock = some g → some g ≠ v.ownBlock :=
  fun g hg e => by have h1 := hu g hg; have h2 := hv g e.symm; omega
theorem below_row {w a b : World} {row : Option Nat} (h : Below w.heap.size w a) (k : a.grownBy b row) (hr : ∀ g, row = some g → w.heap.size ≤ g) : Below w.heap.size w b := h.grown k h.size hr
end Go.Proofs.YtejeppjmlgfiaaaGreat
