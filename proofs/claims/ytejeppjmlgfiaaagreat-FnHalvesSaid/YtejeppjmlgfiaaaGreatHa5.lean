/- Contracts of the laws' own helpers on slices of integers: the copy, the comparison, the marks. Conditions: the lists are short. -/
import Derived.Test.YtejeppjmlgfiaaaGreatHa4
import Derived.Deep.QuietTactic
import Derived.BigQuiet
namespace Go.Proofs.YtejeppjmlgfiaaaGreat
open Go.RowKit
set_option linter.unusedVariables false

theorem fill_set (l : List Int) (k : Nat) (x : Int) (hk : k < l.length) (hx : l[k]? = some x) :
    (((l.take k).map (Value.int .i64)) ++ List.replicate (l.length - k) (Value.int .i64 0)).set k (.int .i64 x) = ((l.take (k + 1)).map (Value.int .i64)) ++ List.replicate (l.length - (k + 1)) (Value.int .i64 0) := by
  have h1 : l.take (k + 1) = l.take k ++ [x] := by
    rw [List.take_add_one, hx]; rfl
  have h2 : l.length - k = (l.length - (k + 1)) + 1 := by omega
  rw [h1, h2, List.replicate_succ, List.set_append_right _ _ (by simp; omega)]
  simp [Nat.min_eq_left (Nat.le_of_lt hk)]

/-- The marks k, k + 1, .. of n places. -/
def marks (k : Int) (n : Nat) : List Int := (List.range n).map fun (i : Nat) => k + (i : Int)
theorem marks_length (k : Int) (n : Nat) : (marks k n).length = n := by simp [marks]
theorem marks_set (l : List Int) (k : Int) (j : Nat) (hj : j < l.length) :
    ((marks k j ++ l.drop j).map (Value.int .i64)).set j (.int .i64 (k + j)) = (marks k (j + 1) ++ l.drop (j + 1)).map (Value.int .i64) := by
  have h1 : l.drop j = l[j] :: l.drop (j + 1) := List.drop_eq_getElem_cons hj
  have h2 : marks k (j + 1) = marks k j ++ [k + (j : Int)] := by simp [marks, List.range_succ]
  rw [h1, h2, List.map_append, List.set_append_right _ _ (by simp [marks_length]), List.map_append, List.map_append]
  simp only [List.length_map, marks_length, Nat.sub_self, List.map_cons, List.set_cons_zero, List.map_nil, List.append_assoc, List.singleton_append]

/-- Two owned slices, the one below B, the other from B on, lie apart. -/
theorem apart_new {B : Nat} {u v : Value} (hv : ∀ g, v.ownBlock = some g → B ≤ g) (hu : ∀ g, u.ownBlock = some g → g < B) : ∀ g, v.ownBlock = some g → some g ≠ u.ownBlock :=
  fun g hg e => by have h1 := hv g hg; have h2 := hu g e.symm; omega
theorem apart_old {B : Nat} {u v : Value} (hv : ∀ g, v.ownBlock = some g → B ≤ g) (hu : ∀ g, u.ownBlock = some g → g < B) : ∀ g, u.ownBlock = some g → some g ≠ v.ownBlock :=
  fun g hg e => by have h1 := hu g hg; have h2 := hv g e.symm; omega
theorem below_row {w a b : World} {row : Option Nat} (h : Below w.heap.size w a) (k : a.grownBy b row) (hr : ∀ g, row = some g → w.heap.size ≤ g) : Below w.heap.size w b := h.grown k h.size hr
end Go.Proofs.YtejeppjmlgfiaaaGreat

/- The laws' own copies of circuits. Conditions: the lists are short. -/
namespace Go.Proofs.YtejeppjmlgfiaaaGreat
open Go.RowKit
set_option linter.unusedVariables false

/-- The two slices of a circuit are owned and lie apart. -/
structure OwnC (w : World) (B : Nat) (gv ov : Value) (c : Cir) (m : Nat) : Prop where
  gates : OwnG w B gv c.gs
  outs : OwnI w m ov c.outs
  le : B ≤ m
  lt : ∀ g, gv.ownBlock = some g → g < m
theorem OwnC.cir {w : World} {B m : Nat} {gv ov : Value} {c : Cir} (h : OwnC w B gv ov c m) : CirIn w gv ov c := ⟨h.gates.gates, h.outs.ints⟩
theorem OwnC.below {w w' : World} {B m : Nat} {gv ov : Value} {c : Cir} (h : OwnC w B gv ov c m) (hb : Below w.heap.size w w') : OwnC w' B gv ov c m := ⟨h.gates.below hb, h.outs.below hb, h.le, h.lt⟩
def RetC (w : World) (c : Cir) (e : Ending) (w' : World) : Prop := ∃ gv ov m, e = .returned (cirV c gv ov) ∧ OwnC w' w.heap.size gv ov c m ∧ Below w.heap.size w w'

/-- Three blocks laid one behind the other. -/
theorem three {w : World} {cA cB cC : Array Value} {tA tB tC : TypeId} {w1 : World} (hb : Below (((w.alloc (.cells cA tA)).alloc (.cells cB tB)).alloc (.cells cC tC)).heap.size (((w.alloc (.cells cA tA)).alloc (.cells cB tB)).alloc (.cells cC tC)) w1) :
    Blk w1 w.heap.size tA cA ∧ Blk w1 (w.heap.size + 1) tB cB ∧ Blk w1 (w.heap.size + 1 + 1) tC cC ∧ Below w.heap.size w w1 ∧ w.heap.size + 3 ≤ w1.heap.size := by
  have h1 : Blk (((w.alloc (.cells cA tA)).alloc (.cells cB tB)).alloc (.cells cC tC)) w.heap.size tA cA := ((Blk.new w tA cA).alloc _).alloc _
  have h2 : Blk (((w.alloc (.cells cA tA)).alloc (.cells cB tB)).alloc (.cells cC tC)) (w.heap.size + 1) tB cB := by
    have := (Blk.new (w.alloc (.cells cA tA)) tB cB).alloc (.cells cC tC); simpa using this
  have h3 : Blk (((w.alloc (.cells cA tA)).alloc (.cells cB tB)).alloc (.cells cC tC)) (w.heap.size + 1 + 1) tC cC := by
    have := Blk.new ((w.alloc (.cells cA tA)).alloc (.cells cB tB)) tC cC; simpa using this
  have h4 := hb.size
  refine ⟨h1.step hb, h2.step hb, h3.step hb, ?_, by simp at h4; omega⟩
  exact ((((Below.refl _ _).alloc (Nat.le_refl _) _).alloc (by simp) _).alloc (by simp; omega) _).trans (hb.mono (by simp; omega))

end Go.Proofs.YtejeppjmlgfiaaaGreat
