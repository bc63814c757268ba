/- The laws' own copies of circuits. Conditions: the lists are short. -/
import Derived.Test.YtejeppjmlgfiaaaGreatCirA
import Derived.Test.YtejeppjmlgfiaaaGreatInts
namespace Go.Proofs.YtejeppjmlgfiaaaGreat
open Go.RowKit
set_option linter.unusedVariables false

/-- The two slices of a circuit are owned and lie apart. -/
structure OwnC (w : World) (B : Nat) (gv ov : Value) (c : Cir) (m : Nat) : Prop where
  gates : OwnG w B gv c.gs
  outs : OwnI w m ov c.outs
  le : B ≤ m
  lt : ∀ g, gv.ownBlock = some g → g < m
theorem OwnC.cir {w : World} {B m : Nat} {gv ov : Value} {c : Cir} (h : OwnC w B gv ov c m) : CirIn w gv ov c := ⟨h.gates.gates, h.outs.ints⟩
theorem OwnC.below {w w' : World} {B m : Nat} {gv ov : Value} {c : Cir} (h : OwnC w B gv ov c m) (hb : Below w.heap.size w w') : OwnC w' B gv ov c m := ⟨h.gates.below hb, h.outs.below hb, h.le, h.lt⟩
def RetC (w : World) (c : Cir) (e : Ending) (w' : World) : Prop := ∃ gv ov m, e = .returned (cirV c gv ov) ∧ OwnC w' w.heap.size gv ov c m ∧ Below w.heap.size w w'

/-- Three blocks laid one behind the other. -/
theorem three {w : World} {cA cB cC : Array Value} {tA tB tC : TypeId} {w1 : World} (hb : Below (((w.alloc (.cells cA tA)).alloc (.cells cB tB)).alloc (.cells cC tC)).heap.size (((w.alloc (.cells cA tA)).alloc (.cells cB tB)).alloc (.cells cC tC)) w1) :
    Blk w1 w.heap.size tA cA ∧ Blk w1 (w.heap.size + 1) tB cB ∧ Blk w1 (w.heap.size + 1 + 1) tC cC ∧ Below w.heap.size w w1 ∧ w.heap.size + 3 ≤ w1.heap.size := by
  have h1 : Blk (((w.alloc (.cells cA tA)).alloc (.cells cB tB)).alloc (.cells cC tC)) w.heap.size tA cA := ((Blk.new w tA cA).alloc _).alloc _
  have h2 : Blk (((w.alloc (.cells cA tA)).alloc (.cells cB tB)).alloc (.cells cC tC)) (w.heap.size + 1) tB cB := by
    have := (Blk.new (w.alloc (.cells cA tA)) tB cB).alloc (.cells cC tC); simpa using this
  have h3 : Blk (((w.alloc (.cells cA tA)).alloc (.cells cB tB)).alloc (.cells cC tC)) (w.heap.size + 1 + 1) tC cC := by
    have := Blk.new ((w.alloc (.cells cA tA)).alloc (.cells cB tB)) tC cC; simpa using this
  have h4 := hb.size
  refine ⟨h1.step hb, h2.step hb, h3.step hb, ?_, by simp at h4; omega⟩
  exact ((((Below.refl _ _).alloc (Nat.le_refl _) _).alloc (by simp) _).alloc (by simp; omega) _).trans (hb.mono (by simp; omega))

end Go.Proofs.YtejeppjmlgfiaaaGreat
