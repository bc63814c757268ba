/- Contracts of the draws of lists: some list of the right length and range comes back in new memory. Conditions: the bounds that each names. -/
import Derived.Test.YtmccfdaaneemfaaDrawB
import Derived.Test.YtmccfdaaneemfaaDrawF
import Derived.Test.YtmccfdaaneemfaaCol
namespace Go.Proofs.Ytmccfdaaneemfaa
open Go.RowKit
set_option linter.unusedVariables false
set_option maxHeartbeats 1000000
section
variable {w w1 w2 : World} {g n : Nat} {cd : Value}
/-- A list is drawn: some list in new memory, and only the cursor's block is changed. -/
def DrewL (w : World) (g : Nat) (cd : Value) (n : Nat) (R : List Int → Prop) (e : Ending) (w' : World) : Prop := ∃ u l, e = .returned u ∧ R l ∧ OwnI w' w.heap.size u l ∧ Cur w' g cd n ∧ w.grownBy w' (some g)
theorem grown_own {b : Option Nat} (h : w.grownBy w1 (some g)) (h2 : w1.grownBy w2 b) (hb : ∀ k, b = some k → w.heap.size ≤ k) : w.grownBy w2 (some g) := by
  obtain ⟨a1, a2, a3, a4, a5⟩ := h
  obtain ⟨b1, b2, b3, b4, b5⟩ := h2
  refine ⟨b1.trans a1, b2.trans a2, b3.trans a3, Nat.le_trans a4 b4, fun i hi hn => ?_⟩
  rw [b5 i (Nat.lt_of_lt_of_le hi a4) (fun e => by have := hb i e.symm; omega), a5 i hi hn]
/-- An append onto a slice of the draw's own. -/
theorem Cur.app {b : Option Nat} (h0 : CodeIn w cd g) (h1 : Cur w1 g cd n) (hw : w.grownBy w1 (some g)) (h2 : w1.grownBy w2 b) (hb : ∀ k, b = some k → w.heap.size ≤ k) (hg : g < w.heap.size) : Cur w2 g cd n ∧ w.grownBy w2 (some g) := by
  have hw2 := grown_own hw h2 hb
  obtain ⟨_, a, s, h3, h4, h5, h6, h7⟩ := h1
  exact ⟨⟨h0.grown hw2, a, s, h3, h4, h5, h6, h7.grown h2 (fun e => by have := hb g e.symm; omega)⟩, hw2⟩
theorem own_app {u : Value} {l : List Int} (h : OwnI w1 w.heap.size u l) (hg : g < w.heap.size) (h2 : w1.grownBy w2 (some g)) : OwnI w2 w.heap.size u l :=
  h.grown h2 (fun b hb e => by have := h.ge b hb; injection e with e; omega)
end
end Go.Proofs.Ytmccfdaaneemfaa
