/- Contracts of the colours of labels and of exclusive-ors of lists. Conditions: the lists are short, the labels in range. -/
import Derived.Test.YtjijghfagaigbaaAll
import Derived.Test.YtjijghfagaigbaaLabF
import Derived.StillTailTactics
namespace Go.Proofs.Ytjijghfagaigbaa
open Go.RowKit
set_option linter.unusedVariables false

/-- The call returns 'list, ok', the list in a new slice; nothing that was there has changed. -/
def RetIB (w : World) (o : Option (List Int)) (e : Ending) (w' : World) : Prop := ∃ u, e = .returned (.tuple #[u, .bool o.isSome]) ∧ OwnI w' w.heap.size u (o.getD []) ∧ Below w.heap.size w w'
theorem RetIB.no (w : World) : RetIB w none (.returned (.tuple #[.slice none 0 0, .bool false])) w := ⟨_, rfl, OwnI.nil _ _, Below.refl _ _⟩
theorem RetIB.no_below {w w' : World} (h : Below w.heap.size w w') : RetIB w none (.returned (.tuple #[.slice none 0 0, .bool false])) w' := ⟨_, rfl, OwnI.nil _ _, h⟩
theorem RetIB.yes {w w' : World} {l : List Int} {u : Value} (h : OwnI w' w.heap.size u l) (hb : Below w.heap.size w w') : RetIB w (some l) (.returned (.tuple #[u, .bool true])) w' := ⟨u, rfl, h, hb⟩

theorem OwnI.snoc {w : World} {B : Nat} {v : Value} {l : List Int} {x : Int} (h : w.ownsRow B 3 1 v (l.length + 1) (l.map (Value.int .i64) ++ [.int .i64 x])) : OwnI w B v (l ++ [x]) := by
  simpa [OwnI] using h
/-- Behind an append onto a row of the call's own. -/
theorem below_app {B E sz n : Nat} {w wr w' : World} {v : Value} {xs : List Value} (h : Below B w wr) (hown : wr.ownsRow B E sz v n xs) (hg : wr.grownBy w' v.ownBlock) (hB : B ≤ w.heap.size) : Below B w w' :=
  h.grown hg (Nat.le_trans hB h.size) (fun g hg' => own_ge hown g hg')

def coloursM (l : List Int) : List Int := l.map (· % 2)

end Go.Proofs.Ytjijghfagaigbaa
