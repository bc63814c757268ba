/- The laws' own copies of gates. Conditions: the lists are short. -/
import Derived.Test.YtejeppjmlgfiaaaGreatMem
import Derived.Test.YtejeppjmlgfiaaaGreatCirM
namespace Go.Proofs.YtejeppjmlgfiaaaGreat
open Go.RowKit
set_option linter.unusedVariables false

theorem info_gate : (Tryz.prog.info? 117).map (fun i => (i.zero, i.size, i.bytes)) = some (some (.agg #[.int .i64 0, .int .i64 0, .int .i64 0]), 3, 24) := by kernel_rfl

/-- The call returns a new slice of gates that reads as gs. -/
def OwnG (w : World) (B : Nat) (v : Value) (gs : List Gt) : Prop := w.ownsRow B 117 3 v gs.length (gcells gs)
theorem OwnG.gates {w : World} {B : Nat} {v : Value} {gs : List Gt} (h : OwnG w B v gs) : Gates w v gs := own_form h
theorem OwnG.below {w w' : World} {B : Nat} {v : Value} {gs : List Gt} (h : OwnG w B v gs) (hb : Below w.heap.size w w') : OwnG w' B v gs := own_below h hb
theorem OwnG.grown {w w' : World} {B : Nat} {v : Value} {gs : List Gt} {row : Option Nat} (h : OwnG w B v gs) (hg : w.grownBy w' row) (hne : ∀ g, v.ownBlock = some g → some g ≠ row) : OwnG w' B v gs := own_grown h hg hne
theorem OwnG.ge {w : World} {B : Nat} {v : Value} {gs : List Gt} (h : OwnG w B v gs) : ∀ g, v.ownBlock = some g → B ≤ g := own_ge h
theorem OwnG.lt {w : World} {B : Nat} {v : Value} {gs : List Gt} (h : OwnG w B v gs) : ∀ g, v.ownBlock = some g → g < w.heap.size := own_lt h
def RetG (w : World) (gs : List Gt) (e : Ending) (w' : World) : Prop := ∃ u, e = .returned u ∧ OwnG w' w.heap.size u gs ∧ Below w.heap.size w w'

end Go.Proofs.YtejeppjmlgfiaaaGreat
