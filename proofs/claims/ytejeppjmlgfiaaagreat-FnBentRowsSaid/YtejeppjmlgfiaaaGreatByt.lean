/- A slice of bytes that reads as a list. Plain definitions and lemmas. -/
import Derived.Test.YtejeppjmlgfiaaaGreatBase
namespace Go.Proofs.YtejeppjmlgfiaaaGreat
open Go.RowKit
set_option linter.unusedVariables false

/-- The value v is a slice of bytes that reads as l. -/
def Byts (w : World) (v : Value) (l : List Int) : Prop := Sl w v l.length (l.map (Value.int .u8)) ∧ ∀ x ∈ l, 0 ≤ x ∧ x ≤ 255
theorem Byts.below {w w' : World} {v : Value} {l : List Int} (h : Byts w v l) (hb : Below w.heap.size w w') : Byts w' v l := ⟨Sl.below h.1 hb, h.2⟩
end Go.Proofs.YtejeppjmlgfiaaaGreat
