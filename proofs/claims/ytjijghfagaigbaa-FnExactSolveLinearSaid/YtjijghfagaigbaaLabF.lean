/- Contracts of the exported functions on single labels. They leave memory alone. No condition. -/
import Derived.Test.YtjijghfagaigbaaMem
namespace Go.Proofs.Ytjijghfagaigbaa
open Go.RowKit
set_option linter.unusedVariables false

def colourM (l : Int) : Option Int := if inB l 0 65535 then some (l % 2) else none
def labelM (z r b : Int) : Option Int := if inB z 0 65535 && offB r && inB b 0 1 then some (xorI z (r * b)) else none
def bitM (z r l : Int) : Option Int := if inB z 0 65535 && offB r then (if l = z then some 0 else if l = xorI z r then some 1 else none) else none
def freeXorM (x y : Int) : Option Int := if inB x 0 65535 && inB y 0 65535 then some (xorI x y) else none

theorem offB_bd {r : Int} (h : offB r = true) : 0 ≤ r ∧ r ≤ 65535 ∧ r % 2 = 1 := by
  simp [offB] at h; exact ⟨(inB_bd h.1).1, (inB_bd h.1).2, h.2⟩

theorem bit_of {b : Int} (h : inB b 0 1 = true) : b = 0 ∨ b = 1 := by have := inB_bd h; omega
end Go.Proofs.Ytjijghfagaigbaa
