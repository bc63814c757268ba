/- Contracts: the numbers of all rows of a circuit's tables, the program's and the reference's. No condition. -/
import Derived.Test.YtejeppjmlgfiaaaCirE
import Derived.Test.YtejeppjmlgfiaaaCirF
import Derived.Test.YtejeppjmlgfiaaaCirG
namespace Go.Proofs.Ytejeppjmlgfiaaa
open Go.RowKit
set_option linter.unusedVariables false

def rowsM (m : Int) (c : Cir) : Option Int := if cirB c then some (m * cnt 1 c.gs) else none
theorem own_at {w : World} {B : Nat} {v : Value} {l : List Int} (h : OwnI w B v l) (hl : l ≠ []) : ∃ g c, v = .slice (some ⟨g, 0, none⟩) l.length c ∧ B ≤ g ∧ g < w.heap.size ∧ ∀ j x, l[j]? = some x → w.cell? ⟨g, j, none⟩ = some (.int .i64 x) := by
  obtain ⟨g, c, rfl, h1, h2, h3, h4⟩ := own_pos h (List.length_pos_iff.2 hl)
  refine ⟨g, c, rfl, h1, h2, fun j x hx => ?_⟩
  have hj := (List.getElem?_eq_some_iff.1 hx).1
  have := h.cellAt j (by simpa using hj)
  rw [this]; simp [hx]

end Go.Proofs.Ytejeppjmlgfiaaa
