/- Contracts of the validity of tables, the reference's; IsGarbled and IsHalved. Conditions: the lists are short. -/
import Derived.Test.YtllaojfgenopbaaTab
import Derived.Test.YtllaojfgenopbaaCirE
import Derived.Test.YtllaojfgenopbaaCirF
namespace Go.Proofs.Ytllaojfgenopbaa
open Go.RowKit
set_option linter.unusedVariables false

theorem rows_no {rows : List (List Int)} {p : List Int → Bool} {k : Nat} {r : List Int} (h : rows[k]? = some r) (hp : p r = false) : rows.all p = false := by
  simpa using ⟨r, List.mem_of_getElem? h, hp⟩
theorem rows_step {rows : List (List Int)} {p : List Int → Bool} {k : Nat} {r : List Int} (h : rows[k]? = some r) (ha : (rows.take k).all p = true) (hp : p r = true) : (rows.take (k + 1)).all p = true := by
  rw [take_snoc h, List.all_append, ha]; simp [hp]

def isTabM (n : Int) (c : Cir) (g : Gb) : Option Bool := if cirB c then some (tabB n c g) else none
/-- The flags of a result 'bool, ok'. -/
def bV (o : Option Bool) : Bool := o.getD false
def bB (o : Option Bool) : Bool := o.isSome
end Go.Proofs.Ytllaojfgenopbaa
