/- Contracts of sums of shares. Conditions: the lists are short. -/
import Derived.Test.YtejeppjmlgfiaaaPtsB
import Derived.Deep.RegionHeld3
namespace Go.Proofs.Ytejeppjmlgfiaaa
open Go.RowKit
set_option linter.unusedVariables false

def addM (p : Int) (a b : List Int) : List Int := List.zipWith (fun x y => (x + y) % p) a b
theorem addM_snoc {p : Int} {a b : List Int} {k : Nat} {x y : Int} (hx : a[k]? = some x) (hy : b[k]? = some y) : addM p (a.take (k + 1)) (b.take (k + 1)) = addM p (a.take k) (b.take k) ++ [(x + y) % p] := by
  have ha : k < a.length := (List.getElem?_eq_some_iff.1 hx).1
  have hb : k < b.length := (List.getElem?_eq_some_iff.1 hy).1
  rw [take_snoc hx, take_snoc hy]
  unfold addM
  rw [List.zipWith_append (by simp; omega)]; rfl
/-- Values of a field, few of them. -/
noncomputable def shB (p : Int) (l : List Int) : Bool := fpInB p l && decide ((l.length : Int) ≤ 40)
noncomputable def addOM (p : Int) (a b : List Int) : Option (List Int) := if shB p a && shB p b && decide ((a.length : Int) = (b.length : Int)) then some (addM p a b) else none
end Go.Proofs.Ytejeppjmlgfiaaa
