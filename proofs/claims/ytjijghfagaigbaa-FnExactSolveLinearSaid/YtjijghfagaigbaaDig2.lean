/- Contracts of the digest. Conditions: the list is short, its numbers within 10^12. -/
import Derived.Test.YtjijghfagaigbaaDig
namespace Go.Proofs.Ytjijghfagaigbaa
open Go.RowKit
set_option linter.unusedVariables false

/-- One step of the digest. -/
def digStep (a x : Int) : Int := ((25214 * a + x + 17) % 1000003) * (((25214 * a + x + 17) % 1000003) / 64 + 5) % 1000003
def digFold (a : Int) (l : List Int) : Int := l.foldl digStep a
/-- The digest of a list. -/
def digM (l : List Int) : Int := digFold (40503 + (l.length : Int)) (l ++ [8, 1]) % 65536

theorem digStep_bd (a x : Int) : 0 ≤ digStep a x ∧ digStep a x ≤ 1000002 := by unfold digStep; omega
theorem digFold_bd {a : Int} (h : 0 ≤ a ∧ a ≤ 1000002) (l : List Int) : 0 ≤ digFold a l ∧ digFold a l ≤ 1000002 := by
  induction l generalizing a with
  | nil => exact h
  | cons x l ih => exact ih (digStep_bd a x)
theorem digFold_snoc (a : Int) (l : List Int) (x : Int) : digFold a (l ++ [x]) = digStep (digFold a l) x := by simp [digFold]
theorem digM_bd (l : List Int) : 0 ≤ digM l ∧ digM l ≤ 65535 := by unfold digM; omega
theorem prod_bd {X : Int} (h : 0 ≤ X ∧ X ≤ 1000002) : 0 ≤ X * (X / 64 + 5) ∧ X * (X / 64 + 5) ≤ 100000000000 := by
  have h1 : 0 ≤ X / 64 + 5 := by omega
  have h2 : X / 64 + 5 ≤ 15631 := by omega
  have h3 := Int.mul_nonneg h.1 h1
  have h4 : X * (X / 64 + 5) ≤ 1000002 * 15631 := Int.mul_le_mul h.2 h2 h1 (by omega)
  omega

/-- The list that the digest goes over, as the call has laid it. -/
theorem dig_tail (l : List Int) : l.map (Value.int .i64) ++ [.int .i64 8, .int .i64 1] = (l ++ [8, 1]).map (Value.int .i64) := by simp

end Go.Proofs.Ytjijghfagaigbaa
