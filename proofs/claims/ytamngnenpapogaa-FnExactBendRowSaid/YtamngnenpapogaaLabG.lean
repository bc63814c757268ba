/- Contracts of offsets, zero labels and half ciphers, exported. No condition. -/
import Derived.Test.YtamngnenpapogaaDig3
import Derived.Test.YtamngnenpapogaaLabF
namespace Go.Proofs.Ytamngnenpapogaa
open Go.RowKit
set_option linter.unusedVariables false

def offM (k : Int) : Int := digM [k, 7] + 1 - digM [k, 7] % 2
theorem offM_bd (k : Int) : 0 ≤ offM k ∧ offM k ≤ 65535 ∧ offM k % 2 = 1 := by have := digM_bd [k, 7]; unfold offM; omega
def offsetM (k : Int) : Option Int := if inB k 0 1000000000 then some (offM k) else none
def zeroM (k n : Int) : Option Int := if inB k 0 1000000000 && inB n 0 1000 then some (digM [k, n, 13, 0]) else none
def halfM (n l s : Int) : Option Int := if inB n 0 1000 && inB l 0 65535 && inB s 0 1 then some (digM [n, 15, l, s]) else none

theorem bd2 {a b : Int} (ha : -1000000000000 ≤ a ∧ a ≤ 1000000000000) (hb : -1000000000000 ≤ b ∧ b ≤ 1000000000000) :
    ∀ x ∈ [a, b], -1000000000000 ≤ x ∧ x ≤ 1000000000000 := by
  intro x hx; simp at hx; rcases hx with rfl | rfl <;> assumption
theorem or_off (k : Int) : bits .or .i64 (digM [k, 7]) 1 = offM k := bits_or_one (digM_bd _).1 (by have := digM_bd [k, 7]; omega)
end Go.Proofs.Ytamngnenpapogaa
