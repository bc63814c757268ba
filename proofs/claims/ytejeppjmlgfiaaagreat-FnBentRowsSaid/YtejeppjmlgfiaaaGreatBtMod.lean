/- The contract of the reference's residue. Conditions: the modulus is from 1 to 10^9, the number within 4 10^18. -/
import Derived.Test.YtejeppjmlgfiaaaGreatMem
namespace Go.Proofs.YtejeppjmlgfiaaaGreat
open Go.RowKit
set_option linter.unusedVariables false

theorem c_spec_btMod {a m : Int} {w : World} (hm : 1 ≤ m ∧ m ≤ 1000000000) (ha : -4000000000000000000 ≤ a ∧ a ≤ 4000000000000000000) : Calls Tryz.prog 158 #[.int .i64 a, .int .i64 m] w fun e w' => e = .returned (.int .i64 (a % m)) ∧ w = w' := by
  have h1 := tmod_bd a (m := m) (by omega)
  have h2 := Lib.hid (tmod_mod a m)
  have h3 : ¬ m = 0 := by omega
  go_enter Tryz.func158, Tryz.ntmps158
  go_wp2
  go_ret
  exact ⟨by rw [← h2.out]; rfl, rfl⟩
end Go.Proofs.YtejeppjmlgfiaaaGreat
