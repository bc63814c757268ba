/- Contracts of the half cipher. Conditions: the numbers are within 10^12. -/
import Derived.Test.YtejeppjmlgfiaaaGreatLabG
namespace Go.Proofs.YtejeppjmlgfiaaaGreat
open Go.RowKit
set_option linter.unusedVariables false

theorem c_impl_half {n l s : Int} {w : World} (hn : -1000000000000 ≤ n ∧ n ≤ 1000000000000) (hl : -1000000000000 ≤ l ∧ l ≤ 1000000000000) (hs : -1000000000000 ≤ s ∧ s ≤ 1000000000000) :
    Calls Tryz.prog 127 #[.int .i64 n, .int .i64 l, .int .i64 s] w fun e w' => e = .returned (.int .i64 (digM [n, 15, l, s])) ∧ Below w.heap.size w w' := by
  go_enter Tryz.func127, Tryz.ntmps127
  go_wp2_with fail
  refine (c_impl_digest (l := [n, 15, l, s]) (ints_lit w [n, 15, l, s] _ rfl (by simp)) (by simp) (bd4 hn (by omega) hl hs)).mono ?_
  rintro e w1 ⟨rfl, hb1⟩
  go_wp2
  go_ret
  exact ⟨rfl, lit_trans hb1⟩
theorem c_spec_hgCipher {n l s : Int} {w : World} (hn : -1000000000000 ≤ n ∧ n ≤ 1000000000000) (hl : -1000000000000 ≤ l ∧ l ≤ 1000000000000) (hs : -1000000000000 ≤ s ∧ s ≤ 1000000000000) :
    Calls Tryz.prog 131 #[.int .i64 n, .int .i64 l, .int .i64 s] w fun e w' => e = .returned (.int .i64 (digM [n, 15, l, s])) ∧ Below w.heap.size w w' := by
  go_enter Tryz.func131, Tryz.ntmps131
  go_wp2_with (go_at_call 159; refine (c_spec_dgLabel hn (by omega) hl hs).mono ?_; rintro e w1 ⟨rfl, hb1⟩)
  go_ret
  exact ⟨rfl, hb1⟩
end Go.Proofs.YtejeppjmlgfiaaaGreat
