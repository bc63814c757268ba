/- Contracts of the half cipher. Conditions: the numbers are within 10^12. -/
import Derived.Test.YtejeppjmlgfiaaaLabG
namespace Go.Proofs.Ytejeppjmlgfiaaa
open Go.RowKit
set_option linter.unusedVariables false

theorem c_impl_half {n l s : Int} {w : World} (hn : -1000000000000 ≤ n ∧ n ≤ 1000000000000) (hl : -1000000000000 ≤ l ∧ l ≤ 1000000000000) (hs : -1000000000000 ≤ s ∧ s ≤ 1000000000000) :
    Calls Try.prog 74 #[.int .i64 n, .int .i64 l, .int .i64 s] w fun e w' => e = .returned (.int .i64 (digM [n, 15, l, s])) ∧ Below w.heap.size w w' := by
  go_enter Try.func74, Try.ntmps74
  go_wp2_with fail
  refine (c_impl_digest (l := [n, 15, l, s]) (ints_lit w [n, 15, l, s] _ rfl (by simp)) (by simp) (bd4 hn (by omega) hl hs)).mono ?_
  rintro e w1 ⟨rfl, hb1⟩
  go_wp2
  go_ret
  exact ⟨rfl, lit_trans hb1⟩
theorem c_spec_hgCipher {n l s : Int} {w : World} (hn : -1000000000000 ≤ n ∧ n ≤ 1000000000000) (hl : -1000000000000 ≤ l ∧ l ≤ 1000000000000) (hs : -1000000000000 ≤ s ∧ s ≤ 1000000000000) :
    Calls Try.prog 75 #[.int .i64 n, .int .i64 l, .int .i64 s] w fun e w' => e = .returned (.int .i64 (digM [n, 15, l, s])) ∧ Below w.heap.size w w' := by
  go_enter Try.func75, Try.ntmps75
  go_wp2_with (go_at_call 115; refine (c_spec_dgLabel hn (by omega) hl hs).mono ?_; rintro e w1 ⟨rfl, hb1⟩)
  go_ret
  exact ⟨rfl, hb1⟩
theorem c_impl_HalfCipher {n l s : Int} {w : World} : Calls Try.prog 16 #[.int .i64 n, .int .i64 l, .int .i64 s] w fun e w' => e = .returned (.tuple #[.int .i64 (oV (halfM n l s)), .bool (oB (halfM n l s))]) ∧ Below w.heap.size w w' := by
  rcases h : inB n 0 1000 with _ | _ <;> rcases h2 : inB l 0 65535 with _ | _ <;> rcases h3 : inB s 0 1 with _ | _
  case true.true.true =>
    have hb := inB_bd h
    have hb2 := inB_bd h2
    have hb3 := inB_bd h3
    go_enter Try.func16, Try.ntmps16
    go_wp2_with (first | (go_at_call 66; refine (c_impl_within).mono ?_; rintro e w' ⟨rfl, rfl⟩) | (go_at_call 68; refine (c_impl_isLabel).mono ?_; rintro e w' ⟨rfl, rfl⟩) | (go_at_call 67; refine (c_impl_isBit).mono ?_; rintro e w' ⟨rfl, rfl⟩) | (go_at_call 74; refine (c_impl_half (by omega) (by omega) (by omega)).mono ?_; rintro e w1 ⟨rfl, hb1⟩))
    go_ret2; exact ⟨by simp [halfM, oV, oB, h, h2, h3], hb1⟩
  all_goals
    go_enter Try.func16, Try.ntmps16
    go_wp2_with (first | (go_at_call 66; refine (c_impl_within).mono ?_; rintro e w' ⟨rfl, rfl⟩) | (go_at_call 68; refine (c_impl_isLabel).mono ?_; rintro e w' ⟨rfl, rfl⟩) | (go_at_call 67; refine (c_impl_isBit).mono ?_; rintro e w' ⟨rfl, rfl⟩))
    go_ret2; exact ⟨by simp [halfM, oV, oB, h, h2, h3], Below.refl _ _⟩
theorem c_spec_HalfCipher {n l s : Int} {w : World} : Calls Try.prog 17 #[.int .i64 n, .int .i64 l, .int .i64 s] w fun e w' => e = .returned (.tuple #[.int .i64 (oV (halfM n l s)), .bool (oB (halfM n l s))]) ∧ Below w.heap.size w w' := by
  rcases h : inB n 0 1000 with _ | _ <;> rcases h2 : inB l 0 65535 with _ | _ <;> rcases h3 : inB s 0 1 with _ | _
  case true.true.true =>
    have hb := inB_bd h
    have hb2 := inB_bd h2
    have hb3 := inB_bd h3
    go_enter Try.func17, Try.ntmps17
    go_wp2_with (first | (go_at_call 70; refine (c_spec_l1In).mono ?_; rintro e w' ⟨rfl, rfl⟩) | (go_at_call 71; refine (c_spec_lbGood).mono ?_; rintro e w' ⟨rfl, rfl⟩) | (go_at_call 75; refine (c_spec_hgCipher (by omega) (by omega) (by omega)).mono ?_; rintro e w1 ⟨rfl, hb1⟩))
    go_ret2; exact ⟨by simp [halfM, oV, oB, h, h2, h3], hb1⟩
  all_goals
    go_enter Try.func17, Try.ntmps17
    go_wp2_with (first | (go_at_call 70; refine (c_spec_l1In).mono ?_; rintro e w' ⟨rfl, rfl⟩) | (go_at_call 71; refine (c_spec_lbGood).mono ?_; rintro e w' ⟨rfl, rfl⟩))
    go_ret2; exact ⟨by simp [halfM, oV, oB, h, h2, h3], Below.refl _ _⟩
end Go.Proofs.Ytejeppjmlgfiaaa
