/- Contracts of offsets, zero labels and half ciphers, exported. No condition. -/
import Derived.Test.YtejeppjmlgfiaaaDig3
import Derived.Test.YtejeppjmlgfiaaaLabF
namespace Go.Proofs.Ytejeppjmlgfiaaa
open Go.RowKit
set_option linter.unusedVariables false

def offM (k : Int) : Int := digM [k, 7] + 1 - digM [k, 7] % 2
theorem offM_bd (k : Int) : 0 ≤ offM k ∧ offM k ≤ 65535 ∧ offM k % 2 = 1 := by have := digM_bd [k, 7]; unfold offM; omega
def offsetM (k : Int) : Option Int := if inB k 0 1000000000 then some (offM k) else none
def zeroM (k n : Int) : Option Int := if inB k 0 1000000000 && inB n 0 1000 then some (digM [k, n, 13, 0]) else none
def halfM (n l s : Int) : Option Int := if inB n 0 1000 && inB l 0 65535 && inB s 0 1 then some (digM [n, 15, l, s]) else none

theorem bd2 {a b : Int} (ha : -1000000000000 ≤ a ∧ a ≤ 1000000000000) (hb : -1000000000000 ≤ b ∧ b ≤ 1000000000000) :
    ∀ x ∈ [a, b], -1000000000000 ≤ x ∧ x ≤ 1000000000000 := by
  intro x hx; simp at hx; rcases hx with rfl | rfl <;> assumption
theorem or_off (k : Int) : bits .or .i64 (digM [k, 7]) 1 = offM k := bits_or_one (digM_bd _).1 (by have := digM_bd [k, 7]; omega)
theorem c_impl_OffsetFrom {k : Int} {w : World} : Calls Try.prog 42 #[.int .i64 k] w fun e w' => e = .returned (.tuple #[.int .i64 (oV (offsetM k)), .bool (oB (offsetM k))]) ∧ Below w.heap.size w w' := by
  rcases h : inB k 0 1000000000 with _ | _
  · go_enter Try.func42, Try.ntmps42
    go_wp2_with (go_at_call 82; refine (c_impl_isKey).mono ?_; rintro e w' ⟨rfl, rfl⟩)
    go_ret2; exact ⟨by simp [offsetM, oV, oB, h], Below.refl _ _⟩
  · have hb := inB_bd h
    have ho := or_off k
    go_enter Try.func42, Try.ntmps42
    go_wp2_with (go_at_call 82; refine (c_impl_isKey).mono ?_; rintro e w' ⟨rfl, rfl⟩)
    refine (c_impl_digest (l := [k, 7]) (ints_lit w [k, 7] _ rfl (by simp)) (by simp) (bd2 (by omega) (by omega))).mono ?_
    rintro e w1 ⟨rfl, hb1⟩
    go_wp2
    go_ret2; exact ⟨by simp [offsetM, oV, oB, h], lit_trans hb1⟩
theorem c_spec_lbFrom {k : Int} {w : World} (hk : -1000000000000 ≤ k ∧ k ≤ 1000000000000) : Calls Try.prog 99 #[.int .i64 k] w fun e w' => e = .returned (.int .i64 (offM k)) ∧ Below w.heap.size w w' := by
  have ho := or_off k
  go_enter Try.func99, Try.ntmps99
  go_wp2_with fail
  refine (c_spec_dgMix (l := [k, 7]) (ints_lit w [k, 7] _ rfl (by simp)) (by simp) (bd2 (by omega) (by omega))).mono ?_
  rintro e w1 ⟨rfl, hb1⟩
  go_wp2
  go_ret; exact ⟨rfl, lit_trans hb1⟩
theorem c_spec_OffsetFrom {k : Int} {w : World} : Calls Try.prog 43 #[.int .i64 k] w fun e w' => e = .returned (.tuple #[.int .i64 (oV (offsetM k)), .bool (oB (offsetM k))]) ∧ Below w.heap.size w w' := by
  rcases h : inB k 0 1000000000 with _ | _
  · go_enter Try.func43, Try.ntmps43
    go_wp2_with (go_at_call 88; refine (c_spec_shKey).mono ?_; rintro e w' ⟨rfl, rfl⟩)
    go_ret2; exact ⟨by simp [offsetM, oV, oB, h], Below.refl _ _⟩
  · have hb := inB_bd h
    go_enter Try.func43, Try.ntmps43
    go_wp2_with (first | (go_at_call 88; refine (c_spec_shKey).mono ?_; rintro e w' ⟨rfl, rfl⟩) | (go_at_call 99; refine (c_spec_lbFrom (by omega)).mono ?_; rintro e w1 ⟨rfl, hb1⟩))
    go_ret2; exact ⟨by simp [offsetM, oV, oB, h], hb1⟩
theorem c_impl_ZeroLabel {k n : Int} {w : World} : Calls Try.prog 25 #[.int .i64 k, .int .i64 n] w fun e w' => e = .returned (.tuple #[.int .i64 (oV (zeroM k n)), .bool (oB (zeroM k n))]) ∧ Below w.heap.size w w' := by
  rcases h : inB k 0 1000000000 with _ | _ <;> rcases h2 : inB n 0 1000 with _ | _
  case true.true =>
    have hb := inB_bd h
    have hb2 := inB_bd h2
    go_enter Try.func25, Try.ntmps25
    go_wp2_with (first | (go_at_call 82; refine (c_impl_isKey).mono ?_; rintro e w' ⟨rfl, rfl⟩) | (go_at_call 66; refine (c_impl_within).mono ?_; rintro e w' ⟨rfl, rfl⟩) | (go_at_call 86; refine (c_impl_zeroLabel (by omega) (by omega)).mono ?_; rintro e w1 ⟨rfl, hb1⟩))
    go_ret2; exact ⟨by simp [zeroM, oV, oB, h, h2], hb1⟩
  all_goals
    go_enter Try.func25, Try.ntmps25
    go_wp2_with (first | (go_at_call 82; refine (c_impl_isKey).mono ?_; rintro e w' ⟨rfl, rfl⟩) | (go_at_call 66; refine (c_impl_within).mono ?_; rintro e w' ⟨rfl, rfl⟩))
    go_ret2; exact ⟨by simp [zeroM, oV, oB, h, h2], Below.refl _ _⟩
theorem c_spec_ZeroLabel {k n : Int} {w : World} : Calls Try.prog 45 #[.int .i64 k, .int .i64 n] w fun e w' => e = .returned (.tuple #[.int .i64 (oV (zeroM k n)), .bool (oB (zeroM k n))]) ∧ Below w.heap.size w w' := by
  rcases h : inB k 0 1000000000 with _ | _ <;> rcases h2 : inB n 0 1000 with _ | _
  case true.true =>
    have hb := inB_bd h
    have hb2 := inB_bd h2
    go_enter Try.func45, Try.ntmps45
    go_wp2_with (first | (go_at_call 88; refine (c_spec_shKey).mono ?_; rintro e w' ⟨rfl, rfl⟩) | (go_at_call 70; refine (c_spec_l1In).mono ?_; rintro e w' ⟨rfl, rfl⟩) | (go_at_call 100; refine (c_spec_lbZero (by omega) (by omega)).mono ?_; rintro e w1 ⟨rfl, hb1⟩))
    go_ret2; exact ⟨by simp [zeroM, oV, oB, h, h2], hb1⟩
  all_goals
    go_enter Try.func45, Try.ntmps45
    go_wp2_with (first | (go_at_call 88; refine (c_spec_shKey).mono ?_; rintro e w' ⟨rfl, rfl⟩) | (go_at_call 70; refine (c_spec_l1In).mono ?_; rintro e w' ⟨rfl, rfl⟩))
    go_ret2; exact ⟨by simp [zeroM, oV, oB, h, h2], Below.refl _ _⟩
end Go.Proofs.Ytejeppjmlgfiaaa
