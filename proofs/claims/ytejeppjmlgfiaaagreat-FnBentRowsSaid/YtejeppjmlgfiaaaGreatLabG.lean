/- Contracts of offsets, zero labels and half ciphers, exported. No condition. -/
import Derived.Test.YtejeppjmlgfiaaaGreatDig3
import Derived.Test.YtejeppjmlgfiaaaGreatLabF
namespace Go.Proofs.YtejeppjmlgfiaaaGreat
open Go.RowKit
set_option linter.unusedVariables false

def offM (k : Int) : Int := digM [k, 7] + 1 - digM [k, 7] % 2
theorem offM_bd (k : Int) : 0 ≤ offM k ∧ offM k ≤ 65535 ∧ offM k % 2 = 1 := by have := digM_bd [k, 7]; unfold offM; omega
def offsetM (k : Int) : Option Int := if inB k 0 1000000000 then some (offM k) else none
def zeroM (k n : Int) : Option Int := if inB k 0 1000000000 && inB n 0 1000 then some (digM [k, n, 13, 0]) else none
def halfM (n l s : Int) : Option Int := if inB n 0 1000 && inB l 0 65535 && inB s 0 1 then some (digM [n, 15, l, s]) else none

theorem bd2 {a b : Int} (ha : -1000000000000 ≤ a ∧ a ≤ 1000000000000) (hb : -1000000000000 ≤ b ∧ b ≤ 1000000000000) :
    ∀ x ∈ [a, b], -1000000000000 ≤ x ∧ x ≤ 1000000000000 := by
  intro x hx; simp at hx; rcases hx with rfl | rfl <;> assumption
theorem or_off (k : Int) : bits .or .i64 (digM [k, 7]) 1 = offM k := bits_or_one (digM_bd _).1 (by have := digM_bd [k, 7]; omega)
theorem c_impl_OffsetFrom {k : Int} {w : World} : Calls Tryz.prog 19 #[.int .i64 k] w fun e w' => e = .returned (.tuple #[.int .i64 (oV (offsetM k)), .bool (oB (offsetM k))]) ∧ Below w.heap.size w w' := by
  rcases h : inB k 0 1000000000 with _ | _
  · go_enter Tryz.func19, Tryz.ntmps19
    go_wp2_with (go_at_call 79; refine (c_impl_isKey).mono ?_; rintro e w' ⟨rfl, rfl⟩)
    go_ret2; exact ⟨by simp [offsetM, oV, oB, h], Below.refl _ _⟩
  · have hb := inB_bd h
    have ho := or_off k
    go_enter Tryz.func19, Tryz.ntmps19
    go_wp2_with (go_at_call 79; refine (c_impl_isKey).mono ?_; rintro e w' ⟨rfl, rfl⟩)
    refine (c_impl_digest (l := [k, 7]) (ints_lit w [k, 7] _ rfl (by simp)) (by simp) (bd2 (by omega) (by omega))).mono ?_
    rintro e w1 ⟨rfl, hb1⟩
    go_wp2
    go_ret2; exact ⟨by simp [offsetM, oV, oB, h], lit_trans hb1⟩
theorem c_spec_lbFrom {k : Int} {w : World} (hk : -1000000000000 ≤ k ∧ k ≤ 1000000000000) : Calls Tryz.prog 62 #[.int .i64 k] w fun e w' => e = .returned (.int .i64 (offM k)) ∧ Below w.heap.size w w' := by
  have ho := or_off k
  go_enter Tryz.func62, Tryz.ntmps62
  go_wp2_with fail
  refine (c_spec_dgMix (l := [k, 7]) (ints_lit w [k, 7] _ rfl (by simp)) (by simp) (bd2 (by omega) (by omega))).mono ?_
  rintro e w1 ⟨rfl, hb1⟩
  go_wp2
  go_ret; exact ⟨rfl, lit_trans hb1⟩
end Go.Proofs.YtejeppjmlgfiaaaGreat
