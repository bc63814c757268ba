/- What is left of a size, over a list of integers (for a seat without circuits). Conditions: the lists are short. -/
import Derived.Test.YtjijghfagaigbaaInts
import Derived.Deep.RegionHeld3
namespace Go.Proofs.Ytjijghfagaigbaa
open Go.RowKit
set_option linter.unusedVariables false

def szM (left : Int) (n : Nat) : Int := if left - n < 0 then -1 else left - n
theorem szM_neg {left : Int} {n : Nat} (h : szM left n < 0) : szM left n = -1 := by unfold szM at h ⊢; split at h <;> simp_all
theorem c_laws_szIntS {v : Value} {l : List Int} {w : World} {left : Int} (h : Ints w v l) (hl : 0 ≤ left ∧ left ≤ 1048576) : Calls Try.prog 14 #[v, .int .i64 left] w fun e w' => e = .returned (.int .i64 (szM left l.length)) ∧ w = w' := by
  obtain ⟨A, c, rfl, hlc, hcm, hrd⟩ := h
  unfold maxLen at hcm
  by_cases hs : left - (l.length : Int) < 0
  · have HM := Lib.hid (show szM left l.length = -1 by unfold szM; rw [if_pos hs])
    go_enter Try.func14, Try.ntmps14
    go_wp2
    go_ret; exact ⟨by rw [HM.out]; rfl, rfl⟩
  · have HM := Lib.hid (show szM left l.length = left - (l.length : Int) by unfold szM; rw [if_neg hs])
    go_enter Try.func14, Try.ntmps14
    go_wp2
    go_ret; exact ⟨by rw [HM.out]; rfl, rfl⟩
end Go.Proofs.Ytjijghfagaigbaa
