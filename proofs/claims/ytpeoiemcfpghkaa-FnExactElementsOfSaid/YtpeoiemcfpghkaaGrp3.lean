/- Contracts of elements and powers in a group, and of the reference's. Conditions: the group is valid, the numbers small. -/
import Derived.Test.YtpeoiemcfpghkaaGrp
import Derived.Test.YtpeoiemcfpghkaaBtMod
namespace Go.Proofs.Ytpeoiemcfpghkaa
open Go.RowKit
set_option linter.unusedVariables false

noncomputable def hasB (P Q a : Int) : Bool := inB a 1 (P - 1) && (powM P a Q == 1)
def gpowM (P Q a n : Int) : Int := powM P a (n % Q)
theorem below_box {w : World} (o : Obj) : Below w.heap.size w (w.alloc o) := (Below.refl _ _).alloc (Nat.le_refl _) _
theorem tmod2 (n : Int) {Q : Int} (hq : 0 < Q) : (n.tmod Q + Q).tmod Q = n % Q := by
  have h := tmod_bd n hq
  rw [Int.tmod_eq_emod_of_nonneg (by omega)]
  exact tmod_mod n Q

set_option maxHeartbeats 400000 in
theorem c_spec_grGood {P Q G : Int} {w : World} : Calls Try.prog 84 #[.agg #[.int .i64 P, .int .i64 Q, .int .i64 G]] w fun e w' => e = .returned (.bool (grpB P Q G)) ∧ Below w.heap.size w w' := by
  rcases h0 : inB P 3 2003 with _ | _
  · have HM := Lib.hid (show grpB P Q G = false by simp [grpB, modB, h0])
    go_enter Try.func84, Try.ntmps84
    go_wp2_with (go_at_call 49; refine (c_spec_l1In).mono ?_; rintro e w' ⟨rfl, rfl⟩)
    go_ret; exact ⟨by rw [HM.out]; rfl, below_box _⟩
  · have hb0 := inB_bd h0
    rcases h1 : primeB P with _ | _
    · have HM := Lib.hid (show grpB P Q G = false by simp [grpB, modB, h1])
      go_enter Try.func84, Try.ntmps84
      go_wp2_with (first | (go_at_call 49; refine (c_spec_l1In).mono ?_; rintro e w' ⟨rfl, rfl⟩) | (go_at_call 108; refine (c_spec_grPrime (by omega)).mono ?_; rintro e w' ⟨rfl, rfl⟩))
      go_ret; exact ⟨by rw [HM.out]; rfl, below_box _⟩
    · rcases h2 : inB Q 2 (P - 1) with _ | _
      · have HM := Lib.hid (show grpB P Q G = false by simp [grpB, uptoB, h2])
        go_enter Try.func84, Try.ntmps84
        go_wp2_with (first | (go_at_call 49; refine (c_spec_l1In).mono ?_; rintro e w' ⟨rfl, rfl⟩) | (go_at_call 108; refine (c_spec_grPrime (by omega)).mono ?_; rintro e w' ⟨rfl, rfl⟩))
        go_ret; exact ⟨by rw [HM.out]; rfl, below_box _⟩
      · have hb2 := inB_bd h2
        have hq0 : ¬ Q = 0 := by omega
        rcases h22 : primeB Q with _ | _
        · have HM := Lib.hid (show grpB P Q G = false by simp [grpB, uptoB, h22])
          go_enter Try.func84, Try.ntmps84
          go_wp2_with (first | (go_at_call 49; refine (c_spec_l1In).mono ?_; rintro e w' ⟨rfl, rfl⟩) | (go_at_call 108; refine (c_spec_grPrime (by omega)).mono ?_; rintro e w' ⟨rfl, rfl⟩))
          go_ret; exact ⟨by rw [HM.out]; rfl, below_box _⟩
        · rcases h3 : ((P - 1) % Q == 0) with _ | _
          · have HM := Lib.hid (show grpB P Q G = false by simp only [grpB, h3]; simp)
            go_enter Try.func84, Try.ntmps84
            go_wp2_with (first | (go_at_call 49; refine (c_spec_l1In).mono ?_; rintro e w' ⟨rfl, rfl⟩) | (go_at_call 108; refine (c_spec_grPrime (by omega)).mono ?_; rintro e w' ⟨rfl, rfl⟩))
            go_ret; exact ⟨by rw [HM.out]; rfl, below_box _⟩
          · rcases h4 : inB G 2 (P - 1) with _ | _
            · have HM := Lib.hid (show grpB P Q G = false by simp [grpB, h4])
              go_enter Try.func84, Try.ntmps84
              go_wp2_with (first | (go_at_call 49; refine (c_spec_l1In).mono ?_; rintro e w' ⟨rfl, rfl⟩) | (go_at_call 108; refine (c_spec_grPrime (by omega)).mono ?_; rintro e w' ⟨rfl, rfl⟩))
              go_ret; exact ⟨by rw [HM.out]; rfl, below_box _⟩
            · have hb4 := inB_bd h4
              rcases h5 : (powM P G Q == 1) with _ | _
              · have HM := Lib.hid (show grpB P Q G = false by simp only [grpB, h5]; simp)
                go_enter Try.func84, Try.ntmps84
                go_wp2_with (first | (go_at_call 49; refine (c_spec_l1In).mono ?_; rintro e w' ⟨rfl, rfl⟩) | (go_at_call 108; refine (c_spec_grPrime (by omega)).mono ?_; rintro e w' ⟨rfl, rfl⟩) | (go_at_call 109; refine (c_spec_grPower (by omega) (by omega) (by omega)).mono ?_; rintro e w' ⟨rfl, rfl⟩))
                go_ret; exact ⟨by rw [HM.out]; rfl, below_box _⟩
              · have HM := Lib.hid (show grpB P Q G = true by simp only [grpB, modB, uptoB, h0, h1, h2, h22, h3, h4, h5]; rfl)
                go_enter Try.func84, Try.ntmps84
                go_wp2_with (first | (go_at_call 49; refine (c_spec_l1In).mono ?_; rintro e w' ⟨rfl, rfl⟩) | (go_at_call 108; refine (c_spec_grPrime (by omega)).mono ?_; rintro e w' ⟨rfl, rfl⟩) | (go_at_call 109; refine (c_spec_grPower (by omega) (by omega) (by omega)).mono ?_; rintro e w' ⟨rfl, rfl⟩))
                go_ret; exact ⟨by rw [HM.out]; rfl, below_box _⟩
theorem c_spec_grHas {P Q G a : Int} {w : World} (hg : 3 ≤ P ∧ P ≤ 2003 ∧ 2 ≤ Q ∧ Q ≤ P - 1) : Calls Try.prog 85 #[.agg #[.int .i64 P, .int .i64 Q, .int .i64 G], .int .i64 a] w fun e w' => e = .returned (.bool (hasB P Q a)) ∧ Below w.heap.size w w' := by
  rcases h1 : inB a 1 (P - 1) with _ | _
  · go_enter Try.func85, Try.ntmps85
    go_wp2_with (go_at_call 49; refine (c_spec_l1In).mono ?_; rintro e w' ⟨rfl, rfl⟩)
    go_ret; exact ⟨by simp [hasB, h1], below_box _⟩
  · have hb := inB_bd h1
    go_enter Try.func85, Try.ntmps85
    go_wp2_with (first | (go_at_call 49; refine (c_spec_l1In).mono ?_; rintro e w' ⟨rfl, rfl⟩) | (go_at_call 109; refine (c_spec_grPower (by omega) (by omega) (by omega)).mono ?_; rintro e w' ⟨rfl, rfl⟩))
    go_ret; exact ⟨by simp [hasB, h1], below_box _⟩
end Go.Proofs.Ytpeoiemcfpghkaa
