/- Contracts of the functions on groups: validity, elements, powers. No condition but those named. -/
import Derived.Test.YtpeoiemcfpghkaaPrim
import Derived.Test.YtpeoiemcfpghkaaAll
import Derived.Deep.QuietTactic
import Derived.BigQuiet
namespace Go.Proofs.Ytpeoiemcfpghkaa
open Go.RowKit
set_option linter.unusedVariables false

noncomputable def modB (p : Int) : Bool := inB p 3 2003 && primeB p
noncomputable def uptoB (n m : Int) : Bool := inB n 2 m && primeB n
noncomputable def grpB (P Q G : Int) : Bool := modB P && uptoB Q (P - 1) && ((P - 1) % Q == 0) && inB G 2 (P - 1) && (powM P G Q == 1)
theorem modB_bd {p : Int} (h : modB p = true) : 3 ≤ p ∧ p ≤ 2003 := by simp [modB] at h; exact inB_bd h.1
theorem uptoB_bd {n m : Int} (h : uptoB n m = true) : 2 ≤ n ∧ n ≤ m := by simp [uptoB] at h; exact inB_bd h.1
theorem grpB_bd {P Q G : Int} (h : grpB P Q G = true) : 3 ≤ P ∧ P ≤ 2003 ∧ 2 ≤ Q ∧ Q ≤ P - 1 ∧ 2 ≤ G ∧ G ≤ P - 1 := by
  simp only [grpB, Bool.and_eq_true] at h
  have h1 := modB_bd h.1.1.1.1
  have h2 := uptoB_bd h.1.1.1.2
  have h3 := inB_bd h.1.2
  omega
theorem k_impl_isPrimeUpTo {n most : Int} {w : World} (hm : most ≤ 1000000) : Calls Try.prog 111 #[.int .i64 n, .int .i64 most] w fun e w' => e = .returned (.bool (uptoB n most)) ∧ w = w' := c_impl_isPrimeUpTo hm
theorem c_impl_isModulus {p : Int} {w : World} : Calls Try.prog 110 #[.int .i64 p] w fun e w' => e = .returned (.bool (modB p)) ∧ w = w' := by
  by_cases h : p = 2
  · subst h
    have h2 : modB 2 = false := by simp [modB, inB]
    go_enter Try.func110, Try.ntmps110
    go_wp2
    go_ret; exact ⟨by rw [h2]; rfl, rfl⟩
  · have h' : (p != 2) = true := by simpa using h
    have HE := Lib.hid (show uptoB p 2003 = modB p by
      unfold uptoB modB
      rcases Int.lt_or_le p 3 with h1 | h1
      · rw [inB_lo (show p < 2 by omega), inB_lo (show p < 3 by omega)]
      · rcases Int.lt_or_le 2003 p with h3 | h3
        · rw [inB_hi h3, inB_hi h3]
        · rw [inB_mk (by omega) h3, inB_mk h1 h3])
    clear h
    go_enter Try.func110, Try.ntmps110
    go_wp2_with (go_at_call 111; refine (k_impl_isPrimeUpTo (by omega)).mono ?_; rintro e w' ⟨rfl, rfl⟩)
    go_ret; exact ⟨by rw [← HE.out]; rfl, rfl⟩

set_option maxHeartbeats 400000 in
theorem c_impl_IsGroup {P Q G : Int} {w : World} : Calls Try.prog 86 #[.agg #[.int .i64 P, .int .i64 Q, .int .i64 G]] w fun e w' => e = .returned (.bool (grpB P Q G)) ∧ Below w.heap.size w w' := by
  rcases h1 : modB P with _ | _
  · go_enter Try.func86, Try.ntmps86
    go_wp2_with (go_at_call 110; refine (c_impl_isModulus).mono ?_; rintro e w' ⟨rfl, rfl⟩)
    go_ret; exact ⟨by simp [grpB, h1], (Below.refl _ _).alloc (Nat.le_refl _) _⟩
  · have hb := modB_bd h1
    rcases h2 : uptoB Q (P - 1) with _ | _
    · go_enter Try.func86, Try.ntmps86
      go_wp2_with (first | (go_at_call 110; refine (c_impl_isModulus).mono ?_; rintro e w' ⟨rfl, rfl⟩) | (go_at_call 111; refine (k_impl_isPrimeUpTo (by omega)).mono ?_; rintro e w' ⟨rfl, rfl⟩))
      go_ret; exact ⟨by simp [grpB, h1, h2], (Below.refl _ _).alloc (Nat.le_refl _) _⟩
    · have hb2 := uptoB_bd h2
      have hq0 : ¬ Q = 0 := by omega
      rcases h3 : ((P - 1) % Q == 0) with _ | _
      · go_enter Try.func86, Try.ntmps86
        go_wp2_with (first | (go_at_call 110; refine (c_impl_isModulus).mono ?_; rintro e w' ⟨rfl, rfl⟩) | (go_at_call 111; refine (k_impl_isPrimeUpTo (by omega)).mono ?_; rintro e w' ⟨rfl, rfl⟩))
        go_ret; exact ⟨by simp [grpB, h1, h2, h3], (Below.refl _ _).alloc (Nat.le_refl _) _⟩
      · rcases h4 : inB G 2 (P - 1) with _ | _
        · go_enter Try.func86, Try.ntmps86
          go_wp2_with (first | (go_at_call 110; refine (c_impl_isModulus).mono ?_; rintro e w' ⟨rfl, rfl⟩) | (go_at_call 111; refine (k_impl_isPrimeUpTo (by omega)).mono ?_; rintro e w' ⟨rfl, rfl⟩) | (go_at_call 63; refine (c_impl_within).mono ?_; rintro e w' ⟨rfl, rfl⟩))
          go_ret; exact ⟨by simp [grpB, h1, h2, h3, h4], (Below.refl _ _).alloc (Nat.le_refl _) _⟩
        · have hb4 := inB_bd h4
          rcases h5 : (powM P G Q == 1) with _ | _
          all_goals
            go_enter Try.func86, Try.ntmps86
            go_wp2_with (first | (go_at_call 110; refine (c_impl_isModulus).mono ?_; rintro e w' ⟨rfl, rfl⟩) | (go_at_call 111; refine (k_impl_isPrimeUpTo (by omega)).mono ?_; rintro e w' ⟨rfl, rfl⟩) | (go_at_call 63; refine (c_impl_within).mono ?_; rintro e w' ⟨rfl, rfl⟩) | (go_at_call 112; refine (c_impl_power (by omega) (by omega) (by omega)).mono ?_; rintro e w' ⟨rfl, rfl⟩))
            go_ret; exact ⟨by simp only [grpB, h1, h2, h3, h4, h5]; rfl, (Below.refl _ _).alloc (Nat.le_refl _) _⟩
end Go.Proofs.Ytpeoiemcfpghkaa
