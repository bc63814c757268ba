/- Contracts of exponents in a group. No condition. -/
import Derived.Test.YtpaajlmeifamdaaGrpF
import Derived.Test.YtpaajlmeifamdaaGrpM
namespace Go.Proofs.Ytpaajlmeifamdaa
open Go.RowKit
set_option linter.unusedVariables false

theorem IsLog.same {P a b : Int} {m n : Nat} (hm : IsLog P a b m) (hn : IsLog P a b n) : m = n := by
  rcases Nat.lt_trichotomy m n with h | h | h
  · exact absurd hm.1 (hn.2 m h)
  · exact h
  · exact absurd hn.1 (hm.2 n h)
open Classical in
noncomputable def logN (P a b : Int) : Int := if h : ∃ n, IsLog P a b n then ((Classical.choose h : Nat) : Int) else 0
theorem logN_eq {P a b : Int} {n : Nat} (h : IsLog P a b n) : logN P a b = n := by
  have hx : ∃ n, IsLog P a b n := ⟨n, h⟩
  unfold logN
  rw [dif_pos hx]
  have := (Classical.choose_spec hx).same h
  omega
noncomputable def logM (P Q G a b : Int) : Option Int := if askedB P Q G a b && !(a == 1) then some (logN P a b) else none
theorem asked_has {P Q G a b : Int} (h : askedB P Q G a b = true) : PrimeP P ∧ PrimeP Q ∧ 3 ≤ P ∧ P ≤ 2003 ∧ 2 ≤ Q ∧ Q ≤ P - 1 ∧ 1 ≤ a ∧ a ≤ P - 1 ∧ 1 ≤ b ∧ b ≤ P - 1 ∧ a ^ Q.toNat % P = 1 ∧ b ^ Q.toNat % P = 1 := by
  simp only [askedB, Bool.and_eq_true] at h
  have hb := grpB_bd h.1.1
  have h1 := h.1.2
  have h2 := h.2
  simp only [hasB, Bool.and_eq_true, beq_iff_eq, powM] at h1 h2
  have h3 := inB_bd h1.1
  have h4 := inB_bd h2.1
  have h5 := h.1.1
  simp only [grpB, modB, uptoB, Bool.and_eq_true] at h5
  exact ⟨primeB_iff.1 h5.1.1.1.1.2, primeB_iff.1 h5.1.1.1.2.2, hb.1, hb.2.1, hb.2.2.1, hb.2.2.2.1, h3.1, h3.2, h4.1, h4.2, h1.2, h2.2⟩
theorem step_pow {P a : Int} (k : Nat) : (a ^ k % P * a) % P = a ^ (k + 1) % P := by
  rw [Int.pow_succ, Int.mul_emod, Int.emod_emod, ← Int.mul_emod]
theorem asked_split {P Q G a b : Int} : askedB P Q G a b = (inGB P Q G a && inGB P Q G b) := by
  unfold askedB inGB
  cases grpB P Q G <;> simp

set_option maxHeartbeats 400000 in
theorem c_impl_LogIn {P Q G a b : Int} {w : World} : Calls Try.prog 37 #[.agg #[.int .i64 P, .int .i64 Q, .int .i64 G], .int .i64 a, .int .i64 b] w fun e w' => e = .returned (.tuple #[.int .i64 (oV (logM P Q G a b)), .bool (oB (logM P Q G a b))]) ∧ Below w.heap.size w w' := by
  rcases h1 : inGB P Q G a with _ | _
  · have HM := Lib.hid (show logM P Q G a b = none by simp [logM, asked_split, h1])
    go_enter Try.func37, Try.ntmps37
    go_wp2_with (go_at_call 57; refine (c_impl_inGroup).mono ?_; rintro e w1 ⟨rfl, hb1⟩)
    go_ret2; exact ⟨by rw [HM.out]; rfl, lit_trans hb1⟩
  · have hb := inGB_bd h1
    rcases h2 : inGB P Q G b with _ | _
    · have HM := Lib.hid (show logM P Q G a b = none by simp [logM, asked_split, h2])
      go_enter Try.func37, Try.ntmps37
      go_wp2_with fail
      refine c_impl_inGroup.mono ?_
      rintro e w1 ⟨rfl, hb1⟩
      rw [h1]
      have hcell := box_cell hb1
      go_wp2_with fail
      refine c_impl_inGroup.mono ?_
      rintro e w2 ⟨rfl, hb2⟩
      rw [h2]
      go_wp2
      go_ret2; exact ⟨by rw [HM.out]; rfl, b2 hb1 hb2⟩
    · rcases h3 : (a == 1) with _ | _
      · have ha1 : ¬ a = 1 := by simpa using h3
        have hask : askedB P Q G a b = true := by rw [asked_split, h1, h2]; rfl
        obtain ⟨q1, q2, q3, q4, q5, q6, q7, q8, q9, q10, q11, q12⟩ := asked_has hask
        obtain ⟨N, hNQ, hN⟩ := log_least q1 q2 (by rw [Int.emod_eq_of_lt (by omega) (by omega)]; exact ha1) q11 (by omega) (by omega) q12
        have HN := Lib.hid hN
        have HM := Lib.hid (show logM P Q G a b = some (logN P a b) by simp only [logM, hask, h3]; rfl)
        have hp0 : ¬ P = 0 := by omega
        clear hN q11 q12 q1 q2 ha1 hask
        go_enter Try.func37, Try.ntmps37
        go_wp2_with fail
        refine c_impl_inGroup.mono ?_
        rintro e w1 ⟨rfl, hb1⟩
        rw [h1]
        have hcell := box_cell hb1
        go_wp2_with fail
        refine c_impl_inGroup.mono ?_
        rintro e w2 ⟨rfl, hb2⟩
        rw [h2]
        have hcell2 := box_cell2 hb1 hb2
        clear hcell
        go_wp2
        go_loop [8, 9] (fun y x => ∃ k : Nat, k ≤ N ∧ y = .int .i64 k ∧ ∃ z, x = .int .i64 z ∧ 0 ≤ z ∧ z < P ∧ Hid (a ^ k % P = z)) (fun y _ => N - (intOf y).toNat)
        case atStart => exact ⟨0, Nat.zero_le _, rfl, 1, rfl, by omega, by omega, by rw [Int.pow_zero]; exact one_emod (by omega)⟩
        case round =>
          obtain ⟨k, hk, rfl, z, rfl, hz0, hz1, HZ⟩ := hrel
          by_cases hkN : k = N
          · have hz : z = b := by rw [← HZ.out, hkN]; exact HN.out.1
            subst hz
            have HE := Lib.hid (show logM P Q G a z = some (k : Int) by rw [HM.out, logN_eq HN.out, hkN])
            clear hkN
            go_wp2
            go_ret2; exact ⟨by rw [HE.out]; rfl, b2 hb1 hb2⟩
          · have hne : ¬ z = b := fun e => HN.out.2 k (by omega) (HZ.out.trans e)
            have hne' : (z != b) = true := by simpa using hne
            have hm := mul_bd hz0 (show z ≤ 3000 by omega) (show 0 ≤ a by omega) (show a ≤ 3000 by omega)
            have hr : 0 ≤ z * a % P ∧ z * a % P < P := ⟨Int.emod_nonneg _ (by omega), Int.emod_lt_of_pos _ (by omega)⟩
            have HS := Lib.hid (show a ^ (k + 1) % P = z * a % P by rw [← step_pow, HZ.out])
            clear hne
            go_wp2
            go_round
            case rel => exact ⟨k + 1, by omega, by go_num, _, rfl, hr.1, hr.2, HS⟩
            case measure => simp [intOf]; omega
      · have HM := Lib.hid (show logM P Q G a b = none by simp only [logM, h3]; simp)
        go_enter Try.func37, Try.ntmps37
        go_wp2_with fail
        refine c_impl_inGroup.mono ?_
        rintro e w1 ⟨rfl, hb1⟩
        rw [h1]
        have hcell := box_cell hb1
        go_wp2_with fail
        refine c_impl_inGroup.mono ?_
        rintro e w2 ⟨rfl, hb2⟩
        rw [h2]
        go_wp2
        go_ret2; exact ⟨by rw [HM.out]; rfl, b2 hb1 hb2⟩
set_option maxHeartbeats 400000 in
theorem c_spec_LogIn {P Q G a b : Int} {w : World} : Calls Try.prog 36 #[.agg #[.int .i64 P, .int .i64 Q, .int .i64 G], .int .i64 a, .int .i64 b] w fun e w' => e = .returned (.tuple #[.int .i64 (oV (logM P Q G a b)), .bool (oB (logM P Q G a b))]) ∧ Below w.heap.size w w' := by
  rcases hask : askedB P Q G a b with _ | _
  · have HM := Lib.hid (show logM P Q G a b = none by simp [logM, hask])
    go_enter Try.func36, Try.ntmps36
    go_wp2_with (go_at_call 56; refine (c_spec_grAsked).mono ?_; rintro e w1 ⟨rfl, hb1⟩)
    go_ret2; exact ⟨by rw [HM.out]; rfl, lit_trans hb1⟩
  · rcases h3 : (a == 1) with _ | _
    · have ha1 : ¬ a = 1 := by simpa using h3
      obtain ⟨q1, q2, q3, q4, q5, q6, q7, q8, q9, q10, q11, q12⟩ := asked_has hask
      obtain ⟨N, hNQ, hN⟩ := log_least q1 q2 (by rw [Int.emod_eq_of_lt (by omega) (by omega)]; exact ha1) q11 (by omega) (by omega) q12
      have HN := Lib.hid hN
      have HM := Lib.hid (show logM P Q G a b = some (logN P a b) by simp only [logM, hask, h3]; rfl)
      have hp0 : ¬ P = 0 := by omega
      clear hN q11 q12 q1 q2 ha1
      go_enter Try.func36, Try.ntmps36
      go_wp2_with fail
      refine c_spec_grAsked.mono ?_
      rintro e w1 ⟨rfl, hb1⟩
      rw [hask]
      have hcell := box_cell hb1
      go_wp2
      go_loop [8, 9] (fun y x => ∃ k : Nat, k ≤ N ∧ y = .int .i64 k ∧ ∃ z, x = .int .i64 z ∧ 0 ≤ z ∧ z < P ∧ Hid (a ^ k % P = z)) (fun y _ => N - (intOf y).toNat)
      case atStart => exact ⟨0, Nat.zero_le _, rfl, 1, rfl, by omega, by omega, by rw [Int.pow_zero]; exact one_emod (by omega)⟩
      case round =>
        obtain ⟨k, hk, rfl, z, rfl, hz0, hz1, HZ⟩ := hrel
        by_cases hkN : k = N
        · have hz : z = b := by rw [← HZ.out, hkN]; exact HN.out.1
          subst hz
          have HE := Lib.hid (show logM P Q G a z = some (k : Int) by rw [HM.out, logN_eq HN.out, hkN])
          clear hkN
          go_wp2
          go_ret2; exact ⟨by rw [HE.out]; rfl, lit_trans hb1⟩
        · have hne : ¬ z = b := fun e => HN.out.2 k (by omega) (HZ.out.trans e)
          have hne' : (z != b) = true := by simpa using hne
          have hm := mul_bd hz0 (show z ≤ 3000 by omega) (show 0 ≤ a by omega) (show a ≤ 3000 by omega)
          have hr : 0 ≤ z * a % P ∧ z * a % P < P := ⟨Int.emod_nonneg _ (by omega), Int.emod_lt_of_pos _ (by omega)⟩
          have HS := Lib.hid (show a ^ (k + 1) % P = z * a % P by rw [← step_pow, HZ.out])
          clear hne
          go_wp2
          go_round
          case rel => exact ⟨k + 1, by omega, by go_num, _, rfl, hr.1, hr.2, HS⟩
          case measure => simp [intOf]; omega
    · have HM := Lib.hid (show logM P Q G a b = none by simp only [logM, h3]; simp)
      go_enter Try.func36, Try.ntmps36
      go_wp2_with (go_at_call 56; refine (c_spec_grAsked).mono ?_; rintro e w1 ⟨rfl, hb1⟩)
      go_ret2; exact ⟨by rw [HM.out]; rfl, lit_trans hb1⟩
end Go.Proofs.Ytpaajlmeifamdaa
