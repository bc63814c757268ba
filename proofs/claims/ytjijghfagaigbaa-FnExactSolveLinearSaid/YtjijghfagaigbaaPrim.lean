/- Contracts of powers and of primality. Conditions: the moduli are at most 3000, the numbers asked at most a million. -/
import Derived.Test.YtjijghfagaigbaaChecked
import Derived.Test.YtjijghfagaigbaaBits
import Derived.Test.YtjijghfagaigbaaBase
import Derived.Test.YtjijghfagaigbaaPowM
import Derived.Test.YtjijghfagaigbaaScal
import Derived.WalkKit
namespace Go.Proofs.Ytjijghfagaigbaa
open Go.RowKit
set_option linter.unusedVariables false

theorem c_impl_power {p a n : Int} {w : World} (hp : 1 ≤ p ∧ p ≤ 3000) (ha : 0 ≤ a ∧ a ≤ 3000) (hn : 0 ≤ n ∧ n ≤ 1000000000) :
    Calls Try.prog 36 #[.int .i64 p, .int .i64 a, .int .i64 n] w fun e w' => e = .returned (.int .i64 (powM p a n)) ∧ w = w' := by
  have hp0 : ¬ p = 0 := by omega
  have HR := Lib.hid (pow_start p a n.toNat)
  have h1 : 0 ≤ 1 % p ∧ 1 % p < p := ⟨Int.emod_nonneg _ (by omega), Int.emod_lt_of_pos _ (by omega)⟩
  go_enter Try.func36, Try.ntmps36
  go_wp2
  go_loop [1, 2, 7] (fun x y z => ∃ b m o : Int, x = .int .i64 b ∧ y = .int .i64 m ∧ z = .int .i64 o ∧ 0 ≤ b ∧ b ≤ 3000 ∧ 0 ≤ m ∧ m ≤ 1000000000 ∧ 0 ≤ o ∧ o < p ∧ Hid ((o * b ^ m.toNat) % p = powM p a n)) (fun _ y _ => (intOf y).toNat)
  case atStart => exact ⟨a, n, 1 % p, rfl, rfl, rfl, ha.1, ha.2, hn.1, hn.2, h1.1, h1.2, HR⟩
  case round =>
    obtain ⟨b, m, o, rfl, rfl, rfl, hb0, hb1, hm0, hm1, ho0, ho1, HI⟩ := hrel
    clear h1
    by_cases hm : 0 < m
    · have hbb := mul_bd hb0 hb1 hb0 hb1
      have hob := mul_bd ho0 (show o ≤ 3000 by omega) hb0 hb1
      have hand := bits_and_one hm0 (by omega)
      have h3 : 0 ≤ b * b % p ∧ b * b % p < p := ⟨Int.emod_nonneg _ (by omega), Int.emod_lt_of_pos _ (by omega)⟩
      have h4 : 0 ≤ o * b % p ∧ o * b % p < p := ⟨Int.emod_nonneg _ (by omega), Int.emod_lt_of_pos _ (by omega)⟩
      by_cases hodd : m % 2 = 1
      · have hodd' : (m % 2 == 1) = true := by simpa using hodd
        have HN := Lib.hid (show ((o * b % p) * (b * b % p) ^ (m / 2).toNat) % p = powM p a n by rw [pow_odd p o b m.toNat (m / 2).toNat (by omega)]; exact HI.out)
        clear hodd
        go_wp2
        go_round
        case rel => exact ⟨_, _, _, rfl, rfl, rfl, h3.1, by omega, by omega, by omega, h4.1, h4.2, HN⟩
        case measure => simp [intOf]; omega
      · have hodd' : (m % 2 == 1) = false := by simpa using hodd
        have HN := Lib.hid (show (o * (b * b % p) ^ (m / 2).toNat) % p = powM p a n by rw [pow_even p o b m.toNat (m / 2).toNat (by omega)]; exact HI.out)
        clear hodd
        go_wp2
        go_round
        case rel => exact ⟨_, _, _, rfl, rfl, rfl, h3.1, by omega, by omega, by omega, ho0, ho1, HN⟩
        case measure => simp [intOf]; omega
    · have HE := Lib.hid (show powM p a n = o by rw [← HI.out, show m.toNat = 0 by omega]; exact pow_end p o b ho0 ho1)
      go_wp2
      go_ret
      exact ⟨by rw [HE.out]; rfl, rfl⟩
theorem c_spec_fpPow {p a n : Int} {w : World} (hp : 1 ≤ p ∧ p ≤ 3000) (ha : 0 ≤ a ∧ a ≤ 3000) (hn : 0 ≤ n ∧ n ≤ 1000000000) :
    Calls Try.prog 27 #[.int .i64 p, .int .i64 a, .int .i64 n] w fun e w' => e = .returned (.int .i64 (powM p a n)) ∧ w = w' := by
  have hp0 : ¬ p = 0 := by omega
  have HR := Lib.hid (pow_start p a n.toNat)
  have h1 : 0 ≤ 1 % p ∧ 1 % p < p := ⟨Int.emod_nonneg _ (by omega), Int.emod_lt_of_pos _ (by omega)⟩
  go_enter Try.func27, Try.ntmps27
  go_wp2
  go_loop [1, 2, 7] (fun x y z => ∃ b m o : Int, x = .int .i64 b ∧ y = .int .i64 m ∧ z = .int .i64 o ∧ 0 ≤ b ∧ b ≤ 3000 ∧ 0 ≤ m ∧ m ≤ 1000000000 ∧ 0 ≤ o ∧ o < p ∧ Hid ((o * b ^ m.toNat) % p = powM p a n)) (fun _ y _ => (intOf y).toNat)
  case atStart => exact ⟨a, n, 1 % p, rfl, rfl, rfl, ha.1, ha.2, hn.1, hn.2, h1.1, h1.2, HR⟩
  case round =>
    obtain ⟨b, m, o, rfl, rfl, rfl, hb0, hb1, hm0, hm1, ho0, ho1, HI⟩ := hrel
    clear h1
    by_cases hm : 0 < m
    · have hbb := mul_bd hb0 hb1 hb0 hb1
      have hob := mul_bd ho0 (show o ≤ 3000 by omega) hb0 hb1
      have h3 : 0 ≤ b * b % p ∧ b * b % p < p := ⟨Int.emod_nonneg _ (by omega), Int.emod_lt_of_pos _ (by omega)⟩
      have h4 : 0 ≤ o * b % p ∧ o * b % p < p := ⟨Int.emod_nonneg _ (by omega), Int.emod_lt_of_pos _ (by omega)⟩
      by_cases hodd : m % 2 = 1
      · have hodd' : (m % 2 == 1) = true := by simpa using hodd
        have HN := Lib.hid (show ((o * b % p) * (b * b % p) ^ (m / 2).toNat) % p = powM p a n by rw [pow_odd p o b m.toNat (m / 2).toNat (by omega)]; exact HI.out)
        clear hodd
        go_wp2
        go_round
        case rel => exact ⟨_, _, _, rfl, rfl, rfl, h3.1, by omega, by omega, by omega, h4.1, h4.2, HN⟩
        case measure => simp [intOf]; omega
      · have hodd' : (m % 2 == 1) = false := by simpa using hodd
        have HN := Lib.hid (show (o * (b * b % p) ^ (m / 2).toNat) % p = powM p a n by rw [pow_even p o b m.toNat (m / 2).toNat (by omega)]; exact HI.out)
        clear hodd
        go_wp2
        go_round
        case rel => exact ⟨_, _, _, rfl, rfl, rfl, h3.1, by omega, by omega, by omega, ho0, ho1, HN⟩
        case measure => simp [intOf]; omega
    · have HE := Lib.hid (show powM p a n = o by rw [← HI.out, show m.toNat = 0 by omega]; exact pow_end p o b ho0 ho1)
      go_wp2
      go_ret
      exact ⟨by rw [HE.out]; rfl, rfl⟩
theorem c_impl_IsPrime {n : Int} {w : World} : Calls Try.prog 28 #[.int .i64 n] w fun e w' => e = .returned (.bool (inB n 2 251 && primeB n)) ∧ w = w' := by
  rcases h : inB n 2 251 with _ | _
  · go_enter Try.func28, Try.ntmps28
    go_wp2_with (go_at_call 19; refine (c_impl_within).mono ?_; rintro e w' ⟨rfl, rfl⟩)
    go_ret; exact ⟨by simp, rfl⟩
  · have hb := inB_bd h
    have hn1 : n ≤ 1000000 := by omega
    go_enter Try.func28, Try.ntmps28
    go_wp2_with (go_at_call 19; refine (c_impl_within).mono ?_; rintro e w' ⟨rfl, rfl⟩)
    go_loop [3] (fun x => ∃ d : Int, x = .int .i64 d ∧ 2 ≤ d ∧ d ≤ 1001 ∧ Hid (∀ e, 2 ≤ e → e < d → ¬ n % e = 0)) (fun x => (1002 - intOf x).toNat)
    case atStart => exact ⟨2, rfl, by omega, by omega, fun e h1 h2 => by omega⟩
    case round =>
      obtain ⟨d, rfl, hd0, hd1, HD⟩ := hrel
      have hsq := mul_bd (show 0 ≤ d by omega) hd1 (show 0 ≤ d by omega) hd1
      by_cases ht : d * d ≤ n
      · have hd2 := sq_bd hd0 hn1 ht
        have hn0 : 0 ≤ n := by omega
        have hdz : ¬ d = 0 := by omega
        by_cases hm : n % d = 0
        · have hm' : (n % d == 0) = true := by simpa using hm
          have HP := Lib.hid (primeB_no (n := n) fun hpp => hpp.2 d hd0 ht hm)
          clear hm
          go_wp2
          go_ret
          exact ⟨by rw [HP.out]; rfl, rfl⟩
        · have hm' : (n % d == 0) = false := by simpa using hm
          have HN : Hid (∀ e, 2 ≤ e → e < d + 1 → ¬ n % e = 0) := fun e h1 h2 => by
            rcases Int.lt_or_le e d with h | h
            · exact HD.out e h1 h
            · have : e = d := by omega
              subst this; exact hm
          clear hm
          go_wp2
          go_round
          case rel => exact ⟨_, rfl, by omega, by omega, HN⟩
          case measure => simp [intOf]; omega
      · have HP : Hid (2 ≤ n → primeB n = true) := fun h2 => primeB_iff.2 ⟨h2, fun e h1 h3 => HD.out e h1 (by
          rcases Int.lt_or_le e d with h | h
          · exact h
          · have := sq_mono (by omega) h
            omega)⟩
        go_wp2
        go_ret
        exact ⟨by rw [HP.out hb.1]; rfl, rfl⟩
theorem c_spec_fpGood {n : Int} {w : World} : Calls Try.prog 25 #[.int .i64 n] w fun e w' => e = .returned (.bool (inB n 2 251 && primeB n)) ∧ w = w' := by
  rcases h : inB n 2 251 with _ | _
  · go_enter Try.func25, Try.ntmps25
    go_wp2_with (go_at_call 26; refine (c_spec_l1In).mono ?_; rintro e w' ⟨rfl, rfl⟩)
    go_ret; exact ⟨by simp, rfl⟩
  · have hb := inB_bd h
    have hn1 : n ≤ 1000000 := by omega
    go_enter Try.func25, Try.ntmps25
    go_wp2_with (go_at_call 26; refine (c_spec_l1In).mono ?_; rintro e w' ⟨rfl, rfl⟩)
    go_loop [3] (fun x => ∃ d : Int, x = .int .i64 d ∧ 2 ≤ d ∧ d ≤ 1001 ∧ Hid (∀ e, 2 ≤ e → e < d → ¬ n % e = 0)) (fun x => (1002 - intOf x).toNat)
    case atStart => exact ⟨2, rfl, by omega, by omega, fun e h1 h2 => by omega⟩
    case round =>
      obtain ⟨d, rfl, hd0, hd1, HD⟩ := hrel
      have hsq := mul_bd (show 0 ≤ d by omega) hd1 (show 0 ≤ d by omega) hd1
      by_cases ht : d * d ≤ n
      · have hd2 := sq_bd hd0 hn1 ht
        have hn0 : 0 ≤ n := by omega
        have hdz : ¬ d = 0 := by omega
        by_cases hm : n % d = 0
        · have hm' : (n % d == 0) = true := by simpa using hm
          have HP := Lib.hid (primeB_no (n := n) fun hpp => hpp.2 d hd0 ht hm)
          clear hm
          go_wp2
          go_ret
          exact ⟨by rw [HP.out]; rfl, rfl⟩
        · have hm' : (n % d == 0) = false := by simpa using hm
          have HN : Hid (∀ e, 2 ≤ e → e < d + 1 → ¬ n % e = 0) := fun e h1 h2 => by
            rcases Int.lt_or_le e d with h | h
            · exact HD.out e h1 h
            · have : e = d := by omega
              subst this; exact hm
          clear hm
          go_wp2
          go_round
          case rel => exact ⟨_, rfl, by omega, by omega, HN⟩
          case measure => simp [intOf]; omega
      · have HP : Hid (2 ≤ n → primeB n = true) := fun h2 => primeB_iff.2 ⟨h2, fun e h1 h3 => HD.out e h1 (by
          rcases Int.lt_or_le e d with h | h
          · exact h
          · have := sq_mono (by omega) h
            omega)⟩
        go_wp2
        go_ret
        exact ⟨by rw [HP.out hb.1]; rfl, rfl⟩
end Go.Proofs.Ytjijghfagaigbaa
