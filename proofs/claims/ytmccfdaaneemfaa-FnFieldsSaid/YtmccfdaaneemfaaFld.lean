/- Contracts of sums, products and orders over small fields. No condition. -/
import Derived.Test.YtmccfdaaneemfaaFieldF
import Derived.Test.YtmccfdaaneemfaaOrdM
namespace Go.Proofs.Ytmccfdaaneemfaa
open Go.RowKit
set_option linter.unusedVariables false

theorem elemB_prime {p a : Int} (h : elemB p a = true) : PrimeP p := by
  have := elemB_fld h
  simp [fldB] at this
  exact primeB_iff.1 this.2
noncomputable def addModM (p a b : Int) : Option Int := if elemB p a && elemB p b then some ((a + b) % p) else none
noncomputable def mulModM (p a b : Int) : Option Int := if elemB p a && elemB p b then some (a * b % p) else none
noncomputable def ordModM (p a : Int) : Option Int := if elemB p a && !(a == 0) then some (ordN p a : Int) else none
theorem c_impl_AddMod {p a b : Int} {w : World} : Calls Try.prog 20 #[.int .i64 p, .int .i64 a, .int .i64 b] w fun e w' => e = .returned (.tuple #[.int .i64 (oV (addModM p a b)), .bool (oB (addModM p a b))]) ∧ w = w' := by
  rcases h : elemB p a with _ | _ <;> rcases h3 : elemB p b with _ | _
  case true.true =>
    have hb := elemB_bd h
    have hb3 := elemB_bd h3
    have hm := mul_bd hb.2.2.1 (show a ≤ 300 by omega) hb3.2.2.1 (show b ≤ 300 by omega)
    have hp0 : ¬ p = 0 := by omega
    go_enter Try.func20, Try.ntmps20
    go_wp2_with (go_at_call 66; refine (c_impl_isElement).mono ?_; rintro e w' ⟨rfl, rfl⟩)
    go_ret2; exact ⟨by simp [addModM, oV, oB, h, h3], rfl⟩
  all_goals
    have HM := Lib.hid (show addModM p a b = none by simp only [addModM, h, h3]; rfl)
    go_enter Try.func20, Try.ntmps20
    go_wp2_with (go_at_call 66; refine (c_impl_isElement).mono ?_; rintro e w' ⟨rfl, rfl⟩)
    go_ret2; exact ⟨by rw [HM.out]; rfl, rfl⟩
theorem c_spec_AddMod {p a b : Int} {w : World} : Calls Try.prog 21 #[.int .i64 p, .int .i64 a, .int .i64 b] w fun e w' => e = .returned (.tuple #[.int .i64 (oV (addModM p a b)), .bool (oB (addModM p a b))]) ∧ Below w.heap.size w w' := by
  have h0 := fpInB_two p a b
  rcases h : elemB p a with _ | _ <;> rcases h3 : elemB p b with _ | _
  case true.true =>
    have hb := elemB_bd h
    have hb3 := elemB_bd h3
    have hm := mul_bd hb.2.2.1 (show a ≤ 300 by omega) hb3.2.2.1 (show b ≤ 300 by omega)
    have hp0 : ¬ p = 0 := by omega
    go_enter Try.func21, Try.ntmps21
    go_wp2_with (go_at_call 68; refine (c_spec_fpIn (l := [a, b]) (ints_lit w [a, b] _ rfl (by simp)) (by simp)).mono ?_; rintro e w' ⟨rfl, rfl⟩)
    go_ret2; exact ⟨by simp [addModM, oV, oB, h, h3], below_lit _⟩
  all_goals
    have HM := Lib.hid (show addModM p a b = none by simp only [addModM, h, h3]; rfl)
    go_enter Try.func21, Try.ntmps21
    go_wp2_with (go_at_call 68; refine (c_spec_fpIn (l := [a, b]) (ints_lit w [a, b] _ rfl (by simp)) (by simp)).mono ?_; rintro e w' ⟨rfl, rfl⟩)
    go_ret2; exact ⟨by rw [HM.out]; rfl, below_lit _⟩
theorem c_impl_MulMod {p a b : Int} {w : World} : Calls Try.prog 13 #[.int .i64 p, .int .i64 a, .int .i64 b] w fun e w' => e = .returned (.tuple #[.int .i64 (oV (mulModM p a b)), .bool (oB (mulModM p a b))]) ∧ w = w' := by
  rcases h : elemB p a with _ | _ <;> rcases h3 : elemB p b with _ | _
  case true.true =>
    have hb := elemB_bd h
    have hb3 := elemB_bd h3
    have hm := mul_bd hb.2.2.1 (show a ≤ 300 by omega) hb3.2.2.1 (show b ≤ 300 by omega)
    have hp0 : ¬ p = 0 := by omega
    go_enter Try.func13, Try.ntmps13
    go_wp2_with (go_at_call 66; refine (c_impl_isElement).mono ?_; rintro e w' ⟨rfl, rfl⟩)
    go_ret2; exact ⟨by simp [mulModM, oV, oB, h, h3], rfl⟩
  all_goals
    have HM := Lib.hid (show mulModM p a b = none by simp only [mulModM, h, h3]; rfl)
    go_enter Try.func13, Try.ntmps13
    go_wp2_with (go_at_call 66; refine (c_impl_isElement).mono ?_; rintro e w' ⟨rfl, rfl⟩)
    go_ret2; exact ⟨by rw [HM.out]; rfl, rfl⟩
theorem c_spec_MulMod {p a b : Int} {w : World} : Calls Try.prog 22 #[.int .i64 p, .int .i64 a, .int .i64 b] w fun e w' => e = .returned (.tuple #[.int .i64 (oV (mulModM p a b)), .bool (oB (mulModM p a b))]) ∧ Below w.heap.size w w' := by
  have h0 := fpInB_two p a b
  rcases h : elemB p a with _ | _ <;> rcases h3 : elemB p b with _ | _
  case true.true =>
    have hb := elemB_bd h
    have hb3 := elemB_bd h3
    have hm := mul_bd hb.2.2.1 (show a ≤ 300 by omega) hb3.2.2.1 (show b ≤ 300 by omega)
    have hp0 : ¬ p = 0 := by omega
    go_enter Try.func22, Try.ntmps22
    go_wp2_with (go_at_call 68; refine (c_spec_fpIn (l := [a, b]) (ints_lit w [a, b] _ rfl (by simp)) (by simp)).mono ?_; rintro e w' ⟨rfl, rfl⟩)
    go_ret2; exact ⟨by simp [mulModM, oV, oB, h, h3], below_lit _⟩
  all_goals
    have HM := Lib.hid (show mulModM p a b = none by simp only [mulModM, h, h3]; rfl)
    go_enter Try.func22, Try.ntmps22
    go_wp2_with (go_at_call 68; refine (c_spec_fpIn (l := [a, b]) (ints_lit w [a, b] _ rfl (by simp)) (by simp)).mono ?_; rintro e w' ⟨rfl, rfl⟩)
    go_ret2; exact ⟨by rw [HM.out]; rfl, below_lit _⟩
theorem c_spec_IsPrime {n : Int} {w : World} : Calls Try.prog 12 #[.int .i64 n] w fun e w' => e = .returned (.bool (fldB n)) ∧ w = w' := by
  go_enter Try.func12, Try.ntmps12
  go_wp2_with (go_at_call 71; refine (k_spec_fpGood).mono ?_; rintro e w' ⟨rfl, rfl⟩)
  go_ret; exact ⟨rfl, rfl⟩
/-- What the loop over the powers keeps. -/
def OrdAt (p a : Int) (n : Nat) (x : Int) : Prop := x = a ^ n % p ∧ 0 < n ∧ ∀ m : Nat, 0 < m → m < n → ¬ a ^ m % p = 1
theorem OrdAt.stop {p a x : Int} {n : Nat} (h : OrdAt p a n x) (hx : x = 1) : ordN p a = n := by
  obtain ⟨e, h1, h2⟩ := h
  exact ordN_of ⟨h1, by rw [← e]; exact hx, h2⟩
theorem OrdAt.next {p a x : Int} {n : Nat} (h : OrdAt p a n x) (hx : ¬ x = 1) : OrdAt p a (n + 1) (x * a % p) := by
  obtain ⟨e, h1, h2⟩ := h
  refine ⟨by rw [e, Int.pow_succ, Int.mul_emod, Int.emod_emod, ← Int.mul_emod], by omega, fun m hm hmn h => ?_⟩
  rcases Nat.lt_or_ge m n with h3 | h3
  · exact h2 m hm h3 h
  · have : m = n := by omega
    subst this; exact hx (e.trans h)
theorem OrdAt.le {p a x : Int} {n : Nat} (h : OrdAt p a n x) (hp : PrimeP p) (ha : ¬ p ∣ a) : (n : Int) ≤ p - 1 := by
  have hp2 := hp.1
  obtain ⟨k, hk, hk2⟩ := ord_exists hp ha
  rcases Nat.lt_or_ge k n with h1 | h1
  · exact absurd hk.2.1 (h.2.2 k hk.1 h1)
  · omega
theorem ordAt_one {p a : Int} (h0 : 0 ≤ a) (h1 : a < p) : OrdAt p a 1 a := ⟨by rw [Int.pow_one, Int.emod_eq_of_lt h0 h1], by omega, fun m h1 h2 => by omega⟩
theorem c_impl_OrderMod {p a : Int} {w : World} : Calls Try.prog 16 #[.int .i64 p, .int .i64 a] w fun e w' => e = .returned (.tuple #[.int .i64 (oV (ordModM p a)), .bool (oB (ordModM p a))]) ∧ Below w.heap.size w w' := by
  have HF := Lib.hid (fpInB_one p a)
  have h0 := fpInB_one p a
  rcases h : elemB p a with _ | _ <;> rcases h2 : a == 0 with _ | _
  case true.false =>
    have hb := elemB_bd h
    have hp := elemB_prime h
    have ha0 : ¬ a = 0 := by simpa using h2
    have hd : ¬ p ∣ a := not_dvd_small (by omega) (by omega)
    have hp0 : ¬ p = 0 := by omega
    have HM := Lib.hid (show ordModM p a = some (ordN p a : Int) by simp only [ordModM, h, h2]; rfl)
    have HP := Lib.hid hp
    have HD := Lib.hid hd
    have H1 := Lib.hid (ordAt_one hb.2.2.1 (show a < p by omega))
    clear hp hd
    go_enter Try.func16, Try.ntmps16
    go_wp2_with (first | (go_at_call 66; refine (c_impl_isElement).mono ?_; rintro e w' ⟨rfl, rfl⟩) | (go_at_call 68; refine (c_spec_fpIn (l := [a]) (ints_lit w [a] _ rfl (by simp)) (by simp)).mono ?_; rintro e w' ⟨rfl, rfl⟩))
    go_loop [6, 7] (fun x y => ∃ (n : Nat) (b : Int), x = .int .i64 n ∧ y = .int .i64 b ∧ 0 ≤ b ∧ b < p ∧ (n : Int) ≤ p - 1 ∧ Hid (OrdAt p a n b)) (fun x _ => (p - intOf x).toNat)
    case atStart => exact ⟨1, a, rfl, rfl, hb.2.2.1, by omega, by omega, H1⟩
    case round =>
      obtain ⟨n, b, rfl, rfl, hb0, hb1, hn, HO⟩ := hrel
      by_cases hb2 : b = 1
      · have HE := Lib.hid (HO.out.stop hb2)
        go_wp2
        go_ret2
        exact ⟨by rw [HM.out, oV, oB, HE.out]; rfl, by first | exact Below.refl _ _ | exact below_lit _⟩
      · have hm := mul_bd hb0 (show b ≤ 300 by omega) hb.2.2.1 (show a ≤ 300 by omega)
        have h3 : 0 ≤ b * a % p ∧ b * a % p < p := ⟨Int.emod_nonneg _ (by omega), Int.emod_lt_of_pos _ (by omega)⟩
        have HN := Lib.hid (HO.out.next hb2)
        have hl : ((n + 1 : Nat) : Int) ≤ p - 1 := HN.out.le HP.out HD.out
        go_wp2
        go_round
        case rel => exact ⟨n + 1, b * a % p, rfl, rfl, h3.1, h3.2, hl, HN⟩
        case measure => simp [intOf]; omega
  all_goals
    have HM := Lib.hid (show ordModM p a = none by simp only [ordModM, h, h2]; rfl)
    go_enter Try.func16, Try.ntmps16
    go_wp2_with (first | (go_at_call 66; refine (c_impl_isElement).mono ?_; rintro e w' ⟨rfl, rfl⟩) | (go_at_call 68; refine (c_spec_fpIn (l := [a]) (ints_lit w [a] _ rfl (by simp)) (by simp)).mono ?_; rintro e w' ⟨rfl, rfl⟩))
    go_ret2; exact ⟨by rw [HM.out]; rfl, by first | exact Below.refl _ _ | exact below_lit _⟩
theorem c_spec_OrderMod {p a : Int} {w : World} : Calls Try.prog 17 #[.int .i64 p, .int .i64 a] w fun e w' => e = .returned (.tuple #[.int .i64 (oV (ordModM p a)), .bool (oB (ordModM p a))]) ∧ Below w.heap.size w w' := by
  have HF := Lib.hid (fpInB_one p a)
  have h0 := fpInB_one p a
  rcases h : elemB p a with _ | _ <;> rcases h2 : a == 0 with _ | _
  case true.false =>
    have hb := elemB_bd h
    have hp := elemB_prime h
    have ha0 : ¬ a = 0 := by simpa using h2
    have hd : ¬ p ∣ a := not_dvd_small (by omega) (by omega)
    have hp0 : ¬ p = 0 := by omega
    have HM := Lib.hid (show ordModM p a = some (ordN p a : Int) by simp only [ordModM, h, h2]; rfl)
    have HP := Lib.hid hp
    have HD := Lib.hid hd
    have H1 := Lib.hid (ordAt_one hb.2.2.1 (show a < p by omega))
    clear hp hd
    go_enter Try.func17, Try.ntmps17
    go_wp2_with (first | (go_at_call 66; refine (c_impl_isElement).mono ?_; rintro e w' ⟨rfl, rfl⟩) | (go_at_call 68; refine (c_spec_fpIn (l := [a]) (ints_lit w [a] _ rfl (by simp)) (by simp)).mono ?_; rintro e w' ⟨rfl, rfl⟩))
    go_loop [6, 7] (fun x y => ∃ (n : Nat) (b : Int), x = .int .i64 n ∧ y = .int .i64 b ∧ 0 ≤ b ∧ b < p ∧ (n : Int) ≤ p - 1 ∧ Hid (OrdAt p a n b)) (fun x _ => (p - intOf x).toNat)
    case atStart => exact ⟨1, a, rfl, rfl, hb.2.2.1, by omega, by omega, H1⟩
    case round =>
      obtain ⟨n, b, rfl, rfl, hb0, hb1, hn, HO⟩ := hrel
      by_cases hb2 : b = 1
      · have HE := Lib.hid (HO.out.stop hb2)
        go_wp2
        go_ret2
        exact ⟨by rw [HM.out, oV, oB, HE.out]; rfl, by first | exact Below.refl _ _ | exact below_lit _⟩
      · have hm := mul_bd hb0 (show b ≤ 300 by omega) hb.2.2.1 (show a ≤ 300 by omega)
        have h3 : 0 ≤ b * a % p ∧ b * a % p < p := ⟨Int.emod_nonneg _ (by omega), Int.emod_lt_of_pos _ (by omega)⟩
        have HN := Lib.hid (HO.out.next hb2)
        have hl : ((n + 1 : Nat) : Int) ≤ p - 1 := HN.out.le HP.out HD.out
        go_wp2
        go_round
        case rel => exact ⟨n + 1, b * a % p, rfl, rfl, h3.1, h3.2, hl, HN⟩
        case measure => simp [intOf]; omega
  all_goals
    have HM := Lib.hid (show ordModM p a = none by simp only [ordModM, h, h2]; rfl)
    go_enter Try.func17, Try.ntmps17
    go_wp2_with (first | (go_at_call 66; refine (c_impl_isElement).mono ?_; rintro e w' ⟨rfl, rfl⟩) | (go_at_call 68; refine (c_spec_fpIn (l := [a]) (ints_lit w [a] _ rfl (by simp)) (by simp)).mono ?_; rintro e w' ⟨rfl, rfl⟩))
    go_ret2; exact ⟨by rw [HM.out]; rfl, by first | exact Below.refl _ _ | exact below_lit _⟩
end Go.Proofs.Ytmccfdaaneemfaa
