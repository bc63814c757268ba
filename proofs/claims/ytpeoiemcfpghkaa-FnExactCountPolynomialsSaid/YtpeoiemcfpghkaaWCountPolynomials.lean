/- The walks of laws on polynomials and shares: each Go text returns true for all arguments. No condition. -/
import Derived.Test.YtpeoiemcfpghkaaThrG
import Derived.Test.YtpeoiemcfpghkaaInts
namespace Go.Proofs.Ytpeoiemcfpghkaa
open Go.RowKit
set_option linter.unusedVariables false

set_option maxRecDepth 100000 in
set_option maxHeartbeats 1000000 in
theorem w_FnExactCountPolynomials (w : World) {p t v : Int} {xs ys : List Int} (hp : -9223372036854775808 ≤ p ∧ p ≤ 9223372036854775807) {vxs : Value} (hxs : Ints w vxs xs) {vys : Value} (hys : Ints w vys ys) (ht : -9223372036854775808 ≤ t ∧ t ≤ 9223372036854775807) (hv : -9223372036854775808 ≤ v ∧ v ≤ 9223372036854775807) :
    Calls Try.prog 9 #[.int .i64 p, vxs, vys, .int .i64 t, .int .i64 v] w fun e w' => e = .returned (.bool true) ∧ Below w.heap.size w w' := by
  have Hxs := Lib.hid hxs
  have Hys := Lib.hid hys
  obtain ⟨Axs, cxs, rfl, hlcxs, hcmxs, hrdxs⟩ := hxs
  clear hcmxs hrdxs
  obtain ⟨Ays, cys, rfl, hlcys, hcmys, hrdys⟩ := hys
  clear hcmys hrdys
  by_cases kxs : xs.length ≤ 1048576
  rotate_left
  · go_enter Try.func9, Try.ntmps9
    go_wp2
    go_ret; exact ⟨rfl, Below.refl _ _⟩
  by_cases kys : ys.length ≤ 1048576
  rotate_left
  · go_enter Try.func9, Try.ntmps9
    go_wp2
    go_ret; exact ⟨rfl, Below.refl _ _⟩
  go_enter Try.func9, Try.ntmps9
  go_wp2_with fail
  refine (c_laws_toIntS (Hxs.out) kxs).mono ?_
  have sxs_base := (Below.refl w.heap.size w).size
  rintro e w1 ⟨sxs, rfl, sxso, b1⟩
  have B1 := below_step (Below.refl w.heap.size w) b1
  clear b1
  go_wp2_with fail
  refine (c_laws_toIntS (Hys.out.below (B1)) kys).mono ?_
  have sxs_lt_sys := sxso.lt
  have sys_base := B1.size
  rintro e w2 ⟨sys, rfl, syso, b2⟩
  have sxs_2 := sxso.below b2
  clear sxso
  have B2 := below_step B1 b2
  clear b2 B1
  go_wp2_with fail
  refine (c_spec_CountPolynomials sxs_2.ints syso.ints (by omega) (by omega)).mono ?_
  rintro e w3 ⟨rfl, b3⟩
  have sxs_3 := sxs_2.below b3
  clear sxs_2
  have sys_3 := syso.below b3
  clear syso
  have B3 := below_step B2 b3
  clear b3 B2
  clear sxs_3
  clear sys_3
  go_wp2_with fail
  refine (c_laws_toIntS (Hxs.out.below (B3)) kxs).mono ?_
  have xxs_base := B3.size
  rintro e w4 ⟨xxs, rfl, xxso, b4⟩
  have B4 := below_step B3 b4
  clear b4 B3
  go_wp2_with fail
  refine (c_laws_toIntS (Hys.out.below (B4)) kys).mono ?_
  have xxs_lt_xys := xxso.lt
  have xys_base := B4.size
  rintro e w5 ⟨xys, rfl, xyso, b5⟩
  have xxs_5 := xxso.below b5
  clear xxso
  have B5 := below_step B4 b5
  clear b5 B4
  go_wp2_with fail
  refine (c_impl_CountPolynomials xxs_5.ints xyso.ints (by omega) (by omega)).mono ?_
  rintro e w6 ⟨rfl, b6⟩
  have xxs_6 := xxs_5.below b6
  clear xxs_5
  have xys_6 := xyso.below b6
  clear xyso
  have B6 := below_step B5 b6
  clear b6 B5
  go_wp2_with fail
  refine (c_laws_toIntS (Hxs.out.below (B6)) kxs).mono ?_
  have xxs_lt_yxs := xxs_6.lt
  have xys_lt_yxs := xys_6.lt
  have yxs_base := B6.size
  rintro e w7 ⟨yxs, rfl, yxso, b7⟩
  have xxs_7 := xxs_6.below b7
  clear xxs_6
  have xys_7 := xys_6.below b7
  clear xys_6
  have B7 := below_step B6 b7
  clear b7 B6
  go_wp2_with fail
  refine (c_laws_eqIntS xxs_7.ints yxso.ints (by omega)).mono ?_
  rintro e w8 ⟨rfl, b8⟩
  have xxs_8 := xxs_7.below b8
  clear xxs_7
  have xys_8 := xys_7.below b8
  clear xys_7
  have yxs_8 := yxso.below b8
  clear yxso
  have B8 := below_step B7 b8
  clear b8 B7
  clear yxs_8
  go_wp2_with fail
  refine (c_laws_toIntS (Hys.out.below (B8)) kys).mono ?_
  have xxs_lt_yys := xxs_8.lt
  have xys_lt_yys := xys_8.lt
  have yys_base := B8.size
  rintro e w9 ⟨yys, rfl, yyso, b9⟩
  have xxs_9 := xxs_8.below b9
  clear xxs_8
  have xys_9 := xys_8.below b9
  clear xys_8
  have B9 := below_step B8 b9
  clear b9 B8
  go_wp2_with fail
  refine (c_laws_eqIntS xys_9.ints yyso.ints (by omega)).mono ?_
  rintro e w10 ⟨rfl, b10⟩
  have xxs_10 := xxs_9.below b10
  clear xxs_9
  have xys_10 := xys_9.below b10
  clear xys_9
  have yys_10 := yyso.below b10
  clear yyso
  have B10 := below_step B9 b10
  clear b10 B9
  clear yys_10
  go_wp2
  go_ret
  exact ⟨rfl, B10⟩

end Go.Proofs.Ytpeoiemcfpghkaa
