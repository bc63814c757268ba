/- The walks of laws on polynomials and shares: each Go text returns true for all arguments. No condition. -/
import Derived.Test.YtpeoiemcfpghkaaRefB
import Derived.Test.YtpeoiemcfpghkaaInts
namespace Go.Proofs.Ytpeoiemcfpghkaa
open Go.RowKit
set_option linter.unusedVariables false

set_option maxRecDepth 100000 in
set_option maxHeartbeats 1000000 in
theorem w_FnExactRefreshHolders (w : World) {p k t : Int} {ys : List Int} (hp : -9223372036854775808 ≤ p ∧ p ≤ 9223372036854775807) (hk : -9223372036854775808 ≤ k ∧ k ≤ 9223372036854775807) {vys : Value} (hys : Ints w vys ys) (ht : -9223372036854775808 ≤ t ∧ t ≤ 9223372036854775807) :
    Calls Try.prog 12 #[.int .i64 p, .int .i64 k, vys, .int .i64 t] w fun e w' => e = .returned (.bool true) ∧ Below w.heap.size w w' := by
  have Hys := Lib.hid hys
  obtain ⟨Ays, cys, rfl, hlcys, hcmys, hrdys⟩ := hys
  clear hcmys hrdys
  by_cases kys : ys.length ≤ 1048576
  rotate_left
  · go_enter Try.func12, Try.ntmps12
    go_wp2
    go_ret; exact ⟨rfl, Below.refl _ _⟩
  have hM : ((refrM p k ys t).getD []).length ≤ 2097152 := by have := refrM_len p k ys t; omega
  go_enter Try.func12, Try.ntmps12
  go_wp2_with fail
  refine (c_laws_toIntS (Hys.out) kys).mono ?_
  have sys_base := (Below.refl w.heap.size w).size
  rintro e w1 ⟨sys, rfl, syso, b1⟩
  have B1 := below_step (Below.refl w.heap.size w) b1
  clear b1
  go_wp2_with fail
  refine (c_spec_RefreshHolders syso.ints (by omega)).mono ?_
  have sys_lt_u0 := syso.lt
  have u0_base := B1.size
  rintro e w2 ⟨u0, rfl, u0o, b2⟩
  have sys_2 := syso.below b2
  clear syso
  have B2 := below_step B1 b2
  clear b2 B1
  clear sys_2
  go_wp2_with fail
  refine (c_laws_toIntS (Hys.out.below (B2)) kys).mono ?_
  have u0_lt_xys := u0o.lt
  have xys_base := B2.size
  rintro e w3 ⟨xys, rfl, xyso, b3⟩
  have u0_3 := u0o.below b3
  clear u0o
  have B3 := below_step B2 b3
  clear b3 B2
  go_wp2_with fail
  refine (c_impl_RefreshHolders xyso.ints (by omega)).mono ?_
  have u0_lt_g0 := u0_3.lt
  have xys_lt_g0 := xyso.lt
  have g0_base := B3.size
  rintro e w4 ⟨g0, rfl, g0o, b4⟩
  have u0_4 := u0_3.below b4
  clear u0_3
  have xys_4 := xyso.below b4
  clear xyso
  have B4 := below_step B3 b4
  clear b4 B3
  go_wp2_with fail
  refine (c_laws_eqIntS g0o.ints u0_4.ints hM).mono ?_
  rintro e w5 ⟨rfl, b5⟩
  have u0_5 := u0_4.below b5
  clear u0_4
  have xys_5 := xys_4.below b5
  clear xys_4
  have g0_5 := g0o.below b5
  clear g0o
  have B5 := below_step B4 b5
  clear b5 B4
  go_wp2_with fail
  refine (c_laws_toIntS (Hys.out.below (B5)) kys).mono ?_
  have u0_lt_yys := u0_5.lt
  have xys_lt_yys := xys_5.lt
  have g0_lt_yys := g0_5.lt
  have yys_base := B5.size
  rintro e w6 ⟨yys, rfl, yyso, b6⟩
  have u0_6 := u0_5.below b6
  clear u0_5
  have xys_6 := xys_5.below b6
  clear xys_5
  have g0_6 := g0_5.below b6
  clear g0_5
  have B6 := below_step B5 b6
  clear b6 B5
  go_wp2_with fail
  refine (c_laws_eqIntS xys_6.ints yyso.ints (by omega)).mono ?_
  rintro e w7 ⟨rfl, b7⟩
  have u0_7 := u0_6.below b7
  clear u0_6
  have xys_7 := xys_6.below b7
  clear xys_6
  have g0_7 := g0_6.below b7
  clear g0_6
  have yys_7 := yyso.below b7
  clear yyso
  have B7 := below_step B6 b7
  clear b7 B6
  clear yys_7
  go_wp2_with fail
  refine (c_laws_markIntS xys_7 (by omega) (by omega)).mono ?_
  have xys_ge8 := xys_7.ge
  rintro e w8 ⟨rfl, o8, g8⟩
  have u0_8 := u0_7.grown g8 (apart_old xys_ge8 u0_lt_xys)
  clear u0_7
  have g0_8 := g0_7.grown g8 (apart_new g0_7.ge xys_lt_g0)
  clear g0_7
  clear xys_7
  have B8 := below_row B7 g8 (fun g hg => Nat.le_trans xys_base (xys_ge8 g hg))
  clear g8 B7
  go_wp2_with fail
  refine (c_laws_eqIntS g0_8.ints u0_8.ints hM).mono ?_
  rintro e w9 ⟨rfl, b9⟩
  have u0_9 := u0_8.below b9
  clear u0_8
  have xys_9 := o8.below b9
  clear o8
  have g0_9 := g0_8.below b9
  clear g0_8
  have B9 := below_step B8 b9
  clear b9 B8
  clear xys_9
  go_wp2_with fail
  refine (c_laws_markIntS g0_9 hM (by omega)).mono ?_
  have g0_ge10 := g0_9.ge
  rintro e w10 ⟨rfl, o10, g10⟩
  have u0_10 := u0_9.grown g10 (apart_old g0_ge10 u0_lt_g0)
  clear u0_9
  clear g0_9
  have B10 := below_row B9 g10 (fun g hg => Nat.le_trans g0_base (g0_ge10 g hg))
  clear g10 B9
  go_wp2_with fail
  refine (c_laws_heldIntS (n := ((refrM p k ys t).getD []).length) o10.ints hM (by omega)).mono ?_
  rintro e w' ⟨rfl, rfl⟩
  go_wp2_with fail
  refine (c_laws_toIntS (Hys.out.below (B10)) kys).mono ?_
  have u0_lt_zys := u0_10.lt
  have g0_lt_zys := o10.lt
  have zys_base := B10.size
  rintro e w11 ⟨zys, rfl, zyso, b11⟩
  have u0_11 := u0_10.below b11
  clear u0_10
  have g0_11 := o10.below b11
  clear o10
  have B11 := below_step B10 b11
  clear b11 B10
  go_wp2_with fail
  refine (c_impl_RefreshHolders zyso.ints (by omega)).mono ?_
  have u0_lt_h0 := u0_11.lt
  have g0_lt_h0 := g0_11.lt
  have zys_lt_h0 := zyso.lt
  have h0_base := B11.size
  rintro e w12 ⟨h0, rfl, h0o, b12⟩
  have u0_12 := u0_11.below b12
  clear u0_11
  have g0_12 := g0_11.below b12
  clear g0_11
  have zys_12 := zyso.below b12
  clear zyso
  have B12 := below_step B11 b12
  clear b12 B11
  go_wp2_with fail
  refine (c_laws_eqIntS h0o.ints u0_12.ints hM).mono ?_
  rintro e w13 ⟨rfl, b13⟩
  have u0_13 := u0_12.below b13
  clear u0_12
  have g0_13 := g0_12.below b13
  clear g0_12
  have zys_13 := zys_12.below b13
  clear zys_12
  have h0_13 := h0o.below b13
  clear h0o
  have B13 := below_step B12 b13
  clear b13 B12
  go_wp2_with fail
  refine (c_laws_heldIntS (n := ((refrM p k ys t).getD []).length) g0_13.ints hM (by omega)).mono ?_
  rintro e w' ⟨rfl, rfl⟩
  go_wp2
  go_ret
  exact ⟨rfl, B13⟩

end Go.Proofs.Ytpeoiemcfpghkaa
