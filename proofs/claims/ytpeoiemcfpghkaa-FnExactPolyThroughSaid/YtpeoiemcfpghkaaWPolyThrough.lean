/- The walks of laws on polynomials and shares: each Go text returns true for all arguments. No condition. -/
import Derived.Test.YtpeoiemcfpghkaaPtsE
import Derived.Test.YtpeoiemcfpghkaaInts
namespace Go.Proofs.Ytpeoiemcfpghkaa
open Go.RowKit
set_option linter.unusedVariables false

set_option maxRecDepth 100000 in
set_option maxHeartbeats 1000000 in
theorem w_FnExactPolyThrough (w : World) {p : Int} {xs ys : List Int} (hp : -9223372036854775808 ≤ p ∧ p ≤ 9223372036854775807) {vxs : Value} (hxs : Ints w vxs xs) {vys : Value} (hys : Ints w vys ys) :
    Calls Try.prog 4 #[.int .i64 p, vxs, vys] w fun e w' => e = .returned (.bool true) ∧ Below w.heap.size w w' := by
  have Hxs := Lib.hid hxs
  have Hys := Lib.hid hys
  obtain ⟨Axs, cxs, rfl, hlcxs, hcmxs, hrdxs⟩ := hxs
  clear hcmxs hrdxs
  obtain ⟨Ays, cys, rfl, hlcys, hcmys, hrdys⟩ := hys
  clear hcmys hrdys
  by_cases kxs : xs.length ≤ 1048576
  rotate_left
  · go_enter Try.func4, Try.ntmps4
    go_wp2
    go_ret; exact ⟨rfl, Below.refl _ _⟩
  by_cases kys : ys.length ≤ 1048576
  rotate_left
  · go_enter Try.func4, Try.ntmps4
    go_wp2
    go_ret; exact ⟨rfl, Below.refl _ _⟩
  have hM : ((polyOM p xs ys).getD []).length ≤ 2097152 := by have := polyOM_len p xs ys; omega
  go_enter Try.func4, Try.ntmps4
  go_wp2_with fail
  refine (c_laws_toIntS (Hxs.out) kxs).mono ?_
  have sxs_base := (Below.refl w.heap.size w).size
  rintro e w1 ⟨sxs, rfl, sxso, b1⟩
  have B1 := below_step (Below.refl w.heap.size w) b1
  clear b1
  go_wp2_with fail
  refine (c_laws_toIntS (Hys.out.below (B1)) kys).mono ?_
  have sxs_lt_sys := sxso.lt
  have sys_base := B1.size
  rintro e w2 ⟨sys, rfl, syso, b2⟩
  have sxs_2 := sxso.below b2
  clear sxso
  have B2 := below_step B1 b2
  clear b2 B1
  go_wp2_with fail
  refine (c_spec_PolyThrough sxs_2.ints syso.ints (by omega) (by omega)).mono ?_
  have sxs_lt_u0 := sxs_2.lt
  have sys_lt_u0 := syso.lt
  have u0_base := B2.size
  rintro e w3 ⟨u0, rfl, u0o, b3⟩
  have sxs_3 := sxs_2.below b3
  clear sxs_2
  have sys_3 := syso.below b3
  clear syso
  have B3 := below_step B2 b3
  clear b3 B2
  clear sxs_3
  clear sys_3
  go_wp2_with fail
  refine (c_laws_toIntS (Hxs.out.below (B3)) kxs).mono ?_
  have u0_lt_xxs := u0o.lt
  have xxs_base := B3.size
  rintro e w4 ⟨xxs, rfl, xxso, b4⟩
  have u0_4 := u0o.below b4
  clear u0o
  have B4 := below_step B3 b4
  clear b4 B3
  go_wp2_with fail
  refine (c_laws_toIntS (Hys.out.below (B4)) kys).mono ?_
  have u0_lt_xys := u0_4.lt
  have xxs_lt_xys := xxso.lt
  have xys_base := B4.size
  rintro e w5 ⟨xys, rfl, xyso, b5⟩
  have u0_5 := u0_4.below b5
  clear u0_4
  have xxs_5 := xxso.below b5
  clear xxso
  have B5 := below_step B4 b5
  clear b5 B4
  go_wp2_with fail
  refine (c_impl_PolyThrough xxs_5.ints xyso.ints (by omega) (by omega)).mono ?_
  have u0_lt_g0 := u0_5.lt
  have xxs_lt_g0 := xxs_5.lt
  have xys_lt_g0 := xyso.lt
  have g0_base := B5.size
  rintro e w6 ⟨g0, rfl, g0o, b6⟩
  have u0_6 := u0_5.below b6
  clear u0_5
  have xxs_6 := xxs_5.below b6
  clear xxs_5
  have xys_6 := xyso.below b6
  clear xyso
  have B6 := below_step B5 b6
  clear b6 B5
  go_wp2_with fail
  refine (c_laws_eqIntS g0o.ints u0_6.ints hM).mono ?_
  rintro e w7 ⟨rfl, b7⟩
  have u0_7 := u0_6.below b7
  clear u0_6
  have xxs_7 := xxs_6.below b7
  clear xxs_6
  have xys_7 := xys_6.below b7
  clear xys_6
  have g0_7 := g0o.below b7
  clear g0o
  have B7 := below_step B6 b7
  clear b7 B6
  go_wp2_with fail
  refine (c_laws_toIntS (Hxs.out.below (B7)) kxs).mono ?_
  have u0_lt_yxs := u0_7.lt
  have xxs_lt_yxs := xxs_7.lt
  have xys_lt_yxs := xys_7.lt
  have g0_lt_yxs := g0_7.lt
  have yxs_base := B7.size
  rintro e w8 ⟨yxs, rfl, yxso, b8⟩
  have u0_8 := u0_7.below b8
  clear u0_7
  have xxs_8 := xxs_7.below b8
  clear xxs_7
  have xys_8 := xys_7.below b8
  clear xys_7
  have g0_8 := g0_7.below b8
  clear g0_7
  have B8 := below_step B7 b8
  clear b8 B7
  go_wp2_with fail
  refine (c_laws_eqIntS xxs_8.ints yxso.ints (by omega)).mono ?_
  rintro e w9 ⟨rfl, b9⟩
  have u0_9 := u0_8.below b9
  clear u0_8
  have xxs_9 := xxs_8.below b9
  clear xxs_8
  have xys_9 := xys_8.below b9
  clear xys_8
  have g0_9 := g0_8.below b9
  clear g0_8
  have yxs_9 := yxso.below b9
  clear yxso
  have B9 := below_step B8 b9
  clear b9 B8
  clear yxs_9
  go_wp2_with fail
  refine (c_laws_toIntS (Hys.out.below (B9)) kys).mono ?_
  have u0_lt_yys := u0_9.lt
  have xxs_lt_yys := xxs_9.lt
  have xys_lt_yys := xys_9.lt
  have g0_lt_yys := g0_9.lt
  have yys_base := B9.size
  rintro e w10 ⟨yys, rfl, yyso, b10⟩
  have u0_10 := u0_9.below b10
  clear u0_9
  have xxs_10 := xxs_9.below b10
  clear xxs_9
  have xys_10 := xys_9.below b10
  clear xys_9
  have g0_10 := g0_9.below b10
  clear g0_9
  have B10 := below_step B9 b10
  clear b10 B9
  go_wp2_with fail
  refine (c_laws_eqIntS xys_10.ints yyso.ints (by omega)).mono ?_
  rintro e w11 ⟨rfl, b11⟩
  have u0_11 := u0_10.below b11
  clear u0_10
  have xxs_11 := xxs_10.below b11
  clear xxs_10
  have xys_11 := xys_10.below b11
  clear xys_10
  have g0_11 := g0_10.below b11
  clear g0_10
  have yys_11 := yyso.below b11
  clear yyso
  have B11 := below_step B10 b11
  clear b11 B10
  clear yys_11
  go_wp2_with fail
  refine (c_laws_markIntS xxs_11 (by omega) (by omega)).mono ?_
  have xxs_ge12 := xxs_11.ge
  rintro e w12 ⟨rfl, o12, g12⟩
  have u0_12 := u0_11.grown g12 (apart_old xxs_ge12 u0_lt_xxs)
  clear u0_11
  have xys_12 := xys_11.grown g12 (apart_new xys_11.ge xxs_lt_xys)
  clear xys_11
  have g0_12 := g0_11.grown g12 (apart_new g0_11.ge xxs_lt_g0)
  clear g0_11
  clear xxs_11
  have B12 := below_row B11 g12 (fun g hg => Nat.le_trans xxs_base (xxs_ge12 g hg))
  clear g12 B11
  go_wp2_with fail
  refine (c_laws_markIntS xys_12 (by omega) (by omega)).mono ?_
  have xys_ge13 := xys_12.ge
  rintro e w13 ⟨rfl, o13, g13⟩
  have u0_13 := u0_12.grown g13 (apart_old xys_ge13 u0_lt_xys)
  clear u0_12
  have xxs_13 := o12.grown g13 (apart_old xys_ge13 xxs_lt_xys)
  clear o12
  have g0_13 := g0_12.grown g13 (apart_new g0_12.ge xys_lt_g0)
  clear g0_12
  clear xys_12
  have B13 := below_row B12 g13 (fun g hg => Nat.le_trans xys_base (xys_ge13 g hg))
  clear g13 B12
  go_wp2_with fail
  refine (c_laws_eqIntS g0_13.ints u0_13.ints hM).mono ?_
  rintro e w14 ⟨rfl, b14⟩
  have u0_14 := u0_13.below b14
  clear u0_13
  have xxs_14 := xxs_13.below b14
  clear xxs_13
  have xys_14 := o13.below b14
  clear o13
  have g0_14 := g0_13.below b14
  clear g0_13
  have B14 := below_step B13 b14
  clear b14 B13
  clear xxs_14
  clear xys_14
  go_wp2_with fail
  refine (c_laws_markIntS g0_14 hM (by omega)).mono ?_
  have g0_ge15 := g0_14.ge
  rintro e w15 ⟨rfl, o15, g15⟩
  have u0_15 := u0_14.grown g15 (apart_old g0_ge15 u0_lt_g0)
  clear u0_14
  clear g0_14
  have B15 := below_row B14 g15 (fun g hg => Nat.le_trans g0_base (g0_ge15 g hg))
  clear g15 B14
  go_wp2_with fail
  refine (c_laws_heldIntS (n := ((polyOM p xs ys).getD []).length) o15.ints hM (by omega)).mono ?_
  rintro e w' ⟨rfl, rfl⟩
  go_wp2_with fail
  refine (c_laws_toIntS (Hxs.out.below (B15)) kxs).mono ?_
  have u0_lt_zxs := u0_15.lt
  have g0_lt_zxs := o15.lt
  have zxs_base := B15.size
  rintro e w16 ⟨zxs, rfl, zxso, b16⟩
  have u0_16 := u0_15.below b16
  clear u0_15
  have g0_16 := o15.below b16
  clear o15
  have B16 := below_step B15 b16
  clear b16 B15
  go_wp2_with fail
  refine (c_laws_toIntS (Hys.out.below (B16)) kys).mono ?_
  have u0_lt_zys := u0_16.lt
  have g0_lt_zys := g0_16.lt
  have zxs_lt_zys := zxso.lt
  have zys_base := B16.size
  rintro e w17 ⟨zys, rfl, zyso, b17⟩
  have u0_17 := u0_16.below b17
  clear u0_16
  have g0_17 := g0_16.below b17
  clear g0_16
  have zxs_17 := zxso.below b17
  clear zxso
  have B17 := below_step B16 b17
  clear b17 B16
  go_wp2_with fail
  refine (c_impl_PolyThrough zxs_17.ints zyso.ints (by omega) (by omega)).mono ?_
  have u0_lt_h0 := u0_17.lt
  have g0_lt_h0 := g0_17.lt
  have zxs_lt_h0 := zxs_17.lt
  have zys_lt_h0 := zyso.lt
  have h0_base := B17.size
  rintro e w18 ⟨h0, rfl, h0o, b18⟩
  have u0_18 := u0_17.below b18
  clear u0_17
  have g0_18 := g0_17.below b18
  clear g0_17
  have zxs_18 := zxs_17.below b18
  clear zxs_17
  have zys_18 := zyso.below b18
  clear zyso
  have B18 := below_step B17 b18
  clear b18 B17
  go_wp2_with fail
  refine (c_laws_eqIntS h0o.ints u0_18.ints hM).mono ?_
  rintro e w19 ⟨rfl, b19⟩
  have u0_19 := u0_18.below b19
  clear u0_18
  have g0_19 := g0_18.below b19
  clear g0_18
  have zxs_19 := zxs_18.below b19
  clear zxs_18
  have zys_19 := zys_18.below b19
  clear zys_18
  have h0_19 := h0o.below b19
  clear h0o
  have B19 := below_step B18 b19
  clear b19 B18
  go_wp2_with fail
  refine (c_laws_heldIntS (n := ((polyOM p xs ys).getD []).length) g0_19.ints hM (by omega)).mono ?_
  rintro e w' ⟨rfl, rfl⟩
  go_wp2
  go_ret
  exact ⟨rfl, B19⟩

end Go.Proofs.Ytpeoiemcfpghkaa
