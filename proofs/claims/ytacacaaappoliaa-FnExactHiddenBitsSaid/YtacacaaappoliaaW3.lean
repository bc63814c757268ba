/- The walks of the laws on lists of labels: each Go text returns true for all lists. No condition. -/
import Derived.Test.YtacacaaappoliaaColF
import Derived.Test.YtacacaaappoliaaInts
namespace Go.Proofs.Ytacacaaappoliaa
open Go.RowKit
set_option linter.unusedVariables false

theorem coloursOfM_len (l : List Int) : ((coloursOfM l).getD []).length ≤ l.length := by unfold coloursOfM; split <;> simp [coloursM_length]
theorem hiddenM_len (z c : List Int) : ((hiddenM z c).getD []).length ≤ z.length := by unfold hiddenM; split <;> simp [xorsM, coloursM_length]; omega

set_option maxRecDepth 100000 in
set_option maxHeartbeats 1000000 in
theorem w_FnExactColoursOf (w : World) {l : List Int} {vl : Value} (hl : Ints w vl l) :
    Calls Try.prog 11 #[vl] w fun e w' => e = .returned (.bool true) ∧ Below w.heap.size w w' := by
  have Hl := Lib.hid hl
  obtain ⟨Al, cl, rfl, hlcl, hcml, hrdl⟩ := hl
  clear hcml hrdl
  by_cases kl : l.length ≤ 1048576
  rotate_left
  · go_enter Try.func11, Try.ntmps11
    go_wp2
    go_ret; exact ⟨rfl, Below.refl _ _⟩
  have hM : ((coloursOfM l).getD []).length ≤ 2097152 := by have := coloursOfM_len l; omega
  go_enter Try.func11, Try.ntmps11
  go_wp2_with fail
  refine (c_laws_toIntS (Hl.out) kl).mono ?_
  have sl_base := (Below.refl w.heap.size w).size
  rintro e w1 ⟨sl, rfl, slo, b1⟩
  have B1 := below_step (Below.refl w.heap.size w) b1
  clear b1
  go_wp2_with fail
  refine (c_spec_ColoursOf slo.ints (by omega)).mono ?_
  have sl_lt_u0 := slo.lt
  have u0_base := B1.size
  rintro e w2 ⟨u0, rfl, u0o, b2⟩
  have sl_2 := slo.below b2
  clear slo
  have B2 := below_step B1 b2
  clear b2 B1
  clear sl_2
  go_wp2_with fail
  refine (c_laws_toIntS (Hl.out.below (B2)) kl).mono ?_
  have u0_lt_xl := u0o.lt
  have xl_base := B2.size
  rintro e w3 ⟨xl, rfl, xlo, b3⟩
  have u0_3 := u0o.below b3
  clear u0o
  have B3 := below_step B2 b3
  clear b3 B2
  go_wp2_with fail
  refine (c_impl_ColoursOf xlo.ints (by omega)).mono ?_
  have u0_lt_g0 := u0_3.lt
  have xl_lt_g0 := xlo.lt
  have g0_base := B3.size
  rintro e w4 ⟨g0, rfl, g0o, b4⟩
  have u0_4 := u0_3.below b4
  clear u0_3
  have xl_4 := xlo.below b4
  clear xlo
  have B4 := below_step B3 b4
  clear b4 B3
  go_wp2_with fail
  refine (c_laws_eqIntS g0o.ints u0_4.ints hM).mono ?_
  rintro e w5 ⟨rfl, b5⟩
  have u0_5 := u0_4.below b5
  clear u0_4
  have xl_5 := xl_4.below b5
  clear xl_4
  have g0_5 := g0o.below b5
  clear g0o
  have B5 := below_step B4 b5
  clear b5 B4
  go_wp2_with fail
  refine (c_laws_toIntS (Hl.out.below (B5)) kl).mono ?_
  have u0_lt_yl := u0_5.lt
  have xl_lt_yl := xl_5.lt
  have g0_lt_yl := g0_5.lt
  have yl_base := B5.size
  rintro e w6 ⟨yl, rfl, ylo, b6⟩
  have u0_6 := u0_5.below b6
  clear u0_5
  have xl_6 := xl_5.below b6
  clear xl_5
  have g0_6 := g0_5.below b6
  clear g0_5
  have B6 := below_step B5 b6
  clear b6 B5
  go_wp2_with fail
  refine (c_laws_eqIntS xl_6.ints ylo.ints (by omega)).mono ?_
  rintro e w7 ⟨rfl, b7⟩
  have u0_7 := u0_6.below b7
  clear u0_6
  have xl_7 := xl_6.below b7
  clear xl_6
  have g0_7 := g0_6.below b7
  clear g0_6
  have yl_7 := ylo.below b7
  clear ylo
  have B7 := below_step B6 b7
  clear b7 B6
  clear yl_7
  go_wp2_with fail
  refine (c_laws_markIntS xl_7 (by omega) (by omega)).mono ?_
  have xl_ge8 := xl_7.ge
  rintro e w8 ⟨rfl, o8, g8⟩
  have u0_8 := u0_7.grown g8 (apart_old xl_ge8 u0_lt_xl)
  clear u0_7
  have g0_8 := g0_7.grown g8 (apart_new g0_7.ge xl_lt_g0)
  clear g0_7
  clear xl_7
  have B8 := below_row B7 g8 (fun g hg => Nat.le_trans xl_base (xl_ge8 g hg))
  clear g8 B7
  go_wp2_with fail
  refine (c_laws_eqIntS g0_8.ints u0_8.ints hM).mono ?_
  rintro e w9 ⟨rfl, b9⟩
  have u0_9 := u0_8.below b9
  clear u0_8
  have xl_9 := o8.below b9
  clear o8
  have g0_9 := g0_8.below b9
  clear g0_8
  have B9 := below_step B8 b9
  clear b9 B8
  clear xl_9
  go_wp2_with fail
  refine (c_laws_markIntS g0_9 hM (by omega)).mono ?_
  have g0_ge10 := g0_9.ge
  rintro e w10 ⟨rfl, o10, g10⟩
  have u0_10 := u0_9.grown g10 (apart_old g0_ge10 u0_lt_g0)
  clear u0_9
  clear g0_9
  have B10 := below_row B9 g10 (fun g hg => Nat.le_trans g0_base (g0_ge10 g hg))
  clear g10 B9
  go_wp2_with fail
  refine (c_laws_heldIntS (n := ((coloursOfM l).getD []).length) o10.ints hM (by omega)).mono ?_
  rintro e w' ⟨rfl, rfl⟩
  go_wp2_with fail
  refine (c_laws_toIntS (Hl.out.below (B10)) kl).mono ?_
  have u0_lt_zl := u0_10.lt
  have g0_lt_zl := o10.lt
  have zl_base := B10.size
  rintro e w11 ⟨zl, rfl, zlo, b11⟩
  have u0_11 := u0_10.below b11
  clear u0_10
  have g0_11 := o10.below b11
  clear o10
  have B11 := below_step B10 b11
  clear b11 B10
  go_wp2_with fail
  refine (c_impl_ColoursOf zlo.ints (by omega)).mono ?_
  have u0_lt_h0 := u0_11.lt
  have g0_lt_h0 := g0_11.lt
  have zl_lt_h0 := zlo.lt
  have h0_base := B11.size
  rintro e w12 ⟨h0, rfl, h0o, b12⟩
  have u0_12 := u0_11.below b12
  clear u0_11
  have g0_12 := g0_11.below b12
  clear g0_11
  have zl_12 := zlo.below b12
  clear zlo
  have B12 := below_step B11 b12
  clear b12 B11
  go_wp2_with fail
  refine (c_laws_eqIntS h0o.ints u0_12.ints hM).mono ?_
  rintro e w13 ⟨rfl, b13⟩
  have u0_13 := u0_12.below b13
  clear u0_12
  have g0_13 := g0_12.below b13
  clear g0_12
  have zl_13 := zl_12.below b13
  clear zl_12
  have h0_13 := h0o.below b13
  clear h0o
  have B13 := below_step B12 b13
  clear b13 B12
  go_wp2_with fail
  refine (c_laws_heldIntS (n := ((coloursOfM l).getD []).length) g0_13.ints hM (by omega)).mono ?_
  rintro e w' ⟨rfl, rfl⟩
  go_wp2
  go_ret
  exact ⟨rfl, B13⟩

set_option maxRecDepth 100000 in
set_option maxHeartbeats 1000000 in
theorem w_FnExactHiddenBits (w : World) {z c : List Int} {vz : Value} (hz : Ints w vz z) {vc : Value} (hc : Ints w vc c) :
    Calls Try.prog 12 #[vz, vc] w fun e w' => e = .returned (.bool true) ∧ Below w.heap.size w w' := by
  have Hz := Lib.hid hz
  have Hc := Lib.hid hc
  obtain ⟨Az, cz, rfl, hlcz, hcmz, hrdz⟩ := hz
  clear hcmz hrdz
  obtain ⟨Ac, cc, rfl, hlcc, hcmc, hrdc⟩ := hc
  clear hcmc hrdc
  by_cases kz : z.length ≤ 1048576
  rotate_left
  · go_enter Try.func12, Try.ntmps12
    go_wp2
    go_ret; exact ⟨rfl, Below.refl _ _⟩
  by_cases kc : c.length ≤ 1048576
  rotate_left
  · go_enter Try.func12, Try.ntmps12
    go_wp2
    go_ret; exact ⟨rfl, Below.refl _ _⟩
  have hM : ((hiddenM z c).getD []).length ≤ 2097152 := by have := hiddenM_len z c; omega
  go_enter Try.func12, Try.ntmps12
  go_wp2_with fail
  refine (c_laws_toIntS (Hz.out) kz).mono ?_
  have sz_base := (Below.refl w.heap.size w).size
  rintro e w1 ⟨sz, rfl, szo, b1⟩
  have B1 := below_step (Below.refl w.heap.size w) b1
  clear b1
  go_wp2_with fail
  refine (c_laws_toIntS (Hc.out.below (B1)) kc).mono ?_
  have sz_lt_sc := szo.lt
  have sc_base := B1.size
  rintro e w2 ⟨sc, rfl, sco, b2⟩
  have sz_2 := szo.below b2
  clear szo
  have B2 := below_step B1 b2
  clear b2 B1
  go_wp2_with fail
  refine (c_spec_HiddenBits sz_2.ints sco.ints (by omega) (by omega)).mono ?_
  have sz_lt_u0 := sz_2.lt
  have sc_lt_u0 := sco.lt
  have u0_base := B2.size
  rintro e w3 ⟨u0, rfl, u0o, b3⟩
  have sz_3 := sz_2.below b3
  clear sz_2
  have sc_3 := sco.below b3
  clear sco
  have B3 := below_step B2 b3
  clear b3 B2
  clear sz_3
  clear sc_3
  go_wp2_with fail
  refine (c_laws_toIntS (Hz.out.below (B3)) kz).mono ?_
  have u0_lt_xz := u0o.lt
  have xz_base := B3.size
  rintro e w4 ⟨xz, rfl, xzo, b4⟩
  have u0_4 := u0o.below b4
  clear u0o
  have B4 := below_step B3 b4
  clear b4 B3
  go_wp2_with fail
  refine (c_laws_toIntS (Hc.out.below (B4)) kc).mono ?_
  have u0_lt_xc := u0_4.lt
  have xz_lt_xc := xzo.lt
  have xc_base := B4.size
  rintro e w5 ⟨xc, rfl, xco, b5⟩
  have u0_5 := u0_4.below b5
  clear u0_4
  have xz_5 := xzo.below b5
  clear xzo
  have B5 := below_step B4 b5
  clear b5 B4
  go_wp2_with fail
  refine (c_impl_HiddenBits xz_5.ints xco.ints (by omega) (by omega)).mono ?_
  have u0_lt_g0 := u0_5.lt
  have xz_lt_g0 := xz_5.lt
  have xc_lt_g0 := xco.lt
  have g0_base := B5.size
  rintro e w6 ⟨g0, rfl, g0o, b6⟩
  have u0_6 := u0_5.below b6
  clear u0_5
  have xz_6 := xz_5.below b6
  clear xz_5
  have xc_6 := xco.below b6
  clear xco
  have B6 := below_step B5 b6
  clear b6 B5
  go_wp2_with fail
  refine (c_laws_eqIntS g0o.ints u0_6.ints hM).mono ?_
  rintro e w7 ⟨rfl, b7⟩
  have u0_7 := u0_6.below b7
  clear u0_6
  have xz_7 := xz_6.below b7
  clear xz_6
  have xc_7 := xc_6.below b7
  clear xc_6
  have g0_7 := g0o.below b7
  clear g0o
  have B7 := below_step B6 b7
  clear b7 B6
  go_wp2_with fail
  refine (c_laws_toIntS (Hz.out.below (B7)) kz).mono ?_
  have u0_lt_yz := u0_7.lt
  have xz_lt_yz := xz_7.lt
  have xc_lt_yz := xc_7.lt
  have g0_lt_yz := g0_7.lt
  have yz_base := B7.size
  rintro e w8 ⟨yz, rfl, yzo, b8⟩
  have u0_8 := u0_7.below b8
  clear u0_7
  have xz_8 := xz_7.below b8
  clear xz_7
  have xc_8 := xc_7.below b8
  clear xc_7
  have g0_8 := g0_7.below b8
  clear g0_7
  have B8 := below_step B7 b8
  clear b8 B7
  go_wp2_with fail
  refine (c_laws_eqIntS xz_8.ints yzo.ints (by omega)).mono ?_
  rintro e w9 ⟨rfl, b9⟩
  have u0_9 := u0_8.below b9
  clear u0_8
  have xz_9 := xz_8.below b9
  clear xz_8
  have xc_9 := xc_8.below b9
  clear xc_8
  have g0_9 := g0_8.below b9
  clear g0_8
  have yz_9 := yzo.below b9
  clear yzo
  have B9 := below_step B8 b9
  clear b9 B8
  clear yz_9
  go_wp2_with fail
  refine (c_laws_toIntS (Hc.out.below (B9)) kc).mono ?_
  have u0_lt_yc := u0_9.lt
  have xz_lt_yc := xz_9.lt
  have xc_lt_yc := xc_9.lt
  have g0_lt_yc := g0_9.lt
  have yc_base := B9.size
  rintro e w10 ⟨yc, rfl, yco, b10⟩
  have u0_10 := u0_9.below b10
  clear u0_9
  have xz_10 := xz_9.below b10
  clear xz_9
  have xc_10 := xc_9.below b10
  clear xc_9
  have g0_10 := g0_9.below b10
  clear g0_9
  have B10 := below_step B9 b10
  clear b10 B9
  go_wp2_with fail
  refine (c_laws_eqIntS xc_10.ints yco.ints (by omega)).mono ?_
  rintro e w11 ⟨rfl, b11⟩
  have u0_11 := u0_10.below b11
  clear u0_10
  have xz_11 := xz_10.below b11
  clear xz_10
  have xc_11 := xc_10.below b11
  clear xc_10
  have g0_11 := g0_10.below b11
  clear g0_10
  have yc_11 := yco.below b11
  clear yco
  have B11 := below_step B10 b11
  clear b11 B10
  clear yc_11
  go_wp2_with fail
  refine (c_laws_markIntS xz_11 (by omega) (by omega)).mono ?_
  have xz_ge12 := xz_11.ge
  rintro e w12 ⟨rfl, o12, g12⟩
  have u0_12 := u0_11.grown g12 (apart_old xz_ge12 u0_lt_xz)
  clear u0_11
  have xc_12 := xc_11.grown g12 (apart_new xc_11.ge xz_lt_xc)
  clear xc_11
  have g0_12 := g0_11.grown g12 (apart_new g0_11.ge xz_lt_g0)
  clear g0_11
  clear xz_11
  have B12 := below_row B11 g12 (fun g hg => Nat.le_trans xz_base (xz_ge12 g hg))
  clear g12 B11
  go_wp2_with fail
  refine (c_laws_markIntS xc_12 (by omega) (by omega)).mono ?_
  have xc_ge13 := xc_12.ge
  rintro e w13 ⟨rfl, o13, g13⟩
  have u0_13 := u0_12.grown g13 (apart_old xc_ge13 u0_lt_xc)
  clear u0_12
  have xz_13 := o12.grown g13 (apart_old xc_ge13 xz_lt_xc)
  clear o12
  have g0_13 := g0_12.grown g13 (apart_new g0_12.ge xc_lt_g0)
  clear g0_12
  clear xc_12
  have B13 := below_row B12 g13 (fun g hg => Nat.le_trans xc_base (xc_ge13 g hg))
  clear g13 B12
  go_wp2_with fail
  refine (c_laws_eqIntS g0_13.ints u0_13.ints hM).mono ?_
  rintro e w14 ⟨rfl, b14⟩
  have u0_14 := u0_13.below b14
  clear u0_13
  have xz_14 := xz_13.below b14
  clear xz_13
  have xc_14 := o13.below b14
  clear o13
  have g0_14 := g0_13.below b14
  clear g0_13
  have B14 := below_step B13 b14
  clear b14 B13
  clear xz_14
  clear xc_14
  go_wp2_with fail
  refine (c_laws_markIntS g0_14 hM (by omega)).mono ?_
  have g0_ge15 := g0_14.ge
  rintro e w15 ⟨rfl, o15, g15⟩
  have u0_15 := u0_14.grown g15 (apart_old g0_ge15 u0_lt_g0)
  clear u0_14
  clear g0_14
  have B15 := below_row B14 g15 (fun g hg => Nat.le_trans g0_base (g0_ge15 g hg))
  clear g15 B14
  go_wp2_with fail
  refine (c_laws_heldIntS (n := ((hiddenM z c).getD []).length) o15.ints hM (by omega)).mono ?_
  rintro e w' ⟨rfl, rfl⟩
  go_wp2_with fail
  refine (c_laws_toIntS (Hz.out.below (B15)) kz).mono ?_
  have u0_lt_zz := u0_15.lt
  have g0_lt_zz := o15.lt
  have zz_base := B15.size
  rintro e w16 ⟨zz, rfl, zzo, b16⟩
  have u0_16 := u0_15.below b16
  clear u0_15
  have g0_16 := o15.below b16
  clear o15
  have B16 := below_step B15 b16
  clear b16 B15
  go_wp2_with fail
  refine (c_laws_toIntS (Hc.out.below (B16)) kc).mono ?_
  have u0_lt_zc := u0_16.lt
  have g0_lt_zc := g0_16.lt
  have zz_lt_zc := zzo.lt
  have zc_base := B16.size
  rintro e w17 ⟨zc, rfl, zco, b17⟩
  have u0_17 := u0_16.below b17
  clear u0_16
  have g0_17 := g0_16.below b17
  clear g0_16
  have zz_17 := zzo.below b17
  clear zzo
  have B17 := below_step B16 b17
  clear b17 B16
  go_wp2_with fail
  refine (c_impl_HiddenBits zz_17.ints zco.ints (by omega) (by omega)).mono ?_
  have u0_lt_h0 := u0_17.lt
  have g0_lt_h0 := g0_17.lt
  have zz_lt_h0 := zz_17.lt
  have zc_lt_h0 := zco.lt
  have h0_base := B17.size
  rintro e w18 ⟨h0, rfl, h0o, b18⟩
  have u0_18 := u0_17.below b18
  clear u0_17
  have g0_18 := g0_17.below b18
  clear g0_17
  have zz_18 := zz_17.below b18
  clear zz_17
  have zc_18 := zco.below b18
  clear zco
  have B18 := below_step B17 b18
  clear b18 B17
  go_wp2_with fail
  refine (c_laws_eqIntS h0o.ints u0_18.ints hM).mono ?_
  rintro e w19 ⟨rfl, b19⟩
  have u0_19 := u0_18.below b19
  clear u0_18
  have g0_19 := g0_18.below b19
  clear g0_18
  have zz_19 := zz_18.below b19
  clear zz_18
  have zc_19 := zc_18.below b19
  clear zc_18
  have h0_19 := h0o.below b19
  clear h0o
  have B19 := below_step B18 b19
  clear b19 B18
  go_wp2_with fail
  refine (c_laws_heldIntS (n := ((hiddenM z c).getD []).length) g0_19.ints hM (by omega)).mono ?_
  rintro e w' ⟨rfl, rfl⟩
  go_wp2
  go_ret
  exact ⟨rfl, B19⟩

end Go.Proofs.Ytacacaaappoliaa
