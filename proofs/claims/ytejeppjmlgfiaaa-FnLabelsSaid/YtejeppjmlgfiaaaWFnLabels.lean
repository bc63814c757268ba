/- The walk of the law FnLabels: its Go text returns true for every input. No condition. -/
import Derived.Test.YtejeppjmlgfiaaaDrawL
import Derived.Test.YtejeppjmlgfiaaaLabX
import Derived.Deep.DeepCutAuto
namespace Go.Proofs.Ytejeppjmlgfiaaa
open Go.RowKit
set_option linter.unusedVariables false

theorem offset_odd (k : Int) (h : oB (offsetM k) = true) : (oV (offsetM k)).tmod 2 = 1 := by
  unfold offsetM oB at h
  unfold offsetM
  split at h
  · rename_i hc; rw [if_pos hc]
    show (offM k).tmod 2 = 1
    have := offM_bd k
    rw [Int.tmod_eq_emod_of_nonneg this.1]; exact this.2.2
  · cases h
set_option maxRecDepth 100000 in
set_option maxHeartbeats 4000000 in
theorem w_FnLabels (w : World) {cd1 cd2 : Value} {l1 l2 : List Int} (h0 : Byts w cd1 l1) (h1 : Byts w cd2 l2) : Calls Try.prog 5 #[cd1, cd2] w fun e w' => e = .returned (.bool true) ∧ Below w.heap.size w w' := by
  have H0 := Lib.hid h0
  have H1 := Lib.hid h1
  obtain ⟨A1, k1, rfl⟩ := h0.form
  obtain ⟨A2, k2, rfl⟩ := h1.form
  clear h0 h1
  go_enter Try.func5, Try.ntmps5
  go_wp2_with fail
  refine (c_laws_big H0.out H1.out).mono ?_
  rintro e w' ⟨⟨b, rfl⟩, rfl⟩
  cases b
  case true => go_wp2; go_ret; exact ⟨rfl, Below.refl _ _⟩
  go_wp2_with fail
  refine (c_spec_DrawLabelOf H0.out).mono ?_
  rintro e w1 ⟨⟨z, r, b, rfl, hz, hr, hb⟩, hB1⟩
  replace H1 := Lib.hid (H1.out.below hB1)
  replace hB1 := Lib.hid hB1
  clear H0
  have CL := Lib.hid (fun w : World => c_impl_LabelOf (z := z) (r := r) (b := b) (w := w))
  have SL := Lib.hid (fun w : World => c_spec_LabelOf (z := z) (r := r) (b := b) (w := w))
  obtain ⟨L, hL⟩ : ∃ L, oV (labelM z r b) = L := ⟨_, rfl⟩
  obtain ⟨O, hO⟩ : ∃ O, oB (labelM z r b) = O := ⟨_, rfl⟩
  rw [hL, hO] at CL SL
  replace hL := Lib.hid hL
  replace hO := Lib.hid hO
  go_wp2_with fail
  refine (CL.out _).mono ?_
  rintro e w' ⟨rfl, rfl⟩
  go_wp2_with fail
  refine (SL.out _).mono ?_
  rintro e w' ⟨rfl, rfl⟩
  clear CL SL
  go_upto_if 75 with fail
  go_cut [] (fun wx => wx = w1)
  case first =>
    replace hL := hL.out
    replace hO := hO.out
    by_cases hm : (labelM z r b).isSome = true
    · obtain ⟨hz', hr', hb', e⟩ := labelM_of hm
      rw [e] at hL hO
      obtain rfl : O = true := hO.symm
      obtain rfl : L = xorI z (r * b) := hL.symm
      have cO : ∀ w : World, Calls Try.prog 34 #[.int .i64 z, .int .i64 r, .int .i64 (1 - b)] w fun e w' => e = .returned (.tuple #[.int .i64 (xorI z (r * (1 - b))), .bool true]) ∧ w = w' := fun w => by have := c_impl_LabelOf (z := z) (r := r) (b := 1 - b) (w := w); rw [lab_other hz' hr' hb'] at this; exact this
      have cC : ∀ w : World, Calls Try.prog 36 #[.int .i64 (xorI z (r * b))] w fun e w' => e = .returned (.tuple #[.int .i64 (xorI z (r * b) % 2), .bool true]) ∧ w = w' := fun w => by have := c_impl_ColourOf (l := xorI z (r * b)) (w := w); rw [lab_colour hz' hr' hb'] at this; exact this
      have cD : ∀ w : World, Calls Try.prog 36 #[.int .i64 (xorI z (r * (1 - b)))] w fun e w' => e = .returned (.tuple #[.int .i64 (1 - xorI z (r * b) % 2), .bool true]) ∧ w = w' := fun w => by
        have := c_impl_ColourOf (l := xorI z (r * (1 - b))) (w := w)
        rw [lab_colour hz' hr' (by omega)] at this
        have h2 := lab_colours hz' hr' hb'
        rw [show 1 - xorI z (r * b) % 2 = xorI z (r * (1 - b)) % 2 by omega]; exact this
      have cB : ∀ w : World, Calls Try.prog 26 #[.int .i64 z, .int .i64 r, .int .i64 (xorI z (r * b))] w fun e w' => e = .returned (.tuple #[.int .i64 b, .bool true]) ∧ w = w' := fun w => by have := c_impl_BitOf (z := z) (r := r) (l := xorI z (r * b)) (w := w); rw [lab_bit hz' hr' hb'] at this; exact this
      have cN : ∀ w : World, Calls Try.prog 37 #[.int .i64 z, .int .i64 r] w fun e w' => e = .returned (.tuple #[.int .i64 (xorI z r), .bool true]) ∧ w = w' := fun w => by have := c_impl_FreeNot (z := z) (r := r) (w := w); rw [lab_not hz' hr'] at this; exact this
      have cM : ∀ w : World, Calls Try.prog 26 #[.int .i64 (xorI z r), .int .i64 r, .int .i64 (xorI z (r * b))] w fun e w' => e = .returned (.tuple #[.int .i64 (1 - b), .bool true]) ∧ w = w' := fun w => by have := c_impl_BitOf (z := xorI z r) (r := r) (l := xorI z (r * b)) (w := w); rw [lab_bit_not hz' hr' hb'] at this; exact this
      have cX : ∀ w : World, Calls Try.prog 38 #[.int .i64 (xorI z (r * b)), .int .i64 (xorI z (r * (1 - b)))] w fun e w' => e = .returned (.tuple #[.int .i64 r, .bool true]) ∧ w = w' := fun w => by have := c_impl_FreeXor (x := xorI z (r * b)) (y := xorI z (r * (1 - b))) (w := w); rw [lab_xor hz' hr' hb'] at this; exact this
      have hc : 0 ≤ xorI z (r * b) % 2 ∧ xorI z (r * b) % 2 ≤ 1 := by omega
      generalize xorI z (r * b) % 2 = c at *
      generalize xorI z (r * b) = L at *
      generalize xorI z (r * (1 - b)) = L' at *
      generalize xorI z r = N at *
      clear e hm hb hz hr
      obtain ⟨hc0, hc1⟩ := hc
      have CO := Lib.hid cO
      have CC := Lib.hid cC
      have CD := Lib.hid cD
      have CB := Lib.hid cB
      have CN := Lib.hid cN
      have CM := Lib.hid cM
      have CX := Lib.hid cX
      clear hL hO cO cC cD cB cN cM cX
      have hcc : (c + (1 - c)) = 1 := by omega
      replace hcc := Lib.hid hcc
      rcases hb' with rfl | rfl
      all_goals
        go_wp2_with fail
        refine (CO.out _).mono ?_
        rintro e w' ⟨rfl, rfl⟩
        go_wp2_with fail
        refine (CC.out _).mono ?_
        rintro e w' ⟨rfl, rfl⟩
        go_wp2_with fail
        refine (CD.out _).mono ?_
        rintro e w' ⟨rfl, rfl⟩
        go_wp2_with fail
        refine (CB.out _).mono ?_
        rintro e w' ⟨rfl, rfl⟩
        go_wp2_with fail
        refine (CN.out _).mono ?_
        rintro e w' ⟨rfl, rfl⟩
        go_wp2_with fail
        refine (CM.out _).mono ?_
        rintro e w' ⟨rfl, rfl⟩
        go_wp2_with fail
        refine (CX.out _).mono ?_
        rintro e w' ⟨rfl, rfl⟩
        go_wp2_with fail
        go_meet; rfl
    · have hm' : oB (labelM z r b) = false := by simpa [oB] using hm
      obtain rfl : O = false := hO.symm.trans hm'
      go_wp2_with fail
      go_meet; rfl
  case rest =>
    subst hcut
    go_wp2_with fail
    refine (c_spec_DrawBitOf H1.out).mono ?_
    rintro e w2 ⟨⟨x, y, l, rfl⟩, hB2⟩
    replace H1 := Lib.hid (H1.out.below hB2)
    replace hB2 := Lib.hid (below_step hB1.out hB2)
    clear hB1
    go_wp2_with fail
    refine (c_impl_BitOf).mono ?_
    rintro e w' ⟨rfl, rfl⟩
    go_wp2_with fail
    refine (c_spec_BitOf).mono ?_
    rintro e w' ⟨rfl, rfl⟩
    go_wp2_with fail
    refine (c_spec_DrawOffsetFrom H1.out).mono ?_
    rintro e w3 ⟨⟨k, rfl⟩, hB3⟩
    replace H1 := Lib.hid (H1.out.below hB3)
    replace hB3 := Lib.hid (below_step hB2.out hB3)
    clear hB2
    go_wp2_with fail
    refine (c_impl_OffsetFrom).mono ?_
    rintro e w4 ⟨rfl, hB4⟩
    replace H1 := Lib.hid (H1.out.below hB4)
    replace hB4 := Lib.hid (below_step hB3.out hB4)
    clear hB3
    go_wp2_with fail
    refine (c_spec_OffsetFrom).mono ?_
    rintro e w5 ⟨rfl, hB5⟩
    replace H1 := Lib.hid (H1.out.below hB5)
    replace hB5 := Lib.hid (below_step hB4.out hB5)
    clear hB4
    go_wp2_with fail
    refine (c_spec_DrawZeroLabel H1.out).mono ?_
    rintro e w6 ⟨⟨q, n, rfl⟩, hB6⟩
    replace hB6 := Lib.hid (below_step hB5.out hB6)
    clear hB5 H1
    go_wp2_with fail
    refine (c_impl_ZeroLabel).mono ?_
    rintro e w7 ⟨rfl, hB7⟩
    replace hB7 := Lib.hid (below_step hB6.out hB7)
    clear hB6
    go_wp2_with fail
    refine (c_spec_ZeroLabel).mono ?_
    rintro e w8 ⟨rfl, hB8⟩
    replace hB8 := Lib.hid (below_step hB7.out hB8)
    clear hB7
    have ho := offset_odd k
    by_cases hk : oB (offsetM k) = true
    · have ho2 := ho hk
      generalize oV (offsetM k) = O at *
      generalize oB (offsetM k) = O' at *
      generalize oV (bitM x y l) = P at *
      generalize oB (bitM x y l) = P' at *
      generalize oV (zeroM q n) = Q at *
      generalize oB (zeroM q n) = Q' at *
      clear ho
      subst hk
      go_wp2
      trace_state
      go_ret
      exact ⟨rfl, hB8.out⟩
    · generalize oV (offsetM k) = O at *
      generalize oB (offsetM k) = O' at *
      generalize oV (bitM x y l) = P at *
      generalize oB (bitM x y l) = P' at *
      generalize oV (zeroM q n) = Q at *
      generalize oB (zeroM q n) = Q' at *
      clear ho
      obtain rfl : O' = false := by simpa using hk
      go_wp2
      go_ret
      exact ⟨rfl, hB8.out⟩
end Go.Proofs.Ytejeppjmlgfiaaa
