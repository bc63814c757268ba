/- The walk of the law FnShares: its Go text returns true for every input. No condition. -/
import Derived.Test.YtmccfdaaneemfaaDrawH
import Derived.Test.YtmccfdaaneemfaaLawS
import Derived.Deep.DeepCutAuto
namespace Go.Proofs.Ytmccfdaaneemfaa
open Go.RowKit
set_option linter.unusedVariables false

set_option maxRecDepth 100000 in
set_option maxHeartbeats 4000000 in
theorem w_FnShares (w : World) {cd1 cd2 : Value} {l1 l2 : List Int} (h0 : Byts w cd1 l1) (h1 : Byts w cd2 l2) : Calls Try.prog 5 #[cd1, cd2] w fun e w' => e = .returned (.bool true) ∧ Below w.heap.size w w' := by
  have H0 := Lib.hid h0
  have H1 := Lib.hid h1
  obtain ⟨A1, k1, rfl⟩ := h0.form
  obtain ⟨A2, k2, rfl⟩ := h1.form
  clear h0 h1
  have HB := Lib.hid (Below.refl w.heap.size w)
  go_enter Try.func5, Try.ntmps5
  go_wp2_with fail
  refine (c_laws_big H0.out H1.out).mono ?_
  rintro e w' ⟨⟨b0, rfl⟩, rfl⟩
  cases b0
  case true => go_wp2; go_ret; exact ⟨rfl, Below.refl _ _⟩
  go_wp2_with fail
  refine (c_spec_DrawSplitSum H0.out).mono ?_
  rintro e v1 ⟨⟨p, k, ul, l, rfl, hl, hul⟩, hB⟩
  clear H0
  replace H1 := Lib.hid (H1.out.below hB)
  replace HB := Lib.hid (below_step HB.out hB)
  clear hB
  have HL := Lib.hid hul
  obtain ⟨AL, cL, rfl, -⟩ := hul
  have hl41 := hl.1
  clear hl
  obtain ⟨S, hS⟩ : ∃ S, splitM p k l = S := ⟨_, rfl⟩
  have CI := Lib.hid (fun (W : World) (h : Ints W (.slice AL l.length cL) l) => c_impl_SplitSum (w := W) (p := p) (key := k) h (by omega))
  have CS := Lib.hid (fun (W : World) (h : Ints W (.slice AL l.length cL) l) => c_spec_SplitSum (w := W) (p := p) (key := k) h (by omega))
  rw [hS] at CI CS
  have hSL : (S.getD ([], [])).1.length ≤ 41 ∧ (S.getD ([], [])).2.length ≤ 41 := by
    rcases hq : S with _ | ⟨r, s⟩
    · simp
    · rw [hq] at hS
      obtain ⟨-, -, -, t, -, -, -, -, -, h1, h2, h3, -⟩ := split_law hS
      simp; omega
  replace hS := Lib.hid hS
  go_wp2_with fail
  refine (CI.out _ HL.out).mono ?_
  rintro e v2 ⟨ua, ub, rfl, hu1, hu2, hB⟩
  replace H1 := Lib.hid (H1.out.below hB)
  replace HL := Lib.hid (HL.out.below hB)
  replace HB := Lib.hid (below_step HB.out hB)
  clear hB
  have HA := Lib.hid hu1
  obtain ⟨AA, cA, rfl, -⟩ := hu1
  have HBB := Lib.hid hu2
  obtain ⟨AB, cB, rfl, -⟩ := hu2
  go_wp2_with fail
  refine (CS.out _ HL.out).mono ?_
  rintro e v3 ⟨ua, ub, rfl, hu1, hu2, hB⟩
  replace H1 := Lib.hid (H1.out.below hB)
  replace HL := Lib.hid (HL.out.below hB)
  replace HA := Lib.hid (HA.out.below hB)
  replace HBB := Lib.hid (HBB.out.below hB)
  replace HB := Lib.hid (below_step HB.out hB)
  clear hB
  have HC := Lib.hid hu1
  obtain ⟨AC, cC, rfl, -⟩ := hu1
  have HD := Lib.hid hu2
  obtain ⟨AD, cD, rfl, -⟩ := hu2
  go_wp2_with fail
  refine (c_laws_sameInts HA.out HC.out (by omega)).mono ?_
  rintro e v4 ⟨rfl, hB⟩
  replace H1 := Lib.hid (H1.out.below hB)
  replace HL := Lib.hid (HL.out.below hB)
  replace HA := Lib.hid (HA.out.below hB)
  replace HBB := Lib.hid (HBB.out.below hB)
  replace HC := Lib.hid (HC.out.below hB)
  replace HD := Lib.hid (HD.out.below hB)
  replace HB := Lib.hid (below_step HB.out hB)
  clear hB
  go_wp2_with fail
  refine (c_laws_sameInts HBB.out HD.out (by omega)).mono ?_
  rintro e v5 ⟨rfl, hB⟩
  replace H1 := Lib.hid (H1.out.below hB)
  replace HL := Lib.hid (HL.out.below hB)
  replace HA := Lib.hid (HA.out.below hB)
  replace HBB := Lib.hid (HBB.out.below hB)
  replace HC := Lib.hid (HC.out.below hB)
  replace HD := Lib.hid (HD.out.below hB)
  replace HB := Lib.hid (below_step HB.out hB)
  clear hB
  clear HC HD
  clear CI CS
  go_upto_if 93 with fail
  go_cut [] (fun wx => Hid (Below v5.heap.size v5 wx))
  case first =>
    have HE := Lib.hid (Below.refl v5.heap.size v5)
    rcases S with _ | ⟨r, s⟩
    · go_wp2_with fail
      go_meet; exact HE
    · obtain ⟨e1, e2, e3, t, e4, ht, hti, hpb, hlb, hrl, hsl, hl40, hal, hbl⟩ := split_law hS.out
      have E1 := Lib.hid e1
      have E2 := Lib.hid e2
      have E3 := Lib.hid e3
      have E4 := Lib.hid e4
      have HTI := Lib.hid hti
      have HLB := Lib.hid hlb
      have hr41 : r.length ≤ 40 := by omega
      have hs41 : s.length ≤ 40 := by omega
      have hc41 : (addM p r r).length ≤ 40 := by omega
      have hd41 : (addM p s s).length ≤ 40 := by omega
      have ht41 : t.length ≤ 40 := by omega
      have HTL := Lib.hid ht
      replace HA := Lib.hid (show Ints v5 (.slice AA r.length cA) r from HA.out)
      replace HBB := Lib.hid (show Ints v5 (.slice AB s.length cB) s from HBB.out)
      clear e1 e2 e3 e4 hti hlb hrl hsl hal hbl ht hSL
      go_wp2_with fail
      refine (c_impl_JoinSum HA.out HBB.out (by omega) (by omega)).mono ?_
      rintro e v6 ⟨ua, rfl, hu1, hB⟩
      rw [E1.out] at hu1 ⊢
      replace hu1 := (show Ints v6 ua (l) from OwnI.ints hu1)
      replace H1 := Lib.hid (H1.out.below hB)
      replace HL := Lib.hid (HL.out.below hB)
      replace HA := Lib.hid (HA.out.below hB)
      replace HBB := Lib.hid (HBB.out.below hB)
      replace HE := Lib.hid (below_step HE.out hB)
      replace HB := Lib.hid (below_step HB.out hB)
      clear hB
      have HJ := Lib.hid hu1
      obtain ⟨AJ, cJ, rfl, -⟩ := hu1
      go_wp2_with fail
      refine (c_impl_AddShares HA.out HA.out (by omega) (by omega)).mono ?_
      rintro e v7 ⟨ua, rfl, hu1, hB⟩
      rw [E2.out] at hu1 ⊢
      replace hu1 := (show Ints v7 ua (addM p r r) from OwnI.ints hu1)
      replace H1 := Lib.hid (H1.out.below hB)
      replace HL := Lib.hid (HL.out.below hB)
      replace HA := Lib.hid (HA.out.below hB)
      replace HBB := Lib.hid (HBB.out.below hB)
      replace HE := Lib.hid (below_step HE.out hB)
      replace HJ := Lib.hid (HJ.out.below hB)
      replace HB := Lib.hid (below_step HB.out hB)
      clear hB
      have HP := Lib.hid hu1
      obtain ⟨AP, cP, rfl, -⟩ := hu1
      go_wp2_with fail
      refine (c_impl_AddShares HBB.out HBB.out (by omega) (by omega)).mono ?_
      rintro e v8 ⟨ua, rfl, hu1, hB⟩
      rw [E3.out] at hu1 ⊢
      replace hu1 := (show Ints v8 ua (addM p s s) from OwnI.ints hu1)
      replace H1 := Lib.hid (H1.out.below hB)
      replace HL := Lib.hid (HL.out.below hB)
      replace HA := Lib.hid (HA.out.below hB)
      replace HBB := Lib.hid (HBB.out.below hB)
      replace HE := Lib.hid (below_step HE.out hB)
      replace HJ := Lib.hid (HJ.out.below hB)
      replace HP := Lib.hid (HP.out.below hB)
      replace HB := Lib.hid (below_step HB.out hB)
      clear hB
      have HQ := Lib.hid hu1
      obtain ⟨AQ, cQ, rfl, -⟩ := hu1
      clear HA HBB
      go_wp2_with fail
      refine (c_impl_JoinSum HP.out HQ.out (by omega) (by omega)).mono ?_
      rintro e v9 ⟨ua, rfl, hu1, hB⟩
      rw [E4.out] at hu1 ⊢
      replace hu1 := (show Ints v9 ua (t) from OwnI.ints hu1)
      replace H1 := Lib.hid (H1.out.below hB)
      replace HL := Lib.hid (HL.out.below hB)
      replace HE := Lib.hid (below_step HE.out hB)
      replace HJ := Lib.hid (HJ.out.below hB)
      replace HP := Lib.hid (HP.out.below hB)
      replace HQ := Lib.hid (HQ.out.below hB)
      replace HB := Lib.hid (below_step HB.out hB)
      clear hB
      have HT := Lib.hid hu1
      obtain ⟨AT, cT, rfl, -⟩ := hu1
      clear HP HQ
      go_wp2_with fail
      refine (c_laws_sameInts HJ.out HL.out (by omega)).mono ?_
      rintro e v10 ⟨rfl, hB⟩
      replace H1 := Lib.hid (H1.out.below hB)
      replace HL := Lib.hid (HL.out.below hB)
      replace HE := Lib.hid (below_step HE.out hB)
      replace HJ := Lib.hid (HJ.out.below hB)
      replace HT := Lib.hid (HT.out.below hB)
      replace HB := Lib.hid (below_step HB.out hB)
      clear hB
      have htl : ((t.length : Int) != (l.length : Int)) = false := by simp [HTL.out]
      go_wp2_with fail
      clear htl
      go_loopw [151] (fun i wr => ∃ j : Nat, j ≤ l.length ∧ i = .int .i64 j ∧ Hid (Below v10.heap.size v10 wr)) (fun i _ => l.length - (intOf i).toNat)
      case atStart => exact ⟨0, Nat.zero_le _, rfl, Lib.hid (Below.refl _ _)⟩
      case round =>
        obtain ⟨j, hj, rfl, HX⟩ := hrel
        obtain ⟨wa, rfl⟩ : ∃ W, W = wr := ⟨wr, rfl⟩
        by_cases hlt : j < l.length
        · obtain ⟨b1, o1, y, rfl, hbl1, hyk, hcell1⟩ := HL.out.rd.int_at hlt
          have hyt := HTI.out j y hyk
          have hjt : j < t.length := (List.getElem?_eq_some_iff.1 hyt).1
          obtain ⟨b2, o2, z, rfl, hbl2, hzk, hcell2⟩ := HT.out.rd.int_at hjt
          obtain rfl : z = 2 * y % p := by rw [hzk] at hyt; injection hyt
          have hy1 := HLB.out y (List.mem_of_getElem? hyk)
          have f1 := (HX.out.cell (p := ⟨b1, o1 + j, none⟩) hbl1).trans hcell1
          have f2 := (HX.out.cell (p := ⟨b2, o2 + j, none⟩) hbl2).trans hcell2
          have hj0 : (0 : Int) ≤ (j : Int) := Int.natCast_nonneg _
          have hj1 : (j : Int) < (t.length : Int) := by omega
          have hj2 : (j : Int) < (l.length : Int) := by omega
          have hp0 : ¬ p = 0 := by omega
          have HTM := Lib.hid (Int.tmod_eq_emod_of_nonneg (b := p) (show 0 ≤ 2 * y by omega))
          have hww : IntKind.i64.wrap (2 * y) = 2 * y := IntWalk.i64_in _ (by omega)
          have htm : (2 * y % p != (IntKind.i64.wrap (2 * y)).tmod p) = false := by rw [hww, HTM.out]; simp
          clear hww
          clear hyk hyt hzk hcell1 hcell2
          go_wp2_with fail
          go_region_held3 (fun w' => w'.cell? ⟨b1, o1 + j, none⟩ = some (.int .i64 y) ∧ w'.cell? ⟨b2, o2 + j, none⟩ = some (.int .i64 (2 * y % p))) (exact ⟨f1, f2⟩) (fail)
          go_wp2
          go_roundw
          case rel => exact ⟨j + 1, by omega, by go_num, Lib.hid HX.out.drew⟩
          case measure => simp [intOf]; omega
        · go_wp2_with fail
          go_meet; exact Lib.hid (below_step HE.out HX.out)
  case rest =>
    obtain ⟨wm, hwm⟩ : ∃ W, wc = W := ⟨_, rfl⟩
    rw [hwm] at hcut ⊢
    clear hwm
    have hB := hcut.out
    clear hcut hS hSL
    clear HL HA HBB
    replace H1 := Lib.hid (H1.out.below hB)
    replace HB := Lib.hid (below_step HB.out hB)
    clear hB
    go_wp2_with fail
    refine (c_spec_DrawSplitBits H1.out).mono ?_
    rintro e v11 ⟨⟨k2, ul, m, rfl, hl, hul⟩, hB⟩
    replace H1 := Lib.hid (H1.out.below hB)
    replace HB := Lib.hid (below_step HB.out hB)
    clear hB
    have HM := Lib.hid hul
    obtain ⟨AM, cM, rfl, -⟩ := hul
    have hm66 := hl.1
    clear hl
    obtain ⟨S2, hS⟩ : ∃ S, splitBM k2 m = S := ⟨_, rfl⟩
    have CI := Lib.hid (fun (W : World) (h : Ints W (.slice AM m.length cM) m) => c_impl_SplitBits (w := W) (key := k2) h (by omega))
    have CS := Lib.hid (fun (W : World) (h : Ints W (.slice AM m.length cM) m) => c_spec_SplitBits (w := W) (key := k2) h (by omega))
    rw [hS] at CI CS
    have hSL : (S2.getD ([], [])).1.length ≤ 64 ∧ (S2.getD ([], [])).2.length ≤ 64 := by
      rcases hq : S2 with _ | ⟨r, s⟩
      · simp
      · rw [hq] at hS
        obtain ⟨g, h, -, -, h1, h2, -⟩ := splitB_law hS
        exact ⟨h1, h2⟩
    replace hS := Lib.hid hS
    go_wp2_with fail
    refine (CI.out _ HM.out).mono ?_
    rintro e v12 ⟨ua, ub, rfl, hu1, hu2, hB⟩
    replace H1 := Lib.hid (H1.out.below hB)
    replace HM := Lib.hid (HM.out.below hB)
    replace HB := Lib.hid (below_step HB.out hB)
    clear hB
    have HE := Lib.hid hu1
    obtain ⟨AE, cE, rfl, -⟩ := hu1
    have HF := Lib.hid hu2
    obtain ⟨AF, cF, rfl, -⟩ := hu2
    go_wp2_with fail
    refine (CS.out _ HM.out).mono ?_
    rintro e v13 ⟨ua, ub, rfl, hu1, hu2, hB⟩
    replace H1 := Lib.hid (H1.out.below hB)
    replace HM := Lib.hid (HM.out.below hB)
    replace HE := Lib.hid (HE.out.below hB)
    replace HF := Lib.hid (HF.out.below hB)
    replace HB := Lib.hid (below_step HB.out hB)
    clear hB
    have HU := Lib.hid hu1
    obtain ⟨AU, cU, rfl, -⟩ := hu1
    have HV := Lib.hid hu2
    obtain ⟨AV, cV, rfl, -⟩ := hu2
    go_wp2_with fail
    refine (c_laws_sameInts HE.out HU.out (by omega)).mono ?_
    rintro e v14 ⟨rfl, hB⟩
    replace H1 := Lib.hid (H1.out.below hB)
    replace HM := Lib.hid (HM.out.below hB)
    replace HE := Lib.hid (HE.out.below hB)
    replace HF := Lib.hid (HF.out.below hB)
    replace HU := Lib.hid (HU.out.below hB)
    replace HV := Lib.hid (HV.out.below hB)
    replace HB := Lib.hid (below_step HB.out hB)
    clear hB
    go_wp2_with fail
    refine (c_laws_sameInts HF.out HV.out (by omega)).mono ?_
    rintro e v15 ⟨rfl, hB⟩
    replace H1 := Lib.hid (H1.out.below hB)
    replace HM := Lib.hid (HM.out.below hB)
    replace HE := Lib.hid (HE.out.below hB)
    replace HF := Lib.hid (HF.out.below hB)
    replace HU := Lib.hid (HU.out.below hB)
    replace HV := Lib.hid (HV.out.below hB)
    replace HB := Lib.hid (below_step HB.out hB)
    clear hB
    clear HU HV
    clear CI CS
    go_upto_if 200 with fail
    go_cut [] (fun wx => Hid (Below v15.heap.size v15 wx))
    case first =>
      have HX := Lib.hid (Below.refl v15.heap.size v15)
      rcases S2 with _ | ⟨r, s⟩
      · go_wp2_with fail
        go_meet; exact HX
      · obtain ⟨g, h, e1, e2, hr64, hs64, hg64, hh64, hm64⟩ := splitB_law hS.out
        have E1 := Lib.hid e1
        have E2 := Lib.hid e2
        have HRF := Lib.hid (fun (W : World) (h1 : Ints W (.slice AE r.length cE) r) (h2 : Ints W (.slice AF s.length cF) s) => c_impl_RefreshBits (w := W) (key := k2) h1 h2 (by omega) (by omega))
        rw [e1] at HRF
        replace HE := Lib.hid (show Ints v15 (.slice AE r.length cE) r from HE.out)
        replace HF := Lib.hid (show Ints v15 (.slice AF s.length cF) s from HF.out)
        clear e1 e2 hSL
        go_wp2_with fail
        refine (HRF.out _ HE.out HF.out).mono ?_
        rintro e v16 ⟨ua, ub, rfl, hu1, hu2, hB⟩
        replace hu1 := (show Ints v16 ua g from hu1)
        replace hu2 := (show Ints v16 ub h from hu2)
        clear HE HF
        replace H1 := Lib.hid (H1.out.below hB)
        replace HM := Lib.hid (HM.out.below hB)
        replace HX := Lib.hid (below_step HX.out hB)
        replace HB := Lib.hid (below_step HB.out hB)
        clear hB
        have HG := Lib.hid hu1
        obtain ⟨AG, cG, rfl, -⟩ := hu1
        have HH := Lib.hid hu2
        obtain ⟨AH, cH, rfl, -⟩ := hu2
        go_wp2_with fail
        refine (c_impl_JoinBits HG.out HH.out (by omega) (by omega)).mono ?_
        rintro e v17 ⟨ua, rfl, hu1, hB⟩
        rw [E2.out] at hu1 ⊢
        replace hu1 := (show Ints v17 ua (m) from OwnI.ints hu1)
        replace H1 := Lib.hid (H1.out.below hB)
        replace HM := Lib.hid (HM.out.below hB)
        replace HX := Lib.hid (below_step HX.out hB)
        replace HG := Lib.hid (HG.out.below hB)
        replace HH := Lib.hid (HH.out.below hB)
        replace HB := Lib.hid (below_step HB.out hB)
        clear hB
        have HT := Lib.hid hu1
        obtain ⟨AT, cT, rfl, -⟩ := hu1
        go_wp2_with fail
        refine (c_laws_sameInts HT.out HM.out (by omega)).mono ?_
        rintro e v18 ⟨rfl, hB⟩
        replace H1 := Lib.hid (H1.out.below hB)
        replace HM := Lib.hid (HM.out.below hB)
        replace HX := Lib.hid (below_step HX.out hB)
        replace HG := Lib.hid (HG.out.below hB)
        replace HH := Lib.hid (HH.out.below hB)
        replace HT := Lib.hid (HT.out.below hB)
        replace HB := Lib.hid (below_step HB.out hB)
        clear hB
        go_wp2_with fail
        go_meet; exact HX
    case rest =>
      obtain ⟨wn, hwn⟩ : ∃ W, wc = W := ⟨_, rfl⟩
      rw [hwn] at hcut ⊢
      clear hwn
      have hB := hcut.out
      clear hcut hS hSL
      clear HM HE HF
      replace H1 := Lib.hid (H1.out.below hB)
      replace HB := Lib.hid (below_step HB.out hB)
      clear hB
      go_wp2_with fail
      refine (c_spec_DrawInnerShares H1.out).mono ?_
      rintro e v19 ⟨⟨q, ua, ub, ma, mb, rfl, hla, hlb, hu1, hu2⟩, hB⟩
      replace H1 := Lib.hid (H1.out.below hB)
      replace HB := Lib.hid (below_step HB.out hB)
      clear hB
      have HA := Lib.hid hu1
      obtain ⟨AA, cA, rfl, -⟩ := hu1
      have HC := Lib.hid hu2
      obtain ⟨AC, cC, rfl, -⟩ := hu2
      have hma := hla.1
      have hmb := hlb.1
      clear hla hlb
      go_wp2_with fail
      refine (c_impl_InnerShares HA.out HC.out (by omega) (by omega)).mono ?_
      rintro e v20 ⟨rfl, hB⟩
      replace H1 := Lib.hid (H1.out.below hB)
      replace HA := Lib.hid (HA.out.below hB)
      replace HC := Lib.hid (HC.out.below hB)
      replace HB := Lib.hid (below_step HB.out hB)
      clear hB
      go_wp2_with fail
      refine (c_spec_InnerShares HA.out HC.out (by omega) (by omega)).mono ?_
      rintro e w' ⟨rfl, rfl⟩
      clear HA HC
      generalize oV (innM q ma mb) = G1 at *
      generalize oB (innM q ma mb) = G2 at *
      go_wp2_with fail
      refine (c_spec_DrawRefreshBits H1.out).mono ?_
      rintro e v21 ⟨⟨k3, ua, ub, na, nb, rfl, hla, hlb, hu1, hu2⟩, hB⟩
      clear H1
      replace HB := Lib.hid (below_step HB.out hB)
      clear hB
      have HA := Lib.hid hu1
      obtain ⟨AA2, cA2, rfl, -⟩ := hu1
      have HC := Lib.hid hu2
      obtain ⟨AC2, cC2, rfl, -⟩ := hu2
      have hna := hla.1
      have hnb := hlb.1
      clear hla hlb
      have CI := Lib.hid (fun (W : World) (h1 : Ints W (.slice AA2 na.length cA2) na) (h2 : Ints W (.slice AC2 nb.length cC2) nb) => c_impl_RefreshBits (w := W) (key := k3) h1 h2 (by omega) (by omega))
      have CS := Lib.hid (fun (W : World) (h1 : Ints W (.slice AA2 na.length cA2) na) (h2 : Ints W (.slice AC2 nb.length cC2) nb) => c_spec_RefreshBits (w := W) (key := k3) h1 h2 (by omega) (by omega))
      have hSL : ((refBM k3 na nb).getD ([], [])).1.length ≤ 100 ∧ ((refBM k3 na nb).getD ([], [])).2.length ≤ 100 := by
        unfold refBM
        split
        · simp [xorsM]; omega
        · simp
      obtain ⟨S3, hS⟩ : ∃ S, refBM k3 na nb = S := ⟨_, rfl⟩
      rw [hS] at CI CS hSL
      clear hS
      go_wp2_with fail
      refine (CI.out _ HA.out HC.out).mono ?_
      rintro e v22 ⟨ua, ub, rfl, hu1, hu2, hB⟩
      replace HA := Lib.hid (HA.out.below hB)
      replace HC := Lib.hid (HC.out.below hB)
      replace HB := Lib.hid (below_step HB.out hB)
      clear hB
      have HE := Lib.hid hu1
      obtain ⟨AE, cE, rfl, -⟩ := hu1
      have HF := Lib.hid hu2
      obtain ⟨AF, cF, rfl, -⟩ := hu2
      go_wp2_with fail
      refine (CS.out _ HA.out HC.out).mono ?_
      rintro e v23 ⟨ua, ub, rfl, hu1, hu2, hB⟩
      replace HA := Lib.hid (HA.out.below hB)
      replace HC := Lib.hid (HC.out.below hB)
      replace HE := Lib.hid (HE.out.below hB)
      replace HF := Lib.hid (HF.out.below hB)
      replace HB := Lib.hid (below_step HB.out hB)
      clear hB
      have HU := Lib.hid hu1
      obtain ⟨AU, cU, rfl, -⟩ := hu1
      have HV := Lib.hid hu2
      obtain ⟨AV, cV, rfl, -⟩ := hu2
      go_wp2_with fail
      refine (c_laws_sameInts HE.out HU.out (by omega)).mono ?_
      rintro e v24 ⟨rfl, hB⟩
      replace HA := Lib.hid (HA.out.below hB)
      replace HC := Lib.hid (HC.out.below hB)
      replace HE := Lib.hid (HE.out.below hB)
      replace HF := Lib.hid (HF.out.below hB)
      replace HU := Lib.hid (HU.out.below hB)
      replace HV := Lib.hid (HV.out.below hB)
      replace HB := Lib.hid (below_step HB.out hB)
      clear hB
      go_wp2_with fail
      refine (c_laws_sameInts HF.out HV.out (by omega)).mono ?_
      rintro e v25 ⟨rfl, hB⟩
      replace HA := Lib.hid (HA.out.below hB)
      replace HC := Lib.hid (HC.out.below hB)
      replace HE := Lib.hid (HE.out.below hB)
      replace HF := Lib.hid (HF.out.below hB)
      replace HU := Lib.hid (HU.out.below hB)
      replace HV := Lib.hid (HV.out.below hB)
      replace HB := Lib.hid (below_step HB.out hB)
      clear hB
      go_wp2
      go_ret
      exact ⟨rfl, HB.out⟩
end Go.Proofs.Ytmccfdaaneemfaa

