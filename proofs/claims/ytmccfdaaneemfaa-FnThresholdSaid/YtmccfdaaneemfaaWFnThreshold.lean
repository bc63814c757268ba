/- The walk of the law FnThreshold: its Go text returns true for every input. No condition. -/
import Derived.Test.YtmccfdaaneemfaaDrawT
import Derived.Test.YtmccfdaaneemfaaLawT
import Derived.Test.YtmccfdaaneemfaaShrM
import Derived.Test.YtmccfdaaneemfaaOwnK
import Derived.Deep.RegionHeld3
import Derived.Deep.DeepCutAuto
namespace Go.Proofs.Ytmccfdaaneemfaa
open Go.RowKit
set_option linter.unusedVariables false
set_option maxRecDepth 100000 in
set_option maxHeartbeats 4000000 in
theorem w_FnThreshold (w : World) {cd1 cd2 : Value} {l1 l2 : List Int} (h0 : Byts w cd1 l1) (h1 : Byts w cd2 l2) : Calls Try.prog 6 #[cd1, cd2] w fun e w' => e = .returned (.bool true) ∧ Below w.heap.size w w' := by
  have hm1 := h0.form
  have H0 := Lib.hid h0
  have H1 := Lib.hid h1
  obtain ⟨A1, k1, rfl⟩ := h0.form
  obtain ⟨A2, k2, rfl⟩ := h1.form
  clear h0 h1 hm1
  have HB := Lib.hid (Below.refl w.heap.size w)
  by_cases hbig : (1048576 : Int) < wrap64 ((l1.length : Int) + (l2.length : Int))
  · go_enter Try.func6, Try.ntmps6
    go_wp2
    go_ret; exact ⟨rfl, Below.refl _ _⟩
  go_enter Try.func6, Try.ntmps6
  go_wp2_with fail
  refine (c_spec_DrawSplitThreshold H0.out).mono ?_
  rintro e v1 ⟨⟨p, key, v, n, t, rfl⟩, hB⟩
  clear H0
  replace H1 := Lib.hid (H1.out.below hB)
  replace HB := Lib.hid (below_step HB.out hB)
  clear hB
  clear hbig
  obtain ⟨S, hS⟩ : ∃ S, splitOM p key v n t = S := ⟨_, rfl⟩
  have CI := Lib.hid (fun W : World => c_impl_SplitThreshold (w := W) (p := p) (key := key) (v := v) (n := n) (t := t))
  have CS := Lib.hid (fun W : World => c_spec_SplitThreshold (w := W) (p := p) (key := key) (v := v) (n := n) (t := t))
  rw [hS] at CI CS
  have hSL : (S.getD []).length ≤ 10 := by
    rcases hq : S with _ | W
    · simp
    · rw [hq] at hS
      obtain ⟨N, T, -, -, -, -, h10, -, -, hl, -⟩ := thr_law hS
      simp; omega
  have HS := Lib.hid hS
  clear hS
  go_wp2_with fail
  refine (CI.out _).mono ?_
  rintro e v2 ⟨ua, rfl, hu1, hB⟩
  replace hu1 := (show Ints v2 ua (S.getD []) from OwnI.ints hu1)
  replace H1 := Lib.hid (H1.out.below hB)
  replace HB := Lib.hid (below_step HB.out hB)
  clear hB
  have HA := Lib.hid hu1
  obtain ⟨AA, cA, rfl, -⟩ := hu1
  go_wp2_with fail
  refine (CS.out _).mono ?_
  rintro e v3 ⟨ua, rfl, hu1, hB⟩
  replace hu1 := (show Ints v3 ua (S.getD []) from OwnI.ints hu1)
  replace H1 := Lib.hid (H1.out.below hB)
  replace HA := Lib.hid (HA.out.below hB)
  replace HB := Lib.hid (below_step HB.out hB)
  clear hB
  have HC := Lib.hid hu1
  obtain ⟨AC, cC, rfl, -⟩ := hu1
  clear CI CS
  go_wp2_with fail
  refine (c_spec_DrawJoinThreshold H1.out).mono ?_
  rintro e v4 ⟨⟨q, ux, uy, xs, ys, rfl, sx, sy, hux, huy⟩, hB⟩
  clear H1
  replace HA := Lib.hid (HA.out.below hB)
  replace HC := Lib.hid (HC.out.below hB)
  replace HB := Lib.hid (below_step HB.out hB)
  clear hB
  have HX := Lib.hid hux
  obtain ⟨AX, cX, rfl, -⟩ := hux
  have HY := Lib.hid huy
  obtain ⟨AY, cY, rfl, -⟩ := huy
  have hxl := sx.1
  have hyl := sy.1
  clear sx sy
  obtain ⟨J, hJ⟩ : ∃ J, joinTM q xs ys = J := ⟨_, rfl⟩
  obtain ⟨WO, hWO⟩ : ∃ J, weightsOM q xs = J := ⟨_, rfl⟩
  have hwl := weightsOM_len q xs
  have CI := Lib.hid (fun (W : World) (h1 : Ints W (.slice AX xs.length cX) xs) (h2 : Ints W (.slice AY ys.length cY) ys) => c_impl_JoinThreshold (w := W) (p := q) h1 h2 (by omega) (by omega))
  have CS := Lib.hid (fun (W : World) (h1 : Ints W (.slice AX xs.length cX) xs) (h2 : Ints W (.slice AY ys.length cY) ys) => c_spec_JoinThreshold (w := W) (p := q) h1 h2 (by omega) (by omega))
  have DI := Lib.hid (fun (W : World) (h1 : Ints W (.slice AX xs.length cX) xs) => c_impl_LagrangeWeights (w := W) (p := q) h1 (by omega))
  have DS := Lib.hid (fun (W : World) (h1 : Ints W (.slice AX xs.length cX) xs) => c_spec_LagrangeWeights (w := W) (p := q) h1 (by omega))
  rw [hJ] at CI CS
  rw [hWO] at DI DS hwl
  have HJ := Lib.hid (And.intro hJ hWO)
  clear hJ hWO
  go_wp2_with fail
  refine (CI.out _ HX.out HY.out).mono ?_
  rintro e v5 ⟨rfl, hB⟩
  replace HA := Lib.hid (HA.out.below hB)
  replace HC := Lib.hid (HC.out.below hB)
  replace HX := Lib.hid (HX.out.below hB)
  replace HY := Lib.hid (HY.out.below hB)
  replace HB := Lib.hid (below_step HB.out hB)
  clear hB
  go_wp2_with fail
  refine (CS.out _ HX.out HY.out).mono ?_
  rintro e v6 ⟨rfl, hB⟩
  replace HA := Lib.hid (HA.out.below hB)
  replace HC := Lib.hid (HC.out.below hB)
  replace HX := Lib.hid (HX.out.below hB)
  replace HY := Lib.hid (HY.out.below hB)
  replace HB := Lib.hid (below_step HB.out hB)
  clear hB
  go_wp2_with fail
  refine (DI.out _ HX.out).mono ?_
  rintro e v7 ⟨ua, rfl, hu1, hB⟩
  replace hu1 := (show Ints v7 ua (WO.getD []) from OwnI.ints hu1)
  replace HA := Lib.hid (HA.out.below hB)
  replace HC := Lib.hid (HC.out.below hB)
  replace HX := Lib.hid (HX.out.below hB)
  replace HY := Lib.hid (HY.out.below hB)
  replace HB := Lib.hid (below_step HB.out hB)
  clear hB
  have HP := Lib.hid hu1
  obtain ⟨AP, cP, rfl, -⟩ := hu1
  go_wp2_with fail
  refine (DS.out _ HX.out).mono ?_
  rintro e v8 ⟨ua, rfl, hu1, hB⟩
  replace hu1 := (show Ints v8 ua (WO.getD []) from OwnI.ints hu1)
  replace HA := Lib.hid (HA.out.below hB)
  replace HC := Lib.hid (HC.out.below hB)
  replace HX := Lib.hid (HX.out.below hB)
  replace HY := Lib.hid (HY.out.below hB)
  replace HP := Lib.hid (HP.out.below hB)
  replace HB := Lib.hid (below_step HB.out hB)
  clear hB
  have HQ := Lib.hid hu1
  obtain ⟨AQ, cQ, rfl, -⟩ := hu1
  clear CI CS DI DS
  go_wp2_with fail
  refine (c_laws_qInts HA.out HC.out (by omega)).mono ?_
  rintro e v9 ⟨rfl, hB⟩
  replace HA := Lib.hid (HA.out.below hB)
  replace HC := Lib.hid (HC.out.below hB)
  replace HX := Lib.hid (HX.out.below hB)
  replace HY := Lib.hid (HY.out.below hB)
  replace HP := Lib.hid (HP.out.below hB)
  replace HQ := Lib.hid (HQ.out.below hB)
  replace HB := Lib.hid (below_step HB.out hB)
  clear hB
  go_wp2_with fail
  refine (c_laws_qInts HP.out HQ.out (by omega)).mono ?_
  rintro e v10 ⟨rfl, hB⟩
  replace HA := Lib.hid (HA.out.below hB)
  replace HC := Lib.hid (HC.out.below hB)
  replace HX := Lib.hid (HX.out.below hB)
  replace HY := Lib.hid (HY.out.below hB)
  replace HP := Lib.hid (HP.out.below hB)
  replace HQ := Lib.hid (HQ.out.below hB)
  replace HB := Lib.hid (below_step HB.out hB)
  clear hB
  clear HA HP
  go_upto_if 136 with fail
  go_cut [] (fun wx => Hid (Below v10.heap.size v10 wx))
  case first =>
    have HE := Lib.hid (Below.refl v10.heap.size v10)
    rcases J with _ | j
    · go_wp2_with fail
      go_meet; exact HE
    · obtain ⟨e1, e2, e3, hqb, hwb, hyb, hsum, hsh⟩ := join_law HJ.out.1
      have ew : WO = some (weightsM q xs xs.length) := HJ.out.2.symm.trans e1
      rcases WO with _ | WS
      · cases ew
      injection ew with hWS
      rw [← hWS] at e2 hwb hsum
      have HQ2 := Lib.hid (show Ints v10 (.slice AQ WS.length cQ) WS from HQ.out)
      simp only [oB, Option.isSome_some, Option.getD_some]
      have HSUM := Lib.hid hsum
      have HSH := Lib.hid hsh
      have HYB := Lib.hid hyb
      have HWB := Lib.hid hwb
      have HLL := Lib.hid e2
      have hwl2 : WS.length ≤ 10 := by omega
      clear e1 e2 hsum hsh hWS hyb hwb HQ HJ hwl
      go_wp2_with fail
      go_loopw [25, 139] (fun s i wr => ∃ k : Nat, k ≤ WS.length ∧ i = .int .i64 k ∧ s = .int .i64 (wsN WS ys k) ∧ v10 = wr) (fun _ i _ => WS.length - (intOf i).toNat)
      case atStart => exact ⟨0, Nat.zero_le _, rfl, rfl, rfl⟩
      case round =>
        obtain ⟨k, hk, rfl, rfl, rfl⟩ := hrel
        have hbd := wsN_bd HWB.out HYB.out k
        by_cases hlt : k < WS.length
        · obtain ⟨b1, o1, y, rfl, hbl1, hyk, hcell1⟩ := HQ2.out.rd.int_at hlt
          obtain ⟨b2, o2, z, rfl, hbl2, hzk, hcell2⟩ := HY.out.rd.int_at (show k < ys.length by have := HLL.out; omega)
          have hsu := wsN_succ WS ys k
          rw [getD_some hyk, getD_some hzk] at hsu
          have HSU := Lib.hid hsu
          have hy := HWB.out y (List.mem_of_getElem? hyk)
          have hz := HYB.out z (List.mem_of_getElem? hzk)
          have hm := mulBd2 hy hz
          have hk0 : (0 : Int) ≤ (k : Int) := Int.natCast_nonneg _
          have hk1 : (k : Int) < (WS.length : Int) := by omega
          have hk2 : (k : Int) < (ys.length : Int) := by have := HLL.out; omega
          clear hyk hzk hsu
          go_wp2
          go_roundw
          case rel => exact ⟨k + 1, by omega, by go_num, by rw [HSU.out], trivial⟩
          case measure => simp [intOf]; omega
        · obtain rfl : k = WS.length := by omega
          have hq0 : 0 ≤ q - 1 := by omega
          have hsb : wsN WS ys WS.length % q = j := by have h := HSUM.out; rwa [← HLL.out] at h
          have HSB := Lib.hid hsb
          have CSH := Lib.hid (fun (W : World) (h1 : Ints W (.slice AX xs.length cX) xs) (h2 : Ints W (.slice AY ys.length cY) ys) => c_impl_ShareFor (w := W) (p := q) (x := 0) h1 h2 (by omega) (by omega))
          rw [HSH.out] at CSH
          clear hsb HSUM HSH
          go_wp2_with fail
          refine (CSH.out _ HX.out HY.out).mono ?_
          rintro e v11 ⟨rfl, hB⟩
          replace HC := Lib.hid (HC.out.below hB)
          replace HX := Lib.hid (HX.out.below hB)
          replace HY := Lib.hid (HY.out.below hB)
          replace HE := Lib.hid (below_step HE.out hB)
          replace HQ2 := Lib.hid (HQ2.out.below hB)
          replace HB := Lib.hid (below_step HB.out hB)
          clear hB
          have hne : (wsN WS ys WS.length % q != j) = false := by rw [HSB.out]; simp
          have hq1 : ¬ q = 0 := by omega
          go_wp2_with fail
          go_meet; exact HE
  case rest =>
    obtain ⟨wm, hwm⟩ : ∃ W, wc = W := ⟨_, rfl⟩
    rw [hwm] at hcut ⊢
    clear hwm
    have hB := hcut.out
    clear hcut
    clear hwl HJ HX HY HQ
    replace HC := Lib.hid (HC.out.below hB)
    replace HB := Lib.hid (below_step HB.out hB)
    clear hB
    rcases S with _ | W
    · go_wp2_with fail
      go_ret; exact ⟨rfl, HB.out⟩
    obtain ⟨N, T, rfl, rfl, hT1, hTN, hN10, hpb, hvb, hWl, h1, h2, h3, o, ho, h4, h5⟩ := thr_law HS.out
    have HC2 := Lib.hid (show Ints wm (.slice AC W.length cC) W from HC.out)
    simp only [Option.isSome_some, Option.getD_some]
    have HWL := Lib.hid hWl
    have HL := Lib.hid (And.intro h1 (And.intro h2 (And.intro h3 (And.intro h4 h5))))
    have hcC : W.length ≤ cC := by obtain ⟨A, c, e, a, -⟩ := HC2.out; injection e with _ _ e3; omega
    clear hSL HS HC h1 h2 h3 h4 h5 hWl
    go_wp2_with fail
    go_loopw [30, 31] (fun u i wr => ∃ k : Nat, k ≤ N ∧ i = .int .i64 ((k : Int) + 1) ∧ Hid (OwnI wr wm.heap.size u (rngN k)) ∧ Hid (Below wm.heap.size wm wr)) (fun _ i _ => N + 1 - (intOf i).toNat)
    case atStart => exact ⟨0, Nat.zero_le _, rfl, Lib.hid (OwnI.nil _ _), Lib.hid (Below.refl _ _)⟩
    case round =>
      obtain ⟨k, hk, rfl, HO, HBL⟩ := hrel
      obtain ⟨wa, rfl⟩ : ∃ W, W = wr := ⟨wr, rfl⟩
      have hrl := rngN_length k
      have hsz := HBL.out.size
      by_cases hlt : k < N
      · have HSN := Lib.hid (rngN_snoc k)
        have hk0 : (0 : Int) ≤ (k : Int) := Int.natCast_nonneg _
        have hrl2 : (rngN k).length ≤ 12 := by omega
        clear hrl
        go_wp2_with (at_builtin; refine wp_app1 (B := wm.heap.size) rfl rfl Try.underlying32 info_int rfl HO.out rfl rfl rfl (by unfold maxLen; omega) (by omega) hsz ?_; intro v' w9 ho2 hg hfr)
        have HB9 := Lib.hid (below_app HBL.out HO.out hg (Nat.le_refl _))
        go_roundw
        case rel => exact ⟨k + 1, by omega, by go_num, by rw [HSN.out]; exact Lib.hid (OwnI.snoc ho2), HB9⟩
        case measure => simp [intOf]; omega
      · obtain rfl : k = N := by omega
        have hkk : ¬ ((k : Int) + 1 ≤ (k : Int)) := by omega
        have hX := HO.out.ints
        have HC := Lib.hid (HC2.out.below HBL.out)
        replace HB := Lib.hid (below_step HB.out HBL.out)
        clear HC2 HO HBL hsz hlt hk
        have HRL := Lib.hid hrl
        obtain ⟨R, hR⟩ : ∃ R, rngN k = R := ⟨_, rfl⟩
        rw [hR] at hX HL hrl HRL
        have HX := Lib.hid hX
        obtain ⟨AX2, cX2, rfl, -⟩ := hX
        have hcX : R.length ≤ cX2 := by obtain ⟨A, c, e, a, -⟩ := HX.out; injection e with _ _ e3; omega
        clear hR
        obtain ⟨bx, ox, x0, rfl, -, -, -⟩ := HX.out.rd.int_at (show 0 < R.length by omega)
        obtain ⟨bc, oc, x1, rfl, -, -, -⟩ := HC.out.rd.int_at (show 0 < W.length by have := HWL.out; omega)
        have hT0 : (0 : Int) ≤ (T : Int) := Int.natCast_nonneg _
        have hTx : (T : Int) ≤ (cX2 : Int) := by omega
        have hTc : (T : Int) ≤ (cC : Int) := by have := HWL.out; omega
        obtain ⟨D, hD⟩ : ∃ D : Nat, k = D + T := ⟨k - T, by omega⟩
        obtain ⟨E, hE⟩ : ∃ E : Nat, T = E + 1 := ⟨T - 1, by omega⟩
        have hD0 : (0 : Int) ≤ (D : Int) := Int.natCast_nonneg _
        have hDk : (D : Int) ≤ (R.length : Int) := by omega
        have hDW : (D : Int) ≤ (W.length : Int) := by have := HWL.out; omega
        have hDx : ¬ cX2 = D := by omega
        have hDc : ¬ cC = D := by have := HWL.out; omega
        have hE0 : (0 : Int) ≤ (E : Int) := Int.natCast_nonneg _
        have hEx : (E : Int) ≤ (cX2 : Int) := by omega
        have hEc : (E : Int) ≤ (cC : Int) := by have := HWL.out; omega
        have hDi : IntKind.i64.wrap (D : Int) = (D : Int) := IntWalk.i64_in _ (by omega)
        have hEi : IntKind.i64.wrap (E : Int) = (E : Int) := IntWalk.i64_in _ (by omega)
        have hDj : (k : Int) - (T : Int) = (D : Int) := by omega
        have hEj : (T : Int) - 1 = (E : Int) := by omega
        have HI := Lib.hid (And.intro hDi (And.intro hEi (And.intro hDj hEj)))
        clear hDi hEi hDj hEj
        have hTD : k - (k - T) = T := by omega
        have CJ1 := Lib.hid (fun (V : World) (h1 : Ints V (.slice (some ⟨bx, ox, none⟩) T cX2) (R.take T)) (h2 : Ints V (.slice (some ⟨bc, oc, none⟩) T cC) (W.take T)) => c_impl_JoinThreshold (w := V) (p := p) h1 h2 (by simp; omega) (by have := HWL.out; simp; omega))
        rw [HL.out.1] at CJ1
        have CJ2 := Lib.hid (fun (V : World) (h1 : Ints V (.slice (some ⟨bx, ox + D, none⟩) (R.length - D) (cX2 - D)) (R.drop (k - T))) (h2 : Ints V (.slice (some ⟨bc, oc + D, none⟩) (W.length - D) (cC - D)) (W.drop (k - T))) => c_impl_JoinThreshold (w := V) (p := p) h1 h2 (by simp; omega) (by have := HWL.out; simp; omega))
        rw [HL.out.2.1] at CJ2
        have CA := Lib.hid (fun (V : World) (h1 : Ints V (.slice (some ⟨bx, ox, none⟩) R.length cX2) R) (h2 : Ints V (.slice (some ⟨bc, oc, none⟩) W.length cC) W) => c_impl_AreShares (w := V) (p := p) (t := (T : Int)) h1 h2 (by omega) (by have := HWL.out; omega))
        rw [HL.out.2.2.1] at CA
        have CC := Lib.hid (fun (V : World) (z : Int) (h1 : Ints V (.slice (some ⟨bx, ox, none⟩) E cX2) (R.take (T - 1))) (h2 : Ints V (.slice (some ⟨bc, oc, none⟩) E cC) (W.take (T - 1))) => c_impl_CountPolynomials (w := V) (p := p) (t := (T : Int)) (v := z) h1 h2 (by simp; omega) (by have := HWL.out; simp; omega))
        have CC1 := Lib.hid (fun (V : World) => CC.out V v)
        have CC2 := Lib.hid (fun (V : World) => CC.out V 0)
        rw [HL.out.2.2.2.1] at CC1
        rw [HL.out.2.2.2.2] at CC2
        have hTE : T - 1 = E := by omega
        have TX := Lib.hid (fun (V : World) (h : Below wa.heap.size wa V) => And.intro ((HX.out.head (show T ≤ R.length by omega)).below h) (And.intro (show Ints V (.slice (some ⟨bx, ox + D, none⟩) (R.length - D) (cX2 - D)) (R.drop (k - T)) from by
          have h9 := (HX.out.tail (k := D) (A2 := some ⟨bx, ox + D, none⟩) (by omega) (by rw [if_neg hDx, Option.map_some, Addr.add_lit])).below h
          rw [show k - T = D by omega]; exact h9) (And.intro (show Ints V (.slice (some ⟨bx, ox, none⟩) E cX2) (R.take (T - 1)) from by
          rw [hTE]; exact (HX.out.head (show E ≤ R.length by omega)).below h) (HX.out.below h))))
        have TC := Lib.hid (fun (V : World) (h : Below wa.heap.size wa V) => And.intro ((HC.out.head (show T ≤ W.length by have := HWL.out; omega)).below h) (And.intro (show Ints V (.slice (some ⟨bc, oc + D, none⟩) (W.length - D) (cC - D)) (W.drop (k - T)) from by
          have h9 := (HC.out.tail (k := D) (A2 := some ⟨bc, oc + D, none⟩) (by have := HWL.out; omega) (by rw [if_neg hDc, Option.map_some, Addr.add_lit])).below h
          rw [show k - T = D by omega]; exact h9) (And.intro (show Ints V (.slice (some ⟨bc, oc, none⟩) E cC) (W.take (T - 1)) from by
          rw [hTE]; exact (HC.out.head (show E ≤ W.length by have := HWL.out; omega)).below h) (HC.out.below h))))
        have hl : Below wa.heap.size wa wa.drew := (Below.refl _ _).drew
        have HDL := Lib.hid hl
        have HF := Lib.hid (And.intro hD (And.intro hE hTE))
        clear CC hD hE hTE hTD HX HC hrl
        go_wp2_with fail
        go_region_held3 (fun W => Below wa.heap.size wa W)
          (first | assumption | exact HDL.out)
          ((go_at_call 58; refine (CJ1.out _ (TX.out _ HDL.out).1 (TC.out _ HDL.out).1).mono ?_; rintro e y1 ⟨rfl, hb⟩; have hlz : Below wa.heap.size wa y1 := below_step HDL.out hb))
        have HB1 := Lib.hid (hlz.drew)
        clear hlz hb hl
        have hDi := HI.out.1
        have hDj := HI.out.2.2.1
        have hly : Below wa.heap.size wa y1.drew := HB1.out
        go_wp2_with fail
        go_region_held3 (fun W => Below wa.heap.size wa W)
          (first | assumption | exact HB1.out)
          ((go_at_call 58; refine (CJ2.out _ (TX.out _ HB1.out).2.1 (TC.out _ HB1.out).2.1).mono ?_; rintro e y2 ⟨rfl, hb⟩; have hlz : Below wa.heap.size wa y2 := below_step HB1.out hb))
        have HB2 := Lib.hid hlz
        clear hlz hb hly hDi hDj
        go_wp2_with fail
        refine (CA.out _ (TX.out _ HB2.out).2.2.2 (TC.out _ HB2.out).2.2.2).mono ?_
        rintro e y3 ⟨rfl, hb⟩
        have HB3 := Lib.hid (below_step HB2.out hb).drew
        clear hb
        have hly : Below wa.heap.size wa y3.drew := HB3.out
        have hEi := HI.out.2.1
        have hEj := HI.out.2.2.2
        go_wp2_with fail
        go_region_held3 (fun W => Below wa.heap.size wa W)
          (first | assumption | exact HB3.out)
          ((go_at_call 65; refine (CC1.out _ (TX.out _ HB3.out).2.2.1 (TC.out _ HB3.out).2.2.1).mono ?_; rintro e y4 ⟨rfl, hb⟩; have hlz : Below wa.heap.size wa y4 := below_step HB3.out hb))
        have HB4 := Lib.hid hlz.drew
        clear hlz hb hly
        have hly : Below wa.heap.size wa y4.drew := HB4.out
        go_wp2_with fail
        go_region_held3 (fun W => Below wa.heap.size wa W)
          (first | assumption | exact HB4.out)
          ((go_at_call 65; refine (CC2.out _ (TX.out _ HB4.out).2.2.1 (TC.out _ HB4.out).2.2.1).mono ?_; rintro e y5 ⟨rfl, hb⟩; have hlz : Below wa.heap.size wa y5 := below_step HB4.out hb))
        have HB5 := Lib.hid hlz
        clear hlz hb hly hEi hEj
        rcases ho with rfl | rfl
        · go_wp2
          go_ret
          exact ⟨rfl, below_step HB.out HB5.out⟩
        · go_wp2
          go_ret
          exact ⟨rfl, below_step HB.out HB5.out⟩
end Go.Proofs.Ytmccfdaaneemfaa
