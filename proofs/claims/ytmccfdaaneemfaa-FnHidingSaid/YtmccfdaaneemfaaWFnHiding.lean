/- The walk of the law FnHiding: its Go text returns true for every input. No condition. -/
import Derived.Test.YtmccfdaaneemfaaHidE
import Derived.Deep.DeepCutAuto
namespace Go.Proofs.Ytmccfdaaneemfaa
open Go.RowKit
set_option linter.unusedVariables false

set_option maxRecDepth 100000 in
set_option maxHeartbeats 4000000 in
theorem w_FnHiding (w : World) {cd1 cd2 : Value} {l1 l2 : List Int} (h0 : Byts w cd1 l1) (h1 : Byts w cd2 l2) : Calls Try.prog 4 #[cd1, cd2] w fun e w' => e = .returned (.bool true) ∧ Below w.heap.size w w' := by
  have H0 := Lib.hid h0
  have H1 := Lib.hid h1
  obtain ⟨A1, k1, rfl⟩ := h0.form
  obtain ⟨A2, k2, rfl⟩ := h1.form
  clear h0 h1
  have HB := Lib.hid (Below.refl w.heap.size w)
  go_enter Try.func4, Try.ntmps4
  go_wp2_with fail
  refine (c_laws_big H0.out H1.out).mono ?_
  rintro e w' ⟨⟨b0, rfl⟩, rfl⟩
  cases b0
  case true => go_wp2; go_ret; exact ⟨rfl, Below.refl _ _⟩
  go_wp2_with fail
  refine (c_spec_DrawShareCounts H0.out).mono ?_
  rintro e v1 ⟨⟨p, v, t, rfl⟩, hB⟩
  clear H0
  replace H1 := Lib.hid (H1.out.below hB)
  replace HB := Lib.hid (below_step HB.out hB)
  clear hB
  obtain ⟨hall, hsl, hsome⟩ := count_law p v t
  obtain ⟨S, hS⟩ : ∃ S, countM p v t = S := ⟨_, rfl⟩
  have CI := Lib.hid (fun W : World => c_impl_ShareCounts (w := W) (p := p) (v := v) (t := t))
  have CS := Lib.hid (fun W : World => c_spec_ShareCounts (w := W) (p := p) (v := v) (t := t))
  rw [hS] at CI CS hall hsl hsome
  have HALL := Lib.hid hall
  have HSOME := Lib.hid hsome
  clear hS hall hsome
  go_wp2_with fail
  refine (CI.out _).mono ?_
  rintro e v2 ⟨ua, rfl, hu1, hB⟩
  replace hu1 := (show Ints v2 ua (S.getD []) from OwnI.ints hu1)
  replace H1 := Lib.hid (H1.out.below hB)
  replace HB := Lib.hid (below_step HB.out hB)
  clear hB
  have HA := Lib.hid hu1
  obtain ⟨AA, cA, rfl, -⟩ := hu1
  go_wp2_with fail
  refine (CS.out _).mono ?_
  rintro e v3 ⟨ua, rfl, hu1, hB⟩
  replace hu1 := (show Ints v3 ua (S.getD []) from OwnI.ints hu1)
  replace H1 := Lib.hid (H1.out.below hB)
  replace HA := Lib.hid (HA.out.below hB)
  replace HB := Lib.hid (below_step HB.out hB)
  clear hB
  have HC := Lib.hid hu1
  obtain ⟨AC, cC, rfl, -⟩ := hu1
  go_wp2_with fail
  refine (c_laws_sameInts HA.out HC.out (by omega)).mono ?_
  rintro e v4 ⟨rfl, hB⟩
  replace H1 := Lib.hid (H1.out.below hB)
  replace HA := Lib.hid (HA.out.below hB)
  replace HC := Lib.hid (HC.out.below hB)
  replace HB := Lib.hid (below_step HB.out hB)
  clear hB
  clear HA
  clear CI CS
  obtain ⟨LW, hLW⟩ : ∃ L, S.getD [] = L := ⟨_, rfl⟩
  rw [hLW] at HC HALL hsl ⊢
  clear hLW
  go_wp2_with fail
  go_loopw [79] (fun i wr => ∃ j : Nat, j ≤ LW.length ∧ i = .int .i64 j ∧ v4 = wr) (fun i _ => LW.length - (intOf i).toNat)
  case atStart => exact ⟨0, Nat.zero_le _, rfl, rfl⟩
  case round =>
    obtain ⟨j, hj, rfl, rfl⟩ := hrel
    by_cases hlt : j < LW.length
    · obtain ⟨b1, o1, y, rfl, hbl1, hyk, hcell1⟩ := HC.out.rd.int_at hlt
      obtain rfl : y = 1 := HALL.out y (List.mem_of_getElem? hyk)
      clear hyk
      go_wp2
      go_roundw
      case rel => exact ⟨j + 1, by omega, by go_num, trivial⟩
      case measure => simp [intOf]; omega
    · clear HALL hsl
      clear HC
      go_upto_if 86 with fail
      go_cut [] (fun wx => Hid (Below v4.heap.size v4 wx))
      case first =>
        have HE := Lib.hid (Below.refl v4.heap.size v4)
        rcases S with _ | l
        · go_wp2_with fail
          go_meet; exact HE
        · obtain ⟨P, rfl, hpm, hP2, hP3, hv0, hv1⟩ := HSOME.out l rfl
          have HPM := Lib.hid hpm
          have HPL := Lib.hid (pairsN_length (P : Int) v P)
          have HPR := Lib.hid (show ∀ r ∈ pairsN (P : Int) v P, r.length ≤ 2097152 from fun r hr => by
            obtain ⟨k, -, rfl⟩ := List.mem_map.1 hr; simp)
          clear hpm HSOME
          go_wp2_with fail
          refine (c_impl_PairsFor).mono ?_
          rintro e v5 ⟨ua, vs, rfl, hu1, hB⟩
          rw [HPM.out] at hu1 ⊢
          replace hu1 := (show RowsIn v5 ua (pairsN P v P) from OwnRs.rowsIn hu1)
          replace H1 := Lib.hid (H1.out.below hB)
          replace HE := Lib.hid (below_step HE.out hB)
          replace HB := Lib.hid (below_step HB.out hB)
          clear hB
          have HP := Lib.hid hu1
          obtain ⟨AP, cP, rfl, -⟩ := hu1.form
          clear hu1
          go_wp2_with fail
          refine (c_spec_PairsFor).mono ?_
          rintro e v6 ⟨ua, vs, rfl, hu1, hB⟩
          rw [HPM.out] at hu1 ⊢
          replace hu1 := (show RowsIn v6 ua (pairsN P v P) from OwnRs.rowsIn hu1)
          replace H1 := Lib.hid (H1.out.below hB)
          replace HE := Lib.hid (below_step HE.out hB)
          replace HP := Lib.hid (HP.out.below hB)
          replace HB := Lib.hid (below_step HB.out hB)
          clear hB
          have HQ := Lib.hid hu1
          obtain ⟨AQ, cQ, rfl, -⟩ := hu1.form
          clear hu1
          have hpl : (pairsN (P : Int) v P).length ≤ 300 := by rw [HPL.out]; omega
          go_wp2_with fail
          refine (c_laws_sameLists HP.out HQ.out (by omega) HPR.out).mono ?_
          rintro e v7 ⟨rfl, hB⟩
          replace H1 := Lib.hid (H1.out.below hB)
          replace HE := Lib.hid (below_step HE.out hB)
          replace HP := Lib.hid (HP.out.below hB)
          replace HQ := Lib.hid (HQ.out.below hB)
          replace HB := Lib.hid (below_step HB.out hB)
          clear hB
          have hpe : (((pairsN (P : Int) v P).length : Int) != (P : Int)) = false := by rw [HPL.out]; simp
          go_wp2_with fail
          clear hpe
          obtain ⟨A9, c9, e9, -, -, hat⟩ := HQ.out.form
          injection e9 with e91 e92 e93
          subst e91
          have HAT := Lib.hid hat
          clear hat e92 e93
          go_loopw [119] (fun i wr => ∃ j : Nat, j ≤ P ∧ i = .int .i64 j ∧ Hid (Below v7.heap.size v7 wr)) (fun i _ => P - (intOf i).toNat)
          case atStart => exact ⟨0, Nat.zero_le _, rfl, Lib.hid (Below.refl _ _)⟩
          case round =>
            obtain ⟨j, hj, rfl, HX⟩ := hrel
            obtain ⟨wa, rfl⟩ : ∃ W, W = wr := ⟨wr, rfl⟩
            have hpl2 := HPL.out
            by_cases hlt : j < P
            · obtain ⟨b1, o1, A', r, c', rfl, hbl1, hrk, hcell1, hi⟩ := HAT.out j (by rw [HPL.out]; exact hlt)
              rw [pairsN_at hlt] at hrk
              injection hrk with hrk
              subst hrk
              obtain ⟨A2, c2, e2, -, -, hrd⟩ := hi.below HX.out
              injection e2 with e21 e22 e23
              subst e21
              obtain ⟨b2, o2, ea, hbl2, hrc⟩ := hrd (by simp)
              subst ea
              have r0 : wa.cell? ⟨b2, o2, none⟩ = some (.int .i64 (j : Int)) := by have := hrc 0 _ rfl; simpa using this
              have r1 : wa.cell? ⟨b2, o2 + 1, none⟩ = some (.int .i64 ((v - j) % (P : Int))) := hrc 1 _ rfl
              have f1 := (HX.out.cell (p := ⟨b1, o1 + j, none⟩) hbl1).trans hcell1
              have hj0 : (0 : Int) ≤ (j : Int) := Int.natCast_nonneg _
              have hj1 : (j : Int) < (P : Int) := by omega
              have hd := And.intro (Int.emod_nonneg (v - j) (show (P : Int) ≠ 0 by omega)) (Int.emod_lt_of_pos (v - j) (show (0 : Int) < P by omega))
              have HPS := Lib.hid (pair_sum (p := (P : Int)) (v := v) (x := (j : Int)) (by omega) ⟨hv0, hv1⟩)
              obtain ⟨D, hD⟩ : ∃ D, (v - (j : Int)) % (P : Int) = D := ⟨_, rfl⟩
              rw [hD] at r1 hd HPS
              clear hD
              have hww : IntKind.i64.wrap ((j : Int) + D) = (j : Int) + D := IntWalk.i64_in _ (by omega)
              have htm : ((((j : Int) + D).tmod (P : Int)) != v) = false := by rw [Int.tmod_eq_emod_of_nonneg (by omega), HPS.out]; simp
              have htm2 : ((((j : Int) + D) % (P : Int)) != v) = false := by rw [HPS.out]; simp
              have hp0 : ¬ (P : Int) = 0 := by omega
              have hp1 : ¬ P = 0 := by omega
              clear hcell1 hi e22 e23 hrd hrc HPS
              go_wp2_with fail
              go_region_held3 (fun w' => w'.cell? ⟨b2, o2, none⟩ = some (.int .i64 (j : Int)) ∧ w'.cell? ⟨b2, o2 + 1, none⟩ = some (.int .i64 D)) (exact ⟨r0, r1⟩) (fail)
              go_wp2
              go_roundw
              case rel => exact ⟨j + 1, by omega, by go_num, Lib.hid HX.out.drew⟩
              case measure => simp [intOf]; omega
            · go_wp2_with fail
              go_meet; exact Lib.hid (below_step HE.out HX.out)
      case rest =>
        obtain ⟨wm, hwm⟩ : ∃ W, wc = W := ⟨_, rfl⟩
        rw [hwm] at hcut ⊢
        clear hwm
        have hB := hcut.out
        clear hcut
        clear HSOME
        replace H1 := Lib.hid (H1.out.below hB)
        replace HB := Lib.hid (below_step HB.out hB)
        clear hB
        go_wp2_with fail
        refine (c_spec_DrawShiftShare H1.out).mono ?_
        rintro e v8 ⟨⟨q, t2, s, ul, a, rfl, hl, hul⟩, hB⟩
        replace H1 := Lib.hid (H1.out.below hB)
        replace HB := Lib.hid (below_step HB.out hB)
        clear hB
        have HL := Lib.hid hul
        obtain ⟨AL, cL, rfl, -⟩ := hul
        have hl41 := hl.1
        clear hl
        have hsl := shif_len q t2 s a
        obtain ⟨S2, hS⟩ : ∃ S, shifM q t2 a s = S := ⟨_, rfl⟩
        have CI := Lib.hid (fun (W : World) (h : Ints W (.slice AL a.length cL) a) => c_impl_ShiftShare (w := W) (p := q) (t := t2) (s := s) h (by omega))
        have CS := Lib.hid (fun (W : World) (h : Ints W (.slice AL a.length cL) a) => c_spec_ShiftShare (w := W) (p := q) (t := t2) (s := s) h (by omega))
        rw [hS] at CI CS hsl
        replace hS := Lib.hid hS
        go_wp2_with fail
        refine (CI.out _ HL.out).mono ?_
        rintro e v9 ⟨ua, rfl, hu1, hB⟩
        replace hu1 := (show Ints v9 ua (S2.getD []) from OwnI.ints hu1)
        replace H1 := Lib.hid (H1.out.below hB)
        replace HL := Lib.hid (HL.out.below hB)
        replace HB := Lib.hid (below_step HB.out hB)
        clear hB
        have HX1 := Lib.hid hu1
        obtain ⟨AX, cX, rfl, -⟩ := hu1
        go_wp2_with fail
        refine (CS.out _ HL.out).mono ?_
        rintro e v10 ⟨ua, rfl, hu1, hB⟩
        replace hu1 := (show Ints v10 ua (S2.getD []) from OwnI.ints hu1)
        replace H1 := Lib.hid (H1.out.below hB)
        replace HL := Lib.hid (HL.out.below hB)
        replace HX1 := Lib.hid (HX1.out.below hB)
        replace HB := Lib.hid (below_step HB.out hB)
        clear hB
        have HY1 := Lib.hid hu1
        obtain ⟨AY, cY, rfl, -⟩ := hu1
        go_wp2_with fail
        refine (c_laws_sameInts HX1.out HY1.out (by omega)).mono ?_
        rintro e v11 ⟨rfl, hB⟩
        replace H1 := Lib.hid (H1.out.below hB)
        replace HL := Lib.hid (HL.out.below hB)
        replace HX1 := Lib.hid (HX1.out.below hB)
        replace HY1 := Lib.hid (HY1.out.below hB)
        replace HB := Lib.hid (below_step HB.out hB)
        clear hB
        clear HX1 HY1
        clear CI CS
        go_upto_if 167 with fail
        go_cut [] (fun wx => Hid (Below v11.heap.size v11 wx))
        case first =>
          have HE := Lib.hid (Below.refl v11.heap.size v11)
          rcases S2 with _ | l
          · go_wp2_with fail
            go_meet; exact HE
          · obtain ⟨X0, X1, B, A, e1, e2, e3, e4, hAB, hB40, ha40, hX0, hX1, hqb, hAb, hBb, hsum⟩ := shift_law hS.out
            have E3 := Lib.hid e3
            have E4 := Lib.hid e4
            have K0 := Lib.hid (fun (W : World) (h : Ints W (.slice AL a.length cL) a) => c_impl_ShiftShare (w := W) (p := q) (t := 0) (s := s) h (by omega))
            have K1 := Lib.hid (fun (W : World) (h : Ints W (.slice AL a.length cL) a) => c_impl_ShiftShare (w := W) (p := q) (t := 1) (s := s) h (by omega))
            rw [e1] at K0
            rw [e2] at K1
            have HAB := Lib.hid hAB
            have HAb := Lib.hid hAb
            have HBb := Lib.hid hBb
            have HSUM := Lib.hid hsum
            have hA40 : A.length ≤ 40 := by omega
            clear e1 e2 e3 e4 hAB hAb hBb hsum hS hsl
            go_wp2_with fail
            refine (K0.out _ HL.out).mono ?_
            rintro e v12 ⟨ua, rfl, hu1, hB⟩
            replace hu1 := (show Ints v12 ua (X0) from OwnI.ints hu1)
            replace H1 := Lib.hid (H1.out.below hB)
            replace HL := Lib.hid (HL.out.below hB)
            replace HE := Lib.hid (below_step HE.out hB)
            replace HB := Lib.hid (below_step HB.out hB)
            clear hB
            have HM0 := Lib.hid hu1
            obtain ⟨AM0, cM0, rfl, -⟩ := hu1
            go_wp2_with fail
            refine (K1.out _ HL.out).mono ?_
            rintro e v13 ⟨ua, rfl, hu1, hB⟩
            replace hu1 := (show Ints v13 ua (X1) from OwnI.ints hu1)
            replace H1 := Lib.hid (H1.out.below hB)
            replace HL := Lib.hid (HL.out.below hB)
            replace HE := Lib.hid (below_step HE.out hB)
            replace HM0 := Lib.hid (HM0.out.below hB)
            replace HB := Lib.hid (below_step HB.out hB)
            clear hB
            have HM1 := Lib.hid hu1
            obtain ⟨AM1, cM1, rfl, -⟩ := hu1
            go_wp2_with fail
            refine (c_impl_JoinSum HL.out HL.out (by omega) (by omega)).mono ?_
            rintro e v14 ⟨ua, rfl, hu1, hB⟩
            rw [E3.out] at hu1 ⊢
            replace hu1 := (show Ints v14 ua (B) from OwnI.ints hu1)
            replace H1 := Lib.hid (H1.out.below hB)
            replace HL := Lib.hid (HL.out.below hB)
            replace HE := Lib.hid (below_step HE.out hB)
            replace HM0 := Lib.hid (HM0.out.below hB)
            replace HM1 := Lib.hid (HM1.out.below hB)
            replace HB := Lib.hid (below_step HB.out hB)
            clear hB
            have HMB := Lib.hid hu1
            obtain ⟨AMB, cMB, rfl, -⟩ := hu1
            go_wp2_with fail
            refine (c_impl_JoinSum HM0.out HM1.out (by omega) (by omega)).mono ?_
            rintro e v15 ⟨ua, rfl, hu1, hB⟩
            rw [E4.out] at hu1 ⊢
            replace hu1 := (show Ints v15 ua (A) from OwnI.ints hu1)
            replace H1 := Lib.hid (H1.out.below hB)
            replace HL := Lib.hid (HL.out.below hB)
            replace HE := Lib.hid (below_step HE.out hB)
            replace HM0 := Lib.hid (HM0.out.below hB)
            replace HM1 := Lib.hid (HM1.out.below hB)
            replace HMB := Lib.hid (HMB.out.below hB)
            replace HB := Lib.hid (below_step HB.out hB)
            clear hB
            have HMA := Lib.hid hu1
            obtain ⟨AMA, cMA, rfl, -⟩ := hu1
            clear HM0 HM1
            have hpe : ((B.length : Int) != (A.length : Int)) = false := by rw [HAB.out]; simp
            go_wp2_with fail
            clear hpe
            go_loopw [219] (fun i wr => ∃ j : Nat, j ≤ B.length ∧ i = .int .i64 j ∧ v15 = wr) (fun i _ => B.length - (intOf i).toNat)
            case atStart => exact ⟨0, Nat.zero_le _, rfl, rfl⟩
            case round =>
              obtain ⟨j, hj, rfl, rfl⟩ := hrel
              by_cases hlt : j < B.length
              · obtain ⟨b1, o1, y, rfl, hbl1, hyk, hcell1⟩ := HMB.out.rd.int_at hlt
                obtain ⟨b2, o2, z, rfl, hbl2, hzk, hcell2⟩ := HMA.out.rd.int_at (show j < A.length by rw [HAB.out]; exact hlt)
                have hs := HSUM.out j y z hyk hzk
                have hy := HBb.out y (List.mem_of_getElem? hyk)
                have hz := HAb.out z (List.mem_of_getElem? hzk)
                have HS := Lib.hid hs
                have hj0 : (0 : Int) ≤ (j : Int) := Int.natCast_nonneg _
                have hj2 : (j : Int) < (A.length : Int) := by have := HAB.out; omega
                clear hyk hzk hs
                go_wp2_with fail
                refine (c_laws_pMod (by omega) (by omega)).mono ?_
                rintro e w' ⟨rfl, rfl⟩
                rw [HS.out]
                go_wp2
                go_roundw
                case rel => exact ⟨j + 1, by omega, by go_num, trivial⟩
                case measure => simp [intOf]; omega
              · go_wp2_with fail
                go_meet; exact HE
        case rest =>
          obtain ⟨wn, hwm⟩ : ∃ W, wc = W := ⟨_, rfl⟩
          rw [hwm] at hcut ⊢
          clear hwm
          have hB := hcut.out
          clear hcut
          clear hsl hS
          clear HL
          replace H1 := Lib.hid (H1.out.below hB)
          replace HB := Lib.hid (below_step HB.out hB)
          clear hB
          go_wp2_with fail
          refine (c_spec_DrawScaleShare H1.out).mono ?_
          rintro e v16 ⟨⟨q2, s2, ul, a2, rfl, hl, hul⟩, hB⟩
          clear H1
          replace HB := Lib.hid (below_step HB.out hB)
          clear hB
          have HL := Lib.hid hul
          obtain ⟨AL2, cL2, rfl, -⟩ := hul
          have hl42 := hl.1
          clear hl
          have hsl := scal_len q2 s2 a2
          obtain ⟨S3, hS⟩ : ∃ S, scalM q2 a2 s2 = S := ⟨_, rfl⟩
          have CI := Lib.hid (fun (W : World) (h : Ints W (.slice AL2 a2.length cL2) a2) => c_impl_ScaleShare (w := W) (p := q2) (s := s2) h (by omega))
          have CS := Lib.hid (fun (W : World) (h : Ints W (.slice AL2 a2.length cL2) a2) => c_spec_ScaleShare (w := W) (p := q2) (s := s2) h (by omega))
          rw [hS] at CI CS hsl
          clear hS
          go_wp2_with fail
          refine (CI.out _ HL.out).mono ?_
          rintro e v17 ⟨ua, rfl, hu1, hB⟩
          replace hu1 := (show Ints v17 ua (S3.getD []) from OwnI.ints hu1)
          replace HL := Lib.hid (HL.out.below hB)
          replace HB := Lib.hid (below_step HB.out hB)
          clear hB
          have HX1 := Lib.hid hu1
          obtain ⟨AX, cX, rfl, -⟩ := hu1
          go_wp2_with fail
          refine (CS.out _ HL.out).mono ?_
          rintro e v18 ⟨ua, rfl, hu1, hB⟩
          replace hu1 := (show Ints v18 ua (S3.getD []) from OwnI.ints hu1)
          replace HL := Lib.hid (HL.out.below hB)
          replace HX1 := Lib.hid (HX1.out.below hB)
          replace HB := Lib.hid (below_step HB.out hB)
          clear hB
          have HY1 := Lib.hid hu1
          obtain ⟨AY, cY, rfl, -⟩ := hu1
          go_wp2_with fail
          refine (c_laws_sameInts HX1.out HY1.out (by omega)).mono ?_
          rintro e v19 ⟨rfl, hB⟩
          replace HL := Lib.hid (HL.out.below hB)
          replace HX1 := Lib.hid (HX1.out.below hB)
          replace HY1 := Lib.hid (HY1.out.below hB)
          replace HB := Lib.hid (below_step HB.out hB)
          clear hB
          go_wp2
          go_ret
          exact ⟨rfl, HB.out⟩
end Go.Proofs.Ytmccfdaaneemfaa

