/- The walk of the law FnColours: its Go text returns true for every input. No condition. -/
import Derived.Test.YtejeppjmlgfiaaaDrZ
import Derived.Test.YtejeppjmlgfiaaaLawC
import Derived.Test.YtejeppjmlgfiaaaShrM
import Derived.Test.YtejeppjmlgfiaaaInpL
import Derived.Test.YtejeppjmlgfiaaaLabF
import Derived.Test.YtejeppjmlgfiaaaColF
import Derived.Test.YtejeppjmlgfiaaaDrW
import Derived.Deep.DeepCutAuto
namespace Go.Proofs.Ytejeppjmlgfiaaa
open Go.RowKit
set_option linter.unusedVariables false
set_option maxRecDepth 100000 in
set_option maxHeartbeats 4000000 in
theorem w_FnColours (w : World) {cd1 cd2 : Value} {l1 l2 : List Int} (h0 : Byts w cd1 l1) (h1 : Byts w cd2 l2) : Calls Try.prog 4 #[cd1, cd2] w fun e w' => e = .returned (.bool true) ∧ Below w.heap.size w w' := by
  have H0 := Lib.hid h0
  have H1 := Lib.hid h1
  obtain ⟨A1, k1, rfl⟩ := h0.form
  obtain ⟨A2, k2, rfl⟩ := h1.form
  clear h0 h1
  have HB := Lib.hid (Below.refl w.heap.size w)
  go_enter Try.func4, Try.ntmps4
  go_wp2_with fail
  refine (c_laws_big H0.out H1.out).mono ?_
  rintro e w' ⟨⟨b0, rfl⟩, rfl⟩
  cases b0
  case true => go_wp2; go_ret; exact ⟨rfl, Below.refl _ _⟩
  go_wp2_with fail
  refine (c_spec_DrawInputLabels H0.out).mono ?_
  rintro e v1 ⟨⟨c, gv, ov, ua, ub, key, r, a, b, rfl, -, hla, hlb, hci, hua, hub⟩, hB⟩
  clear H0
  replace H1 := Lib.hid (H1.out.below hB)
  replace HB := Lib.hid (below_step HB.out hB)
  clear hB
  obtain ⟨Ag, cg, eg, -⟩ := hci.gates
  obtain ⟨Ao, co, eo, -⟩ := hci.outs
  subst eg eo
  have HCI := Lib.hid hci
  clear hci
  have HUA := Lib.hid hua
  obtain ⟨AA, cA, rfl, -⟩ := hua
  have HUB := Lib.hid hub
  obtain ⟨AB, cB, rfl, -⟩ := hub
  obtain ⟨v2, hv⟩ : ∃ W, v1.alloc (.cells #[.int .i64 c.i0, .int .i64 c.i1, .slice Ag c.gs.length cg, .slice Ao c.outs.length co] 26) = W := ⟨_, rfl⟩
  have hB : Below v1.heap.size v1 v2 := by rw [← hv]; exact (Below.refl _ _).alloc (Nat.le_refl _) _
  have HBX := Lib.hid (show Blk v2 v1.heap.size 26 #[.int .i64 c.i0, .int .i64 c.i1, .slice Ag c.gs.length cg, .slice Ao c.outs.length co] by rw [← hv]; exact Blk.new _ _ _)
  replace H1 := Lib.hid (H1.out.below hB)
  replace HCI := Lib.hid (HCI.out.below hB)
  replace HUA := Lib.hid (HUA.out.below hB)
  replace HUB := Lib.hid (HUB.out.below hB)
  replace HB := Lib.hid (below_step HB.out hB)
  clear hB
  obtain ⟨S, hS⟩ : ∃ S, inputM c key r a b = S := ⟨_, rfl⟩
  have hsl := input_len c key r a b
  have ci := (fun (W : World) (h : CirIn W (.slice Ag c.gs.length cg) (.slice Ao c.outs.length co) c) (h1 : Ints W (.slice AA a.length cA) a) (h2 : Ints W (.slice AB b.length cB) b) => c_impl_InputLabels (w := W) (key := key) (r := r) h h1 h2 (by omega) (by omega))
  have cs := (fun (W : World) (h : CirIn W (.slice Ag c.gs.length cg) (.slice Ao c.outs.length co) c) (h1 : Ints W (.slice AA a.length cA) a) (h2 : Ints W (.slice AB b.length cB) b) => c_spec_InputLabels (w := W) (key := key) (r := r) h h1 h2 (by omega) (by omega))
  rw [hS] at ci cs hsl
  unfold cirV at ci cs
  have CI := Lib.hid ci
  have CS := Lib.hid cs
  have HS := Lib.hid hS
  clear ci cs hS
  unfold cirV
  go_upto_region 4 with fail
  generalize v1.heap.size = bx at *
  clear hv
  have q0 := HBX.out.cell 0
  have q1 := HBX.out.cell 1
  have q2 := HBX.out.cell 2
  have q3 := HBX.out.cell 3
  go_wp2_with fail
  refine (CI.out _ HCI.out HUA.out HUB.out).mono ?_
  rintro e v3 ⟨ua, rfl, hu1, hB⟩
  replace hu1 := (show Ints v3 ua (S.getD []) from OwnI.ints hu1)
  replace H1 := Lib.hid (H1.out.below hB)
  replace HCI := Lib.hid (HCI.out.below hB)
  replace HUA := Lib.hid (HUA.out.below hB)
  replace HUB := Lib.hid (HUB.out.below hB)
  replace HBX := Lib.hid (HBX.out.step hB)
  replace HB := Lib.hid (below_step HB.out hB)
  clear hB
  have HL := Lib.hid hu1
  obtain ⟨AL, cL, rfl, -⟩ := hu1
  clear q0 q1 q2 q3
  have q0 := HBX.out.cell 0
  have q1 := HBX.out.cell 1
  have q2 := HBX.out.cell 2
  have q3 := HBX.out.cell 3
  go_wp2_with fail
  refine (CS.out _ HCI.out HUA.out HUB.out).mono ?_
  rintro e v4 ⟨ua, rfl, hu1, hB⟩
  replace hu1 := (show Ints v4 ua (S.getD []) from OwnI.ints hu1)
  clear q0 q1 q2 q3
  replace H1 := Lib.hid (H1.out.below hB)
  replace HCI := Lib.hid (HCI.out.below hB)
  replace HUA := Lib.hid (HUA.out.below hB)
  replace HUB := Lib.hid (HUB.out.below hB)
  replace HBX := Lib.hid (HBX.out.step hB)
  replace HL := Lib.hid (HL.out.below hB)
  replace HB := Lib.hid (below_step HB.out hB)
  clear hB
  have HW := Lib.hid hu1
  obtain ⟨AW, cW, rfl, -⟩ := hu1
  go_wp2_with fail
  refine (c_laws_sameInts HL.out HW.out (by omega)).mono ?_
  rintro e v5 ⟨rfl, hB⟩
  replace H1 := Lib.hid (H1.out.below hB)
  replace HCI := Lib.hid (HCI.out.below hB)
  replace HUA := Lib.hid (HUA.out.below hB)
  replace HUB := Lib.hid (HUB.out.below hB)
  replace HBX := Lib.hid (HBX.out.step hB)
  replace HL := Lib.hid (HL.out.below hB)
  replace HW := Lib.hid (HW.out.below hB)
  replace HB := Lib.hid (below_step HB.out hB)
  clear hB
  clear HL CI CS
  go_upto_if 72 with fail
  go_cut [] (fun wx => Hid (Below v5.heap.size v5 wx))
  case first =>
    have HE := Lib.hid (Below.refl v5.heap.size v5)
    rcases S with _ | l
    · go_wp2_with fail
      go_meet; exact HE
    · obtain ⟨e2, e3, e4⟩ := input_law HS.out
      obtain ⟨I, hIe⟩ : ∃ I, a ++ b = I := ⟨_, rfl⟩
      have hIl : a.length + b.length = I.length := by rw [← hIe]; simp
      rw [hIe] at e2 e3 e4
      have HIE := Lib.hid hIe
      have HW2 := Lib.hid (show Ints v5 (.slice AW l.length cW) l from HW.out)
      simp only [Option.isSome_some, Option.getD_some]
      have HE4 := Lib.hid e4
      have hal : a.length ≤ 40 := by omega
      have hbl : b.length ≤ 40 := by omega
      have hab : l.length ≤ I.length := by omega
      have hll : l.length ≤ 40 := by omega
      clear e2 e3 e4 HS HW hsl hIl hIe
      go_wp2_with (first
        | (at_builtin; refine wp_appAll (B := v5.heap.size) rfl rfl Try.underlying24 info_int rfl (own_empty 3 1 (Nat.le_refl _)) ((HUA.out.rd).alloc _) (List.length_map _) rfl rfl (ints_one a) (by unfold maxLen; omega) (by omega) (by simp) ?_; intro vA wA hoA hgA hfA; have HOA := Lib.hid hoA; have hBA : Below v5.heap.size v5 wA := ((Below.refl _ _).alloc (Nat.le_refl _) _).grown hgA (by simp) (by intro k hk; simp [Value.ownBlock] at hk; omega); have HBA := Lib.hid hBA; have HRB := Lib.hid ((HUB.out.below hBA).rd); have hsA := hBA.size; clear hoA hgA hfA hBA)
        | (at_builtin; refine wp_appAll (B := v5.heap.size) rfl rfl Try.underlying24 info_int rfl HOA.out HRB.out (List.length_map _) rfl rfl (ints_one b) (by unfold maxLen; omega) (by omega) hsA ?_; intro vI wI hoI hgI hfI; have HOI := Lib.hid hoI; have HBI := Lib.hid (HBA.out.grown hgI hsA (fun k hk => own_ge HOA.out k hk)); clear hoI hgI hfI))
      have hI : OwnI wI v5.heap.size vI I := by
        have h9 := HOI.out
        simp only [Nat.zero_add, List.nil_append] at h9
        rw [← HIE.out]
        exact OwnI.app h9
      have HIN := Lib.hid hI.ints
      obtain ⟨AI, cI, eI, -⟩ := hI.ints
      subst eI
      replace HW2 := Lib.hid (HW2.out.below HBI.out)
      clear HOA HOI HRB HBA hsA hI HUA HUB
      go_loopw [80] (fun i wr => ∃ k : Nat, k ≤ l.length ∧ i = .int .i64 k ∧ Hid (Below wI.heap.size wI wr)) (fun i _ => l.length - (intOf i).toNat)
      case atStart => exact ⟨0, Nat.zero_le _, rfl, Lib.hid (Below.refl _ _)⟩
      case round =>
        obtain ⟨k, hk, rfl, HX⟩ := hrel
        obtain ⟨wb, rfl⟩ : ∃ W, W = wr := ⟨wr, rfl⟩
        by_cases hlt : k < l.length
        · obtain ⟨b1, o1, y, rfl, hbl1, hyk, hcell1⟩ := (HW2.out.below HX.out).rd.int_at hlt
          obtain ⟨b2, o2, q, eq2, hbl2, hqk, hcell2⟩ := (HIN.out.below HX.out).rd.int_at (show k < I.length by omega)
          obtain ⟨hq01, hzk, hbk⟩ := HE4.out k q y hqk hyk
          have cz := (fun W : World => c_impl_ZeroLabel (k := key) (n := (k : Int)) (w := W))
          rw [hzk] at cz
          generalize digM [key, (k : Int), 13, 0] = z at *
          have cb := (fun W : World => c_impl_BitOf (z := z) (r := r) (l := y) (w := W))
          rw [hbk] at cb
          simp only [oV, oB, Option.getD_some, Option.isSome_some] at cb cz
          have CZ := Lib.hid cz
          have CB := Lib.hid cb
          have HC2 := Lib.hid hcell2
          subst eq2
          have hk0 : (0 : Int) ≤ (k : Int) := Int.natCast_nonneg _
          have hk1 : (k : Int) < (l.length : Int) := by omega
          have hk2 : (k : Int) < (I.length : Int) := by omega
          clear hyk hqk hzk hbk cz cb hcell2 hq01
          go_wp2_with fail
          refine (CZ.out _).mono ?_
          rintro e wz ⟨rfl, hB⟩
          have c2 := (hB.cell (p := ⟨b2, o2 + k, none⟩) hbl2).trans HC2.out
          have HX2 := Lib.hid (below_step HX.out hB)
          clear hB hcell1
          go_wp2_with fail
          refine (CB.out _).mono ?_
          rintro e w' ⟨rfl, rfl⟩
          go_wp2
          go_roundw
          case rel => exact ⟨k + 1, by omega, by go_num, HX2⟩
          case measure => simp [intOf]; omega
        · go_wp2_with fail
          go_meet; exact Lib.hid (below_step HBI.out HX.out)
  case rest =>
    obtain ⟨wm, hwm⟩ : ∃ W, wc = W := ⟨_, rfl⟩
    rw [hwm] at hcut ⊢
    clear hwm
    have hB := hcut.out
    clear hcut
    clear hsl HS HCI HUA HUB HBX HW
    replace H1 := Lib.hid (H1.out.below hB)
    replace HB := Lib.hid (below_step HB.out hB)
    clear hB
    go_wp2_with fail
    refine (c_spec_DrawHiddenBits H1.out).mono ?_
    rintro e v6 ⟨⟨uz, uc, z, d, rfl, hlz, hld, huz, huc⟩, hB⟩
    replace H1 := Lib.hid (H1.out.below hB)
    replace HB := Lib.hid (below_step HB.out hB)
    clear hB
    have HZ := Lib.hid huz
    obtain ⟨AZ, cZ, rfl, -⟩ := huz
    have HD := Lib.hid huc
    obtain ⟨AD, cD, rfl, -⟩ := huc
    have hhl := hidden_len z d
    obtain ⟨H, hH⟩ : ∃ S, hiddenM z d = S := ⟨_, rfl⟩
    have ci := (fun (W : World) (h1 : Ints W (.slice AZ z.length cZ) z) (h2 : Ints W (.slice AD d.length cD) d) => c_impl_HiddenBits (w := W) h1 h2 (by omega) (by omega))
    have cs := (fun (W : World) (h1 : Ints W (.slice AZ z.length cZ) z) (h2 : Ints W (.slice AD d.length cD) d) => c_spec_HiddenBits (w := W) h1 h2 (by omega) (by omega))
    rw [hH] at ci cs hhl
    have CI := Lib.hid ci
    have CS := Lib.hid cs
    have HH := Lib.hid hH
    clear ci cs hH
    go_wp2_with fail
    refine (CI.out _ HZ.out HD.out).mono ?_
    rintro e v7 ⟨ua, rfl, hu1, hB⟩
    replace hu1 := (show Ints v7 ua (H.getD []) from OwnI.ints hu1)
    replace H1 := Lib.hid (H1.out.below hB)
    replace HZ := Lib.hid (HZ.out.below hB)
    replace HD := Lib.hid (HD.out.below hB)
    replace HB := Lib.hid (below_step HB.out hB)
    clear hB
    have HP := Lib.hid hu1
    obtain ⟨AP, cP, rfl, -⟩ := hu1
    go_wp2_with fail
    refine (CS.out _ HZ.out HD.out).mono ?_
    rintro e v8 ⟨ua, rfl, hu1, hB⟩
    replace hu1 := (show Ints v8 ua (H.getD []) from OwnI.ints hu1)
    replace H1 := Lib.hid (H1.out.below hB)
    replace HZ := Lib.hid (HZ.out.below hB)
    replace HD := Lib.hid (HD.out.below hB)
    replace HP := Lib.hid (HP.out.below hB)
    replace HB := Lib.hid (below_step HB.out hB)
    clear hB
    have HQ := Lib.hid hu1
    obtain ⟨AQ, cQ, rfl, -⟩ := hu1
    go_wp2_with fail
    refine (c_laws_sameInts HP.out HQ.out (by omega)).mono ?_
    rintro e v9 ⟨rfl, hB⟩
    replace H1 := Lib.hid (H1.out.below hB)
    replace HZ := Lib.hid (HZ.out.below hB)
    replace HD := Lib.hid (HD.out.below hB)
    replace HP := Lib.hid (HP.out.below hB)
    replace HQ := Lib.hid (HQ.out.below hB)
    replace HB := Lib.hid (below_step HB.out hB)
    clear hB
    clear HQ CI CS
    go_upto_if 139 with fail
    go_cut [] (fun wx => Hid (Below v9.heap.size v9 wx))
    case first =>
      have HE := Lib.hid (Below.refl v9.heap.size v9)
      rcases H with _ | h
      · go_wp2_with fail
        go_meet; exact HE
      · obtain ⟨e1, h2, h3, h4⟩ := hidden_law HH.out
        have HP2 := Lib.hid (show Ints v9 (.slice AP h.length cP) h from HP.out)
        have ci := (fun (W : World) (h1 : Ints W (.slice AZ z.length cZ) z) (h2 : Ints W (.slice AP h.length cP) h) => c_impl_HiddenBits (w := W) h1 h2 (by omega) (by omega))
        rw [e1] at ci
        have CI := Lib.hid ci
        simp only [Option.isSome_some, Option.getD_some]
        clear ci e1 HP
        go_wp2_with fail
        refine (CI.out _ HZ.out HP2.out).mono ?_
        rintro e v10 ⟨ua, rfl, hu1, hB⟩
        replace hu1 := (show Ints v10 ua (d) from OwnI.ints hu1)
        replace H1 := Lib.hid (H1.out.below hB)
        replace HZ := Lib.hid (HZ.out.below hB)
        replace HD := Lib.hid (HD.out.below hB)
        replace HP2 := Lib.hid (HP2.out.below hB)
        replace HE := Lib.hid (below_step HE.out hB)
        replace HB := Lib.hid (below_step HB.out hB)
        clear hB
        have HR := Lib.hid hu1
        obtain ⟨AR, cR, rfl, -⟩ := hu1
        go_wp2_with fail
        refine (c_laws_sameInts HR.out HD.out (by omega)).mono ?_
        rintro e v11 ⟨rfl, hB⟩
        replace H1 := Lib.hid (H1.out.below hB)
        replace HZ := Lib.hid (HZ.out.below hB)
        replace HD := Lib.hid (HD.out.below hB)
        replace HP2 := Lib.hid (HP2.out.below hB)
        replace HR := Lib.hid (HR.out.below hB)
        replace HE := Lib.hid (below_step HE.out hB)
        replace HB := Lib.hid (below_step HB.out hB)
        clear hB
        go_wp2_with fail
        go_meet; exact HE
    case rest =>
      obtain ⟨wn, hwm⟩ : ∃ W, wc = W := ⟨_, rfl⟩
      rw [hwm] at hcut ⊢
      clear hwm
      have hB := hcut.out
      clear hcut
      clear hhl HH HZ HD HP
      replace H1 := Lib.hid (H1.out.below hB)
      replace HB := Lib.hid (below_step HB.out hB)
      clear hB
      go_wp2_with fail
      refine (c_spec_DrawColoursOf H1.out).mono ?_
      rintro e v12 ⟨⟨um, m, rfl, hlm, hum⟩, hB⟩
      clear H1
      replace HB := Lib.hid (below_step HB.out hB)
      clear hB
      have HM := Lib.hid hum
      obtain ⟨AM, cM, rfl, -⟩ := hum
      have hkl := colours_len m
      obtain ⟨K, hK⟩ : ∃ S, coloursOfM m = S := ⟨_, rfl⟩
      have ci := (fun (W : World) (h1 : Ints W (.slice AM m.length cM) m) => c_impl_ColoursOf (w := W) h1 (by omega))
      have cs := (fun (W : World) (h1 : Ints W (.slice AM m.length cM) m) => c_spec_ColoursOf (w := W) h1 (by omega))
      rw [hK] at ci cs hkl
      have CI := Lib.hid ci
      have CS := Lib.hid cs
      clear ci cs hK
      go_wp2_with fail
      refine (CI.out _ HM.out).mono ?_
      rintro e v13 ⟨ua, rfl, hu1, hB⟩
      replace hu1 := (show Ints v13 ua (K.getD []) from OwnI.ints hu1)
      replace HM := Lib.hid (HM.out.below hB)
      replace HB := Lib.hid (below_step HB.out hB)
      clear hB
      have HP := Lib.hid hu1
      obtain ⟨AP, cP, rfl, -⟩ := hu1
      go_wp2_with fail
      refine (CS.out _ HM.out).mono ?_
      rintro e v14 ⟨ua, rfl, hu1, hB⟩
      replace hu1 := (show Ints v14 ua (K.getD []) from OwnI.ints hu1)
      replace HM := Lib.hid (HM.out.below hB)
      replace HP := Lib.hid (HP.out.below hB)
      replace HB := Lib.hid (below_step HB.out hB)
      clear hB
      have HQ := Lib.hid hu1
      obtain ⟨AQ, cQ, rfl, -⟩ := hu1
      go_wp2_with fail
      refine (c_laws_sameInts HP.out HQ.out (by omega)).mono ?_
      rintro e v15 ⟨rfl, hB⟩
      replace HM := Lib.hid (HM.out.below hB)
      replace HP := Lib.hid (HP.out.below hB)
      replace HQ := Lib.hid (HQ.out.below hB)
      replace HB := Lib.hid (below_step HB.out hB)
      clear hB
      go_wp2
      go_ret
      exact ⟨rfl, HB.out⟩
end Go.Proofs.Ytejeppjmlgfiaaa
