/- The walk of the law FnBentRows: its Go text returns true for every input. No condition. -/
import Derived.Test.YtejeppjmlgfiaaaGreatGa5
import Derived.Test.YtejeppjmlgfiaaaGreatGa1
import Derived.Test.YtejeppjmlgfiaaaGreatGa3
import Derived.Test.YtejeppjmlgfiaaaGreatCirH
import Derived.Test.YtejeppjmlgfiaaaGreatGa8
import Derived.Test.YtejeppjmlgfiaaaGreatGa4
import Derived.Deep.DeepCutAuto
namespace Go.Proofs.YtejeppjmlgfiaaaGreat
open Go.RowKit
set_option linter.unusedVariables false

set_option maxRecDepth 100000 in
set_option maxHeartbeats 16000000 in
theorem w_FnBentRows (w : World) {cd1 cd2 : Value} {l1 l2 : List Int} (h0 : Byts w cd1 l1) (h1 : Byts w cd2 l2) : Calls Tryz.prog 5 #[cd1, cd2] w fun e w' => e = .returned (.bool true) ∧ Below w.heap.size w w' := by
  have H0 := Lib.hid h0
  have H1 := Lib.hid h1
  obtain ⟨A1, k1, rfl⟩ := h0.form
  obtain ⟨A2, k2, rfl⟩ := h1.form
  clear h0 h1
  have HB := Lib.hid (Below.refl w.heap.size w)
  go_enter Tryz.func5, Tryz.ntmps5
  go_wp2_with fail
  refine (c_laws_big H0.out H1.out).mono ?_
  rintro e w' ⟨⟨b0, rfl⟩, rfl⟩
  cases b0
  case true => go_wp2; go_ret; exact ⟨rfl, Below.refl _ _⟩
  go_wp2_with fail
  refine (c_spec_DrawOpenedRows H0.out).mono ?_
  intro e v1 hpost
  refine Shut.out ?_
  obtain ⟨⟨c, gv, ov, ua, ub, key, off, a, b, rfl, -, hla, hlb, hci, hua, hub⟩, hB⟩ := hpost
  clear H0
  replace H1 := Lib.hid (H1.out.below hB)
  replace HB := Lib.hid (below_step HB.out hB)
  clear hB
  have HCI := Lib.hid hci
  have HUA := Lib.hid hua
  have HUB := Lib.hid hub
  obtain ⟨AA, cA, rfl, -⟩ := hua
  obtain ⟨AB, cB, rfl, -⟩ := hub
  clear hci
  obtain ⟨Ag, cg, eg, -⟩ := HCI.out.gates
  obtain ⟨Ao, co, eo, -⟩ := HCI.out.outs
  subst eg eo
  refine Shut.mk ?_
  unfold cirV
  refine Shut.out ?_
  obtain ⟨v2, hv⟩ : ∃ W, v1.alloc (.cells #[.int .i64 c.i0, .int .i64 c.i1, .slice Ag c.gs.length cg, .slice Ao c.outs.length co] 26) = W := ⟨_, rfl⟩
  have hB : Below v1.heap.size v1 v2 := by rw [← hv]; exact (Below.refl _ _).alloc (Nat.le_refl _) _
  have HX := Lib.hid (show Blk v2 v1.heap.size 26 #[.int .i64 c.i0, .int .i64 c.i1, .slice Ag c.gs.length cg, .slice Ao c.outs.length co] by rw [← hv]; exact Blk.new _ _ _)
  replace H1 := Lib.hid (H1.out.below hB)
  replace HB := Lib.hid (below_step HB.out hB)
  replace HCI := Lib.hid (HCI.out.below hB)
  replace HUA := Lib.hid (HUA.out.below hB)
  replace HUB := Lib.hid (HUB.out.below hB)
  clear hB
  refine Shut.mk ?_
  go_upto_region 4 with fail
  clear hv
  refine Shut.out ?_
  obtain ⟨bx, hg⟩ : ∃ n, v1.heap.size = n := ⟨_, rfl⟩
  rw [hg] at HX ⊢
  clear hg
  obtain ⟨R, hR⟩ : ∃ S, opensM c key off a b = S := ⟨_, rfl⟩
  have hrl := opens_len c key off a b
  have i1 := (fun (W : World) (h : CirIn W (.slice Ag c.gs.length cg) (.slice Ao c.outs.length co) c) (h1 : Ints W (.slice AA a.length cA) a) (h2 : Ints W (.slice AB b.length cB) b) => c_impl_OpenedRows (w := W) (key := key) (off := off) h h1 h2 (by omega) (by omega))
  have i2 := (fun (W : World) (h : CirIn W (.slice Ag c.gs.length cg) (.slice Ao c.outs.length co) c) (h1 : Ints W (.slice AA a.length cA) a) (h2 : Ints W (.slice AB b.length cB) b) => c_spec_OpenedRows (w := W) (key := key) (off := off) h h1 h2 (by omega) (by omega))
  rw [hR] at i1 i2 hrl
  unfold cirV at i1 i2
  have C1 := Lib.hid i1
  have C2 := Lib.hid i2
  have HR := Lib.hid hR
  clear i1 i2 hR
  have q0 := HX.out.cell 0
  have q1 := HX.out.cell 1
  have q2 := HX.out.cell 2
  have q3 := HX.out.cell 3
  refine Shut.mk ?_
  go_wp2_with fail
  clear q0 q1 q2 q3
  refine (C1.out _ HCI.out HUA.out HUB.out).mono ?_
  intro e v3 hpost
  refine Shut.out ?_
  obtain ⟨uL, rfl, huL, hB⟩ := hpost
  replace H1 := Lib.hid (H1.out.below hB)
  replace HB := Lib.hid (below_step HB.out hB)
  replace HCI := Lib.hid (HCI.out.below hB)
  replace HUA := Lib.hid (HUA.out.below hB)
  replace HUB := Lib.hid (HUB.out.below hB)
  replace HX := Lib.hid (HX.out.step hB)
  clear hB
  have HL := Lib.hid (show Ints v3 uL (R.getD []) from OwnI.ints huL)
  clear huL
  obtain ⟨AL, cL, eL, -⟩ := HL.out
  subst eL
  have q0 := HX.out.cell 0
  have q1 := HX.out.cell 1
  have q2 := HX.out.cell 2
  have q3 := HX.out.cell 3
  refine Shut.mk ?_
  go_wp2_with fail
  clear q0 q1 q2 q3
  refine (C2.out _ HCI.out HUA.out HUB.out).mono ?_
  intro e v4 hpost
  refine Shut.out ?_
  obtain ⟨uW, rfl, huW, hB⟩ := hpost
  replace H1 := Lib.hid (H1.out.below hB)
  replace HB := Lib.hid (below_step HB.out hB)
  replace HCI := Lib.hid (HCI.out.below hB)
  replace HUA := Lib.hid (HUA.out.below hB)
  replace HUB := Lib.hid (HUB.out.below hB)
  replace HX := Lib.hid (HX.out.step hB)
  replace HL := Lib.hid (HL.out.below hB)
  clear hB
  have HW := Lib.hid (show Ints v4 uW (R.getD []) from OwnI.ints huW)
  clear huW
  obtain ⟨AW, cW, eW, -⟩ := HW.out
  subst eW
  clear C1 C2
  refine Shut.mk ?_
  go_wp2_with fail
  refine (c_laws_sameInts HL.out HW.out (by omega)).mono ?_
  intro e v5 hpost
  refine Shut.out ?_
  obtain ⟨rfl, hB⟩ := hpost
  replace H1 := Lib.hid (H1.out.below hB)
  replace HB := Lib.hid (below_step HB.out hB)
  replace HCI := Lib.hid (HCI.out.below hB)
  replace HUA := Lib.hid (HUA.out.below hB)
  replace HUB := Lib.hid (HUB.out.below hB)
  replace HX := Lib.hid (HX.out.step hB)
  replace HL := Lib.hid (HL.out.below hB)
  replace HW := Lib.hid (HW.out.below hB)
  clear hB
  clear HL
  refine Shut.mk ?_
  go_upto_region 8 with fail
  go_cut [101] (fun s wx => s = .bool (R.isSome && decide (0 < ((R.getD []).length : Int))) ∧ Hid (Below v5.heap.size v5 wx))
  case first =>
    as_aux_lemma =>
      have HZ := Lib.hid (Below.refl v5.heap.size v5)
      refine Shut.out ?_
      rcases R with _ | us
      · refine Shut.mk ?_
        go_wp2_with fail
        go_meet; exact ⟨rfl, HZ⟩
      · refine Shut.mk ?_
        rw [show (some us).isSome = true from rfl, show (some us).getD [] = us from rfl]
        go_wp2_with fail
        all_goals (go_meet; exact ⟨by first | rfl | (simp; done) | simp_all, HZ⟩)
  case rest =>
    refine Shut.out ?_
    obtain ⟨rfl, hcut2⟩ := hcut
    obtain ⟨wm, hwm⟩ : ∃ W, wc = W := ⟨_, rfl⟩
    rw [hwm] at hcut2 ⊢
    clear hwm
    have hB := hcut2.out
    clear hcut2
    replace H1 := Lib.hid (H1.out.below hB)
    replace HB := Lib.hid (below_step HB.out hB)
    replace HCI := Lib.hid (HCI.out.below hB)
    replace HUA := Lib.hid (HUA.out.below hB)
    replace HUB := Lib.hid (HUB.out.below hB)
    replace HX := Lib.hid (HX.out.step hB)
    replace HW := Lib.hid (HW.out.below hB)
    clear hB
    refine Shut.mk ?_
    go_upto_if 101 with fail
    go_cut [] (fun wx => Hid (Below wm.heap.size wm wx))
    case first =>
      as_aux_lemma =>
        have HZ := Lib.hid (Below.refl wm.heap.size wm)
        refine Shut.out ?_
        rcases R with _ | us
        · refine Shut.mk ?_
          rw [show (none : Option (List Int)).isSome = false from rfl, Bool.false_and]
          go_wp2_with fail
          go_meet; exact HZ
        rcases Nat.eq_zero_or_pos us.length with hu0 | hu0
        · refine Shut.mk ?_
          rw [show (some us).isSome = true from rfl, show (some us).getD [] = us from rfl, Bool.true_and, decide_eq_false (by omega)]
          clear hu0
          go_wp2_with fail
          go_meet; exact HZ
        have hus : us.length ≤ 300 := hrl
        obtain ⟨kk, hkk⟩ : ∃ n, l2.length % us.length = n := ⟨_, rfl⟩
        have hkl : kk < us.length := by rw [← hkk]; exact Nat.mod_lt _ hu0
        obtain ⟨row, hrow⟩ : ∃ n : Int, 1 + (l1.length : Int) % 3 = n := ⟨_, rfl⟩
        have hrw : 1 ≤ row ∧ row ≤ 3 := by omega
        obtain ⟨P, hp⟩ := br_pack HR.out (by omega) (by omega) hkl hrw
        have HP := Lib.hid hp
        have hxl2 := hp.hxl
        have hil2 := hp.hil
        have hts2 := hp.hts
        have hkI : (l2.length : Int) % (us.length : Int) = (kk : Int) := by rw [← hkk]; omega
        replace HW := Lib.hid (show Ints wm (.slice AW us.length cW) us from HW.out)
        have HKR := Lib.hid (And.intro hkI hrow)
        have hz0 : ¬ (us.length : Int) = 0 := by omega
        refine Shut.mk ?_
        rw [show (some us).isSome = true from rfl, show (some us).getD [] = us from rfl, Bool.true_and, decide_eq_true (by omega)]
        clear HR hrl hp hu0 hkk hkI hrow
        have q0 := HX.out.cell 0
        have q1 := HX.out.cell 1
        have q2 := HX.out.cell 2
        have q3 := HX.out.cell 3
        go_wp2_with fail
        clear q0 q1 q2 q3
        refine (HP.out.c2 HCI.out).mono ?_
        intro e v6 hpost
        refine Shut.out ?_
        obtain ⟨rvG, nvG, cvG, vsG, rfl, htG, hB⟩ := hpost
        replace H1 := Lib.hid (H1.out.below hB)
        replace HB := Lib.hid (below_step HB.out hB)
        replace HCI := Lib.hid (HCI.out.below hB)
        replace HUA := Lib.hid (HUA.out.below hB)
        replace HUB := Lib.hid (HUB.out.below hB)
        replace HX := Lib.hid (HX.out.step hB)
        replace HW := Lib.hid (HW.out.below hB)
        replace HZ := Lib.hid (below_step HZ.out hB)
        clear hB
        have HG := Lib.hid (show GbIn v6 rvG nvG cvG (P.t) from OwnGb.gbIn htG)
        clear htG
        obtain ⟨AGr, cGr, er, -⟩ := HG.out.rows.form
        obtain ⟨AGn, cGn, en, -⟩ := HG.out.ones
        obtain ⟨AGc, cGc, ec, -⟩ := HG.out.cols
        subst er en ec
        refine Shut.mk ?_
        unfold gbV
        refine Shut.out ?_
        obtain ⟨v7, hv⟩ : ∃ W, v6.alloc (.cells #[.slice AGr (P.t).rows.length cGr, .slice AGn (P.t).ones.length cGn, .slice AGc (P.t).cols.length cGc] 50) = W := ⟨_, rfl⟩
        have hB : Below v6.heap.size v6 v7 := by rw [← hv]; exact (Below.refl _ _).alloc (Nat.le_refl _) _
        have HGX := Lib.hid (show Blk v7 v6.heap.size 50 #[.slice AGr (P.t).rows.length cGr, .slice AGn (P.t).ones.length cGn, .slice AGc (P.t).cols.length cGc] by rw [← hv]; exact Blk.new _ _ _)
        replace H1 := Lib.hid (H1.out.below hB)
        replace HB := Lib.hid (below_step HB.out hB)
        replace HCI := Lib.hid (HCI.out.below hB)
        replace HUA := Lib.hid (HUA.out.below hB)
        replace HUB := Lib.hid (HUB.out.below hB)
        replace HX := Lib.hid (HX.out.step hB)
        replace HW := Lib.hid (HW.out.below hB)
        replace HZ := Lib.hid (below_step HZ.out hB)
        replace HG := Lib.hid (HG.out.below hB)
        clear hB
        refine Shut.mk ?_
        go_upto_region 10 with fail
        clear hv
        refine Shut.out ?_
        obtain ⟨bg, hg⟩ : ∃ n, v6.heap.size = n := ⟨_, rfl⟩
        rw [hg] at HGX ⊢
        clear hg
        have q0 := HX.out.cell 0
        have q1 := HX.out.cell 1
        have q2 := HX.out.cell 2
        have q3 := HX.out.cell 3
        refine Shut.mk ?_
        go_wp2_with fail
        clear q0 q1 q2 q3
        refine (HP.out.c3 HCI.out HUA.out HUB.out).mono ?_
        intro e v8 hpost
        refine Shut.out ?_
        obtain ⟨uI, rfl, huI, hB⟩ := hpost
        replace H1 := Lib.hid (H1.out.below hB)
        replace HB := Lib.hid (below_step HB.out hB)
        replace HCI := Lib.hid (HCI.out.below hB)
        replace HUA := Lib.hid (HUA.out.below hB)
        replace HUB := Lib.hid (HUB.out.below hB)
        replace HX := Lib.hid (HX.out.step hB)
        replace HW := Lib.hid (HW.out.below hB)
        replace HZ := Lib.hid (below_step HZ.out hB)
        replace HG := Lib.hid (HG.out.below hB)
        replace HGX := Lib.hid (HGX.out.step hB)
        clear hB
        have HI := Lib.hid (show Ints v8 uI (P.inp) from OwnI.ints huI)
        clear huI
        obtain ⟨AI, cI, eI, -⟩ := HI.out
        subst eI
        refine Shut.mk ?_
        go_upto_region 13 with fail
        obtain ⟨hkI, hrI⟩ := HKR.out
        simp only [hkI, hrI]
        clear hkI hrI HKR
        have q0 := HX.out.cell 0
        have q1 := HX.out.cell 1
        have q2 := HX.out.cell 2
        have q3 := HX.out.cell 3
        have z0 := HGX.out.cell 0
        have z1 := HGX.out.cell 1
        have z2 := HGX.out.cell 2
        go_wp2_with fail
        clear q0 q1 q2 q3
        clear z0 z1 z2
        refine (HP.out.c4 HCI.out HG.out).mono ?_
        intro e v9 hpost
        refine Shut.out ?_
        obtain ⟨rvT, nvT, cvT, vsT, rfl, htT, hB⟩ := hpost
        replace H1 := Lib.hid (H1.out.below hB)
        replace HB := Lib.hid (below_step HB.out hB)
        replace HCI := Lib.hid (HCI.out.below hB)
        replace HUA := Lib.hid (HUA.out.below hB)
        replace HUB := Lib.hid (HUB.out.below hB)
        replace HX := Lib.hid (HX.out.step hB)
        replace HW := Lib.hid (HW.out.below hB)
        replace HZ := Lib.hid (below_step HZ.out hB)
        replace HG := Lib.hid (HG.out.below hB)
        replace HGX := Lib.hid (HGX.out.step hB)
        replace HI := Lib.hid (HI.out.below hB)
        clear hB
        have HT := Lib.hid (show GbIn v9 rvT nvT cvT (P.t2) from OwnGb.gbIn htT)
        clear htT
        obtain ⟨ATr, cTr, er, -⟩ := HT.out.rows.form
        obtain ⟨ATn, cTn, en, -⟩ := HT.out.ones
        obtain ⟨ATc, cTc, ec, -⟩ := HT.out.cols
        subst er en ec
        refine Shut.mk ?_
        unfold gbV
        refine Shut.out ?_
        obtain ⟨v10, hv⟩ : ∃ W, v9.alloc (.cells #[.slice ATr (P.t2).rows.length cTr, .slice ATn (P.t2).ones.length cTn, .slice ATc (P.t2).cols.length cTc] 50) = W := ⟨_, rfl⟩
        have hB : Below v9.heap.size v9 v10 := by rw [← hv]; exact (Below.refl _ _).alloc (Nat.le_refl _) _
        have HTX := Lib.hid (show Blk v10 v9.heap.size 50 #[.slice ATr (P.t2).rows.length cTr, .slice ATn (P.t2).ones.length cTn, .slice ATc (P.t2).cols.length cTc] by rw [← hv]; exact Blk.new _ _ _)
        replace H1 := Lib.hid (H1.out.below hB)
        replace HB := Lib.hid (below_step HB.out hB)
        replace HCI := Lib.hid (HCI.out.below hB)
        replace HUA := Lib.hid (HUA.out.below hB)
        replace HUB := Lib.hid (HUB.out.below hB)
        replace HX := Lib.hid (HX.out.step hB)
        replace HW := Lib.hid (HW.out.below hB)
        replace HZ := Lib.hid (below_step HZ.out hB)
        replace HG := Lib.hid (HG.out.below hB)
        replace HGX := Lib.hid (HGX.out.step hB)
        replace HI := Lib.hid (HI.out.below hB)
        replace HT := Lib.hid (HT.out.below hB)
        clear hB
        refine Shut.mk ?_
        go_upto_region 14 with fail
        clear hv
        refine Shut.out ?_
        obtain ⟨bt, hg⟩ : ∃ n, v9.heap.size = n := ⟨_, rfl⟩
        rw [hg] at HTX ⊢
        clear hg
        have q0 := HX.out.cell 0
        have q1 := HX.out.cell 1
        have q2 := HX.out.cell 2
        have q3 := HX.out.cell 3
        have z0 := HGX.out.cell 0
        have z1 := HGX.out.cell 1
        have z2 := HGX.out.cell 2
        refine Shut.mk ?_
        go_wp2_with fail
        clear q0 q1 q2 q3
        clear z0 z1 z2
        refine (HP.out.c5 HCI.out HG.out HI.out).mono ?_
        intro e v11 hpost
        refine Shut.out ?_
        obtain ⟨uS, rfl, huS, hB⟩ := hpost
        replace H1 := Lib.hid (H1.out.below hB)
        replace HB := Lib.hid (below_step HB.out hB)
        replace HCI := Lib.hid (HCI.out.below hB)
        replace HUA := Lib.hid (HUA.out.below hB)
        replace HUB := Lib.hid (HUB.out.below hB)
        replace HX := Lib.hid (HX.out.step hB)
        replace HW := Lib.hid (HW.out.below hB)
        replace HZ := Lib.hid (below_step HZ.out hB)
        replace HG := Lib.hid (HG.out.below hB)
        replace HGX := Lib.hid (HGX.out.step hB)
        replace HI := Lib.hid (HI.out.below hB)
        replace HT := Lib.hid (HT.out.below hB)
        replace HTX := Lib.hid (HTX.out.step hB)
        clear hB
        have HS := Lib.hid (show Ints v11 uS (P.xs) from OwnI.ints huS)
        clear huS
        obtain ⟨AS, cS, eS, -⟩ := HS.out
        subst eS
        have q0 := HX.out.cell 0
        have q1 := HX.out.cell 1
        have q2 := HX.out.cell 2
        have q3 := HX.out.cell 3
        have z0 := HTX.out.cell 0
        have z1 := HTX.out.cell 1
        have z2 := HTX.out.cell 2
        refine Shut.mk ?_
        go_wp2_with fail
        clear q0 q1 q2 q3
        clear z0 z1 z2
        refine (HP.out.c6 HCI.out HT.out HI.out).mono ?_
        intro e v12 hpost
        refine Shut.out ?_
        obtain ⟨uY, rfl, huY, hB⟩ := hpost
        replace H1 := Lib.hid (H1.out.below hB)
        replace HB := Lib.hid (below_step HB.out hB)
        replace HCI := Lib.hid (HCI.out.below hB)
        replace HUA := Lib.hid (HUA.out.below hB)
        replace HUB := Lib.hid (HUB.out.below hB)
        replace HX := Lib.hid (HX.out.step hB)
        replace HW := Lib.hid (HW.out.below hB)
        replace HZ := Lib.hid (below_step HZ.out hB)
        replace HG := Lib.hid (HG.out.below hB)
        replace HGX := Lib.hid (HGX.out.step hB)
        replace HI := Lib.hid (HI.out.below hB)
        replace HT := Lib.hid (HT.out.below hB)
        replace HTX := Lib.hid (HTX.out.step hB)
        replace HS := Lib.hid (HS.out.below hB)
        clear hB
        have HY := Lib.hid (show Ints v12 uY (P.ys) from OwnI.ints huY)
        clear huY
        obtain ⟨AY, cY, eY, -⟩ := HY.out
        subst eY
        refine Shut.mk ?_
        go_upto_region 16 with fail
        go_cut [180] (fun s wx => s = .bool false ∧ Hid (Below v12.heap.size v12 wx))
        case first =>
          have HQ := Lib.hid (Below.refl v12.heap.size v12)
          refine Shut.out ?_
          obtain ⟨bu, ou, uk, eu, hbu, huk, hcu⟩ := HW.out.rd.int_at hkl
          subst eu
          have hk0 : (0 : Int) ≤ (kk : Int) := Int.natCast_nonneg _
          have hk1 : (kk : Int) < (us.length : Int) := by omega
          have HGD := Lib.hid (show us.getD kk 0 = uk by rw [List.getD_eq_getElem?_getD, huk]; rfl)
          clear huk
          rcases hne : (uk != row) with _ | _
          ·
            refine Shut.mk ?_
            go_wp2_with fail
            go_meet; exact ⟨rfl, HQ.out⟩
          · have hys := HP.out.same (by rw [HGD.out]; simpa using hne)
            replace HY := Lib.hid (show Ints v12 (.slice AY P.ys.length cY) P.xs from by rw [← hys]; exact HY.out)
            clear hys
            refine Shut.mk ?_
            go_wp2_with fail
            refine (c_laws_sameInts HS.out HY.out (by omega)).mono ?_
            intro e v13 hpost
            refine Shut.out ?_
            obtain ⟨rfl, hB⟩ := hpost
            replace H1 := Lib.hid (H1.out.below hB)
            replace HB := Lib.hid (below_step HB.out hB)
            replace HCI := Lib.hid (HCI.out.below hB)
            replace HUA := Lib.hid (HUA.out.below hB)
            replace HUB := Lib.hid (HUB.out.below hB)
            replace HX := Lib.hid (HX.out.step hB)
            replace HW := Lib.hid (HW.out.below hB)
            replace HZ := Lib.hid (below_step HZ.out hB)
            replace HG := Lib.hid (HG.out.below hB)
            replace HGX := Lib.hid (HGX.out.step hB)
            replace HI := Lib.hid (HI.out.below hB)
            replace HT := Lib.hid (HT.out.below hB)
            replace HTX := Lib.hid (HTX.out.step hB)
            replace HS := Lib.hid (HS.out.below hB)
            replace HY := Lib.hid (HY.out.below hB)
            replace HQ := Lib.hid (below_step HQ.out hB)
            clear hB
            refine Shut.mk ?_
            go_wp2_with fail
            go_meet; exact ⟨rfl, HQ.out⟩
        case rest =>
          refine Shut.out ?_
          obtain ⟨rfl, hcut2⟩ := hcut
          obtain ⟨wp, hwp⟩ : ∃ W, wc = W := ⟨_, rfl⟩
          rw [hwp] at hcut2 ⊢
          clear hwp
          have hB := hcut2.out
          clear hcut2
          replace H1 := Lib.hid (H1.out.below hB)
          replace HB := Lib.hid (below_step HB.out hB)
          replace HCI := Lib.hid (HCI.out.below hB)
          replace HUA := Lib.hid (HUA.out.below hB)
          replace HUB := Lib.hid (HUB.out.below hB)
          replace HX := Lib.hid (HX.out.step hB)
          replace HW := Lib.hid (HW.out.below hB)
          replace HZ := Lib.hid (below_step HZ.out hB)
          replace HG := Lib.hid (HG.out.below hB)
          replace HGX := Lib.hid (HGX.out.step hB)
          replace HI := Lib.hid (HI.out.below hB)
          replace HT := Lib.hid (HT.out.below hB)
          replace HTX := Lib.hid (HTX.out.step hB)
          replace HS := Lib.hid (HS.out.below hB)
          replace HY := Lib.hid (HY.out.below hB)
          clear hB
          have q0 := HX.out.cell 0
          have q1 := HX.out.cell 1
          have q2 := HX.out.cell 2
          have q3 := HX.out.cell 3
          have z0 := HTX.out.cell 0
          have z1 := HTX.out.cell 1
          have z2 := HTX.out.cell 2
          refine Shut.mk ?_
          go_wp2_with fail
          clear q0 q1 q2 q3
          clear z0 z1 z2
          refine (HP.out.c7 HCI.out HT.out).mono ?_
          intro e v14 hpost
          refine Shut.out ?_
          obtain ⟨rvK, nvK, cvK, vsK, rfl, htK, hB⟩ := hpost
          replace H1 := Lib.hid (H1.out.below hB)
          replace HB := Lib.hid (below_step HB.out hB)
          replace HCI := Lib.hid (HCI.out.below hB)
          replace HUA := Lib.hid (HUA.out.below hB)
          replace HUB := Lib.hid (HUB.out.below hB)
          replace HX := Lib.hid (HX.out.step hB)
          replace HW := Lib.hid (HW.out.below hB)
          replace HZ := Lib.hid (below_step HZ.out hB)
          replace HG := Lib.hid (HG.out.below hB)
          replace HGX := Lib.hid (HGX.out.step hB)
          replace HI := Lib.hid (HI.out.below hB)
          replace HT := Lib.hid (HT.out.below hB)
          replace HTX := Lib.hid (HTX.out.step hB)
          replace HS := Lib.hid (HS.out.below hB)
          replace HY := Lib.hid (HY.out.below hB)
          clear hB
          have HK := Lib.hid (show GbIn v14 rvK nvK cvK (P.t) from OwnGb.gbIn htK)
          clear htK
          obtain ⟨AKr, cKr, er, -⟩ := HK.out.rows.form
          obtain ⟨AKn, cKn, en, -⟩ := HK.out.ones
          obtain ⟨AKc, cKc, ec, -⟩ := HK.out.cols
          subst er en ec
          refine Shut.mk ?_
          unfold gbV
          refine Shut.out ?_
          obtain ⟨v15, hv⟩ : ∃ W, v14.alloc (.cells #[.slice AKr (P.t).rows.length cKr, .slice AKn (P.t).ones.length cKn, .slice AKc (P.t).cols.length cKc] 50) = W := ⟨_, rfl⟩
          have hB : Below v14.heap.size v14 v15 := by rw [← hv]; exact (Below.refl _ _).alloc (Nat.le_refl _) _
          have HKX := Lib.hid (show Blk v15 v14.heap.size 50 #[.slice AKr (P.t).rows.length cKr, .slice AKn (P.t).ones.length cKn, .slice AKc (P.t).cols.length cKc] by rw [← hv]; exact Blk.new _ _ _)
          replace H1 := Lib.hid (H1.out.below hB)
          replace HB := Lib.hid (below_step HB.out hB)
          replace HCI := Lib.hid (HCI.out.below hB)
          replace HUA := Lib.hid (HUA.out.below hB)
          replace HUB := Lib.hid (HUB.out.below hB)
          replace HX := Lib.hid (HX.out.step hB)
          replace HW := Lib.hid (HW.out.below hB)
          replace HZ := Lib.hid (below_step HZ.out hB)
          replace HG := Lib.hid (HG.out.below hB)
          replace HGX := Lib.hid (HGX.out.step hB)
          replace HI := Lib.hid (HI.out.below hB)
          replace HT := Lib.hid (HT.out.below hB)
          replace HTX := Lib.hid (HTX.out.step hB)
          replace HS := Lib.hid (HS.out.below hB)
          replace HY := Lib.hid (HY.out.below hB)
          replace HK := Lib.hid (HK.out.below hB)
          clear hB
          refine Shut.mk ?_
          go_upto_region 19 with fail
          clear hv
          refine Shut.out ?_
          obtain ⟨bk, hg⟩ : ∃ n, v14.heap.size = n := ⟨_, rfl⟩
          rw [hg] at HKX ⊢
          clear hg
          have q0 := HKX.out.cell 0
          have q1 := HKX.out.cell 1
          have q2 := HKX.out.cell 2
          have z0 := HGX.out.cell 0
          have z1 := HGX.out.cell 1
          have z2 := HGX.out.cell 2
          refine Shut.mk ?_
          go_wp2_with fail
          clear q0 q1 q2
          clear z0 z1 z2
          refine (c_laws_pSameGarbled HK.out HG.out (by omega)).mono ?_
          intro e v16 hpost
          refine Shut.out ?_
          obtain ⟨rfl, hB⟩ := hpost
          replace H1 := Lib.hid (H1.out.below hB)
          replace HB := Lib.hid (below_step HB.out hB)
          replace HCI := Lib.hid (HCI.out.below hB)
          replace HUA := Lib.hid (HUA.out.below hB)
          replace HUB := Lib.hid (HUB.out.below hB)
          replace HX := Lib.hid (HX.out.step hB)
          replace HW := Lib.hid (HW.out.below hB)
          replace HZ := Lib.hid (below_step HZ.out hB)
          replace HG := Lib.hid (HG.out.below hB)
          replace HGX := Lib.hid (HGX.out.step hB)
          replace HI := Lib.hid (HI.out.below hB)
          replace HT := Lib.hid (HT.out.below hB)
          replace HTX := Lib.hid (HTX.out.step hB)
          replace HS := Lib.hid (HS.out.below hB)
          replace HY := Lib.hid (HY.out.below hB)
          replace HK := Lib.hid (HK.out.below hB)
          replace HKX := Lib.hid (HKX.out.step hB)
          clear hB
          refine Shut.mk ?_
          go_wp2_with fail
          go_meet; exact HZ
    case rest =>
      refine Shut.out ?_
      obtain ⟨wn, hwn⟩ : ∃ W, wc = W := ⟨_, rfl⟩
      rw [hwn] at hcut ⊢
      clear hwn
      have hB := hcut.out
      clear hcut hrl HR
      replace H1 := Lib.hid (H1.out.below hB)
      replace HB := Lib.hid (below_step HB.out hB)
      replace HCI := Lib.hid (HCI.out.below hB)
      replace HUA := Lib.hid (HUA.out.below hB)
      replace HUB := Lib.hid (HUB.out.below hB)
      replace HX := Lib.hid (HX.out.step hB)
      replace HW := Lib.hid (HW.out.below hB)
      clear hB
      clear HW HCI HUA HUB HX
      refine Shut.mk ?_
      go_wp2_with fail
      refine (c_spec_DrawBendRow H1.out).mono ?_
      intro e v17 hpost
      refine Shut.out ?_
      obtain ⟨⟨c3, gv, ov, rv, nv, cv, g3, kk, row, mask, rfl, -, hs, hc, hg⟩, hB⟩ := hpost
      replace H1 := Lib.hid (H1.out.below hB)
      replace HB := Lib.hid (below_step HB.out hB)
      clear hB
      have HC3 := Lib.hid hc
      have HG3 := Lib.hid hg
      clear hc hg
      have HS3 := Lib.hid hs
      clear hs
      obtain ⟨Ag3, cg3, eg, -⟩ := HC3.out.gates
      obtain ⟨Ao3, co3, eo, -⟩ := HC3.out.outs
      obtain ⟨Ar3, cr3, er, -⟩ := HG3.out.rows.form
      obtain ⟨An3, cn3, en, -⟩ := HG3.out.ones
      obtain ⟨Ac3, cc3, ec, -⟩ := HG3.out.cols
      subst eg eo er en ec
      refine Shut.mk ?_
      unfold cirV gbV
      refine Shut.out ?_
      obtain ⟨v18, hv⟩ : ∃ W, (v17.alloc (.cells #[.int .i64 c3.i0, .int .i64 c3.i1, .slice Ag3 c3.gs.length cg3, .slice Ao3 c3.outs.length co3] 26)).alloc (.cells #[.slice Ar3 g3.rows.length cr3, .slice An3 g3.ones.length cn3, .slice Ac3 g3.cols.length cc3] 50) = W := ⟨_, rfl⟩
      have hB : Below v17.heap.size v17 v18 := by rw [← hv]; exact ((Below.refl _ _).alloc (Nat.le_refl _) _).alloc (by simp) _
      have HX3 := Lib.hid (show Blk v18 v17.heap.size 26 #[.int .i64 c3.i0, .int .i64 c3.i1, .slice Ag3 c3.gs.length cg3, .slice Ao3 c3.outs.length co3] by rw [← hv]; exact (Blk.new _ _ _).alloc _)
      have HY3 := Lib.hid (show Blk v18 (v17.heap.size + 1) 50 #[.slice Ar3 g3.rows.length cr3, .slice An3 g3.ones.length cn3, .slice Ac3 g3.cols.length cc3] by
        rw [← hv]
        have := Blk.new (v17.alloc (.cells #[.int .i64 c3.i0, .int .i64 c3.i1, .slice Ag3 c3.gs.length cg3, .slice Ao3 c3.outs.length co3] 26)) 50 #[.slice Ar3 g3.rows.length cr3, .slice An3 g3.ones.length cn3, .slice Ac3 g3.cols.length cc3]
        simpa using this)
      replace H1 := Lib.hid (H1.out.below hB)
      replace HB := Lib.hid (below_step HB.out hB)
      replace HC3 := Lib.hid (HC3.out.below hB)
      replace HG3 := Lib.hid (HG3.out.below hB)
      clear hB
      refine Shut.mk ?_
      go_upto_region 22 with fail
      clear hv
      refine Shut.out ?_
      obtain ⟨b3, hg⟩ : ∃ n, v17.heap.size = n := ⟨_, rfl⟩
      rw [hg] at HX3 HY3 ⊢
      clear hg
      obtain ⟨T, hT⟩ : ∃ S, bendM 3 1 3 c3 g3 kk row mask = S := ⟨_, rfl⟩
      have hts : (T.getD Gb.none).sz ≤ 3000 := by rw [← hT]; exact Nat.le_trans (bendM_sz _ _ _ _ _ _ _ _) HS3.out
      have i1 := (fun (W : World) (h : CirIn W (.slice Ag3 c3.gs.length cg3) (.slice Ao3 c3.outs.length co3) c3) (h2 : GbIn W (.slice Ar3 g3.rows.length cr3) (.slice An3 g3.ones.length cn3) (.slice Ac3 g3.cols.length cc3) g3) => c_impl_BendRow (w := W) (k := kk) (row := row) (m := mask) h h2 (by have := HS3.out; omega))
      have i2 := (fun (W : World) (h : CirIn W (.slice Ag3 c3.gs.length cg3) (.slice Ao3 c3.outs.length co3) c3) (h2 : GbIn W (.slice Ar3 g3.rows.length cr3) (.slice An3 g3.ones.length cn3) (.slice Ac3 g3.cols.length cc3) g3) => c_spec_BendRow (w := W) (k := kk) (row := row) (m := mask) h h2 (by have := HS3.out; omega))
      rw [hT] at i1 i2
      unfold cirV at i1 i2
      unfold gbV at i1 i2
      have CI := Lib.hid i1
      have CS := Lib.hid i2
      clear i1 i2 hT
      have q0 := HX3.out.cell 0
      have q1 := HX3.out.cell 1
      have q2 := HX3.out.cell 2
      have q3 := HX3.out.cell 3
      have z0 := HY3.out.cell 0
      have z1 := HY3.out.cell 1
      have z2 := HY3.out.cell 2
      refine Shut.mk ?_
      go_wp2_with fail
      clear q0 q1 q2 q3
      clear z0 z1 z2
      refine (CI.out _ HC3.out HG3.out).mono ?_
      intro e v19 hpost
      refine Shut.out ?_
      obtain ⟨rvU, nvU, cvU, vsU, rfl, htU, hB⟩ := hpost
      replace H1 := Lib.hid (H1.out.below hB)
      replace HB := Lib.hid (below_step HB.out hB)
      replace HC3 := Lib.hid (HC3.out.below hB)
      replace HG3 := Lib.hid (HG3.out.below hB)
      replace HX3 := Lib.hid (HX3.out.step hB)
      replace HY3 := Lib.hid (HY3.out.step hB)
      clear hB
      have HU := Lib.hid (show GbIn v19 rvU nvU cvU (T.getD Gb.none) from OwnGb.gbIn htU)
      clear htU
      obtain ⟨AUr, cUr, er, -⟩ := HU.out.rows.form
      obtain ⟨AUn, cUn, en, -⟩ := HU.out.ones
      obtain ⟨AUc, cUc, ec, -⟩ := HU.out.cols
      subst er en ec
      refine Shut.mk ?_
      unfold gbV
      refine Shut.out ?_
      obtain ⟨v20, hv⟩ : ∃ W, v19.alloc (.cells #[.slice AUr (T.getD Gb.none).rows.length cUr, .slice AUn (T.getD Gb.none).ones.length cUn, .slice AUc (T.getD Gb.none).cols.length cUc] 50) = W := ⟨_, rfl⟩
      have hB : Below v19.heap.size v19 v20 := by rw [← hv]; exact (Below.refl _ _).alloc (Nat.le_refl _) _
      have HUX := Lib.hid (show Blk v20 v19.heap.size 50 #[.slice AUr (T.getD Gb.none).rows.length cUr, .slice AUn (T.getD Gb.none).ones.length cUn, .slice AUc (T.getD Gb.none).cols.length cUc] by rw [← hv]; exact Blk.new _ _ _)
      replace H1 := Lib.hid (H1.out.below hB)
      replace HB := Lib.hid (below_step HB.out hB)
      replace HC3 := Lib.hid (HC3.out.below hB)
      replace HG3 := Lib.hid (HG3.out.below hB)
      replace HX3 := Lib.hid (HX3.out.step hB)
      replace HY3 := Lib.hid (HY3.out.step hB)
      replace HU := Lib.hid (HU.out.below hB)
      clear hB
      refine Shut.mk ?_
      go_upto_region 23 with fail
      clear hv
      refine Shut.out ?_
      obtain ⟨bu, hg⟩ : ∃ n, v19.heap.size = n := ⟨_, rfl⟩
      rw [hg] at HUX ⊢
      clear hg
      have q0 := HX3.out.cell 0
      have q1 := HX3.out.cell 1
      have q2 := HX3.out.cell 2
      have q3 := HX3.out.cell 3
      have z0 := HY3.out.cell 0
      have z1 := HY3.out.cell 1
      have z2 := HY3.out.cell 2
      refine Shut.mk ?_
      go_wp2_with fail
      clear q0 q1 q2 q3
      clear z0 z1 z2
      refine (CS.out _ HC3.out HG3.out).mono ?_
      intro e v21 hpost
      refine Shut.out ?_
      obtain ⟨rvV, nvV, cvV, vsV, rfl, htV, hB⟩ := hpost
      replace H1 := Lib.hid (H1.out.below hB)
      replace HB := Lib.hid (below_step HB.out hB)
      replace HC3 := Lib.hid (HC3.out.below hB)
      replace HG3 := Lib.hid (HG3.out.below hB)
      replace HX3 := Lib.hid (HX3.out.step hB)
      replace HY3 := Lib.hid (HY3.out.step hB)
      replace HU := Lib.hid (HU.out.below hB)
      replace HUX := Lib.hid (HUX.out.step hB)
      clear hB
      have HV := Lib.hid (show GbIn v21 rvV nvV cvV (T.getD Gb.none) from OwnGb.gbIn htV)
      clear htV
      obtain ⟨AVr, cVr, er, -⟩ := HV.out.rows.form
      obtain ⟨AVn, cVn, en, -⟩ := HV.out.ones
      obtain ⟨AVc, cVc, ec, -⟩ := HV.out.cols
      subst er en ec
      refine Shut.mk ?_
      unfold gbV
      refine Shut.out ?_
      obtain ⟨v22, hv⟩ : ∃ W, v21.alloc (.cells #[.slice AVr (T.getD Gb.none).rows.length cVr, .slice AVn (T.getD Gb.none).ones.length cVn, .slice AVc (T.getD Gb.none).cols.length cVc] 50) = W := ⟨_, rfl⟩
      have hB : Below v21.heap.size v21 v22 := by rw [← hv]; exact (Below.refl _ _).alloc (Nat.le_refl _) _
      have HVX := Lib.hid (show Blk v22 v21.heap.size 50 #[.slice AVr (T.getD Gb.none).rows.length cVr, .slice AVn (T.getD Gb.none).ones.length cVn, .slice AVc (T.getD Gb.none).cols.length cVc] by rw [← hv]; exact Blk.new _ _ _)
      replace H1 := Lib.hid (H1.out.below hB)
      replace HB := Lib.hid (below_step HB.out hB)
      replace HC3 := Lib.hid (HC3.out.below hB)
      replace HG3 := Lib.hid (HG3.out.below hB)
      replace HX3 := Lib.hid (HX3.out.step hB)
      replace HY3 := Lib.hid (HY3.out.step hB)
      replace HU := Lib.hid (HU.out.below hB)
      replace HUX := Lib.hid (HUX.out.step hB)
      replace HV := Lib.hid (HV.out.below hB)
      clear hB
      refine Shut.mk ?_
      go_upto_region 24 with fail
      clear hv
      refine Shut.out ?_
      obtain ⟨bv, hg⟩ : ∃ n, v21.heap.size = n := ⟨_, rfl⟩
      rw [hg] at HVX ⊢
      clear hg
      clear CI CS
      have q0 := HUX.out.cell 0
      have q1 := HUX.out.cell 1
      have q2 := HUX.out.cell 2
      have y0 := HVX.out.cell 0
      have y1 := HVX.out.cell 1
      have y2 := HVX.out.cell 2
      refine Shut.mk ?_
      go_wp2_with fail
      clear q0 q1 q2
      clear y0 y1 y2
      refine (c_laws_pSameGarbled HU.out HV.out (by omega)).mono ?_
      intro e v23 hpost
      refine Shut.out ?_
      obtain ⟨rfl, hB⟩ := hpost
      replace H1 := Lib.hid (H1.out.below hB)
      replace HB := Lib.hid (below_step HB.out hB)
      replace HC3 := Lib.hid (HC3.out.below hB)
      replace HG3 := Lib.hid (HG3.out.below hB)
      replace HX3 := Lib.hid (HX3.out.step hB)
      replace HY3 := Lib.hid (HY3.out.step hB)
      replace HU := Lib.hid (HU.out.below hB)
      replace HUX := Lib.hid (HUX.out.step hB)
      replace HV := Lib.hid (HV.out.below hB)
      replace HVX := Lib.hid (HVX.out.step hB)
      clear hB
      clear HU HV HUX HVX HC3 HG3 HX3 HY3
      clear hts HS3
      refine Shut.mk ?_
      go_wp2_with fail
      refine (c_spec_DrawDecodeOuts H1.out).mono ?_
      intro e v24 hpost
      refine Shut.out ?_
      obtain ⟨⟨c2, gv, ov, rv, nv, cv, ui, g2, l2_, rfl, -, hs, hl2, hc, hg, hi⟩, hB⟩ := hpost
      replace H1 := Lib.hid (H1.out.below hB)
      replace HB := Lib.hid (below_step HB.out hB)
      clear hB
      have HC2 := Lib.hid hc
      have HG2 := Lib.hid hg
      clear hc hg
      have HS2 := Lib.hid hs
      clear hs
      obtain ⟨Ag2, cg2, eg, -⟩ := HC2.out.gates
      obtain ⟨Ao2, co2, eo, -⟩ := HC2.out.outs
      obtain ⟨Ar2, cr2, er, -⟩ := HG2.out.rows.form
      obtain ⟨An2, cn2, en, -⟩ := HG2.out.ones
      obtain ⟨Ac2, cc2, ec, -⟩ := HG2.out.cols
      subst eg eo er en ec
      have HI := Lib.hid hi
      obtain ⟨AJ, cJ, rfl, -⟩ := hi
      refine Shut.mk ?_
      unfold cirV gbV
      refine Shut.out ?_
      obtain ⟨v25, hv⟩ : ∃ W, (v24.alloc (.cells #[.int .i64 c2.i0, .int .i64 c2.i1, .slice Ag2 c2.gs.length cg2, .slice Ao2 c2.outs.length co2] 26)).alloc (.cells #[.slice Ar2 g2.rows.length cr2, .slice An2 g2.ones.length cn2, .slice Ac2 g2.cols.length cc2] 50) = W := ⟨_, rfl⟩
      have hB : Below v24.heap.size v24 v25 := by rw [← hv]; exact ((Below.refl _ _).alloc (Nat.le_refl _) _).alloc (by simp) _
      have HX2 := Lib.hid (show Blk v25 v24.heap.size 26 #[.int .i64 c2.i0, .int .i64 c2.i1, .slice Ag2 c2.gs.length cg2, .slice Ao2 c2.outs.length co2] by rw [← hv]; exact (Blk.new _ _ _).alloc _)
      have HY2 := Lib.hid (show Blk v25 (v24.heap.size + 1) 50 #[.slice Ar2 g2.rows.length cr2, .slice An2 g2.ones.length cn2, .slice Ac2 g2.cols.length cc2] by
        rw [← hv]
        have := Blk.new (v24.alloc (.cells #[.int .i64 c2.i0, .int .i64 c2.i1, .slice Ag2 c2.gs.length cg2, .slice Ao2 c2.outs.length co2] 26)) 50 #[.slice Ar2 g2.rows.length cr2, .slice An2 g2.ones.length cn2, .slice Ac2 g2.cols.length cc2]
        simpa using this)
      replace H1 := Lib.hid (H1.out.below hB)
      replace HB := Lib.hid (below_step HB.out hB)
      replace HC2 := Lib.hid (HC2.out.below hB)
      replace HG2 := Lib.hid (HG2.out.below hB)
      replace HI := Lib.hid (HI.out.below hB)
      clear hB
      refine Shut.mk ?_
      go_upto_region 27 with fail
      clear hv
      refine Shut.out ?_
      obtain ⟨b2, hg⟩ : ∃ n, v24.heap.size = n := ⟨_, rfl⟩
      rw [hg] at HX2 HY2 ⊢
      clear hg
      obtain ⟨D, hD⟩ : ∃ S, decodeM 3 c2 g2 l2_ = S := ⟨_, rfl⟩
      have hdl := decodeM_len 3 c2 g2 l2_
      have i1 := (fun (W : World) (u : Value) (h : CirIn W (.slice Ag2 c2.gs.length cg2) (.slice Ao2 c2.outs.length co2) c2) (h2 : GbIn W (.slice Ar2 g2.rows.length cr2) (.slice An2 g2.ones.length cn2) (.slice Ac2 g2.cols.length cc2) g2) (h3 : Ints W u l2_) => c_impl_DecodeOuts (w := W) h h2 (by have := HS2.out; omega) h3 (by omega))
      have i2 := (fun (W : World) (u : Value) (h : CirIn W (.slice Ag2 c2.gs.length cg2) (.slice Ao2 c2.outs.length co2) c2) (h2 : GbIn W (.slice Ar2 g2.rows.length cr2) (.slice An2 g2.ones.length cn2) (.slice Ac2 g2.cols.length cc2) g2) (h3 : Ints W u l2_) => c_spec_DecodeOuts (w := W) h h2 (by have := HS2.out; omega) h3 (by omega))
      rw [hD] at i1 i2 hdl
      unfold cirV gbV at i1 i2
      have CI := Lib.hid i1
      have CS := Lib.hid i2
      clear i1 i2 hD
      have q0 := HX2.out.cell 0
      have q1 := HX2.out.cell 1
      have q2 := HX2.out.cell 2
      have q3 := HX2.out.cell 3
      have z0 := HY2.out.cell 0
      have z1 := HY2.out.cell 1
      have z2 := HY2.out.cell 2
      refine Shut.mk ?_
      go_wp2_with fail
      clear q0 q1 q2 q3
      clear z0 z1 z2
      refine (CI.out _ _ HC2.out HG2.out HI.out).mono ?_
      intro e v26 hpost
      refine Shut.out ?_
      obtain ⟨uP, rfl, huP, hB⟩ := hpost
      replace H1 := Lib.hid (H1.out.below hB)
      replace HB := Lib.hid (below_step HB.out hB)
      replace HC2 := Lib.hid (HC2.out.below hB)
      replace HG2 := Lib.hid (HG2.out.below hB)
      replace HI := Lib.hid (HI.out.below hB)
      replace HX2 := Lib.hid (HX2.out.step hB)
      replace HY2 := Lib.hid (HY2.out.step hB)
      clear hB
      have HP := Lib.hid (show Ints v26 uP (D.getD []) from OwnI.ints huP)
      clear huP
      obtain ⟨AP, cP, eP, -⟩ := HP.out
      subst eP
      have q0 := HX2.out.cell 0
      have q1 := HX2.out.cell 1
      have q2 := HX2.out.cell 2
      have q3 := HX2.out.cell 3
      have z0 := HY2.out.cell 0
      have z1 := HY2.out.cell 1
      have z2 := HY2.out.cell 2
      refine Shut.mk ?_
      go_wp2_with fail
      clear q0 q1 q2 q3
      clear z0 z1 z2
      refine (CS.out _ _ HC2.out HG2.out HI.out).mono ?_
      intro e v27 hpost
      refine Shut.out ?_
      obtain ⟨uQ, rfl, huQ, hB⟩ := hpost
      replace H1 := Lib.hid (H1.out.below hB)
      replace HB := Lib.hid (below_step HB.out hB)
      replace HC2 := Lib.hid (HC2.out.below hB)
      replace HG2 := Lib.hid (HG2.out.below hB)
      replace HI := Lib.hid (HI.out.below hB)
      replace HX2 := Lib.hid (HX2.out.step hB)
      replace HY2 := Lib.hid (HY2.out.step hB)
      replace HP := Lib.hid (HP.out.below hB)
      clear hB
      have HQ := Lib.hid (show Ints v27 uQ (D.getD []) from OwnI.ints huQ)
      clear huQ
      obtain ⟨AQ, cQ, eQ, -⟩ := HQ.out
      subst eQ
      clear CI CS HS2
      clear HI HC2 HG2 HX2 HY2
      refine Shut.mk ?_
      go_wp2_with fail
      refine (c_spec_DrawTrueLabels H1.out).mono ?_
      intro e v28 hpost
      refine Shut.out ?_
      obtain ⟨⟨c5, gv, ov, ul, k5, r5, l5, rfl, -, hl5, hc, hi⟩, hB⟩ := hpost
      replace H1 := Lib.hid (H1.out.below hB)
      replace HB := Lib.hid (below_step HB.out hB)
      replace HP := Lib.hid (HP.out.below hB)
      replace HQ := Lib.hid (HQ.out.below hB)
      clear hB
      have HC5 := Lib.hid hc
      have HI := Lib.hid hi
      clear hc
      obtain ⟨AM, cM, rfl, -⟩ := hi
      obtain ⟨Ag5, cg5, eg5, -⟩ := HC5.out.gates
      obtain ⟨Ao5, co5, eo5, -⟩ := HC5.out.outs
      subst eg5 eo5
      refine Shut.mk ?_
      unfold cirV
      refine Shut.out ?_
      obtain ⟨v29, hv⟩ : ∃ W, v28.alloc (.cells #[.int .i64 c5.i0, .int .i64 c5.i1, .slice Ag5 c5.gs.length cg5, .slice Ao5 c5.outs.length co5] 26) = W := ⟨_, rfl⟩
      have hB : Below v28.heap.size v28 v29 := by rw [← hv]; exact (Below.refl _ _).alloc (Nat.le_refl _) _
      have HX5 := Lib.hid (show Blk v29 v28.heap.size 26 #[.int .i64 c5.i0, .int .i64 c5.i1, .slice Ag5 c5.gs.length cg5, .slice Ao5 c5.outs.length co5] by rw [← hv]; exact Blk.new _ _ _)
      replace H1 := Lib.hid (H1.out.below hB)
      replace HB := Lib.hid (below_step HB.out hB)
      replace HP := Lib.hid (HP.out.below hB)
      replace HQ := Lib.hid (HQ.out.below hB)
      replace HC5 := Lib.hid (HC5.out.below hB)
      replace HI := Lib.hid (HI.out.below hB)
      clear hB
      refine Shut.mk ?_
      go_upto_region 30 with fail
      clear hv
      refine Shut.out ?_
      obtain ⟨b5, hg⟩ : ∃ n, v28.heap.size = n := ⟨_, rfl⟩
      rw [hg] at HX5 ⊢
      clear hg
      obtain ⟨t1, ht1⟩ : ∃ S, bV (trueM c5 k5 r5 l5) = S := ⟨_, rfl⟩
      obtain ⟨t2, ht2⟩ : ∃ S, bB (trueM c5 k5 r5 l5) = S := ⟨_, rfl⟩
      have i1 := (fun (W : World) (u : Value) (h : CirIn W (.slice Ag5 c5.gs.length cg5) (.slice Ao5 c5.outs.length co5) c5) (h3 : Ints W u l5) => c_impl_TrueLabels (w := W) (key := k5) (off := r5) h h3 (by omega))
      have i2 := (fun (W : World) (u : Value) (h : CirIn W (.slice Ag5 c5.gs.length cg5) (.slice Ao5 c5.outs.length co5) c5) (h3 : Ints W u l5) => c_spec_TrueLabels (w := W) (key := k5) (off := r5) h h3 (by omega))
      rw [ht1, ht2] at i1 i2
      unfold cirV at i1 i2
      have CI := Lib.hid i1
      have CS := Lib.hid i2
      clear i1 i2 ht1 ht2
      have q0 := HX5.out.cell 0
      have q1 := HX5.out.cell 1
      have q2 := HX5.out.cell 2
      have q3 := HX5.out.cell 3
      refine Shut.mk ?_
      go_wp2_with fail
      clear q0 q1 q2 q3
      refine (CI.out _ _ HC5.out HI.out).mono ?_
      intro e v30 hpost
      refine Shut.out ?_
      obtain ⟨rfl, hB⟩ := hpost
      replace H1 := Lib.hid (H1.out.below hB)
      replace HB := Lib.hid (below_step HB.out hB)
      replace HP := Lib.hid (HP.out.below hB)
      replace HQ := Lib.hid (HQ.out.below hB)
      replace HC5 := Lib.hid (HC5.out.below hB)
      replace HI := Lib.hid (HI.out.below hB)
      replace HX5 := Lib.hid (HX5.out.step hB)
      clear hB
      have q0 := HX5.out.cell 0
      have q1 := HX5.out.cell 1
      have q2 := HX5.out.cell 2
      have q3 := HX5.out.cell 3
      refine Shut.mk ?_
      go_wp2_with fail
      clear q0 q1 q2 q3
      refine (CS.out _ _ HC5.out HI.out).mono ?_
      intro e v31 hpost
      refine Shut.out ?_
      obtain ⟨rfl, hB⟩ := hpost
      replace H1 := Lib.hid (H1.out.below hB)
      replace HB := Lib.hid (below_step HB.out hB)
      replace HP := Lib.hid (HP.out.below hB)
      replace HQ := Lib.hid (HQ.out.below hB)
      replace HC5 := Lib.hid (HC5.out.below hB)
      replace HI := Lib.hid (HI.out.below hB)
      replace HX5 := Lib.hid (HX5.out.step hB)
      clear hB
      clear CI CS
      clear HC5 HI HX5
      refine Shut.mk ?_
      go_wp2_with fail
      refine (c_spec_DrawIsGarbled H1.out).mono ?_
      intro e v32 hpost
      refine Shut.out ?_
      obtain ⟨⟨c7, gv, ov, rv, nv, cv, g7, rfl, -, hs, hc, hg⟩, hB⟩ := hpost
      clear H1
      replace HB := Lib.hid (below_step HB.out hB)
      replace HP := Lib.hid (HP.out.below hB)
      replace HQ := Lib.hid (HQ.out.below hB)
      clear hB
      have HC7 := Lib.hid hc
      have HG7 := Lib.hid hg
      clear hc hg
      have HS7 := Lib.hid hs
      clear hs
      obtain ⟨Ag7, cg7, eg, -⟩ := HC7.out.gates
      obtain ⟨Ao7, co7, eo, -⟩ := HC7.out.outs
      obtain ⟨Ar7, cr7, er, -⟩ := HG7.out.rows.form
      obtain ⟨An7, cn7, en, -⟩ := HG7.out.ones
      obtain ⟨Ac7, cc7, ec, -⟩ := HG7.out.cols
      subst eg eo er en ec
      refine Shut.mk ?_
      unfold cirV gbV
      refine Shut.out ?_
      obtain ⟨v33, hv⟩ : ∃ W, (v32.alloc (.cells #[.int .i64 c7.i0, .int .i64 c7.i1, .slice Ag7 c7.gs.length cg7, .slice Ao7 c7.outs.length co7] 26)).alloc (.cells #[.slice Ar7 g7.rows.length cr7, .slice An7 g7.ones.length cn7, .slice Ac7 g7.cols.length cc7] 50) = W := ⟨_, rfl⟩
      have hB : Below v32.heap.size v32 v33 := by rw [← hv]; exact ((Below.refl _ _).alloc (Nat.le_refl _) _).alloc (by simp) _
      have HX7 := Lib.hid (show Blk v33 v32.heap.size 26 #[.int .i64 c7.i0, .int .i64 c7.i1, .slice Ag7 c7.gs.length cg7, .slice Ao7 c7.outs.length co7] by rw [← hv]; exact (Blk.new _ _ _).alloc _)
      have HY7 := Lib.hid (show Blk v33 (v32.heap.size + 1) 50 #[.slice Ar7 g7.rows.length cr7, .slice An7 g7.ones.length cn7, .slice Ac7 g7.cols.length cc7] by
        rw [← hv]
        have := Blk.new (v32.alloc (.cells #[.int .i64 c7.i0, .int .i64 c7.i1, .slice Ag7 c7.gs.length cg7, .slice Ao7 c7.outs.length co7] 26)) 50 #[.slice Ar7 g7.rows.length cr7, .slice An7 g7.ones.length cn7, .slice Ac7 g7.cols.length cc7]
        simpa using this)
      replace HB := Lib.hid (below_step HB.out hB)
      replace HP := Lib.hid (HP.out.below hB)
      replace HQ := Lib.hid (HQ.out.below hB)
      replace HC7 := Lib.hid (HC7.out.below hB)
      replace HG7 := Lib.hid (HG7.out.below hB)
      clear hB
      refine Shut.mk ?_
      go_upto_region 33 with fail
      clear hv
      refine Shut.out ?_
      obtain ⟨b7, hg⟩ : ∃ n, v32.heap.size = n := ⟨_, rfl⟩
      rw [hg] at HX7 HY7 ⊢
      clear hg
      obtain ⟨t3, ht3⟩ : ∃ S, bV (isTabM 3 c7 g7) = S := ⟨_, rfl⟩
      obtain ⟨t4, ht4⟩ : ∃ S, bB (isTabM 3 c7 g7) = S := ⟨_, rfl⟩
      have i1 := (fun (W : World) (h : CirIn W (.slice Ag7 c7.gs.length cg7) (.slice Ao7 c7.outs.length co7) c7) (h2 : GbIn W (.slice Ar7 g7.rows.length cr7) (.slice An7 g7.ones.length cn7) (.slice Ac7 g7.cols.length cc7) g7) => c_impl_IsGarbled (w := W) h h2 (by have := HS7.out; omega))
      have i2 := (fun (W : World) (h : CirIn W (.slice Ag7 c7.gs.length cg7) (.slice Ao7 c7.outs.length co7) c7) (h2 : GbIn W (.slice Ar7 g7.rows.length cr7) (.slice An7 g7.ones.length cn7) (.slice Ac7 g7.cols.length cc7) g7) => c_spec_IsGarbled (w := W) h h2 (by have := HS7.out; omega))
      rw [ht3, ht4] at i1 i2
      unfold cirV at i1 i2
      unfold gbV at i1 i2
      have CI := Lib.hid i1
      have CS := Lib.hid i2
      clear i1 i2 ht3 ht4
      have q0 := HX7.out.cell 0
      have q1 := HX7.out.cell 1
      have q2 := HX7.out.cell 2
      have q3 := HX7.out.cell 3
      have z0 := HY7.out.cell 0
      have z1 := HY7.out.cell 1
      have z2 := HY7.out.cell 2
      refine Shut.mk ?_
      go_wp2_with fail
      clear q0 q1 q2 q3
      clear z0 z1 z2
      refine (CI.out _ HC7.out HG7.out).mono ?_
      intro e v34 hpost
      refine Shut.out ?_
      obtain ⟨rfl, hB⟩ := hpost
      replace HB := Lib.hid (below_step HB.out hB)
      replace HP := Lib.hid (HP.out.below hB)
      replace HQ := Lib.hid (HQ.out.below hB)
      replace HC7 := Lib.hid (HC7.out.below hB)
      replace HG7 := Lib.hid (HG7.out.below hB)
      replace HX7 := Lib.hid (HX7.out.step hB)
      replace HY7 := Lib.hid (HY7.out.step hB)
      clear hB
      have q0 := HX7.out.cell 0
      have q1 := HX7.out.cell 1
      have q2 := HX7.out.cell 2
      have q3 := HX7.out.cell 3
      have z0 := HY7.out.cell 0
      have z1 := HY7.out.cell 1
      have z2 := HY7.out.cell 2
      refine Shut.mk ?_
      go_wp2_with fail
      clear q0 q1 q2 q3
      clear z0 z1 z2
      refine (CS.out _ HC7.out HG7.out).mono ?_
      intro e v35 hpost
      refine Shut.out ?_
      obtain ⟨rfl, hB⟩ := hpost
      replace HB := Lib.hid (below_step HB.out hB)
      replace HP := Lib.hid (HP.out.below hB)
      replace HQ := Lib.hid (HQ.out.below hB)
      replace HC7 := Lib.hid (HC7.out.below hB)
      replace HG7 := Lib.hid (HG7.out.below hB)
      replace HX7 := Lib.hid (HX7.out.step hB)
      replace HY7 := Lib.hid (HY7.out.step hB)
      clear hB
      clear CI CS HS7
      clear HC7 HG7 HX7 HY7
      refine Shut.mk ?_
      go_wp2_with fail
      refine (c_laws_sameInts HP.out HQ.out (by omega)).mono ?_
      intro e v36 hpost
      refine Shut.out ?_
      obtain ⟨rfl, hB⟩ := hpost
      replace HB := Lib.hid (below_step HB.out hB)
      replace HP := Lib.hid (HP.out.below hB)
      replace HQ := Lib.hid (HQ.out.below hB)
      clear hB
      refine Shut.mk ?_
      go_wp2
      go_ret
      exact ⟨rfl, HB.out⟩
end Go.Proofs.YtejeppjmlgfiaaaGreat
