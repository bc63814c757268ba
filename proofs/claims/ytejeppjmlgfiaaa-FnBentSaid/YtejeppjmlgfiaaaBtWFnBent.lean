/- The walk of the law FnBent: its Go text returns true for every input. No condition. -/
import Derived.Test.YtejeppjmlgfiaaaBt4
import Derived.Test.YtejeppjmlgfiaaaBt1
import Derived.Test.YtejeppjmlgfiaaaBt3
import Derived.Test.YtejeppjmlgfiaaaBt2
import Derived.Test.YtejeppjmlgfiaaaHalf
import Derived.Deep.DeepCutAuto
namespace Go.Proofs.Ytejeppjmlgfiaaa
open Go.RowKit
set_option linter.unusedVariables false

set_option maxRecDepth 100000 in
set_option maxHeartbeats 16000000 in
theorem w_FnBent (w : World) {cd1 cd2 : Value} {l1 l2 : List Int} (h0 : Byts w cd1 l1) (h1 : Byts w cd2 l2) : Calls Try.prog 3 #[cd1, cd2] w fun e w' => e = .returned (.bool true) ∧ Below w.heap.size w w' := by
  have H0 := Lib.hid h0
  have H1 := Lib.hid h1
  obtain ⟨⟨A1, k1, rfl, -⟩, -⟩ := h0
  obtain ⟨⟨A2, k2, rfl, -⟩, -⟩ := h1
  have HB := Lib.hid (Below.refl w.heap.size w)
  by_cases hbig : (1048576 : Int) < wrap64 ((l1.length : Int) + (l2.length : Int))
  · go_enter Try.func3, Try.ntmps3
    go_wp2
    go_ret
    exact ⟨rfl, HB.out⟩
  go_enter Try.func3, Try.ntmps3
  go_wp2_with fail
  clear hbig
  refine (c_spec_DrawEvalHalved H0.out).mono ?_
  intro e v1 hpost
  refine Shut.out ?_
  obtain ⟨⟨c1, gv, ov, rv, nv, cv, ui, g1, l1_, rfl, -, hs, hl, hc, hg, hi⟩, hB⟩ := hpost
  clear H0
  replace H1 := Lib.hid (H1.out.below hB)
  replace HB := Lib.hid (below_step HB.out hB)
  clear hB
  have HC1 := Lib.hid hc
  have HG1 := Lib.hid hg
  clear hc hg
  have HS1 := Lib.hid hs
  clear hs
  obtain ⟨Ag1, cg1, eg, -⟩ := HC1.out.gates
  obtain ⟨Ao1, co1, eo, -⟩ := HC1.out.outs
  obtain ⟨Ar1, cr1, er, -⟩ := HG1.out.rows.form
  obtain ⟨An1, cn1, en, -⟩ := HG1.out.ones
  obtain ⟨Ac1, cc1, ec, -⟩ := HG1.out.cols
  subst eg eo er en ec
  have HI := Lib.hid hi
  obtain ⟨AI, cI, rfl, -⟩ := hi
  refine Shut.mk ?_
  unfold cirV gbV
  refine Shut.out ?_
  obtain ⟨v2, hv⟩ : ∃ W, (v1.alloc (.cells #[.int .i64 c1.i0, .int .i64 c1.i1, .slice Ag1 c1.gs.length cg1, .slice Ao1 c1.outs.length co1] 26)).alloc (.cells #[.slice Ar1 g1.rows.length cr1, .slice An1 g1.ones.length cn1, .slice Ac1 g1.cols.length cc1] 29) = W := ⟨_, rfl⟩
  have hB : Below v1.heap.size v1 v2 := by rw [← hv]; exact ((Below.refl _ _).alloc (Nat.le_refl _) _).alloc (by simp) _
  have HX1 := Lib.hid (show Blk v2 v1.heap.size 26 #[.int .i64 c1.i0, .int .i64 c1.i1, .slice Ag1 c1.gs.length cg1, .slice Ao1 c1.outs.length co1] by rw [← hv]; exact (Blk.new _ _ _).alloc _)
  have HY1 := Lib.hid (show Blk v2 (v1.heap.size + 1) 29 #[.slice Ar1 g1.rows.length cr1, .slice An1 g1.ones.length cn1, .slice Ac1 g1.cols.length cc1] by
    rw [← hv]
    have := Blk.new (v1.alloc (.cells #[.int .i64 c1.i0, .int .i64 c1.i1, .slice Ag1 c1.gs.length cg1, .slice Ao1 c1.outs.length co1] 26)) 29 #[.slice Ar1 g1.rows.length cr1, .slice An1 g1.ones.length cn1, .slice Ac1 g1.cols.length cc1]
    simpa using this)
  replace H1 := Lib.hid (H1.out.below hB)
  replace HB := Lib.hid (below_step HB.out hB)
  replace HC1 := Lib.hid (HC1.out.below hB)
  replace HG1 := Lib.hid (HG1.out.below hB)
  replace HI := Lib.hid (HI.out.below hB)
  clear hB
  refine Shut.mk ?_
  go_upto_region 4 with fail
  clear hv
  refine Shut.out ?_
  obtain ⟨b1, hg⟩ : ∃ n, v1.heap.size = n := ⟨_, rfl⟩
  rw [hg] at HX1 HY1 ⊢
  clear hg
  obtain ⟨R, hR⟩ : ∃ S, evalM 2 joinM c1 g1 l1_ = S := ⟨_, rfl⟩
  have hrl : (R.getD []).length ≤ 2097152 := by
    rw [← hR]
    unfold evalM
    split
    · rename_i hq
      simp only [Bool.and_eq_true] at hq
      have := cirB_bd hq.1.1.1
      simp only [Option.getD_some, pickM_length]; omega
    · simp
  have i1 := (fun (W : World) (u : Value) (h : CirIn W (.slice Ag1 c1.gs.length cg1) (.slice Ao1 c1.outs.length co1) c1) (h2 : GbIn W (.slice Ar1 g1.rows.length cr1) (.slice An1 g1.ones.length cn1) (.slice Ac1 g1.cols.length cc1) g1) (h3 : Ints W u l1_) => c_impl_EvalHalved (w := W) h h2 (by have := HS1.out; omega) h3 (by omega))
  have i2 := (fun (W : World) (u : Value) (h : CirIn W (.slice Ag1 c1.gs.length cg1) (.slice Ao1 c1.outs.length co1) c1) (h2 : GbIn W (.slice Ar1 g1.rows.length cr1) (.slice An1 g1.ones.length cn1) (.slice Ac1 g1.cols.length cc1) g1) (h3 : Ints W u l1_) => c_spec_EvalHalved (w := W) h h2 (by have := HS1.out; omega) h3 (by omega))
  rw [hR] at i1 i2
  unfold cirV gbV at i1 i2
  have CI := Lib.hid i1
  have CS := Lib.hid i2
  clear i1 i2 hR
  have q0 := HX1.out.cell 0
  have q1 := HX1.out.cell 1
  have q2 := HX1.out.cell 2
  have q3 := HX1.out.cell 3
  have z0 := HY1.out.cell 0
  have z1 := HY1.out.cell 1
  have z2 := HY1.out.cell 2
  refine Shut.mk ?_
  go_wp2_with fail
  clear q0 q1 q2 q3
  clear z0 z1 z2
  refine (CI.out _ _ HC1.out HG1.out HI.out).mono ?_
  intro e v3 hpost
  refine Shut.out ?_
  obtain ⟨uL, rfl, huL, hB⟩ := hpost
  replace H1 := Lib.hid (H1.out.below hB)
  replace HB := Lib.hid (below_step HB.out hB)
  replace HC1 := Lib.hid (HC1.out.below hB)
  replace HG1 := Lib.hid (HG1.out.below hB)
  replace HI := Lib.hid (HI.out.below hB)
  replace HX1 := Lib.hid (HX1.out.step hB)
  replace HY1 := Lib.hid (HY1.out.step hB)
  clear hB
  have HL := Lib.hid (show Ints v3 uL (R.getD []) from OwnI.ints huL)
  clear huL
  obtain ⟨AL, cL, eL, -⟩ := HL.out
  subst eL
  have q0 := HX1.out.cell 0
  have q1 := HX1.out.cell 1
  have q2 := HX1.out.cell 2
  have q3 := HX1.out.cell 3
  have z0 := HY1.out.cell 0
  have z1 := HY1.out.cell 1
  have z2 := HY1.out.cell 2
  refine Shut.mk ?_
  go_wp2_with fail
  clear q0 q1 q2 q3
  clear z0 z1 z2
  refine (CS.out _ _ HC1.out HG1.out HI.out).mono ?_
  intro e v4 hpost
  refine Shut.out ?_
  obtain ⟨uW, rfl, huW, hB⟩ := hpost
  replace H1 := Lib.hid (H1.out.below hB)
  replace HB := Lib.hid (below_step HB.out hB)
  replace HC1 := Lib.hid (HC1.out.below hB)
  replace HG1 := Lib.hid (HG1.out.below hB)
  replace HI := Lib.hid (HI.out.below hB)
  replace HX1 := Lib.hid (HX1.out.step hB)
  replace HY1 := Lib.hid (HY1.out.step hB)
  replace HL := Lib.hid (HL.out.below hB)
  clear hB
  have HW := Lib.hid (show Ints v4 uW (R.getD []) from OwnI.ints huW)
  clear huW
  obtain ⟨AW, cW, eW, -⟩ := HW.out
  subst eW
  clear CI CS
  clear HI HC1 HG1 HX1 HY1
  refine Shut.mk ?_
  go_wp2_with fail
  refine (c_spec_DrawDecodeHalved H1.out).mono ?_
  intro e v5 hpost
  refine Shut.out ?_
  obtain ⟨⟨c2, gv, ov, rv, nv, cv, ui, g2, l2_, rfl, -, hs, hl2, hc, hg, hi⟩, hB⟩ := hpost
  replace H1 := Lib.hid (H1.out.below hB)
  replace HB := Lib.hid (below_step HB.out hB)
  replace HL := Lib.hid (HL.out.below hB)
  replace HW := Lib.hid (HW.out.below hB)
  clear hB
  have HC2 := Lib.hid hc
  have HG2 := Lib.hid hg
  clear hc hg
  have HS2 := Lib.hid hs
  clear hs
  obtain ⟨Ag2, cg2, eg, -⟩ := HC2.out.gates
  obtain ⟨Ao2, co2, eo, -⟩ := HC2.out.outs
  obtain ⟨Ar2, cr2, er, -⟩ := HG2.out.rows.form
  obtain ⟨An2, cn2, en, -⟩ := HG2.out.ones
  obtain ⟨Ac2, cc2, ec, -⟩ := HG2.out.cols
  subst eg eo er en ec
  have HI := Lib.hid hi
  obtain ⟨AJ, cJ, rfl, -⟩ := hi
  refine Shut.mk ?_
  unfold cirV gbV
  refine Shut.out ?_
  obtain ⟨v6, hv⟩ : ∃ W, (v5.alloc (.cells #[.int .i64 c2.i0, .int .i64 c2.i1, .slice Ag2 c2.gs.length cg2, .slice Ao2 c2.outs.length co2] 26)).alloc (.cells #[.slice Ar2 g2.rows.length cr2, .slice An2 g2.ones.length cn2, .slice Ac2 g2.cols.length cc2] 29) = W := ⟨_, rfl⟩
  have hB : Below v5.heap.size v5 v6 := by rw [← hv]; exact ((Below.refl _ _).alloc (Nat.le_refl _) _).alloc (by simp) _
  have HX2 := Lib.hid (show Blk v6 v5.heap.size 26 #[.int .i64 c2.i0, .int .i64 c2.i1, .slice Ag2 c2.gs.length cg2, .slice Ao2 c2.outs.length co2] by rw [← hv]; exact (Blk.new _ _ _).alloc _)
  have HY2 := Lib.hid (show Blk v6 (v5.heap.size + 1) 29 #[.slice Ar2 g2.rows.length cr2, .slice An2 g2.ones.length cn2, .slice Ac2 g2.cols.length cc2] by
    rw [← hv]
    have := Blk.new (v5.alloc (.cells #[.int .i64 c2.i0, .int .i64 c2.i1, .slice Ag2 c2.gs.length cg2, .slice Ao2 c2.outs.length co2] 26)) 29 #[.slice Ar2 g2.rows.length cr2, .slice An2 g2.ones.length cn2, .slice Ac2 g2.cols.length cc2]
    simpa using this)
  replace H1 := Lib.hid (H1.out.below hB)
  replace HB := Lib.hid (below_step HB.out hB)
  replace HL := Lib.hid (HL.out.below hB)
  replace HW := Lib.hid (HW.out.below hB)
  replace HC2 := Lib.hid (HC2.out.below hB)
  replace HG2 := Lib.hid (HG2.out.below hB)
  replace HI := Lib.hid (HI.out.below hB)
  clear hB
  refine Shut.mk ?_
  go_upto_region 7 with fail
  clear hv
  refine Shut.out ?_
  obtain ⟨b2, hg⟩ : ∃ n, v5.heap.size = n := ⟨_, rfl⟩
  rw [hg] at HX2 HY2 ⊢
  clear hg
  obtain ⟨D, hD⟩ : ∃ S, decodeM 2 c2 g2 l2_ = S := ⟨_, rfl⟩
  have hdl : (D.getD []).length ≤ 2097152 := by
    rw [← hD]
    unfold decodeM
    split
    · rename_i hq
      simp only [Option.getD_some, xorsM, List.length_zipWith, coloursM_length]; omega
    · simp
  have i1 := (fun (W : World) (u : Value) (h : CirIn W (.slice Ag2 c2.gs.length cg2) (.slice Ao2 c2.outs.length co2) c2) (h2 : GbIn W (.slice Ar2 g2.rows.length cr2) (.slice An2 g2.ones.length cn2) (.slice Ac2 g2.cols.length cc2) g2) (h3 : Ints W u l2_) => c_impl_DecodeHalved (w := W) h h2 (by have := HS2.out; omega) h3 (by omega))
  have i2 := (fun (W : World) (u : Value) (h : CirIn W (.slice Ag2 c2.gs.length cg2) (.slice Ao2 c2.outs.length co2) c2) (h2 : GbIn W (.slice Ar2 g2.rows.length cr2) (.slice An2 g2.ones.length cn2) (.slice Ac2 g2.cols.length cc2) g2) (h3 : Ints W u l2_) => c_spec_DecodeHalved (w := W) h h2 (by have := HS2.out; omega) h3 (by omega))
  rw [hD] at i1 i2
  unfold cirV gbV at i1 i2
  have CI := Lib.hid i1
  have CS := Lib.hid i2
  clear i1 i2 hD
  have q0 := HX2.out.cell 0
  have q1 := HX2.out.cell 1
  have q2 := HX2.out.cell 2
  have q3 := HX2.out.cell 3
  have z0 := HY2.out.cell 0
  have z1 := HY2.out.cell 1
  have z2 := HY2.out.cell 2
  refine Shut.mk ?_
  go_wp2_with fail
  clear q0 q1 q2 q3
  clear z0 z1 z2
  refine (CI.out _ _ HC2.out HG2.out HI.out).mono ?_
  intro e v7 hpost
  refine Shut.out ?_
  obtain ⟨uP, rfl, huP, hB⟩ := hpost
  replace H1 := Lib.hid (H1.out.below hB)
  replace HB := Lib.hid (below_step HB.out hB)
  replace HL := Lib.hid (HL.out.below hB)
  replace HW := Lib.hid (HW.out.below hB)
  replace HC2 := Lib.hid (HC2.out.below hB)
  replace HG2 := Lib.hid (HG2.out.below hB)
  replace HI := Lib.hid (HI.out.below hB)
  replace HX2 := Lib.hid (HX2.out.step hB)
  replace HY2 := Lib.hid (HY2.out.step hB)
  clear hB
  have HP := Lib.hid (show Ints v7 uP (D.getD []) from OwnI.ints huP)
  clear huP
  obtain ⟨AP, cP, eP, -⟩ := HP.out
  subst eP
  have q0 := HX2.out.cell 0
  have q1 := HX2.out.cell 1
  have q2 := HX2.out.cell 2
  have q3 := HX2.out.cell 3
  have z0 := HY2.out.cell 0
  have z1 := HY2.out.cell 1
  have z2 := HY2.out.cell 2
  refine Shut.mk ?_
  go_wp2_with fail
  clear q0 q1 q2 q3
  clear z0 z1 z2
  refine (CS.out _ _ HC2.out HG2.out HI.out).mono ?_
  intro e v8 hpost
  refine Shut.out ?_
  obtain ⟨uQ, rfl, huQ, hB⟩ := hpost
  replace H1 := Lib.hid (H1.out.below hB)
  replace HB := Lib.hid (below_step HB.out hB)
  replace HL := Lib.hid (HL.out.below hB)
  replace HW := Lib.hid (HW.out.below hB)
  replace HC2 := Lib.hid (HC2.out.below hB)
  replace HG2 := Lib.hid (HG2.out.below hB)
  replace HI := Lib.hid (HI.out.below hB)
  replace HX2 := Lib.hid (HX2.out.step hB)
  replace HY2 := Lib.hid (HY2.out.step hB)
  replace HP := Lib.hid (HP.out.below hB)
  clear hB
  have HQ := Lib.hid (show Ints v8 uQ (D.getD []) from OwnI.ints huQ)
  clear huQ
  obtain ⟨AQ, cQ, eQ, -⟩ := HQ.out
  subst eQ
  clear CI CS
  clear HI HC2 HG2 HX2 HY2
  refine Shut.mk ?_
  go_wp2_with fail
  refine (c_spec_DrawBendHalf H1.out).mono ?_
  intro e v9 hpost
  refine Shut.out ?_
  obtain ⟨⟨c3, gv, ov, rv, nv, cv, g3, kk, row, mask, rfl, -, hs, hc, hg⟩, hB⟩ := hpost
  replace H1 := Lib.hid (H1.out.below hB)
  replace HB := Lib.hid (below_step HB.out hB)
  replace HL := Lib.hid (HL.out.below hB)
  replace HW := Lib.hid (HW.out.below hB)
  replace HP := Lib.hid (HP.out.below hB)
  replace HQ := Lib.hid (HQ.out.below hB)
  clear hB
  have HC3 := Lib.hid hc
  have HG3 := Lib.hid hg
  clear hc hg
  have HS3 := Lib.hid hs
  clear hs
  obtain ⟨Ag3, cg3, eg, -⟩ := HC3.out.gates
  obtain ⟨Ao3, co3, eo, -⟩ := HC3.out.outs
  obtain ⟨Ar3, cr3, er, -⟩ := HG3.out.rows.form
  obtain ⟨An3, cn3, en, -⟩ := HG3.out.ones
  obtain ⟨Ac3, cc3, ec, -⟩ := HG3.out.cols
  subst eg eo er en ec
  refine Shut.mk ?_
  unfold cirV gbV
  refine Shut.out ?_
  obtain ⟨v10, hv⟩ : ∃ W, (v9.alloc (.cells #[.int .i64 c3.i0, .int .i64 c3.i1, .slice Ag3 c3.gs.length cg3, .slice Ao3 c3.outs.length co3] 26)).alloc (.cells #[.slice Ar3 g3.rows.length cr3, .slice An3 g3.ones.length cn3, .slice Ac3 g3.cols.length cc3] 29) = W := ⟨_, rfl⟩
  have hB : Below v9.heap.size v9 v10 := by rw [← hv]; exact ((Below.refl _ _).alloc (Nat.le_refl _) _).alloc (by simp) _
  have HX3 := Lib.hid (show Blk v10 v9.heap.size 26 #[.int .i64 c3.i0, .int .i64 c3.i1, .slice Ag3 c3.gs.length cg3, .slice Ao3 c3.outs.length co3] by rw [← hv]; exact (Blk.new _ _ _).alloc _)
  have HY3 := Lib.hid (show Blk v10 (v9.heap.size + 1) 29 #[.slice Ar3 g3.rows.length cr3, .slice An3 g3.ones.length cn3, .slice Ac3 g3.cols.length cc3] by
    rw [← hv]
    have := Blk.new (v9.alloc (.cells #[.int .i64 c3.i0, .int .i64 c3.i1, .slice Ag3 c3.gs.length cg3, .slice Ao3 c3.outs.length co3] 26)) 29 #[.slice Ar3 g3.rows.length cr3, .slice An3 g3.ones.length cn3, .slice Ac3 g3.cols.length cc3]
    simpa using this)
  replace H1 := Lib.hid (H1.out.below hB)
  replace HB := Lib.hid (below_step HB.out hB)
  replace HL := Lib.hid (HL.out.below hB)
  replace HW := Lib.hid (HW.out.below hB)
  replace HP := Lib.hid (HP.out.below hB)
  replace HQ := Lib.hid (HQ.out.below hB)
  replace HC3 := Lib.hid (HC3.out.below hB)
  replace HG3 := Lib.hid (HG3.out.below hB)
  clear hB
  refine Shut.mk ?_
  go_upto_region 10 with fail
  clear hv
  refine Shut.out ?_
  obtain ⟨b3, hg⟩ : ∃ n, v9.heap.size = n := ⟨_, rfl⟩
  rw [hg] at HX3 HY3 ⊢
  clear hg
  obtain ⟨T, hT⟩ : ∃ S, bendM 2 0 1 c3 g3 kk row mask = S := ⟨_, rfl⟩
  have hts : (T.getD Gb.none).sz ≤ 3000 := by rw [← hT]; exact Nat.le_trans (bendM_sz _ _ _ _ _ _ _ _) HS3.out
  have i1 := (fun (W : World) (h : CirIn W (.slice Ag3 c3.gs.length cg3) (.slice Ao3 c3.outs.length co3) c3) (h2 : GbIn W (.slice Ar3 g3.rows.length cr3) (.slice An3 g3.ones.length cn3) (.slice Ac3 g3.cols.length cc3) g3) => c_impl_BendHalf (w := W) (k := kk) (row := row) (m := mask) h h2 (by have := HS3.out; omega))
  have i2 := (fun (W : World) (h : CirIn W (.slice Ag3 c3.gs.length cg3) (.slice Ao3 c3.outs.length co3) c3) (h2 : GbIn W (.slice Ar3 g3.rows.length cr3) (.slice An3 g3.ones.length cn3) (.slice Ac3 g3.cols.length cc3) g3) => c_spec_BendHalf (w := W) (k := kk) (row := row) (m := mask) h h2 (by have := HS3.out; omega))
  rw [hT] at i1 i2
  unfold cirV at i1 i2
  unfold gbV at i1 i2
  have CI := Lib.hid i1
  have CS := Lib.hid i2
  have HTT := Lib.hid hT
  clear i1 i2 hT
  have q0 := HX3.out.cell 0
  have q1 := HX3.out.cell 1
  have q2 := HX3.out.cell 2
  have q3 := HX3.out.cell 3
  have z0 := HY3.out.cell 0
  have z1 := HY3.out.cell 1
  have z2 := HY3.out.cell 2
  refine Shut.mk ?_
  go_wp2_with fail
  clear q0 q1 q2 q3
  clear z0 z1 z2
  refine (CI.out _ HC3.out HG3.out).mono ?_
  intro e v11 hpost
  refine Shut.out ?_
  obtain ⟨rvU, nvU, cvU, vsU, rfl, htU, hB⟩ := hpost
  replace H1 := Lib.hid (H1.out.below hB)
  replace HB := Lib.hid (below_step HB.out hB)
  replace HL := Lib.hid (HL.out.below hB)
  replace HW := Lib.hid (HW.out.below hB)
  replace HP := Lib.hid (HP.out.below hB)
  replace HQ := Lib.hid (HQ.out.below hB)
  replace HC3 := Lib.hid (HC3.out.below hB)
  replace HG3 := Lib.hid (HG3.out.below hB)
  replace HX3 := Lib.hid (HX3.out.step hB)
  replace HY3 := Lib.hid (HY3.out.step hB)
  clear hB
  have HU := Lib.hid (show GbIn v11 rvU nvU cvU (T.getD Gb.none) from OwnGb.gbIn htU)
  clear htU
  obtain ⟨AUr, cUr, er, -⟩ := HU.out.rows.form
  obtain ⟨AUn, cUn, en, -⟩ := HU.out.ones
  obtain ⟨AUc, cUc, ec, -⟩ := HU.out.cols
  subst er en ec
  refine Shut.mk ?_
  unfold gbV
  refine Shut.out ?_
  obtain ⟨v12, hv⟩ : ∃ W, v11.alloc (.cells #[.slice AUr (T.getD Gb.none).rows.length cUr, .slice AUn (T.getD Gb.none).ones.length cUn, .slice AUc (T.getD Gb.none).cols.length cUc] 29) = W := ⟨_, rfl⟩
  have hB : Below v11.heap.size v11 v12 := by rw [← hv]; exact (Below.refl _ _).alloc (Nat.le_refl _) _
  have HUX := Lib.hid (show Blk v12 v11.heap.size 29 #[.slice AUr (T.getD Gb.none).rows.length cUr, .slice AUn (T.getD Gb.none).ones.length cUn, .slice AUc (T.getD Gb.none).cols.length cUc] by rw [← hv]; exact Blk.new _ _ _)
  replace H1 := Lib.hid (H1.out.below hB)
  replace HB := Lib.hid (below_step HB.out hB)
  replace HL := Lib.hid (HL.out.below hB)
  replace HW := Lib.hid (HW.out.below hB)
  replace HP := Lib.hid (HP.out.below hB)
  replace HQ := Lib.hid (HQ.out.below hB)
  replace HC3 := Lib.hid (HC3.out.below hB)
  replace HG3 := Lib.hid (HG3.out.below hB)
  replace HX3 := Lib.hid (HX3.out.step hB)
  replace HY3 := Lib.hid (HY3.out.step hB)
  replace HU := Lib.hid (HU.out.below hB)
  clear hB
  refine Shut.mk ?_
  go_upto_region 11 with fail
  clear hv
  refine Shut.out ?_
  obtain ⟨bu, hg⟩ : ∃ n, v11.heap.size = n := ⟨_, rfl⟩
  rw [hg] at HUX ⊢
  clear hg
  have q0 := HX3.out.cell 0
  have q1 := HX3.out.cell 1
  have q2 := HX3.out.cell 2
  have q3 := HX3.out.cell 3
  have z0 := HY3.out.cell 0
  have z1 := HY3.out.cell 1
  have z2 := HY3.out.cell 2
  refine Shut.mk ?_
  go_wp2_with fail
  clear q0 q1 q2 q3
  clear z0 z1 z2
  refine (CS.out _ HC3.out HG3.out).mono ?_
  intro e v13 hpost
  refine Shut.out ?_
  obtain ⟨rvV, nvV, cvV, vsV, rfl, htV, hB⟩ := hpost
  replace H1 := Lib.hid (H1.out.below hB)
  replace HB := Lib.hid (below_step HB.out hB)
  replace HL := Lib.hid (HL.out.below hB)
  replace HW := Lib.hid (HW.out.below hB)
  replace HP := Lib.hid (HP.out.below hB)
  replace HQ := Lib.hid (HQ.out.below hB)
  replace HC3 := Lib.hid (HC3.out.below hB)
  replace HG3 := Lib.hid (HG3.out.below hB)
  replace HX3 := Lib.hid (HX3.out.step hB)
  replace HY3 := Lib.hid (HY3.out.step hB)
  replace HU := Lib.hid (HU.out.below hB)
  replace HUX := Lib.hid (HUX.out.step hB)
  clear hB
  have HV := Lib.hid (show GbIn v13 rvV nvV cvV (T.getD Gb.none) from OwnGb.gbIn htV)
  clear htV
  obtain ⟨AVr, cVr, er, -⟩ := HV.out.rows.form
  obtain ⟨AVn, cVn, en, -⟩ := HV.out.ones
  obtain ⟨AVc, cVc, ec, -⟩ := HV.out.cols
  subst er en ec
  refine Shut.mk ?_
  unfold gbV
  refine Shut.out ?_
  obtain ⟨v14, hv⟩ : ∃ W, v13.alloc (.cells #[.slice AVr (T.getD Gb.none).rows.length cVr, .slice AVn (T.getD Gb.none).ones.length cVn, .slice AVc (T.getD Gb.none).cols.length cVc] 29) = W := ⟨_, rfl⟩
  have hB : Below v13.heap.size v13 v14 := by rw [← hv]; exact (Below.refl _ _).alloc (Nat.le_refl _) _
  have HVX := Lib.hid (show Blk v14 v13.heap.size 29 #[.slice AVr (T.getD Gb.none).rows.length cVr, .slice AVn (T.getD Gb.none).ones.length cVn, .slice AVc (T.getD Gb.none).cols.length cVc] by rw [← hv]; exact Blk.new _ _ _)
  replace H1 := Lib.hid (H1.out.below hB)
  replace HB := Lib.hid (below_step HB.out hB)
  replace HL := Lib.hid (HL.out.below hB)
  replace HW := Lib.hid (HW.out.below hB)
  replace HP := Lib.hid (HP.out.below hB)
  replace HQ := Lib.hid (HQ.out.below hB)
  replace HC3 := Lib.hid (HC3.out.below hB)
  replace HG3 := Lib.hid (HG3.out.below hB)
  replace HX3 := Lib.hid (HX3.out.step hB)
  replace HY3 := Lib.hid (HY3.out.step hB)
  replace HU := Lib.hid (HU.out.below hB)
  replace HUX := Lib.hid (HUX.out.step hB)
  replace HV := Lib.hid (HV.out.below hB)
  clear hB
  refine Shut.mk ?_
  go_upto_region 12 with fail
  clear hv
  refine Shut.out ?_
  obtain ⟨bv, hg⟩ : ∃ n, v13.heap.size = n := ⟨_, rfl⟩
  rw [hg] at HVX ⊢
  clear hg
  clear CI CS
  refine Shut.mk ?_
  go_wp2_with fail
  refine (c_spec_DrawHalfCipher H1.out).mono ?_
  intro e v15 hpost
  refine Shut.out ?_
  obtain ⟨⟨hn, hl_, hs_, rfl⟩, hB⟩ := hpost
  clear H1
  replace HB := Lib.hid (below_step HB.out hB)
  replace HL := Lib.hid (HL.out.below hB)
  replace HW := Lib.hid (HW.out.below hB)
  replace HP := Lib.hid (HP.out.below hB)
  replace HQ := Lib.hid (HQ.out.below hB)
  replace HC3 := Lib.hid (HC3.out.below hB)
  replace HG3 := Lib.hid (HG3.out.below hB)
  replace HX3 := Lib.hid (HX3.out.step hB)
  replace HY3 := Lib.hid (HY3.out.step hB)
  replace HU := Lib.hid (HU.out.below hB)
  replace HUX := Lib.hid (HUX.out.step hB)
  replace HV := Lib.hid (HV.out.below hB)
  replace HVX := Lib.hid (HVX.out.step hB)
  clear hB
  obtain ⟨n9, hn9⟩ : ∃ n, oV (halfM hn hl_ hs_) = n := ⟨_, rfl⟩
  obtain ⟨b9, hb9⟩ : ∃ b, oB (halfM hn hl_ hs_) = b := ⟨_, rfl⟩
  have hbd := half_bd hn hl_ hs_
  have i1 := (fun (W : World) => c_impl_HalfCipher (w := W) (n := hn) (l := hl_) (s := hs_))
  have i2 := (fun (W : World) => c_spec_HalfCipher (w := W) (n := hn) (l := hl_) (s := hs_))
  rw [hn9] at hbd i1 i2
  rw [hb9] at i1 i2
  have CI := Lib.hid i1
  have CS := Lib.hid i2
  have h90 : ¬ n9 < 0 := by omega
  have h91 : ¬ (65535 : Int) < n9 := by omega
  clear i1 i2 hn9 hb9 hbd
  refine Shut.mk ?_
  go_wp2_with fail
  refine (CI.out _).mono ?_
  intro e v16 hpost
  refine Shut.out ?_
  obtain ⟨rfl, hB⟩ := hpost
  replace HB := Lib.hid (below_step HB.out hB)
  replace HL := Lib.hid (HL.out.below hB)
  replace HW := Lib.hid (HW.out.below hB)
  replace HP := Lib.hid (HP.out.below hB)
  replace HQ := Lib.hid (HQ.out.below hB)
  replace HC3 := Lib.hid (HC3.out.below hB)
  replace HG3 := Lib.hid (HG3.out.below hB)
  replace HX3 := Lib.hid (HX3.out.step hB)
  replace HY3 := Lib.hid (HY3.out.step hB)
  replace HU := Lib.hid (HU.out.below hB)
  replace HUX := Lib.hid (HUX.out.step hB)
  replace HV := Lib.hid (HV.out.below hB)
  replace HVX := Lib.hid (HVX.out.step hB)
  clear hB
  refine Shut.mk ?_
  go_wp2_with fail
  refine (CS.out _).mono ?_
  intro e v17 hpost
  refine Shut.out ?_
  obtain ⟨rfl, hB⟩ := hpost
  replace HB := Lib.hid (below_step HB.out hB)
  replace HL := Lib.hid (HL.out.below hB)
  replace HW := Lib.hid (HW.out.below hB)
  replace HP := Lib.hid (HP.out.below hB)
  replace HQ := Lib.hid (HQ.out.below hB)
  replace HC3 := Lib.hid (HC3.out.below hB)
  replace HG3 := Lib.hid (HG3.out.below hB)
  replace HX3 := Lib.hid (HX3.out.step hB)
  replace HY3 := Lib.hid (HY3.out.step hB)
  replace HU := Lib.hid (HU.out.below hB)
  replace HUX := Lib.hid (HUX.out.step hB)
  replace HV := Lib.hid (HV.out.below hB)
  replace HVX := Lib.hid (HVX.out.step hB)
  clear hB
  clear CI CS
  refine Shut.mk ?_
  go_upto_region 15 with fail
  go_cut [180] (fun s wx => s = .bool false ∧ Hid (Below v17.heap.size v17 wx))
  case first =>
    have HZ := Lib.hid (Below.refl v17.heap.size v17)
    refine Shut.out ?_
    cases b9
    ·
      refine Shut.mk ?_
      go_wp2_with fail
      refine (c_laws_qInts HL.out HW.out hrl).mono ?_
      intro e v18 hpost
      refine Shut.out ?_
      obtain ⟨rfl, hB⟩ := hpost
      replace HB := Lib.hid (below_step HB.out hB)
      replace HL := Lib.hid (HL.out.below hB)
      replace HW := Lib.hid (HW.out.below hB)
      replace HP := Lib.hid (HP.out.below hB)
      replace HQ := Lib.hid (HQ.out.below hB)
      replace HC3 := Lib.hid (HC3.out.below hB)
      replace HG3 := Lib.hid (HG3.out.below hB)
      replace HX3 := Lib.hid (HX3.out.step hB)
      replace HY3 := Lib.hid (HY3.out.step hB)
      replace HU := Lib.hid (HU.out.below hB)
      replace HUX := Lib.hid (HUX.out.step hB)
      replace HV := Lib.hid (HV.out.below hB)
      replace HVX := Lib.hid (HVX.out.step hB)
      replace HZ := Lib.hid (below_step HZ.out hB)
      clear hB
      refine Shut.mk ?_
      go_wp2_with fail
      refine (c_laws_qInts HP.out HQ.out hdl).mono ?_
      intro e v19 hpost
      refine Shut.out ?_
      obtain ⟨rfl, hB⟩ := hpost
      replace HB := Lib.hid (below_step HB.out hB)
      replace HL := Lib.hid (HL.out.below hB)
      replace HW := Lib.hid (HW.out.below hB)
      replace HP := Lib.hid (HP.out.below hB)
      replace HQ := Lib.hid (HQ.out.below hB)
      replace HC3 := Lib.hid (HC3.out.below hB)
      replace HG3 := Lib.hid (HG3.out.below hB)
      replace HX3 := Lib.hid (HX3.out.step hB)
      replace HY3 := Lib.hid (HY3.out.step hB)
      replace HU := Lib.hid (HU.out.below hB)
      replace HUX := Lib.hid (HUX.out.step hB)
      replace HV := Lib.hid (HV.out.below hB)
      replace HVX := Lib.hid (HVX.out.step hB)
      replace HZ := Lib.hid (below_step HZ.out hB)
      clear hB
      have q0 := HUX.out.cell 0
      have q1 := HUX.out.cell 1
      have q2 := HUX.out.cell 2
      have y0 := HVX.out.cell 0
      have y1 := HVX.out.cell 1
      have y2 := HVX.out.cell 2
      refine Shut.mk ?_
      go_wp2_with fail
      clear q0 q1 q2
      clear y0 y1 y2
      refine (c_laws_qHalved HU.out HV.out (by omega)).mono ?_
      intro e v20 hpost
      refine Shut.out ?_
      obtain ⟨rfl, hB⟩ := hpost
      replace HB := Lib.hid (below_step HB.out hB)
      replace HL := Lib.hid (HL.out.below hB)
      replace HW := Lib.hid (HW.out.below hB)
      replace HP := Lib.hid (HP.out.below hB)
      replace HQ := Lib.hid (HQ.out.below hB)
      replace HC3 := Lib.hid (HC3.out.below hB)
      replace HG3 := Lib.hid (HG3.out.below hB)
      replace HX3 := Lib.hid (HX3.out.step hB)
      replace HY3 := Lib.hid (HY3.out.step hB)
      replace HU := Lib.hid (HU.out.below hB)
      replace HUX := Lib.hid (HUX.out.step hB)
      replace HV := Lib.hid (HV.out.below hB)
      replace HVX := Lib.hid (HVX.out.step hB)
      replace HZ := Lib.hid (below_step HZ.out hB)
      clear hB
      refine Shut.mk ?_
      go_wp2_with fail
      go_meet
      first
        | exact ⟨rfl, HZ.out⟩
        | exact ⟨by (have e0 : ¬ n9 < 0 := by omega); (have e1 : ¬ (65535 : Int) < n9 := by omega); simp [e0, e1], HZ.out⟩
    ·
      refine Shut.mk ?_
      go_wp2_with fail
      refine (c_laws_qInts HL.out HW.out hrl).mono ?_
      intro e v21 hpost
      refine Shut.out ?_
      obtain ⟨rfl, hB⟩ := hpost
      replace HB := Lib.hid (below_step HB.out hB)
      replace HL := Lib.hid (HL.out.below hB)
      replace HW := Lib.hid (HW.out.below hB)
      replace HP := Lib.hid (HP.out.below hB)
      replace HQ := Lib.hid (HQ.out.below hB)
      replace HC3 := Lib.hid (HC3.out.below hB)
      replace HG3 := Lib.hid (HG3.out.below hB)
      replace HX3 := Lib.hid (HX3.out.step hB)
      replace HY3 := Lib.hid (HY3.out.step hB)
      replace HU := Lib.hid (HU.out.below hB)
      replace HUX := Lib.hid (HUX.out.step hB)
      replace HV := Lib.hid (HV.out.below hB)
      replace HVX := Lib.hid (HVX.out.step hB)
      replace HZ := Lib.hid (below_step HZ.out hB)
      clear hB
      refine Shut.mk ?_
      go_wp2_with fail
      refine (c_laws_qInts HP.out HQ.out hdl).mono ?_
      intro e v22 hpost
      refine Shut.out ?_
      obtain ⟨rfl, hB⟩ := hpost
      replace HB := Lib.hid (below_step HB.out hB)
      replace HL := Lib.hid (HL.out.below hB)
      replace HW := Lib.hid (HW.out.below hB)
      replace HP := Lib.hid (HP.out.below hB)
      replace HQ := Lib.hid (HQ.out.below hB)
      replace HC3 := Lib.hid (HC3.out.below hB)
      replace HG3 := Lib.hid (HG3.out.below hB)
      replace HX3 := Lib.hid (HX3.out.step hB)
      replace HY3 := Lib.hid (HY3.out.step hB)
      replace HU := Lib.hid (HU.out.below hB)
      replace HUX := Lib.hid (HUX.out.step hB)
      replace HV := Lib.hid (HV.out.below hB)
      replace HVX := Lib.hid (HVX.out.step hB)
      replace HZ := Lib.hid (below_step HZ.out hB)
      clear hB
      have q0 := HUX.out.cell 0
      have q1 := HUX.out.cell 1
      have q2 := HUX.out.cell 2
      have y0 := HVX.out.cell 0
      have y1 := HVX.out.cell 1
      have y2 := HVX.out.cell 2
      refine Shut.mk ?_
      go_wp2_with fail
      clear q0 q1 q2
      clear y0 y1 y2
      refine (c_laws_qHalved HU.out HV.out (by omega)).mono ?_
      intro e v23 hpost
      refine Shut.out ?_
      obtain ⟨rfl, hB⟩ := hpost
      replace HB := Lib.hid (below_step HB.out hB)
      replace HL := Lib.hid (HL.out.below hB)
      replace HW := Lib.hid (HW.out.below hB)
      replace HP := Lib.hid (HP.out.below hB)
      replace HQ := Lib.hid (HQ.out.below hB)
      replace HC3 := Lib.hid (HC3.out.below hB)
      replace HG3 := Lib.hid (HG3.out.below hB)
      replace HX3 := Lib.hid (HX3.out.step hB)
      replace HY3 := Lib.hid (HY3.out.step hB)
      replace HU := Lib.hid (HU.out.below hB)
      replace HUX := Lib.hid (HUX.out.step hB)
      replace HV := Lib.hid (HV.out.below hB)
      replace HVX := Lib.hid (HVX.out.step hB)
      replace HZ := Lib.hid (below_step HZ.out hB)
      clear hB
      refine Shut.mk ?_
      go_wp2_with fail
      go_meet
      first
        | exact ⟨rfl, HZ.out⟩
        | exact ⟨by (have e0 : ¬ n9 < 0 := by omega); (have e1 : ¬ (65535 : Int) < n9 := by omega); simp [e0, e1], HZ.out⟩
  case rest =>
    refine Shut.out ?_
    obtain ⟨rfl, hcut2⟩ := hcut
    obtain ⟨wm, hwm⟩ : ∃ W, wc = W := ⟨_, rfl⟩
    rw [hwm] at hcut2 ⊢
    clear hwm
    have hB := hcut2.out
    clear hcut2 hrl hdl h90 h91
    replace HB := Lib.hid (below_step HB.out hB)
    replace HL := Lib.hid (HL.out.below hB)
    replace HW := Lib.hid (HW.out.below hB)
    replace HP := Lib.hid (HP.out.below hB)
    replace HQ := Lib.hid (HQ.out.below hB)
    replace HC3 := Lib.hid (HC3.out.below hB)
    replace HG3 := Lib.hid (HG3.out.below hB)
    replace HX3 := Lib.hid (HX3.out.step hB)
    replace HY3 := Lib.hid (HY3.out.step hB)
    replace HU := Lib.hid (HU.out.below hB)
    replace HUX := Lib.hid (HUX.out.step hB)
    replace HV := Lib.hid (HV.out.below hB)
    replace HVX := Lib.hid (HVX.out.step hB)
    clear hB
    clear HL HW HP HQ HV HVX
    rcases T with _ | t
    · refine Shut.mk ?_
      go_wp2
      go_ret
      exact ⟨rfl, HB.out⟩
    have hb2 := bend_twice HTT.out
    have hts2 : t.sz ≤ 3000 := hts
    have i1 := (fun (W : World) (r n c : Value) (h : CirIn W (.slice Ag3 c3.gs.length cg3) (.slice Ao3 c3.outs.length co3) c3) (h2 : GbIn W r n c t) => c_impl_BendHalf (w := W) (k := kk) (row := row) (m := mask) h h2 (by omega))
    rw [hb2] at i1
    unfold cirV at i1
    unfold gbV at i1
    have CI := Lib.hid i1
    replace HU := Lib.hid (show GbIn wm (.slice AUr t.rows.length cUr) (.slice AUn t.ones.length cUn) (.slice AUc t.cols.length cUc) t from HU.out)
    replace HUX := Lib.hid (show Blk wm bu 29 #[.slice AUr t.rows.length cUr, .slice AUn t.ones.length cUn, .slice AUc t.cols.length cUc] from HUX.out)
    rw [show (some t).isSome = true from rfl]
    clear i1 hb2 hts HTT
    have q0 := HX3.out.cell 0
    have q1 := HX3.out.cell 1
    have q2 := HX3.out.cell 2
    have q3 := HX3.out.cell 3
    have z0 := HUX.out.cell 0
    have z1 := HUX.out.cell 1
    have z2 := HUX.out.cell 2
    refine Shut.mk ?_
    go_wp2_with fail
    clear q0 q1 q2 q3
    clear z0 z1 z2
    refine (CI.out _ _ _ _ HC3.out HU.out).mono ?_
    intro e v24 hpost
    refine Shut.out ?_
    obtain ⟨rvK, nvK, cvK, vsK, rfl, htK, hB⟩ := hpost
    replace HB := Lib.hid (below_step HB.out hB)
    replace HC3 := Lib.hid (HC3.out.below hB)
    replace HG3 := Lib.hid (HG3.out.below hB)
    replace HX3 := Lib.hid (HX3.out.step hB)
    replace HY3 := Lib.hid (HY3.out.step hB)
    replace HU := Lib.hid (HU.out.below hB)
    replace HUX := Lib.hid (HUX.out.step hB)
    clear hB
    have HK := Lib.hid (show GbIn v24 rvK nvK cvK (g3) from OwnGb.gbIn htK)
    clear htK
    obtain ⟨AKr, cKr, er, -⟩ := HK.out.rows.form
    obtain ⟨AKn, cKn, en, -⟩ := HK.out.ones
    obtain ⟨AKc, cKc, ec, -⟩ := HK.out.cols
    subst er en ec
    refine Shut.mk ?_
    unfold gbV
    refine Shut.out ?_
    obtain ⟨v25, hv⟩ : ∃ W, v24.alloc (.cells #[.slice AKr (g3).rows.length cKr, .slice AKn (g3).ones.length cKn, .slice AKc (g3).cols.length cKc] 29) = W := ⟨_, rfl⟩
    have hB : Below v24.heap.size v24 v25 := by rw [← hv]; exact (Below.refl _ _).alloc (Nat.le_refl _) _
    have HKX := Lib.hid (show Blk v25 v24.heap.size 29 #[.slice AKr (g3).rows.length cKr, .slice AKn (g3).ones.length cKn, .slice AKc (g3).cols.length cKc] by rw [← hv]; exact Blk.new _ _ _)
    replace HB := Lib.hid (below_step HB.out hB)
    replace HC3 := Lib.hid (HC3.out.below hB)
    replace HG3 := Lib.hid (HG3.out.below hB)
    replace HX3 := Lib.hid (HX3.out.step hB)
    replace HY3 := Lib.hid (HY3.out.step hB)
    replace HU := Lib.hid (HU.out.below hB)
    replace HUX := Lib.hid (HUX.out.step hB)
    replace HK := Lib.hid (HK.out.below hB)
    clear hB
    refine Shut.mk ?_
    go_upto_region 20 with fail
    clear hv
    refine Shut.out ?_
    obtain ⟨bk, hg⟩ : ∃ n, v24.heap.size = n := ⟨_, rfl⟩
    rw [hg] at HKX ⊢
    clear hg
    have q0 := HKX.out.cell 0
    have q1 := HKX.out.cell 1
    have q2 := HKX.out.cell 2
    have z0 := HY3.out.cell 0
    have z1 := HY3.out.cell 1
    have z2 := HY3.out.cell 2
    refine Shut.mk ?_
    go_wp2_with fail
    clear q0 q1 q2
    clear z0 z1 z2
    refine (c_laws_qHalved HK.out HG3.out (by have := HS3.out; omega)).mono ?_
    intro e v26 hpost
    refine Shut.out ?_
    obtain ⟨rfl, hB⟩ := hpost
    replace HB := Lib.hid (below_step HB.out hB)
    replace HC3 := Lib.hid (HC3.out.below hB)
    replace HG3 := Lib.hid (HG3.out.below hB)
    replace HX3 := Lib.hid (HX3.out.step hB)
    replace HY3 := Lib.hid (HY3.out.step hB)
    replace HU := Lib.hid (HU.out.below hB)
    replace HUX := Lib.hid (HUX.out.step hB)
    replace HK := Lib.hid (HK.out.below hB)
    replace HKX := Lib.hid (HKX.out.step hB)
    clear hB
    refine Shut.mk ?_
    go_wp2
    go_ret
    exact ⟨rfl, HB.out⟩
end Go.Proofs.Ytejeppjmlgfiaaa
