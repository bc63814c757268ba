/- The walk of the law FnHalves: its Go text returns true for every input. No condition. -/
import Derived.Test.YtejeppjmlgfiaaaGreatHa16
import Derived.Test.YtejeppjmlgfiaaaGreatHa19
import Derived.Test.YtejeppjmlgfiaaaGreatHa49
import Derived.Test.YtejeppjmlgfiaaaGreatHa51
import Derived.Test.YtejeppjmlgfiaaaGreatHa48
import Derived.Test.YtejeppjmlgfiaaaGreatHa25
import Derived.Deep.DeepCutAuto
namespace Go.Proofs.YtejeppjmlgfiaaaGreat
open Go.RowKit
set_option linter.unusedVariables false

set_option maxRecDepth 100000 in
set_option maxHeartbeats 16000000 in
theorem w_FnHalves (w : World) {cd1 cd2 : Value} {l1 l2 : List Int} (h0 : Byts w cd1 l1) (h1 : Byts w cd2 l2) : Calls Tryz.prog 3 #[cd1, cd2] w fun e w' => e = .returned (.bool true) ∧ Below w.heap.size w w' := by
  have H0 := Lib.hid h0
  have H1 := Lib.hid h1
  obtain ⟨⟨A1, k1, rfl, -⟩, -⟩ := h0
  obtain ⟨⟨A2, k2, rfl, -⟩, -⟩ := h1
  have HB := Lib.hid (Below.refl w.heap.size w)
  by_cases hbig : (1048576 : Int) < wrap64 ((l1.length : Int) + (l2.length : Int))
  · go_enter Tryz.func3, Tryz.ntmps3
    go_wp2
    go_ret
    exact ⟨rfl, HB.out⟩
  go_enter Tryz.func3, Tryz.ntmps3
  go_wp2_with fail
  clear hbig
  refine (c_spec_DrawRunHalved H0.out).mono ?_
  intro e v1 hpost
  refine Shut.out ?_
  obtain ⟨⟨c, gv, ov, ua, ub, key, a, b, rfl, -, hla, hlb, hci, hua, hub⟩, hB⟩ := hpost
  clear H0
  replace H1 := Lib.hid (H1.out.below hB)
  replace HB := Lib.hid (below_step HB.out hB)
  clear hB
  have HCI := Lib.hid hci
  have HUA := Lib.hid hua
  have HUB := Lib.hid hub
  obtain ⟨AA, cA, rfl, -⟩ := hua
  obtain ⟨AB, cB, rfl, -⟩ := hub
  clear hci
  obtain ⟨Ag, cg, eg, -⟩ := HCI.out.gates
  obtain ⟨Ao, co, eo, -⟩ := HCI.out.outs
  subst eg eo
  refine Shut.mk ?_
  unfold cirV
  refine Shut.out ?_
  obtain ⟨v2, hv⟩ : ∃ W, v1.alloc (.cells #[.int .i64 c.i0, .int .i64 c.i1, .slice Ag c.gs.length cg, .slice Ao c.outs.length co] 26) = W := ⟨_, rfl⟩
  have hB : Below v1.heap.size v1 v2 := by rw [← hv]; exact (Below.refl _ _).alloc (Nat.le_refl _) _
  have HX := Lib.hid (show Blk v2 v1.heap.size 26 #[.int .i64 c.i0, .int .i64 c.i1, .slice Ag c.gs.length cg, .slice Ao c.outs.length co] by rw [← hv]; exact Blk.new _ _ _)
  replace H1 := Lib.hid (H1.out.below hB)
  replace HB := Lib.hid (below_step HB.out hB)
  replace HCI := Lib.hid (HCI.out.below hB)
  replace HUA := Lib.hid (HUA.out.below hB)
  replace HUB := Lib.hid (HUB.out.below hB)
  clear hB
  refine Shut.mk ?_
  go_upto_region 4 with fail
  clear hv
  refine Shut.out ?_
  obtain ⟨bx, hg⟩ : ∃ n, v1.heap.size = n := ⟨_, rfl⟩
  rw [hg] at HX ⊢
  clear hg
  obtain ⟨R, hR⟩ : ∃ S, runM joinM hgZ hgR c key a b = S := ⟨_, rfl⟩
  have hrl := run_len (F := joinM) (Z := hgZ) (R := hgR) c key a b
  have ci := (fun (W : World) (h : CirIn W (.slice Ag c.gs.length cg) (.slice Ao c.outs.length co) c) (h1 : Ints W (.slice AA a.length cA) a) (h2 : Ints W (.slice AB b.length cB) b) => c_impl_RunHalved (w := W) (key := key) h h1 h2 (by omega) (by omega))
  have cs := (fun (W : World) (h : CirIn W (.slice Ag c.gs.length cg) (.slice Ao c.outs.length co) c) (h1 : Ints W (.slice AA a.length cA) a) (h2 : Ints W (.slice AB b.length cB) b) => c_spec_RunHalved (w := W) (key := key) h h1 h2 (by omega) (by omega))
  rw [hR] at ci cs hrl
  unfold cirV at ci cs
  have CI := Lib.hid ci
  have CS := Lib.hid cs
  have HR := Lib.hid hR
  clear ci cs hR
  have q0 := HX.out.cell 0
  have q1 := HX.out.cell 1
  have q2 := HX.out.cell 2
  have q3 := HX.out.cell 3
  refine Shut.mk ?_
  go_wp2_with fail
  clear q0 q1 q2 q3
  refine (CI.out _ HCI.out HUA.out HUB.out).mono ?_
  intro e v3 hpost
  refine Shut.out ?_
  obtain ⟨uL, rfl, huL, hB⟩ := hpost
  replace H1 := Lib.hid (H1.out.below hB)
  replace HB := Lib.hid (below_step HB.out hB)
  replace HCI := Lib.hid (HCI.out.below hB)
  replace HUA := Lib.hid (HUA.out.below hB)
  replace HUB := Lib.hid (HUB.out.below hB)
  replace HX := Lib.hid (HX.out.step hB)
  clear hB
  have HL := Lib.hid (show Ints v3 uL (R.getD []) from OwnI.ints huL)
  clear huL
  obtain ⟨AL, cL, eL, -⟩ := HL.out
  subst eL
  have q0 := HX.out.cell 0
  have q1 := HX.out.cell 1
  have q2 := HX.out.cell 2
  have q3 := HX.out.cell 3
  refine Shut.mk ?_
  go_wp2_with fail
  clear q0 q1 q2 q3
  refine (CS.out _ HCI.out HUA.out HUB.out).mono ?_
  intro e v4 hpost
  refine Shut.out ?_
  obtain ⟨uW, rfl, huW, hB⟩ := hpost
  replace H1 := Lib.hid (H1.out.below hB)
  replace HB := Lib.hid (below_step HB.out hB)
  replace HCI := Lib.hid (HCI.out.below hB)
  replace HUA := Lib.hid (HUA.out.below hB)
  replace HUB := Lib.hid (HUB.out.below hB)
  replace HX := Lib.hid (HX.out.step hB)
  replace HL := Lib.hid (HL.out.below hB)
  clear hB
  have HW := Lib.hid (show Ints v4 uW (R.getD []) from OwnI.ints huW)
  clear huW
  obtain ⟨AW, cW, eW, -⟩ := HW.out
  subst eW
  clear CI CS
  refine Shut.mk ?_
  go_wp2_with fail
  refine (c_spec_DrawHalveCircuit H1.out).mono ?_
  intro e v5 hpost
  refine Shut.out ?_
  obtain ⟨⟨d, gv, ov, k, off, rfl, -, hdg, hdo⟩, hB⟩ := hpost
  clear H1
  replace HB := Lib.hid (below_step HB.out hB)
  replace HCI := Lib.hid (HCI.out.below hB)
  replace HUA := Lib.hid (HUA.out.below hB)
  replace HUB := Lib.hid (HUB.out.below hB)
  replace HX := Lib.hid (HX.out.step hB)
  replace HL := Lib.hid (HL.out.below hB)
  replace HW := Lib.hid (HW.out.below hB)
  clear hB
  have HDI := Lib.hid (show CirIn v5 gv ov d from ⟨OwnG.gates hdg, hdo.ints⟩)
  clear hdg hdo
  obtain ⟨Ah, ch, eh, -⟩ := HDI.out.gates
  obtain ⟨Ap, cp, ep, -⟩ := HDI.out.outs
  subst eh ep
  refine Shut.mk ?_
  unfold cirV
  refine Shut.out ?_
  obtain ⟨v6, hv⟩ : ∃ W, v5.alloc (.cells #[.int .i64 d.i0, .int .i64 d.i1, .slice Ah d.gs.length ch, .slice Ap d.outs.length cp] 26) = W := ⟨_, rfl⟩
  have hB : Below v5.heap.size v5 v6 := by rw [← hv]; exact (Below.refl _ _).alloc (Nat.le_refl _) _
  have HY := Lib.hid (show Blk v6 v5.heap.size 26 #[.int .i64 d.i0, .int .i64 d.i1, .slice Ah d.gs.length ch, .slice Ap d.outs.length cp] by rw [← hv]; exact Blk.new _ _ _)
  replace HB := Lib.hid (below_step HB.out hB)
  replace HCI := Lib.hid (HCI.out.below hB)
  replace HUA := Lib.hid (HUA.out.below hB)
  replace HUB := Lib.hid (HUB.out.below hB)
  replace HX := Lib.hid (HX.out.step hB)
  replace HL := Lib.hid (HL.out.below hB)
  replace HW := Lib.hid (HW.out.below hB)
  replace HDI := Lib.hid (HDI.out.below hB)
  clear hB
  refine Shut.mk ?_
  go_upto_region 7 with fail
  clear hv
  refine Shut.out ?_
  obtain ⟨by_, hg⟩ : ∃ n, v5.heap.size = n := ⟨_, rfl⟩
  rw [hg] at HY ⊢
  clear hg
  obtain ⟨T, hT⟩ : ∃ S, tablesM hgZ hgR d k off = S := ⟨_, rfl⟩
  obtain ⟨Z, hZ⟩ : ∃ S, zerosM hgZ hgR d k off = S := ⟨_, rfl⟩
  have hts := made_sz (key := k) (off := off) (c := d) hgS (by omega)
  have hzl := made_len (Z := hgZ) (R := hgR) (key := k) (off := off) (c := d)
  have c1 := (fun (W : World) (h : CirIn W (.slice Ah d.gs.length ch) (.slice Ap d.outs.length cp) d) => c_impl_HalveCircuit (w := W) (key := k) (off := off) h)
  have c2 := (fun (W : World) (h : CirIn W (.slice Ah d.gs.length ch) (.slice Ap d.outs.length cp) d) => c_spec_HalveCircuit (w := W) (key := k) (off := off) h)
  have c3 := (fun (W : World) (h : CirIn W (.slice Ah d.gs.length ch) (.slice Ap d.outs.length cp) d) => c_impl_HalfZeros (w := W) (key := k) (off := off) h)
  have c4 := (fun (W : World) (h : CirIn W (.slice Ah d.gs.length ch) (.slice Ap d.outs.length cp) d) => c_spec_HalfZeros (w := W) (key := k) (off := off) h)
  rw [hT] at c1 c2 hts
  rw [hZ] at c3 c4 hzl
  unfold cirV at c1 c2 c3 c4
  have C1 := Lib.hid c1
  have C2 := Lib.hid c2
  have C3 := Lib.hid c3
  have C4 := Lib.hid c4
  have HT := Lib.hid hT
  clear c1 c2 c3 c4 hT hZ
  have q0 := HY.out.cell 0
  have q1 := HY.out.cell 1
  have q2 := HY.out.cell 2
  have q3 := HY.out.cell 3
  refine Shut.mk ?_
  go_wp2_with fail
  clear q0 q1 q2 q3
  refine (C1.out _ HDI.out).mono ?_
  intro e v7 hpost
  refine Shut.out ?_
  obtain ⟨rvG, nvG, cvG, vsG, rfl, htG, hB⟩ := hpost
  replace HB := Lib.hid (below_step HB.out hB)
  replace HCI := Lib.hid (HCI.out.below hB)
  replace HUA := Lib.hid (HUA.out.below hB)
  replace HUB := Lib.hid (HUB.out.below hB)
  replace HX := Lib.hid (HX.out.step hB)
  replace HL := Lib.hid (HL.out.below hB)
  replace HW := Lib.hid (HW.out.below hB)
  replace HDI := Lib.hid (HDI.out.below hB)
  replace HY := Lib.hid (HY.out.step hB)
  clear hB
  have HG := Lib.hid (show GbIn v7 rvG nvG cvG (T.getD Gb.none) from OwnGb.gbIn htG)
  clear htG
  obtain ⟨AGr, cGr, er, -⟩ := HG.out.rows.form
  obtain ⟨AGn, cGn, en, -⟩ := HG.out.ones
  obtain ⟨AGc, cGc, ec, -⟩ := HG.out.cols
  subst er en ec
  refine Shut.mk ?_
  unfold gbV
  refine Shut.out ?_
  obtain ⟨v8, hv⟩ : ∃ W, v7.alloc (.cells #[.slice AGr (T.getD Gb.none).rows.length cGr, .slice AGn (T.getD Gb.none).ones.length cGn, .slice AGc (T.getD Gb.none).cols.length cGc] 35) = W := ⟨_, rfl⟩
  have hB : Below v7.heap.size v7 v8 := by rw [← hv]; exact (Below.refl _ _).alloc (Nat.le_refl _) _
  have HGX := Lib.hid (show Blk v8 v7.heap.size 35 #[.slice AGr (T.getD Gb.none).rows.length cGr, .slice AGn (T.getD Gb.none).ones.length cGn, .slice AGc (T.getD Gb.none).cols.length cGc] by rw [← hv]; exact Blk.new _ _ _)
  replace HB := Lib.hid (below_step HB.out hB)
  replace HCI := Lib.hid (HCI.out.below hB)
  replace HUA := Lib.hid (HUA.out.below hB)
  replace HUB := Lib.hid (HUB.out.below hB)
  replace HX := Lib.hid (HX.out.step hB)
  replace HL := Lib.hid (HL.out.below hB)
  replace HW := Lib.hid (HW.out.below hB)
  replace HDI := Lib.hid (HDI.out.below hB)
  replace HY := Lib.hid (HY.out.step hB)
  replace HG := Lib.hid (HG.out.below hB)
  clear hB
  refine Shut.mk ?_
  go_upto_region 8 with fail
  clear hv
  refine Shut.out ?_
  obtain ⟨bg, hg⟩ : ∃ n, v7.heap.size = n := ⟨_, rfl⟩
  rw [hg] at HGX ⊢
  clear hg
  have q0 := HY.out.cell 0
  have q1 := HY.out.cell 1
  have q2 := HY.out.cell 2
  have q3 := HY.out.cell 3
  refine Shut.mk ?_
  go_wp2_with fail
  clear q0 q1 q2 q3
  refine (C2.out _ HDI.out).mono ?_
  intro e v9 hpost
  refine Shut.out ?_
  obtain ⟨rvF, nvF, cvF, vsF, rfl, htF, hB⟩ := hpost
  replace HB := Lib.hid (below_step HB.out hB)
  replace HCI := Lib.hid (HCI.out.below hB)
  replace HUA := Lib.hid (HUA.out.below hB)
  replace HUB := Lib.hid (HUB.out.below hB)
  replace HX := Lib.hid (HX.out.step hB)
  replace HL := Lib.hid (HL.out.below hB)
  replace HW := Lib.hid (HW.out.below hB)
  replace HDI := Lib.hid (HDI.out.below hB)
  replace HY := Lib.hid (HY.out.step hB)
  replace HG := Lib.hid (HG.out.below hB)
  replace HGX := Lib.hid (HGX.out.step hB)
  clear hB
  have HF := Lib.hid (show GbIn v9 rvF nvF cvF (T.getD Gb.none) from OwnGb.gbIn htF)
  clear htF
  obtain ⟨AFr, cFr, er, -⟩ := HF.out.rows.form
  obtain ⟨AFn, cFn, en, -⟩ := HF.out.ones
  obtain ⟨AFc, cFc, ec, -⟩ := HF.out.cols
  subst er en ec
  refine Shut.mk ?_
  unfold gbV
  refine Shut.out ?_
  obtain ⟨v10, hv⟩ : ∃ W, v9.alloc (.cells #[.slice AFr (T.getD Gb.none).rows.length cFr, .slice AFn (T.getD Gb.none).ones.length cFn, .slice AFc (T.getD Gb.none).cols.length cFc] 35) = W := ⟨_, rfl⟩
  have hB : Below v9.heap.size v9 v10 := by rw [← hv]; exact (Below.refl _ _).alloc (Nat.le_refl _) _
  have HFX := Lib.hid (show Blk v10 v9.heap.size 35 #[.slice AFr (T.getD Gb.none).rows.length cFr, .slice AFn (T.getD Gb.none).ones.length cFn, .slice AFc (T.getD Gb.none).cols.length cFc] by rw [← hv]; exact Blk.new _ _ _)
  replace HB := Lib.hid (below_step HB.out hB)
  replace HCI := Lib.hid (HCI.out.below hB)
  replace HUA := Lib.hid (HUA.out.below hB)
  replace HUB := Lib.hid (HUB.out.below hB)
  replace HX := Lib.hid (HX.out.step hB)
  replace HL := Lib.hid (HL.out.below hB)
  replace HW := Lib.hid (HW.out.below hB)
  replace HDI := Lib.hid (HDI.out.below hB)
  replace HY := Lib.hid (HY.out.step hB)
  replace HG := Lib.hid (HG.out.below hB)
  replace HGX := Lib.hid (HGX.out.step hB)
  replace HF := Lib.hid (HF.out.below hB)
  clear hB
  refine Shut.mk ?_
  go_upto_region 9 with fail
  clear hv
  refine Shut.out ?_
  obtain ⟨bf, hg⟩ : ∃ n, v9.heap.size = n := ⟨_, rfl⟩
  rw [hg] at HFX ⊢
  clear hg
  have q0 := HY.out.cell 0
  have q1 := HY.out.cell 1
  have q2 := HY.out.cell 2
  have q3 := HY.out.cell 3
  refine Shut.mk ?_
  go_wp2_with fail
  clear q0 q1 q2 q3
  refine (C3.out _ HDI.out).mono ?_
  intro e v11 hpost
  refine Shut.out ?_
  obtain ⟨uZ, rfl, huZ, hB⟩ := hpost
  replace HB := Lib.hid (below_step HB.out hB)
  replace HCI := Lib.hid (HCI.out.below hB)
  replace HUA := Lib.hid (HUA.out.below hB)
  replace HUB := Lib.hid (HUB.out.below hB)
  replace HX := Lib.hid (HX.out.step hB)
  replace HL := Lib.hid (HL.out.below hB)
  replace HW := Lib.hid (HW.out.below hB)
  replace HDI := Lib.hid (HDI.out.below hB)
  replace HY := Lib.hid (HY.out.step hB)
  replace HG := Lib.hid (HG.out.below hB)
  replace HGX := Lib.hid (HGX.out.step hB)
  replace HF := Lib.hid (HF.out.below hB)
  replace HFX := Lib.hid (HFX.out.step hB)
  clear hB
  have HZ := Lib.hid (show Ints v11 uZ (Z.getD []) from OwnI.ints huZ)
  clear huZ
  obtain ⟨AZ, cZ, eZ, -⟩ := HZ.out
  subst eZ
  have q0 := HY.out.cell 0
  have q1 := HY.out.cell 1
  have q2 := HY.out.cell 2
  have q3 := HY.out.cell 3
  refine Shut.mk ?_
  go_wp2_with fail
  clear q0 q1 q2 q3
  refine (C4.out _ HDI.out).mono ?_
  intro e v12 hpost
  refine Shut.out ?_
  obtain ⟨uE, rfl, huE, hB⟩ := hpost
  replace HB := Lib.hid (below_step HB.out hB)
  replace HCI := Lib.hid (HCI.out.below hB)
  replace HUA := Lib.hid (HUA.out.below hB)
  replace HUB := Lib.hid (HUB.out.below hB)
  replace HX := Lib.hid (HX.out.step hB)
  replace HL := Lib.hid (HL.out.below hB)
  replace HW := Lib.hid (HW.out.below hB)
  replace HDI := Lib.hid (HDI.out.below hB)
  replace HY := Lib.hid (HY.out.step hB)
  replace HG := Lib.hid (HG.out.below hB)
  replace HGX := Lib.hid (HGX.out.step hB)
  replace HF := Lib.hid (HF.out.below hB)
  replace HFX := Lib.hid (HFX.out.step hB)
  replace HZ := Lib.hid (HZ.out.below hB)
  clear hB
  have HE := Lib.hid (show Ints v12 uE (Z.getD []) from OwnI.ints huE)
  clear huE
  obtain ⟨AE, cE, eE, -⟩ := HE.out
  subst eE
  clear C1 C2 C3 C4
  refine Shut.mk ?_
  go_wp2_with fail
  refine (c_laws_qInts HL.out HW.out (by omega)).mono ?_
  intro e v13 hpost
  refine Shut.out ?_
  obtain ⟨rfl, hB⟩ := hpost
  replace HB := Lib.hid (below_step HB.out hB)
  replace HCI := Lib.hid (HCI.out.below hB)
  replace HUA := Lib.hid (HUA.out.below hB)
  replace HUB := Lib.hid (HUB.out.below hB)
  replace HX := Lib.hid (HX.out.step hB)
  replace HL := Lib.hid (HL.out.below hB)
  replace HW := Lib.hid (HW.out.below hB)
  replace HDI := Lib.hid (HDI.out.below hB)
  replace HY := Lib.hid (HY.out.step hB)
  replace HG := Lib.hid (HG.out.below hB)
  replace HGX := Lib.hid (HGX.out.step hB)
  replace HF := Lib.hid (HF.out.below hB)
  replace HFX := Lib.hid (HFX.out.step hB)
  replace HZ := Lib.hid (HZ.out.below hB)
  replace HE := Lib.hid (HE.out.below hB)
  clear hB
  have q0 := HGX.out.cell 0
  have q1 := HGX.out.cell 1
  have q2 := HGX.out.cell 2
  have y0 := HFX.out.cell 0
  have y1 := HFX.out.cell 1
  have y2 := HFX.out.cell 2
  refine Shut.mk ?_
  go_wp2_with fail
  clear q0 q1 q2
  clear y0 y1 y2
  refine (c_laws_qHalved HG.out HF.out (by omega)).mono ?_
  intro e v14 hpost
  refine Shut.out ?_
  obtain ⟨rfl, hB⟩ := hpost
  replace HB := Lib.hid (below_step HB.out hB)
  replace HCI := Lib.hid (HCI.out.below hB)
  replace HUA := Lib.hid (HUA.out.below hB)
  replace HUB := Lib.hid (HUB.out.below hB)
  replace HX := Lib.hid (HX.out.step hB)
  replace HL := Lib.hid (HL.out.below hB)
  replace HW := Lib.hid (HW.out.below hB)
  replace HDI := Lib.hid (HDI.out.below hB)
  replace HY := Lib.hid (HY.out.step hB)
  replace HG := Lib.hid (HG.out.below hB)
  replace HGX := Lib.hid (HGX.out.step hB)
  replace HF := Lib.hid (HF.out.below hB)
  replace HFX := Lib.hid (HFX.out.step hB)
  replace HZ := Lib.hid (HZ.out.below hB)
  replace HE := Lib.hid (HE.out.below hB)
  clear hB
  refine Shut.mk ?_
  go_wp2_with fail
  refine (c_laws_qInts HZ.out HE.out (by omega)).mono ?_
  intro e v15 hpost
  refine Shut.out ?_
  obtain ⟨rfl, hB⟩ := hpost
  replace HB := Lib.hid (below_step HB.out hB)
  replace HCI := Lib.hid (HCI.out.below hB)
  replace HUA := Lib.hid (HUA.out.below hB)
  replace HUB := Lib.hid (HUB.out.below hB)
  replace HX := Lib.hid (HX.out.step hB)
  replace HL := Lib.hid (HL.out.below hB)
  replace HW := Lib.hid (HW.out.below hB)
  replace HDI := Lib.hid (HDI.out.below hB)
  replace HY := Lib.hid (HY.out.step hB)
  replace HG := Lib.hid (HG.out.below hB)
  replace HGX := Lib.hid (HGX.out.step hB)
  replace HF := Lib.hid (HF.out.below hB)
  replace HFX := Lib.hid (HFX.out.step hB)
  replace HZ := Lib.hid (HZ.out.below hB)
  replace HE := Lib.hid (HE.out.below hB)
  clear hB
  clear HL HZ HE
  refine Shut.mk ?_
  go_upto_if 139 with fail
  go_cut [] (fun wx => Hid (Below v15.heap.size v15 wx))
  case first =>
    have HQ := Lib.hid (Below.refl v15.heap.size v15)
    refine Shut.out ?_
    rcases T with _ | t
    · refine Shut.mk ?_
      go_wp2_with fail
      go_meet; exact HQ
    · have h9 := made_ok hgS HT.out
      have hok : isTabM 2 d t = some true ∧ rowsM 2 d = some (2 * (t.rows.length : Int)) ∧ cirB d = true ∧ t.sz ≤ 2000 := by
        rcases h9 with h9 | h9
        · exact h9
        · omega
      obtain ⟨ht1, ht2, ht3, ht4⟩ := hok
      have htr : t.rows.length ≤ 2000 := by unfold Gb.sz at ht4; omega
      replace HG := Lib.hid (show GbIn v15 _ _ _ t from HG.out)
      have c1 := (fun (W : World) (h : CirIn W (.slice Ah d.gs.length ch) (.slice Ap d.outs.length cp) d) (h2 : GbIn W (.slice AGr t.rows.length cGr) (.slice AGn t.ones.length cGn) (.slice AGc t.cols.length cGc) t) => c_impl_IsHalved (w := W) h h2 (by omega))
      have c2 := (fun (W : World) (h : CirIn W (.slice Ah d.gs.length ch) (.slice Ap d.outs.length cp) d) => c_impl_HalfRows (w := W) h)
      rw [ht1] at c1
      rw [ht2] at c2
      simp only [bV, bB, oV, oB, Option.getD_some, Option.isSome_some] at c1 c2
      unfold cirV at c1 c2
      unfold gbV at c1
      have C1 := Lib.hid c1
      have C2 := Lib.hid c2
      rw [show (some t).isSome = true from rfl]
      replace HGX := Lib.hid (show Blk _ _ _ #[.slice AGr t.rows.length cGr, .slice AGn t.ones.length cGn, .slice AGc t.cols.length cGc] from HGX.out)
      replace HFX := Lib.hid (show Blk _ _ _ #[.slice AFr t.rows.length cFr, .slice AFn t.ones.length cFn, .slice AFc t.cols.length cFc] from HFX.out)
      clear c1 c2 h9 ht1 ht2 ht3 ht4
      have q0 := HY.out.cell 0
      have q1 := HY.out.cell 1
      have q2 := HY.out.cell 2
      have q3 := HY.out.cell 3
      have z0 := HGX.out.cell 0
      have z1 := HGX.out.cell 1
      have z2 := HGX.out.cell 2
      refine Shut.mk ?_
      go_wp2_with fail
      clear q0 q1 q2 q3
      clear z0 z1 z2
      refine (C1.out _ HDI.out HG.out).mono ?_
      intro e v16 hpost
      refine Shut.out ?_
      obtain ⟨rfl, hB⟩ := hpost
      replace HB := Lib.hid (below_step HB.out hB)
      replace HCI := Lib.hid (HCI.out.below hB)
      replace HUA := Lib.hid (HUA.out.below hB)
      replace HUB := Lib.hid (HUB.out.below hB)
      replace HX := Lib.hid (HX.out.step hB)
      replace HW := Lib.hid (HW.out.below hB)
      replace HDI := Lib.hid (HDI.out.below hB)
      replace HY := Lib.hid (HY.out.step hB)
      replace HG := Lib.hid (HG.out.below hB)
      replace HGX := Lib.hid (HGX.out.step hB)
      replace HF := Lib.hid (HF.out.below hB)
      replace HFX := Lib.hid (HFX.out.step hB)
      replace HQ := Lib.hid (below_step HQ.out hB)
      clear hB
      have q0 := HY.out.cell 0
      have q1 := HY.out.cell 1
      have q2 := HY.out.cell 2
      have q3 := HY.out.cell 3
      refine Shut.mk ?_
      go_wp2_with fail
      clear q0 q1 q2 q3
      refine (C2.out _ HDI.out).mono ?_
      intro e v17 hpost
      refine Shut.out ?_
      obtain ⟨rfl, hB⟩ := hpost
      replace HB := Lib.hid (below_step HB.out hB)
      replace HCI := Lib.hid (HCI.out.below hB)
      replace HUA := Lib.hid (HUA.out.below hB)
      replace HUB := Lib.hid (HUB.out.below hB)
      replace HX := Lib.hid (HX.out.step hB)
      replace HW := Lib.hid (HW.out.below hB)
      replace HDI := Lib.hid (HDI.out.below hB)
      replace HY := Lib.hid (HY.out.step hB)
      replace HG := Lib.hid (HG.out.below hB)
      replace HGX := Lib.hid (HGX.out.step hB)
      replace HF := Lib.hid (HF.out.below hB)
      replace HFX := Lib.hid (HFX.out.step hB)
      replace HQ := Lib.hid (below_step HQ.out hB)
      clear hB
      have y0 := HFX.out.cell 0
      have y1 := HFX.out.cell 1
      have y2 := HFX.out.cell 2
      refine Shut.mk ?_
      go_wp2_with fail
      go_meet; exact HQ
  case rest =>
    refine Shut.out ?_
    obtain ⟨wm, hwm⟩ : ∃ W, wc = W := ⟨_, rfl⟩
    rw [hwm] at hcut ⊢
    clear hwm
    have hB := hcut.out
    clear hcut HT hts hzl
    replace HB := Lib.hid (below_step HB.out hB)
    replace HCI := Lib.hid (HCI.out.below hB)
    replace HUA := Lib.hid (HUA.out.below hB)
    replace HUB := Lib.hid (HUB.out.below hB)
    replace HX := Lib.hid (HX.out.step hB)
    replace HW := Lib.hid (HW.out.below hB)
    replace HDI := Lib.hid (HDI.out.below hB)
    replace HY := Lib.hid (HY.out.step hB)
    replace HG := Lib.hid (HG.out.below hB)
    replace HGX := Lib.hid (HGX.out.step hB)
    replace HF := Lib.hid (HF.out.below hB)
    replace HFX := Lib.hid (HFX.out.step hB)
    clear hB
    clear HG HF HGX HFX HDI HY
    rcases R with _ | r
    · refine Shut.mk ?_
      go_wp2
      go_ret
      exact ⟨rfl, HB.out⟩
    obtain ⟨P, hp⟩ := hv_pack HR.out (by omega) (by omega)
    have HP := Lib.hid hp
    have hob := hp.hob
    have HRL := Lib.hid hp.hr
    have HOL := Lib.hid hp.ho
    have hr40 : r.length ≤ 40 := by have := hp.hr; have := hp.hol; omega
    have ho40 : P.outs.length ≤ 40 := by have := hp.ho; have := hp.hol; omega
    have hol3 := hp.hol
    have hzl2 := hp.hzl
    have hil2 := hp.hil
    have hts2 := hp.hts
    replace HW := Lib.hid (show Ints wm (.slice AW r.length cW) r from HW.out)
    rw [show (some r).isSome = true from rfl, show (some r).getD [] = r from rfl]
    clear HR hrl hp
    have q0 := HX.out.cell 0
    have q1 := HX.out.cell 1
    have q2 := HX.out.cell 2
    have q3 := HX.out.cell 3
    refine Shut.mk ?_
    go_wp2_with fail
    clear q0 q1 q2 q3
    refine (HP.out.c1 HCI.out HUA.out HUB.out).mono ?_
    intro e v18 hpost
    refine Shut.out ?_
    obtain ⟨uK, rfl, huK, hB⟩ := hpost
    replace HB := Lib.hid (below_step HB.out hB)
    replace HCI := Lib.hid (HCI.out.below hB)
    replace HUA := Lib.hid (HUA.out.below hB)
    replace HUB := Lib.hid (HUB.out.below hB)
    replace HX := Lib.hid (HX.out.step hB)
    replace HW := Lib.hid (HW.out.below hB)
    clear hB
    have HK := Lib.hid (show Ints v18 uK (r) from OwnI.ints huK)
    clear huK
    obtain ⟨AK, cK, eK, -⟩ := HK.out
    subst eK
    refine Shut.mk ?_
    go_wp2_with fail
    refine (c_laws_qInts HK.out HW.out (by omega)).mono ?_
    intro e v19 hpost
    refine Shut.out ?_
    obtain ⟨rfl, hB⟩ := hpost
    replace HB := Lib.hid (below_step HB.out hB)
    replace HCI := Lib.hid (HCI.out.below hB)
    replace HUA := Lib.hid (HUA.out.below hB)
    replace HUB := Lib.hid (HUB.out.below hB)
    replace HX := Lib.hid (HX.out.step hB)
    replace HW := Lib.hid (HW.out.below hB)
    replace HK := Lib.hid (HK.out.below hB)
    clear hB
    clear HK
    refine Shut.mk ?_
    go_wp2_with fail
    refine (HP.out.c7).mono ?_
    intro e v20 hpost
    refine Shut.out ?_
    obtain ⟨rfl, hB⟩ := hpost
    replace HB := Lib.hid (below_step HB.out hB)
    replace HCI := Lib.hid (HCI.out.below hB)
    replace HUA := Lib.hid (HUA.out.below hB)
    replace HUB := Lib.hid (HUB.out.below hB)
    replace HX := Lib.hid (HX.out.step hB)
    replace HW := Lib.hid (HW.out.below hB)
    clear hB
    have q0 := HX.out.cell 0
    have q1 := HX.out.cell 1
    have q2 := HX.out.cell 2
    have q3 := HX.out.cell 3
    refine Shut.mk ?_
    go_wp2_with fail
    clear q0 q1 q2 q3
    refine (HP.out.c2 HCI.out).mono ?_
    intro e v21 hpost
    refine Shut.out ?_
    obtain ⟨rvG, nvG, cvG, vsG, rfl, htG, hB⟩ := hpost
    replace HB := Lib.hid (below_step HB.out hB)
    replace HCI := Lib.hid (HCI.out.below hB)
    replace HUA := Lib.hid (HUA.out.below hB)
    replace HUB := Lib.hid (HUB.out.below hB)
    replace HX := Lib.hid (HX.out.step hB)
    replace HW := Lib.hid (HW.out.below hB)
    clear hB
    have HG := Lib.hid (show GbIn v21 rvG nvG cvG (P.t) from OwnGb.gbIn htG)
    clear htG
    obtain ⟨AGr, cGr, er, -⟩ := HG.out.rows.form
    obtain ⟨AGn, cGn, en, -⟩ := HG.out.ones
    obtain ⟨AGc, cGc, ec, -⟩ := HG.out.cols
    subst er en ec
    refine Shut.mk ?_
    unfold gbV
    refine Shut.out ?_
    obtain ⟨v22, hv⟩ : ∃ W, v21.alloc (.cells #[.slice AGr (P.t).rows.length cGr, .slice AGn (P.t).ones.length cGn, .slice AGc (P.t).cols.length cGc] 35) = W := ⟨_, rfl⟩
    have hB : Below v21.heap.size v21 v22 := by rw [← hv]; exact (Below.refl _ _).alloc (Nat.le_refl _) _
    have HGX := Lib.hid (show Blk v22 v21.heap.size 35 #[.slice AGr (P.t).rows.length cGr, .slice AGn (P.t).ones.length cGn, .slice AGc (P.t).cols.length cGc] by rw [← hv]; exact Blk.new _ _ _)
    replace HB := Lib.hid (below_step HB.out hB)
    replace HCI := Lib.hid (HCI.out.below hB)
    replace HUA := Lib.hid (HUA.out.below hB)
    replace HUB := Lib.hid (HUB.out.below hB)
    replace HX := Lib.hid (HX.out.step hB)
    replace HW := Lib.hid (HW.out.below hB)
    replace HG := Lib.hid (HG.out.below hB)
    clear hB
    refine Shut.mk ?_
    go_upto_region 25 with fail
    clear hv
    refine Shut.out ?_
    obtain ⟨bg, hg⟩ : ∃ n, v21.heap.size = n := ⟨_, rfl⟩
    rw [hg] at HGX ⊢
    clear hg
    have q0 := HX.out.cell 0
    have q1 := HX.out.cell 1
    have q2 := HX.out.cell 2
    have q3 := HX.out.cell 3
    refine Shut.mk ?_
    go_wp2_with fail
    clear q0 q1 q2 q3
    refine (HP.out.c3 HCI.out HUA.out HUB.out).mono ?_
    intro e v23 hpost
    refine Shut.out ?_
    obtain ⟨uI, rfl, huI, hB⟩ := hpost
    replace HB := Lib.hid (below_step HB.out hB)
    replace HCI := Lib.hid (HCI.out.below hB)
    replace HUA := Lib.hid (HUA.out.below hB)
    replace HUB := Lib.hid (HUB.out.below hB)
    replace HX := Lib.hid (HX.out.step hB)
    replace HW := Lib.hid (HW.out.below hB)
    replace HG := Lib.hid (HG.out.below hB)
    replace HGX := Lib.hid (HGX.out.step hB)
    clear hB
    have HI := Lib.hid (show Ints v23 uI (P.inp) from OwnI.ints huI)
    clear huI
    obtain ⟨AI, cI, eI, -⟩ := HI.out
    subst eI
    have q0 := HX.out.cell 0
    have q1 := HX.out.cell 1
    have q2 := HX.out.cell 2
    have q3 := HX.out.cell 3
    have z0 := HGX.out.cell 0
    have z1 := HGX.out.cell 1
    have z2 := HGX.out.cell 2
    refine Shut.mk ?_
    go_wp2_with fail
    clear q0 q1 q2 q3
    clear z0 z1 z2
    refine (HP.out.c4 HCI.out HG.out HI.out).mono ?_
    intro e v24 hpost
    refine Shut.out ?_
    obtain ⟨uO, rfl, huO, hB⟩ := hpost
    replace HB := Lib.hid (below_step HB.out hB)
    replace HCI := Lib.hid (HCI.out.below hB)
    replace HUA := Lib.hid (HUA.out.below hB)
    replace HUB := Lib.hid (HUB.out.below hB)
    replace HX := Lib.hid (HX.out.step hB)
    replace HW := Lib.hid (HW.out.below hB)
    replace HG := Lib.hid (HG.out.below hB)
    replace HGX := Lib.hid (HGX.out.step hB)
    replace HI := Lib.hid (HI.out.below hB)
    clear hB
    have HO := Lib.hid (show Ints v24 uO (P.outs) from OwnI.ints huO)
    clear huO
    obtain ⟨AO, cO, eO, -⟩ := HO.out
    subst eO
    clear HI HG HGX HUA HUB
    have q0 := HX.out.cell 0
    have q1 := HX.out.cell 1
    have q2 := HX.out.cell 2
    have q3 := HX.out.cell 3
    refine Shut.mk ?_
    go_wp2_with fail
    clear q0 q1 q2 q3
    refine (HP.out.c5 HCI.out).mono ?_
    intro e v25 hpost
    refine Shut.out ?_
    obtain ⟨uZ, rfl, huZ, hB⟩ := hpost
    replace HB := Lib.hid (below_step HB.out hB)
    replace HCI := Lib.hid (HCI.out.below hB)
    replace HX := Lib.hid (HX.out.step hB)
    replace HW := Lib.hid (HW.out.below hB)
    replace HO := Lib.hid (HO.out.below hB)
    clear hB
    have HZ := Lib.hid (show Ints v25 uZ (P.zs) from OwnI.ints huZ)
    clear huZ
    obtain ⟨AZ, cZ, eZ, -⟩ := HZ.out
    subst eZ
    have q0 := HX.out.cell 0
    have q1 := HX.out.cell 1
    have q2 := HX.out.cell 2
    have q3 := HX.out.cell 3
    refine Shut.mk ?_
    go_wp2_with fail
    clear q0 q1 q2 q3
    refine (HP.out.c6 HCI.out).mono ?_
    intro e v26 hpost
    refine Shut.out ?_
    obtain ⟨uE, rfl, huE, hB⟩ := hpost
    replace HB := Lib.hid (below_step HB.out hB)
    replace HCI := Lib.hid (HCI.out.below hB)
    replace HX := Lib.hid (HX.out.step hB)
    replace HW := Lib.hid (HW.out.below hB)
    replace HO := Lib.hid (HO.out.below hB)
    replace HZ := Lib.hid (HZ.out.below hB)
    clear hB
    have HE := Lib.hid (show Ints v26 uE (P.zs) from OwnI.ints huE)
    clear huE
    obtain ⟨AE, cE, eE, -⟩ := HE.out
    subst eE
    refine Shut.mk ?_
    go_wp2_with fail
    refine (c_laws_qInts HZ.out HE.out (by omega)).mono ?_
    intro e v27 hpost
    refine Shut.out ?_
    obtain ⟨rfl, hB⟩ := hpost
    replace HB := Lib.hid (below_step HB.out hB)
    replace HCI := Lib.hid (HCI.out.below hB)
    replace HX := Lib.hid (HX.out.step hB)
    replace HW := Lib.hid (HW.out.below hB)
    replace HO := Lib.hid (HO.out.below hB)
    replace HZ := Lib.hid (HZ.out.below hB)
    replace HE := Lib.hid (HE.out.below hB)
    clear hB
    clear HZ
    have q3 := HX.out.cell 3
    have ho9 := HOL.out
    refine Shut.mk ?_
    go_wp2_with fail
    clear ho9
    go_loopw [267] (fun i wr => ∃ k : Nat, k ≤ c.outs.length ∧ i = .int .i64 k ∧ v27 = wr) (fun i _ => c.outs.length - (intOf i).toNat)
    case atStart => exact ⟨0, Nat.zero_le _, rfl, rfl⟩
    case round =>
      refine Shut.out ?_
      obtain ⟨k, hk, rfl, rfl⟩ := hrel
      by_cases hlt : k < c.outs.length
      · obtain ⟨b1, o1, y, e1, hb1, hyk, hc1⟩ := (HCI.out.outs).rd.int_at hlt
        obtain ⟨v, l, z, hv, hl, hz, hy0, hy1, hv01, hzb, hlz⟩ := HP.out.hlab k y hyk
        obtain ⟨j, rfl⟩ := Int.eq_ofNat_of_zero_le hy0
        rw [Int.toNat_natCast] at hz
        obtain ⟨b2, o2, v2, e2, hb2, hv2, hc2⟩ := (HW.out).rd.int_at (show k < r.length by have := HRL.out; omega)
        obtain ⟨b3, o3, l3, e3, hb3, hl3, hc3⟩ := (HO.out).rd.int_at (show k < P.outs.length by have := HOL.out; omega)
        obtain ⟨b4, o4, z4, e4, hb4, hz4, hc4⟩ := (HE.out).rd.int_at (show j < P.zs.length by omega)
        obtain rfl : v = v2 := by rw [hv] at hv2; injection hv2
        obtain rfl : l = l3 := by rw [hl] at hl3; injection hl3
        obtain rfl : z = z4 := by rw [hz] at hz4; injection hz4
        subst e1 e2 e3 e4
        have hk0 : (0 : Int) ≤ (k : Int) := Int.natCast_nonneg _
        have hk1 : (k : Int) < (c.outs.length : Int) := by omega
        have hk2 : (k : Int) < (r.length : Int) := by have := HRL.out; omega
        have hk3 : (k : Int) < (P.outs.length : Int) := by have := HOL.out; omega
        have hj0 : (0 : Int) ≤ (j : Int) := Int.natCast_nonneg _
        have hxo := bits_xor hzb.1 hob.1 (by omega) (by omega)
        clear hv hl hz hv2 hl3 hz4 hyk
        rcases hv01 with rfl | rfl
        · rw [if_neg (by decide)] at hlz
          subst hlz
          refine Shut.mk ?_
          go_wp2
          go_roundw
          case rel => exact ⟨k + 1, by omega, by go_num, trivial⟩
          case measure => simp [intOf]; omega
        · rw [if_pos rfl] at hlz
          rw [← hlz] at hxo
          refine Shut.mk ?_
          go_wp2
          go_roundw
          case rel => exact ⟨k + 1, by omega, by go_num, trivial⟩
          case measure => simp [intOf]; omega
      · refine Shut.mk ?_
        go_wp2
        go_ret
        exact ⟨rfl, HB.out⟩
end Go.Proofs.YtejeppjmlgfiaaaGreat
