/- The walk of the law FnGarbled: its Go text returns true for every input. No condition. -/
import Derived.Test.YtejeppjmlgfiaaaGreatGa5
import Derived.Test.YtejeppjmlgfiaaaGreatGa1
import Derived.Test.YtejeppjmlgfiaaaGreatGa4
import Derived.Test.YtejeppjmlgfiaaaGreatGa2
import Derived.Test.YtejeppjmlgfiaaaGreatGa3
import Derived.Test.YtejeppjmlgfiaaaGreatCirH
import Derived.Deep.DeepCutAuto
namespace Go.Proofs.YtejeppjmlgfiaaaGreat
open Go.RowKit
set_option linter.unusedVariables false

set_option maxRecDepth 100000 in
set_option maxHeartbeats 16000000 in
theorem w_FnGarbled (w : World) {cd1 cd2 : Value} {l1 l2 : List Int} (h0 : Byts w cd1 l1) (h1 : Byts w cd2 l2) : Calls Tryz.prog 4 #[cd1, cd2] w fun e w' => e = .returned (.bool true) ∧ Below w.heap.size w w' := by
  have H0 := Lib.hid h0
  have H1 := Lib.hid h1
  obtain ⟨A1, k1, rfl⟩ := h0.form
  obtain ⟨A2, k2, rfl⟩ := h1.form
  clear h0 h1
  have HB := Lib.hid (Below.refl w.heap.size w)
  go_enter Tryz.func4, Tryz.ntmps4
  go_wp2_with fail
  refine (c_laws_big H0.out H1.out).mono ?_
  rintro e w' ⟨⟨b0, rfl⟩, rfl⟩
  cases b0
  case true => go_wp2; go_ret; exact ⟨rfl, Below.refl _ _⟩
  go_wp2_with fail
  refine (c_spec_DrawRunGarbled H0.out).mono ?_
  intro e v1 hpost
  refine Shut.out ?_
  obtain ⟨⟨c, gv, ov, ua, ub, key, a, b, rfl, -, hla, hlb, hci, hua, hub⟩, hB⟩ := hpost
  clear H0
  replace H1 := Lib.hid (H1.out.below hB)
  replace HB := Lib.hid (below_step HB.out hB)
  clear hB
  have HCI := Lib.hid hci
  have HUA := Lib.hid hua
  have HUB := Lib.hid hub
  obtain ⟨AA, cA, rfl, -⟩ := hua
  obtain ⟨AB, cB, rfl, -⟩ := hub
  clear hci
  obtain ⟨Ag, cg, eg, -⟩ := HCI.out.gates
  obtain ⟨Ao, co, eo, -⟩ := HCI.out.outs
  subst eg eo
  refine Shut.mk ?_
  unfold cirV
  refine Shut.out ?_
  obtain ⟨v2, hv⟩ : ∃ W, v1.alloc (.cells #[.int .i64 c.i0, .int .i64 c.i1, .slice Ag c.gs.length cg, .slice Ao c.outs.length co] 26) = W := ⟨_, rfl⟩
  have hB : Below v1.heap.size v1 v2 := by rw [← hv]; exact (Below.refl _ _).alloc (Nat.le_refl _) _
  have HX := Lib.hid (show Blk v2 v1.heap.size 26 #[.int .i64 c.i0, .int .i64 c.i1, .slice Ag c.gs.length cg, .slice Ao c.outs.length co] by rw [← hv]; exact Blk.new _ _ _)
  replace H1 := Lib.hid (H1.out.below hB)
  replace HB := Lib.hid (below_step HB.out hB)
  replace HCI := Lib.hid (HCI.out.below hB)
  replace HUA := Lib.hid (HUA.out.below hB)
  replace HUB := Lib.hid (HUB.out.below hB)
  clear hB
  refine Shut.mk ?_
  go_upto_region 4 with fail
  clear hv
  refine Shut.out ?_
  obtain ⟨bx, hg⟩ : ∃ n, v1.heap.size = n := ⟨_, rfl⟩
  rw [hg] at HX ⊢
  clear hg
  obtain ⟨R, hR⟩ : ∃ S, runM openM gbZ gbR c key a b = S := ⟨_, rfl⟩
  obtain ⟨Q, hQ⟩ : ∃ S, clearM c a b = S := ⟨_, rfl⟩
  have hrl := run_len (F := openM) (Z := gbZ) (R := gbR) c key a b
  have i1 := (fun (W : World) (h : CirIn W (.slice Ag c.gs.length cg) (.slice Ao c.outs.length co) c) (h1 : Ints W (.slice AA a.length cA) a) (h2 : Ints W (.slice AB b.length cB) b) => c_impl_RunGarbled (w := W) (key := key) h h1 h2 (by omega) (by omega))
  have i2 := (fun (W : World) (h : CirIn W (.slice Ag c.gs.length cg) (.slice Ao c.outs.length co) c) (h1 : Ints W (.slice AA a.length cA) a) (h2 : Ints W (.slice AB b.length cB) b) => c_spec_RunGarbled (w := W) (key := key) h h1 h2 (by omega) (by omega))
  have i3 := (fun (W : World) (h : CirIn W (.slice Ag c.gs.length cg) (.slice Ao c.outs.length co) c) (h1 : Ints W (.slice AA a.length cA) a) (h2 : Ints W (.slice AB b.length cB) b) => c_impl_EvalCircuit (w := W) h h1 h2 (by omega) (by omega))
  rw [hR] at i1 i2 hrl
  rw [hQ] at i3
  unfold cirV at i1 i2 i3
  have C1 := Lib.hid i1
  have C2 := Lib.hid i2
  have C3 := Lib.hid i3
  have HR := Lib.hid hR
  have HQQ := Lib.hid hQ
  clear i1 i2 i3 hR hQ
  have q0 := HX.out.cell 0
  have q1 := HX.out.cell 1
  have q2 := HX.out.cell 2
  have q3 := HX.out.cell 3
  refine Shut.mk ?_
  go_wp2_with fail
  clear q0 q1 q2 q3
  refine (C1.out _ HCI.out HUA.out HUB.out).mono ?_
  intro e v3 hpost
  refine Shut.out ?_
  obtain ⟨uL, rfl, huL, hB⟩ := hpost
  replace H1 := Lib.hid (H1.out.below hB)
  replace HB := Lib.hid (below_step HB.out hB)
  replace HCI := Lib.hid (HCI.out.below hB)
  replace HUA := Lib.hid (HUA.out.below hB)
  replace HUB := Lib.hid (HUB.out.below hB)
  replace HX := Lib.hid (HX.out.step hB)
  clear hB
  have HL := Lib.hid (show Ints v3 uL (R.getD []) from OwnI.ints huL)
  clear huL
  obtain ⟨AL, cL, eL, -⟩ := HL.out
  subst eL
  have q0 := HX.out.cell 0
  have q1 := HX.out.cell 1
  have q2 := HX.out.cell 2
  have q3 := HX.out.cell 3
  refine Shut.mk ?_
  go_wp2_with fail
  clear q0 q1 q2 q3
  refine (C2.out _ HCI.out HUA.out HUB.out).mono ?_
  intro e v4 hpost
  refine Shut.out ?_
  obtain ⟨uW, rfl, huW, hB⟩ := hpost
  replace H1 := Lib.hid (H1.out.below hB)
  replace HB := Lib.hid (below_step HB.out hB)
  replace HCI := Lib.hid (HCI.out.below hB)
  replace HUA := Lib.hid (HUA.out.below hB)
  replace HUB := Lib.hid (HUB.out.below hB)
  replace HX := Lib.hid (HX.out.step hB)
  replace HL := Lib.hid (HL.out.below hB)
  clear hB
  have HW := Lib.hid (show Ints v4 uW (R.getD []) from OwnI.ints huW)
  clear huW
  obtain ⟨AW, cW, eW, -⟩ := HW.out
  subst eW
  have q0 := HX.out.cell 0
  have q1 := HX.out.cell 1
  have q2 := HX.out.cell 2
  have q3 := HX.out.cell 3
  refine Shut.mk ?_
  go_wp2_with fail
  clear q0 q1 q2 q3
  refine (C3.out _ HCI.out HUA.out HUB.out).mono ?_
  intro e v5 hpost
  refine Shut.out ?_
  obtain ⟨uK, rfl, huK, hB⟩ := hpost
  replace H1 := Lib.hid (H1.out.below hB)
  replace HB := Lib.hid (below_step HB.out hB)
  replace HCI := Lib.hid (HCI.out.below hB)
  replace HUA := Lib.hid (HUA.out.below hB)
  replace HUB := Lib.hid (HUB.out.below hB)
  replace HX := Lib.hid (HX.out.step hB)
  replace HL := Lib.hid (HL.out.below hB)
  replace HW := Lib.hid (HW.out.below hB)
  clear hB
  have HK := Lib.hid (show Ints v5 uK (Q.getD []) from OwnI.ints huK)
  clear huK
  obtain ⟨AK, cK, eK, -⟩ := HK.out
  subst eK
  clear C1 C2 C3
  refine Shut.mk ?_
  go_upto_region 7 with fail
  go_cut [103] (fun s wx => s = .bool false ∧ Hid (Below v5.heap.size v5 wx))
  case first =>
    as_aux_lemma =>
      have HZ := Lib.hid (Below.refl v5.heap.size v5)
      refine Shut.out ?_
      rcases R with _ | r
      · skip
        refine Shut.mk ?_
        go_wp2_with fail
        refine (c_laws_sameInts HL.out HW.out (by omega)).mono ?_
        intro e v6 hpost
        refine Shut.out ?_
        obtain ⟨rfl, hB⟩ := hpost
        replace H1 := Lib.hid (H1.out.below hB)
        replace HB := Lib.hid (below_step HB.out hB)
        replace HCI := Lib.hid (HCI.out.below hB)
        replace HUA := Lib.hid (HUA.out.below hB)
        replace HUB := Lib.hid (HUB.out.below hB)
        replace HX := Lib.hid (HX.out.step hB)
        replace HL := Lib.hid (HL.out.below hB)
        replace HW := Lib.hid (HW.out.below hB)
        replace HK := Lib.hid (HK.out.below hB)
        replace HZ := Lib.hid (below_step HZ.out hB)
        clear hB
        refine Shut.mk ?_
        go_wp2_with fail
        go_meet; exact ⟨rfl, HZ.out⟩
      · have hq := run_clear gbS HR.out
        rw [HQQ.out] at hq
        subst hq
        replace HW := Lib.hid (show Ints v5 (.slice AW r.length cW) r from HW.out)
        replace HL := Lib.hid (show Ints v5 (.slice AL r.length cL) r from HL.out)
        replace HK := Lib.hid (show Ints v5 (.slice AK r.length cK) r from HK.out)
        have hr40 : r.length ≤ 40 := hrl
        refine Shut.mk ?_
        rw [show (some r).isSome = true from rfl, show (some r).getD [] = r from rfl]
        go_wp2_with fail
        refine (c_laws_sameInts HL.out HW.out (by omega)).mono ?_
        intro e v7 hpost
        refine Shut.out ?_
        obtain ⟨rfl, hB⟩ := hpost
        replace H1 := Lib.hid (H1.out.below hB)
        replace HB := Lib.hid (below_step HB.out hB)
        replace HCI := Lib.hid (HCI.out.below hB)
        replace HUA := Lib.hid (HUA.out.below hB)
        replace HUB := Lib.hid (HUB.out.below hB)
        replace HX := Lib.hid (HX.out.step hB)
        replace HL := Lib.hid (HL.out.below hB)
        replace HW := Lib.hid (HW.out.below hB)
        replace HK := Lib.hid (HK.out.below hB)
        replace HZ := Lib.hid (below_step HZ.out hB)
        clear hB
        refine Shut.mk ?_
        go_wp2_with fail
        refine (c_laws_sameInts HK.out HW.out (by omega)).mono ?_
        intro e v8 hpost
        refine Shut.out ?_
        obtain ⟨rfl, hB⟩ := hpost
        replace H1 := Lib.hid (H1.out.below hB)
        replace HB := Lib.hid (below_step HB.out hB)
        replace HCI := Lib.hid (HCI.out.below hB)
        replace HUA := Lib.hid (HUA.out.below hB)
        replace HUB := Lib.hid (HUB.out.below hB)
        replace HX := Lib.hid (HX.out.step hB)
        replace HL := Lib.hid (HL.out.below hB)
        replace HW := Lib.hid (HW.out.below hB)
        replace HK := Lib.hid (HK.out.below hB)
        replace HZ := Lib.hid (below_step HZ.out hB)
        clear hB
        refine Shut.mk ?_
        go_wp2_with fail
        go_meet; exact ⟨rfl, HZ.out⟩
  case rest =>
    refine Shut.out ?_
    obtain ⟨rfl, hcut2⟩ := hcut
    obtain ⟨wm, hwm⟩ : ∃ W, wc = W := ⟨_, rfl⟩
    rw [hwm] at hcut2 ⊢
    clear hwm
    have hB := hcut2.out
    clear hcut2
    replace H1 := Lib.hid (H1.out.below hB)
    replace HB := Lib.hid (below_step HB.out hB)
    replace HCI := Lib.hid (HCI.out.below hB)
    replace HUA := Lib.hid (HUA.out.below hB)
    replace HUB := Lib.hid (HUB.out.below hB)
    replace HX := Lib.hid (HX.out.step hB)
    replace HL := Lib.hid (HL.out.below hB)
    replace HW := Lib.hid (HW.out.below hB)
    replace HK := Lib.hid (HK.out.below hB)
    clear hB
    clear HL HK
    clear HQQ
    refine Shut.mk ?_
    go_upto_if 104 with fail
    go_cut [] (fun wx => Hid (Below wm.heap.size wm wx))
    case first =>
      as_aux_lemma =>
        have HZ := Lib.hid (Below.refl wm.heap.size wm)
        refine Shut.out ?_
        rcases R with _ | r
        · refine Shut.mk ?_
          go_wp2_with fail
          go_meet; exact HZ
        obtain ⟨P, hp⟩ := hg_pack HR.out (by omega) (by omega)
        have HP := Lib.hid hp
        have hr40 : r.length ≤ 40 := by have := hp.hr; have := hp.hol; omega
        have hil2 := hp.hil
        have hts2 := hp.hts
        replace HW := Lib.hid (show Ints wm (.slice AW r.length cW) r from HW.out)
        refine Shut.mk ?_
        rw [show (some r).isSome = true from rfl, show (some r).getD [] = r from rfl]
        clear HR hrl hp
        go_wp2_with fail
        refine (HP.out.c7).mono ?_
        intro e v9 hpost
        refine Shut.out ?_
        obtain ⟨rfl, hB⟩ := hpost
        replace H1 := Lib.hid (H1.out.below hB)
        replace HB := Lib.hid (below_step HB.out hB)
        replace HCI := Lib.hid (HCI.out.below hB)
        replace HUA := Lib.hid (HUA.out.below hB)
        replace HUB := Lib.hid (HUB.out.below hB)
        replace HX := Lib.hid (HX.out.step hB)
        replace HW := Lib.hid (HW.out.below hB)
        replace HZ := Lib.hid (below_step HZ.out hB)
        clear hB
        have q0 := HX.out.cell 0
        have q1 := HX.out.cell 1
        have q2 := HX.out.cell 2
        have q3 := HX.out.cell 3
        refine Shut.mk ?_
        go_wp2_with fail
        clear q0 q1 q2 q3
        refine (HP.out.c2 HCI.out).mono ?_
        intro e v10 hpost
        refine Shut.out ?_
        obtain ⟨rvG, nvG, cvG, vsG, rfl, htG, hB⟩ := hpost
        replace H1 := Lib.hid (H1.out.below hB)
        replace HB := Lib.hid (below_step HB.out hB)
        replace HCI := Lib.hid (HCI.out.below hB)
        replace HUA := Lib.hid (HUA.out.below hB)
        replace HUB := Lib.hid (HUB.out.below hB)
        replace HX := Lib.hid (HX.out.step hB)
        replace HW := Lib.hid (HW.out.below hB)
        replace HZ := Lib.hid (below_step HZ.out hB)
        clear hB
        have HG := Lib.hid (show GbIn v10 rvG nvG cvG (P.t) from OwnGb.gbIn htG)
        clear htG
        obtain ⟨AGr, cGr, er, -⟩ := HG.out.rows.form
        obtain ⟨AGn, cGn, en, -⟩ := HG.out.ones
        obtain ⟨AGc, cGc, ec, -⟩ := HG.out.cols
        subst er en ec
        refine Shut.mk ?_
        unfold gbV
        refine Shut.out ?_
        obtain ⟨v11, hv⟩ : ∃ W, v10.alloc (.cells #[.slice AGr (P.t).rows.length cGr, .slice AGn (P.t).ones.length cGn, .slice AGc (P.t).cols.length cGc] 50) = W := ⟨_, rfl⟩
        have hB : Below v10.heap.size v10 v11 := by rw [← hv]; exact (Below.refl _ _).alloc (Nat.le_refl _) _
        have HGX := Lib.hid (show Blk v11 v10.heap.size 50 #[.slice AGr (P.t).rows.length cGr, .slice AGn (P.t).ones.length cGn, .slice AGc (P.t).cols.length cGc] by rw [← hv]; exact Blk.new _ _ _)
        replace H1 := Lib.hid (H1.out.below hB)
        replace HB := Lib.hid (below_step HB.out hB)
        replace HCI := Lib.hid (HCI.out.below hB)
        replace HUA := Lib.hid (HUA.out.below hB)
        replace HUB := Lib.hid (HUB.out.below hB)
        replace HX := Lib.hid (HX.out.step hB)
        replace HW := Lib.hid (HW.out.below hB)
        replace HZ := Lib.hid (below_step HZ.out hB)
        replace HG := Lib.hid (HG.out.below hB)
        clear hB
        refine Shut.mk ?_
        go_upto_region 12 with fail
        clear hv
        refine Shut.out ?_
        obtain ⟨bg, hg⟩ : ∃ n, v10.heap.size = n := ⟨_, rfl⟩
        rw [hg] at HGX ⊢
        clear hg
        have q0 := HX.out.cell 0
        have q1 := HX.out.cell 1
        have q2 := HX.out.cell 2
        have q3 := HX.out.cell 3
        refine Shut.mk ?_
        go_wp2_with fail
        clear q0 q1 q2 q3
        refine (HP.out.c3 HCI.out HUA.out HUB.out).mono ?_
        intro e v12 hpost
        refine Shut.out ?_
        obtain ⟨uI, rfl, huI, hB⟩ := hpost
        replace H1 := Lib.hid (H1.out.below hB)
        replace HB := Lib.hid (below_step HB.out hB)
        replace HCI := Lib.hid (HCI.out.below hB)
        replace HUA := Lib.hid (HUA.out.below hB)
        replace HUB := Lib.hid (HUB.out.below hB)
        replace HX := Lib.hid (HX.out.step hB)
        replace HW := Lib.hid (HW.out.below hB)
        replace HZ := Lib.hid (below_step HZ.out hB)
        replace HG := Lib.hid (HG.out.below hB)
        replace HGX := Lib.hid (HGX.out.step hB)
        clear hB
        have HI := Lib.hid (show Ints v12 uI (P.inp) from OwnI.ints huI)
        clear huI
        obtain ⟨AI, cI, eI, -⟩ := HI.out
        subst eI
        have q0 := HX.out.cell 0
        have q1 := HX.out.cell 1
        have q2 := HX.out.cell 2
        have q3 := HX.out.cell 3
        have z0 := HGX.out.cell 0
        have z1 := HGX.out.cell 1
        have z2 := HGX.out.cell 2
        refine Shut.mk ?_
        go_wp2_with fail
        clear q0 q1 q2 q3
        clear z0 z1 z2
        refine (HP.out.c4 HCI.out HG.out HI.out).mono ?_
        intro e v13 hpost
        refine Shut.out ?_
        obtain ⟨uO, rfl, huO, hB⟩ := hpost
        replace H1 := Lib.hid (H1.out.below hB)
        replace HB := Lib.hid (below_step HB.out hB)
        replace HCI := Lib.hid (HCI.out.below hB)
        replace HUA := Lib.hid (HUA.out.below hB)
        replace HUB := Lib.hid (HUB.out.below hB)
        replace HX := Lib.hid (HX.out.step hB)
        replace HW := Lib.hid (HW.out.below hB)
        replace HZ := Lib.hid (below_step HZ.out hB)
        replace HG := Lib.hid (HG.out.below hB)
        replace HGX := Lib.hid (HGX.out.step hB)
        replace HI := Lib.hid (HI.out.below hB)
        clear hB
        have HO := Lib.hid (show Ints v13 uO (P.outs) from OwnI.ints huO)
        clear huO
        obtain ⟨AO, cO, eO, -⟩ := HO.out
        subst eO
        have q0 := HX.out.cell 0
        have q1 := HX.out.cell 1
        have q2 := HX.out.cell 2
        have q3 := HX.out.cell 3
        refine Shut.mk ?_
        go_wp2_with fail
        clear q0 q1 q2 q3
        refine (HP.out.c5 HCI.out HO.out).mono ?_
        intro e v14 hpost
        refine Shut.out ?_
        obtain ⟨rfl, hB⟩ := hpost
        replace H1 := Lib.hid (H1.out.below hB)
        replace HB := Lib.hid (below_step HB.out hB)
        replace HCI := Lib.hid (HCI.out.below hB)
        replace HUA := Lib.hid (HUA.out.below hB)
        replace HUB := Lib.hid (HUB.out.below hB)
        replace HX := Lib.hid (HX.out.step hB)
        replace HW := Lib.hid (HW.out.below hB)
        replace HZ := Lib.hid (below_step HZ.out hB)
        replace HG := Lib.hid (HG.out.below hB)
        replace HGX := Lib.hid (HGX.out.step hB)
        replace HI := Lib.hid (HI.out.below hB)
        replace HO := Lib.hid (HO.out.below hB)
        clear hB
        have q0 := HX.out.cell 0
        have q1 := HX.out.cell 1
        have q2 := HX.out.cell 2
        have q3 := HX.out.cell 3
        have z0 := HGX.out.cell 0
        have z1 := HGX.out.cell 1
        have z2 := HGX.out.cell 2
        refine Shut.mk ?_
        go_wp2_with fail
        clear q0 q1 q2 q3
        clear z0 z1 z2
        refine (HP.out.c6 HCI.out HG.out HO.out).mono ?_
        intro e v15 hpost
        refine Shut.out ?_
        obtain ⟨uV, rfl, huV, hB⟩ := hpost
        replace H1 := Lib.hid (H1.out.below hB)
        replace HB := Lib.hid (below_step HB.out hB)
        replace HCI := Lib.hid (HCI.out.below hB)
        replace HUA := Lib.hid (HUA.out.below hB)
        replace HUB := Lib.hid (HUB.out.below hB)
        replace HX := Lib.hid (HX.out.step hB)
        replace HW := Lib.hid (HW.out.below hB)
        replace HZ := Lib.hid (below_step HZ.out hB)
        replace HG := Lib.hid (HG.out.below hB)
        replace HGX := Lib.hid (HGX.out.step hB)
        replace HI := Lib.hid (HI.out.below hB)
        replace HO := Lib.hid (HO.out.below hB)
        clear hB
        have HV := Lib.hid (show Ints v15 uV (r) from OwnI.ints huV)
        clear huV
        obtain ⟨AV, cV, eV, -⟩ := HV.out
        subst eV
        refine Shut.mk ?_
        go_wp2_with fail
        refine (c_laws_sameInts HV.out HW.out (by omega)).mono ?_
        intro e v16 hpost
        refine Shut.out ?_
        obtain ⟨rfl, hB⟩ := hpost
        replace H1 := Lib.hid (H1.out.below hB)
        replace HB := Lib.hid (below_step HB.out hB)
        replace HCI := Lib.hid (HCI.out.below hB)
        replace HUA := Lib.hid (HUA.out.below hB)
        replace HUB := Lib.hid (HUB.out.below hB)
        replace HX := Lib.hid (HX.out.step hB)
        replace HW := Lib.hid (HW.out.below hB)
        replace HZ := Lib.hid (below_step HZ.out hB)
        replace HG := Lib.hid (HG.out.below hB)
        replace HGX := Lib.hid (HGX.out.step hB)
        replace HI := Lib.hid (HI.out.below hB)
        replace HO := Lib.hid (HO.out.below hB)
        replace HV := Lib.hid (HV.out.below hB)
        clear hB
        refine Shut.mk ?_
        go_wp2_with fail
        go_meet; exact HZ
    case rest =>
      refine Shut.out ?_
      obtain ⟨wn, hwn⟩ : ∃ W, wc = W := ⟨_, rfl⟩
      rw [hwn] at hcut ⊢
      clear hwn
      have hB := hcut.out
      clear hcut hrl HR
      replace H1 := Lib.hid (H1.out.below hB)
      replace HB := Lib.hid (below_step HB.out hB)
      replace HCI := Lib.hid (HCI.out.below hB)
      replace HUA := Lib.hid (HUA.out.below hB)
      replace HUB := Lib.hid (HUB.out.below hB)
      replace HX := Lib.hid (HX.out.step hB)
      replace HW := Lib.hid (HW.out.below hB)
      clear hB
      clear HW HCI HUA HUB HX
      refine Shut.mk ?_
      go_wp2_with fail
      refine (c_spec_DrawGarbleCircuit H1.out).mono ?_
      intro e v17 hpost
      refine Shut.out ?_
      obtain ⟨⟨d, gv, ov, k, off, rfl, -, hdg, hdo⟩, hB⟩ := hpost
      replace H1 := Lib.hid (H1.out.below hB)
      replace HB := Lib.hid (below_step HB.out hB)
      clear hB
      have HDI := Lib.hid (show CirIn v17 gv ov d from ⟨OwnG.gates hdg, hdo.ints⟩)
      clear hdg hdo
      obtain ⟨Ah, ch, eh, -⟩ := HDI.out.gates
      obtain ⟨Ap, cp, ep, -⟩ := HDI.out.outs
      subst eh ep
      refine Shut.mk ?_
      unfold cirV
      refine Shut.out ?_
      obtain ⟨v18, hv⟩ : ∃ W, v17.alloc (.cells #[.int .i64 d.i0, .int .i64 d.i1, .slice Ah d.gs.length ch, .slice Ap d.outs.length cp] 26) = W := ⟨_, rfl⟩
      have hB : Below v17.heap.size v17 v18 := by rw [← hv]; exact (Below.refl _ _).alloc (Nat.le_refl _) _
      have HY := Lib.hid (show Blk v18 v17.heap.size 26 #[.int .i64 d.i0, .int .i64 d.i1, .slice Ah d.gs.length ch, .slice Ap d.outs.length cp] by rw [← hv]; exact Blk.new _ _ _)
      replace H1 := Lib.hid (H1.out.below hB)
      replace HB := Lib.hid (below_step HB.out hB)
      replace HDI := Lib.hid (HDI.out.below hB)
      clear hB
      refine Shut.mk ?_
      go_upto_region 19 with fail
      clear hv
      refine Shut.out ?_
      obtain ⟨by_, hg⟩ : ∃ n, v17.heap.size = n := ⟨_, rfl⟩
      rw [hg] at HY ⊢
      clear hg
      obtain ⟨T, hT⟩ : ∃ S, tablesM gbZ gbR d k off = S := ⟨_, rfl⟩
      obtain ⟨Z, hZ⟩ : ∃ S, zerosM gbZ gbR d k off = S := ⟨_, rfl⟩
      have hts := made_sz (key := k) (off := off) (c := d) gbS (by omega)
      have hzl := made_len (Z := gbZ) (R := gbR) (key := k) (off := off) (c := d)
      have c1 := (fun (W : World) (h : CirIn W (.slice Ah d.gs.length ch) (.slice Ap d.outs.length cp) d) => c_impl_GarbleCircuit (w := W) (key := k) (off := off) h)
      have c2 := (fun (W : World) (h : CirIn W (.slice Ah d.gs.length ch) (.slice Ap d.outs.length cp) d) => c_spec_GarbleCircuit (w := W) (key := k) (off := off) h)
      have c3 := (fun (W : World) (h : CirIn W (.slice Ah d.gs.length ch) (.slice Ap d.outs.length cp) d) => c_impl_ZeroLabels (w := W) (key := k) (off := off) h)
      have c4 := (fun (W : World) (h : CirIn W (.slice Ah d.gs.length ch) (.slice Ap d.outs.length cp) d) => c_spec_ZeroLabels (w := W) (key := k) (off := off) h)
      rw [hT] at c1 c2 hts
      rw [hZ] at c3 c4 hzl
      unfold cirV at c1 c2 c3 c4
      have C1 := Lib.hid c1
      have C2 := Lib.hid c2
      have C3 := Lib.hid c3
      have C4 := Lib.hid c4
      have HTT := Lib.hid hT
      clear c1 c2 c3 c4 hT hZ
      have q0 := HY.out.cell 0
      have q1 := HY.out.cell 1
      have q2 := HY.out.cell 2
      have q3 := HY.out.cell 3
      refine Shut.mk ?_
      go_wp2_with fail
      clear q0 q1 q2 q3
      refine (C1.out _ HDI.out).mono ?_
      intro e v19 hpost
      refine Shut.out ?_
      obtain ⟨rvG, nvG, cvG, vsG, rfl, htG, hB⟩ := hpost
      replace H1 := Lib.hid (H1.out.below hB)
      replace HB := Lib.hid (below_step HB.out hB)
      replace HDI := Lib.hid (HDI.out.below hB)
      replace HY := Lib.hid (HY.out.step hB)
      clear hB
      have HG := Lib.hid (show GbIn v19 rvG nvG cvG (T.getD Gb.none) from OwnGb.gbIn htG)
      clear htG
      obtain ⟨AGr, cGr, er, -⟩ := HG.out.rows.form
      obtain ⟨AGn, cGn, en, -⟩ := HG.out.ones
      obtain ⟨AGc, cGc, ec, -⟩ := HG.out.cols
      subst er en ec
      refine Shut.mk ?_
      unfold gbV
      refine Shut.out ?_
      obtain ⟨v20, hv⟩ : ∃ W, v19.alloc (.cells #[.slice AGr (T.getD Gb.none).rows.length cGr, .slice AGn (T.getD Gb.none).ones.length cGn, .slice AGc (T.getD Gb.none).cols.length cGc] 50) = W := ⟨_, rfl⟩
      have hB : Below v19.heap.size v19 v20 := by rw [← hv]; exact (Below.refl _ _).alloc (Nat.le_refl _) _
      have HGX := Lib.hid (show Blk v20 v19.heap.size 50 #[.slice AGr (T.getD Gb.none).rows.length cGr, .slice AGn (T.getD Gb.none).ones.length cGn, .slice AGc (T.getD Gb.none).cols.length cGc] by rw [← hv]; exact Blk.new _ _ _)
      replace H1 := Lib.hid (H1.out.below hB)
      replace HB := Lib.hid (below_step HB.out hB)
      replace HDI := Lib.hid (HDI.out.below hB)
      replace HY := Lib.hid (HY.out.step hB)
      replace HG := Lib.hid (HG.out.below hB)
      clear hB
      refine Shut.mk ?_
      go_upto_region 20 with fail
      clear hv
      refine Shut.out ?_
      obtain ⟨bg, hg⟩ : ∃ n, v19.heap.size = n := ⟨_, rfl⟩
      rw [hg] at HGX ⊢
      clear hg
      have q0 := HY.out.cell 0
      have q1 := HY.out.cell 1
      have q2 := HY.out.cell 2
      have q3 := HY.out.cell 3
      refine Shut.mk ?_
      go_wp2_with fail
      clear q0 q1 q2 q3
      refine (C2.out _ HDI.out).mono ?_
      intro e v21 hpost
      refine Shut.out ?_
      obtain ⟨rvF, nvF, cvF, vsF, rfl, htF, hB⟩ := hpost
      replace H1 := Lib.hid (H1.out.below hB)
      replace HB := Lib.hid (below_step HB.out hB)
      replace HDI := Lib.hid (HDI.out.below hB)
      replace HY := Lib.hid (HY.out.step hB)
      replace HG := Lib.hid (HG.out.below hB)
      replace HGX := Lib.hid (HGX.out.step hB)
      clear hB
      have HF := Lib.hid (show GbIn v21 rvF nvF cvF (T.getD Gb.none) from OwnGb.gbIn htF)
      clear htF
      obtain ⟨AFr, cFr, er, -⟩ := HF.out.rows.form
      obtain ⟨AFn, cFn, en, -⟩ := HF.out.ones
      obtain ⟨AFc, cFc, ec, -⟩ := HF.out.cols
      subst er en ec
      refine Shut.mk ?_
      unfold gbV
      refine Shut.out ?_
      obtain ⟨v22, hv⟩ : ∃ W, v21.alloc (.cells #[.slice AFr (T.getD Gb.none).rows.length cFr, .slice AFn (T.getD Gb.none).ones.length cFn, .slice AFc (T.getD Gb.none).cols.length cFc] 50) = W := ⟨_, rfl⟩
      have hB : Below v21.heap.size v21 v22 := by rw [← hv]; exact (Below.refl _ _).alloc (Nat.le_refl _) _
      have HFX := Lib.hid (show Blk v22 v21.heap.size 50 #[.slice AFr (T.getD Gb.none).rows.length cFr, .slice AFn (T.getD Gb.none).ones.length cFn, .slice AFc (T.getD Gb.none).cols.length cFc] by rw [← hv]; exact Blk.new _ _ _)
      replace H1 := Lib.hid (H1.out.below hB)
      replace HB := Lib.hid (below_step HB.out hB)
      replace HDI := Lib.hid (HDI.out.below hB)
      replace HY := Lib.hid (HY.out.step hB)
      replace HG := Lib.hid (HG.out.below hB)
      replace HGX := Lib.hid (HGX.out.step hB)
      replace HF := Lib.hid (HF.out.below hB)
      clear hB
      refine Shut.mk ?_
      go_upto_region 21 with fail
      clear hv
      refine Shut.out ?_
      obtain ⟨bf, hg⟩ : ∃ n, v21.heap.size = n := ⟨_, rfl⟩
      rw [hg] at HFX ⊢
      clear hg
      have q0 := HY.out.cell 0
      have q1 := HY.out.cell 1
      have q2 := HY.out.cell 2
      have q3 := HY.out.cell 3
      refine Shut.mk ?_
      go_wp2_with fail
      clear q0 q1 q2 q3
      refine (C3.out _ HDI.out).mono ?_
      intro e v23 hpost
      refine Shut.out ?_
      obtain ⟨uZ1, rfl, huZ1, hB⟩ := hpost
      replace H1 := Lib.hid (H1.out.below hB)
      replace HB := Lib.hid (below_step HB.out hB)
      replace HDI := Lib.hid (HDI.out.below hB)
      replace HY := Lib.hid (HY.out.step hB)
      replace HG := Lib.hid (HG.out.below hB)
      replace HGX := Lib.hid (HGX.out.step hB)
      replace HF := Lib.hid (HF.out.below hB)
      replace HFX := Lib.hid (HFX.out.step hB)
      clear hB
      have HZ1 := Lib.hid (show Ints v23 uZ1 (Z.getD []) from OwnI.ints huZ1)
      clear huZ1
      obtain ⟨AZ1, cZ1, eZ1, -⟩ := HZ1.out
      subst eZ1
      have q0 := HY.out.cell 0
      have q1 := HY.out.cell 1
      have q2 := HY.out.cell 2
      have q3 := HY.out.cell 3
      refine Shut.mk ?_
      go_wp2_with fail
      clear q0 q1 q2 q3
      refine (C4.out _ HDI.out).mono ?_
      intro e v24 hpost
      refine Shut.out ?_
      obtain ⟨uZ2, rfl, huZ2, hB⟩ := hpost
      replace H1 := Lib.hid (H1.out.below hB)
      replace HB := Lib.hid (below_step HB.out hB)
      replace HDI := Lib.hid (HDI.out.below hB)
      replace HY := Lib.hid (HY.out.step hB)
      replace HG := Lib.hid (HG.out.below hB)
      replace HGX := Lib.hid (HGX.out.step hB)
      replace HF := Lib.hid (HF.out.below hB)
      replace HFX := Lib.hid (HFX.out.step hB)
      replace HZ1 := Lib.hid (HZ1.out.below hB)
      clear hB
      have HZ2 := Lib.hid (show Ints v24 uZ2 (Z.getD []) from OwnI.ints huZ2)
      clear huZ2
      obtain ⟨AZ2, cZ2, eZ2, -⟩ := HZ2.out
      subst eZ2
      clear C1 C2 C3 C4
      have q0 := HGX.out.cell 0
      have q1 := HGX.out.cell 1
      have q2 := HGX.out.cell 2
      have y0 := HFX.out.cell 0
      have y1 := HFX.out.cell 1
      have y2 := HFX.out.cell 2
      refine Shut.mk ?_
      go_wp2_with fail
      clear q0 q1 q2
      clear y0 y1 y2
      refine (c_laws_pSameGarbled HG.out HF.out (by omega)).mono ?_
      intro e v25 hpost
      refine Shut.out ?_
      obtain ⟨rfl, hB⟩ := hpost
      replace H1 := Lib.hid (H1.out.below hB)
      replace HB := Lib.hid (below_step HB.out hB)
      replace HDI := Lib.hid (HDI.out.below hB)
      replace HY := Lib.hid (HY.out.step hB)
      replace HG := Lib.hid (HG.out.below hB)
      replace HGX := Lib.hid (HGX.out.step hB)
      replace HF := Lib.hid (HF.out.below hB)
      replace HFX := Lib.hid (HFX.out.step hB)
      replace HZ1 := Lib.hid (HZ1.out.below hB)
      replace HZ2 := Lib.hid (HZ2.out.below hB)
      clear hB
      refine Shut.mk ?_
      go_wp2_with fail
      refine (c_laws_sameInts HZ1.out HZ2.out (by omega)).mono ?_
      intro e v26 hpost
      refine Shut.out ?_
      obtain ⟨rfl, hB⟩ := hpost
      replace H1 := Lib.hid (H1.out.below hB)
      replace HB := Lib.hid (below_step HB.out hB)
      replace HDI := Lib.hid (HDI.out.below hB)
      replace HY := Lib.hid (HY.out.step hB)
      replace HG := Lib.hid (HG.out.below hB)
      replace HGX := Lib.hid (HGX.out.step hB)
      replace HF := Lib.hid (HF.out.below hB)
      replace HFX := Lib.hid (HFX.out.step hB)
      replace HZ1 := Lib.hid (HZ1.out.below hB)
      replace HZ2 := Lib.hid (HZ2.out.below hB)
      clear hB
      clear HZ1 HZ2
      refine Shut.mk ?_
      go_upto_if 234 with fail
      go_cut [] (fun wx => Hid (Below v26.heap.size v26 wx))
      case first =>
        as_aux_lemma =>
          have HQ := Lib.hid (Below.refl v26.heap.size v26)
          refine Shut.out ?_
          rcases T with _ | t
          · refine Shut.mk ?_
            go_wp2_with fail
            go_meet; exact HQ
          have h9 := made_ok gbS HTT.out
          have hok : isTabM 3 d t = some true ∧ rowsM 3 d = some (3 * (t.rows.length : Int)) ∧ cirB d = true ∧ t.sz ≤ 2000 := by
            rcases h9 with h9 | h9
            · exact h9
            · omega
          obtain ⟨ht1, ht2, ht3, ht4⟩ := hok
          have htr : t.rows.length ≤ 2000 := by unfold Gb.sz at ht4; omega
          replace HG := Lib.hid (show GbIn v26 _ _ _ t from HG.out)
          have c1 := (fun (W : World) (h : CirIn W (.slice Ah d.gs.length ch) (.slice Ap d.outs.length cp) d) (h2 : GbIn W (.slice AGr t.rows.length cGr) (.slice AGn t.ones.length cGn) (.slice AGc t.cols.length cGc) t) => c_impl_IsGarbled (w := W) h h2 (by omega))
          have c2 := (fun (W : World) (h : CirIn W (.slice Ah d.gs.length ch) (.slice Ap d.outs.length cp) d) => c_impl_RowsFor (w := W) h)
          rw [ht1] at c1
          rw [ht2] at c2
          simp only [bV, bB, oV, oB, Option.getD_some, Option.isSome_some] at c1 c2
          unfold cirV at c1 c2
          unfold gbV at c1
          have C1 := Lib.hid c1
          have C2 := Lib.hid c2
          replace HGX := Lib.hid (show Blk _ _ _ #[.slice AGr t.rows.length cGr, .slice AGn t.ones.length cGn, .slice AGc t.cols.length cGc] from HGX.out)
          replace HFX := Lib.hid (show Blk _ _ _ #[.slice AFr t.rows.length cFr, .slice AFn t.ones.length cFn, .slice AFc t.cols.length cFc] from HFX.out)
          refine Shut.mk ?_
          rw [show (some t).isSome = true from rfl]
          clear c1 c2 h9 ht1 ht2 ht3 ht4
          have q0 := HY.out.cell 0
          have q1 := HY.out.cell 1
          have q2 := HY.out.cell 2
          have q3 := HY.out.cell 3
          have z0 := HGX.out.cell 0
          have z1 := HGX.out.cell 1
          have z2 := HGX.out.cell 2
          go_wp2_with fail
          clear q0 q1 q2 q3
          clear z0 z1 z2
          refine (C1.out _ HDI.out HG.out).mono ?_
          intro e v27 hpost
          refine Shut.out ?_
          obtain ⟨rfl, hB⟩ := hpost
          replace H1 := Lib.hid (H1.out.below hB)
          replace HB := Lib.hid (below_step HB.out hB)
          replace HDI := Lib.hid (HDI.out.below hB)
          replace HY := Lib.hid (HY.out.step hB)
          replace HG := Lib.hid (HG.out.below hB)
          replace HGX := Lib.hid (HGX.out.step hB)
          replace HF := Lib.hid (HF.out.below hB)
          replace HFX := Lib.hid (HFX.out.step hB)
          replace HQ := Lib.hid (below_step HQ.out hB)
          clear hB
          have q0 := HY.out.cell 0
          have q1 := HY.out.cell 1
          have q2 := HY.out.cell 2
          have q3 := HY.out.cell 3
          refine Shut.mk ?_
          go_wp2_with fail
          clear q0 q1 q2 q3
          refine (C2.out _ HDI.out).mono ?_
          intro e v28 hpost
          refine Shut.out ?_
          obtain ⟨rfl, hB⟩ := hpost
          replace H1 := Lib.hid (H1.out.below hB)
          replace HB := Lib.hid (below_step HB.out hB)
          replace HDI := Lib.hid (HDI.out.below hB)
          replace HY := Lib.hid (HY.out.step hB)
          replace HG := Lib.hid (HG.out.below hB)
          replace HGX := Lib.hid (HGX.out.step hB)
          replace HF := Lib.hid (HF.out.below hB)
          replace HFX := Lib.hid (HFX.out.step hB)
          replace HQ := Lib.hid (below_step HQ.out hB)
          clear hB
          have y0 := HFX.out.cell 0
          have y1 := HFX.out.cell 1
          have y2 := HFX.out.cell 2
          refine Shut.mk ?_
          go_wp2_with fail
          go_meet; exact HQ
      case rest =>
        refine Shut.out ?_
        obtain ⟨wo, hwo⟩ : ∃ W, wc = W := ⟨_, rfl⟩
        rw [hwo] at hcut ⊢
        clear hwo
        have hB := hcut.out
        clear hcut HTT hts hzl
        replace H1 := Lib.hid (H1.out.below hB)
        replace HB := Lib.hid (below_step HB.out hB)
        replace HDI := Lib.hid (HDI.out.below hB)
        replace HY := Lib.hid (HY.out.step hB)
        replace HG := Lib.hid (HG.out.below hB)
        replace HGX := Lib.hid (HGX.out.step hB)
        replace HF := Lib.hid (HF.out.below hB)
        replace HFX := Lib.hid (HFX.out.step hB)
        clear hB
        clear HG HF HGX HFX HDI HY
        refine Shut.mk ?_
        go_wp2_with fail
        refine (c_spec_DrawEvalGarbled H1.out).mono ?_
        intro e v29 hpost
        refine Shut.out ?_
        obtain ⟨⟨c1, gv, ov, rv, nv, cv, ui, g1, l1_, rfl, -, hs, hl, hc, hg, hi⟩, hB⟩ := hpost
        clear H1
        replace HB := Lib.hid (below_step HB.out hB)
        clear hB
        have HC1 := Lib.hid hc
        have HG1 := Lib.hid hg
        clear hc hg
        have HI := Lib.hid hi
        obtain ⟨AI, cI, rfl, -⟩ := hi
        obtain ⟨Ag1, cg1, eg, -⟩ := HC1.out.gates
        obtain ⟨Ao1, co1, eo, -⟩ := HC1.out.outs
        obtain ⟨Ar1, cr1, er, -⟩ := HG1.out.rows.form
        obtain ⟨An1, cn1, en, -⟩ := HG1.out.ones
        obtain ⟨Ac1, cc1, ec, -⟩ := HG1.out.cols
        subst eg eo er en ec
        refine Shut.mk ?_
        unfold cirV gbV
        refine Shut.out ?_
        obtain ⟨v30, hv⟩ : ∃ W, (v29.alloc (.cells #[.int .i64 c1.i0, .int .i64 c1.i1, .slice Ag1 c1.gs.length cg1, .slice Ao1 c1.outs.length co1] 26)).alloc (.cells #[.slice Ar1 g1.rows.length cr1, .slice An1 g1.ones.length cn1, .slice Ac1 g1.cols.length cc1] 50) = W := ⟨_, rfl⟩
        have hB : Below v29.heap.size v29 v30 := by rw [← hv]; exact ((Below.refl _ _).alloc (Nat.le_refl _) _).alloc (by simp) _
        have HX1 := Lib.hid (show Blk v30 v29.heap.size 26 #[.int .i64 c1.i0, .int .i64 c1.i1, .slice Ag1 c1.gs.length cg1, .slice Ao1 c1.outs.length co1] by rw [← hv]; exact (Blk.new _ _ _).alloc _)
        have HY1 := Lib.hid (show Blk v30 (v29.heap.size + 1) 50 #[.slice Ar1 g1.rows.length cr1, .slice An1 g1.ones.length cn1, .slice Ac1 g1.cols.length cc1] by
          rw [← hv]
          have := Blk.new (v29.alloc (.cells #[.int .i64 c1.i0, .int .i64 c1.i1, .slice Ag1 c1.gs.length cg1, .slice Ao1 c1.outs.length co1] 26)) 50 #[.slice Ar1 g1.rows.length cr1, .slice An1 g1.ones.length cn1, .slice Ac1 g1.cols.length cc1]
          simpa using this)
        replace HB := Lib.hid (below_step HB.out hB)
        replace HC1 := Lib.hid (HC1.out.below hB)
        replace HG1 := Lib.hid (HG1.out.below hB)
        replace HI := Lib.hid (HI.out.below hB)
        clear hB
        refine Shut.mk ?_
        go_upto_region 31 with fail
        clear hv
        refine Shut.out ?_
        obtain ⟨b1, hg⟩ : ∃ n, v29.heap.size = n := ⟨_, rfl⟩
        rw [hg] at HX1 HY1 ⊢
        clear hg
        obtain ⟨S, hS⟩ : ∃ S, evalM 3 openM c1 g1 l1_ = S := ⟨_, rfl⟩
        have hsl : (S.getD []).length ≤ 2097152 := by
          rw [← hS]
          unfold evalM
          split
          · rename_i hq
            simp only [Bool.and_eq_true] at hq
            have := cirB_bd hq.1.1.1
            simp only [Option.getD_some, pickM_length]; omega
          · simp
        have i1 := (fun (W : World) (u : Value) (h : CirIn W (.slice Ag1 c1.gs.length cg1) (.slice Ao1 c1.outs.length co1) c1) (h2 : GbIn W (.slice Ar1 g1.rows.length cr1) (.slice An1 g1.ones.length cn1) (.slice Ac1 g1.cols.length cc1) g1) (h3 : Ints W u l1_) => c_impl_EvalGarbled (w := W) h h2 (by omega) h3 (by omega))
        have i2 := (fun (W : World) (u : Value) (h : CirIn W (.slice Ag1 c1.gs.length cg1) (.slice Ao1 c1.outs.length co1) c1) (h2 : GbIn W (.slice Ar1 g1.rows.length cr1) (.slice An1 g1.ones.length cn1) (.slice Ac1 g1.cols.length cc1) g1) (h3 : Ints W u l1_) => c_spec_EvalGarbled (w := W) h h2 (by omega) h3 (by omega))
        rw [hS] at i1 i2
        unfold cirV gbV at i1 i2
        have C1 := Lib.hid i1
        have C2 := Lib.hid i2
        clear i1 i2 hS
        have q0 := HX1.out.cell 0
        have q1 := HX1.out.cell 1
        have q2 := HX1.out.cell 2
        have q3 := HX1.out.cell 3
        have z0 := HY1.out.cell 0
        have z1 := HY1.out.cell 1
        have z2 := HY1.out.cell 2
        refine Shut.mk ?_
        go_wp2_with fail
        clear q0 q1 q2 q3
        clear z0 z1 z2
        refine (C1.out _ _ HC1.out HG1.out HI.out).mono ?_
        intro e v31 hpost
        refine Shut.out ?_
        obtain ⟨uS1, rfl, huS1, hB⟩ := hpost
        replace HB := Lib.hid (below_step HB.out hB)
        replace HC1 := Lib.hid (HC1.out.below hB)
        replace HG1 := Lib.hid (HG1.out.below hB)
        replace HI := Lib.hid (HI.out.below hB)
        replace HX1 := Lib.hid (HX1.out.step hB)
        replace HY1 := Lib.hid (HY1.out.step hB)
        clear hB
        have HS1 := Lib.hid (show Ints v31 uS1 (S.getD []) from OwnI.ints huS1)
        clear huS1
        obtain ⟨AS1, cS1, eS1, -⟩ := HS1.out
        subst eS1
        have q0 := HX1.out.cell 0
        have q1 := HX1.out.cell 1
        have q2 := HX1.out.cell 2
        have q3 := HX1.out.cell 3
        have z0 := HY1.out.cell 0
        have z1 := HY1.out.cell 1
        have z2 := HY1.out.cell 2
        refine Shut.mk ?_
        go_wp2_with fail
        clear q0 q1 q2 q3
        clear z0 z1 z2
        refine (C2.out _ _ HC1.out HG1.out HI.out).mono ?_
        intro e v32 hpost
        refine Shut.out ?_
        obtain ⟨uS2, rfl, huS2, hB⟩ := hpost
        replace HB := Lib.hid (below_step HB.out hB)
        replace HC1 := Lib.hid (HC1.out.below hB)
        replace HG1 := Lib.hid (HG1.out.below hB)
        replace HI := Lib.hid (HI.out.below hB)
        replace HX1 := Lib.hid (HX1.out.step hB)
        replace HY1 := Lib.hid (HY1.out.step hB)
        replace HS1 := Lib.hid (HS1.out.below hB)
        clear hB
        have HS2 := Lib.hid (show Ints v32 uS2 (S.getD []) from OwnI.ints huS2)
        clear huS2
        obtain ⟨AS2, cS2, eS2, -⟩ := HS2.out
        subst eS2
        clear C1 C2
        refine Shut.mk ?_
        go_wp2_with fail
        refine (c_laws_sameInts HS1.out HS2.out hsl).mono ?_
        intro e v33 hpost
        refine Shut.out ?_
        obtain ⟨rfl, hB⟩ := hpost
        replace HB := Lib.hid (below_step HB.out hB)
        replace HC1 := Lib.hid (HC1.out.below hB)
        replace HG1 := Lib.hid (HG1.out.below hB)
        replace HI := Lib.hid (HI.out.below hB)
        replace HX1 := Lib.hid (HX1.out.step hB)
        replace HY1 := Lib.hid (HY1.out.step hB)
        replace HS1 := Lib.hid (HS1.out.below hB)
        replace HS2 := Lib.hid (HS2.out.below hB)
        clear hB
        refine Shut.mk ?_
        go_wp2
        go_ret
        exact ⟨rfl, HB.out⟩
end Go.Proofs.YtejeppjmlgfiaaaGreat
