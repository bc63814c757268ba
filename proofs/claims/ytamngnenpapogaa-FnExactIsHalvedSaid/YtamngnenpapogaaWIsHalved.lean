/- The walk of the law FnExactIsHalved: its Go text returns true for every input. No condition. -/
import Derived.Test.YtamngnenpapogaaLawK
import Derived.Test.YtamngnenpapogaaTabS
namespace Go.Proofs.Ytamngnenpapogaa
open Go.RowKit
set_option linter.unusedVariables false

set_option maxRecDepth 100000 in
set_option maxHeartbeats 4000000 in
theorem w_FnExactIsHalved (w : World) {c0 : Cir} {gv0 ov0 : Value} (h0 : CirIn w gv0 ov0 c0) {g1 : Gb} {rv1 nv1 cv1 : Value} (h1 : GbIn w rv1 nv1 cv1 g1) : Calls Try.prog 7 #[cirV c0 gv0 ov0, gbV rv1 nv1 cv1] w fun e w' => e = .returned (.bool true) ∧ Below w.heap.size w w' := by
  have H0 := Lib.hid h0
  obtain ⟨A0a, n0a, rfl, -⟩ := h0.gates
  obtain ⟨A0b, n0b, rfl, -⟩ := h0.outs
  clear h0
  have H1 := Lib.hid h1
  obtain ⟨A1a, n1a, rfl, -⟩ := h1.rows.form
  obtain ⟨A1b, n1b, rfl, -⟩ := h1.ones
  obtain ⟨A1c, n1c, rfl, -⟩ := h1.cols
  clear h1
  unfold cirV
  unfold gbV
  obtain ⟨w1, hw1⟩ : ∃ W, (w.alloc (.cells #[.int .i64 c0.i0, .int .i64 c0.i1, .slice A0a c0.gs.length n0a, .slice A0b c0.outs.length n0b] 25)).alloc (.cells #[.slice A1a g1.rows.length n1a, .slice A1b g1.ones.length n1b, .slice A1c g1.cols.length n1c] 51) = W := ⟨_, rfl⟩
  have HK0 := Lib.hid ((Blk.new w 25 #[.int .i64 c0.i0, .int .i64 c0.i1, .slice A0a c0.gs.length n0a, .slice A0b c0.outs.length n0b]).alloc (.cells #[.slice A1a g1.rows.length n1a, .slice A1b g1.ones.length n1b, .slice A1c g1.cols.length n1c] 51))
  rw [hw1] at HK0
  have HK1 := Lib.hid (Blk.new (w.alloc (.cells #[.int .i64 c0.i0, .int .i64 c0.i1, .slice A0a c0.gs.length n0a, .slice A0b c0.outs.length n0b] 25)) 51 #[.slice A1a g1.rows.length n1a, .slice A1b g1.ones.length n1b, .slice A1c g1.cols.length n1c])
  simp only [World.size_alloc, hw1] at HK1
  have HB : Hid (Below w.heap.size w w1) := by rw [← hw1]; exact ((Below.refl w.heap.size w).alloc (Nat.le_refl _) (.cells #[.int .i64 c0.i0, .int .i64 c0.i1, .slice A0a c0.gs.length n0a, .slice A0b c0.outs.length n0b] 25)).alloc (by simp) (.cells #[.slice A1a g1.rows.length n1a, .slice A1b g1.ones.length n1b, .slice A1c g1.cols.length n1c] 51)
  go_enter Try.func7, Try.ntmps7
  have x_HK0_0 : w1.cell? ⟨w.heap.size, 0, none⟩ = some (.int .i64 c0.i0) := HK0.out.cell 0
  have x_HK0_1 : w1.cell? ⟨w.heap.size, 1, none⟩ = some (.int .i64 c0.i1) := HK0.out.cell 1
  have x_HK0_2 : w1.cell? ⟨w.heap.size, 2, none⟩ = some (.slice A0a c0.gs.length n0a) := HK0.out.cell 2
  have x_HK0_3 : w1.cell? ⟨w.heap.size, 3, none⟩ = some (.slice A0b c0.outs.length n0b) := HK0.out.cell 3
  go_wp2_with fail
  clear hw1
  refine (c_laws_szCircuit (H0.out.below HB.out) (by omega)).mono ?_
  rintro e w2 ⟨rfl, hb⟩
  clear x_HK0_0 x_HK0_1 x_HK0_2 x_HK0_3
  replace HB := Lib.hid (below_step HB.out hb)
  replace HK0 := Lib.hid (HK0.out.step hb)
  replace HK1 := Lib.hid (HK1.out.step hb)
  clear hb
  by_cases hz0 : szCM 1048576 c0 < 0
  · go_wp2
    go_ret
    exact ⟨rfl, HB.out⟩
  have Z0 := Lib.hid (szCM_ok (by omega) hz0)
  have x_HK1_0 : w2.cell? ⟨w.heap.size + 1, 0, none⟩ = some (.slice A1a g1.rows.length n1a) := HK1.out.cell 0
  have x_HK1_1 : w2.cell? ⟨w.heap.size + 1, 1, none⟩ = some (.slice A1b g1.ones.length n1b) := HK1.out.cell 1
  have x_HK1_2 : w2.cell? ⟨w.heap.size + 1, 2, none⟩ = some (.slice A1c g1.cols.length n1c) := HK1.out.cell 2
  go_wp2_with fail
  refine (c_laws_szHalved (H1.out.below HB.out) Z0.out.1).mono ?_
  rintro e w3 ⟨rfl, hb⟩
  clear x_HK1_0 x_HK1_1 x_HK1_2
  replace HB := Lib.hid (below_step HB.out hb)
  replace HK0 := Lib.hid (HK0.out.step hb)
  replace HK1 := Lib.hid (HK1.out.step hb)
  clear hb
  by_cases hz1 : szGM (szCM 1048576 c0) g1 < 0
  · go_wp2
    go_ret
    exact ⟨rfl, HB.out⟩
  have Z1 := Lib.hid (szGM_ok Z0.out.1 hz1)
  go_upto_region 8 with fail
  go_cut [6, 7] (fun s0 s1 wx => s0 = .bool (bV (isTabM 2 c0 g1)) ∧ s1 = .bool (bB (isTabM 2 c0 g1)) ∧ Hid (Below w3.heap.size w3 wx))
  case first =>
    have q0 : ∀ w', Below w3.heap.size w3 w' → w'.cell? ⟨w.heap.size, 0, none⟩ = some (.int .i64 c0.i0) := fun w' h => (h.cell (p := ⟨w.heap.size, 0, none⟩) HK0.out.lt).trans (HK0.out.cell 0)
    have q1 : ∀ w', Below w3.heap.size w3 w' → w'.cell? ⟨w.heap.size, 1, none⟩ = some (.int .i64 c0.i1) := fun w' h => (h.cell (p := ⟨w.heap.size, 1, none⟩) HK0.out.lt).trans (HK0.out.cell 1)
    have q2 : ∀ w', Below w3.heap.size w3 w' → w'.cell? ⟨w.heap.size, 2, none⟩ = some (.slice A0a c0.gs.length n0a) := fun w' h => (h.cell (p := ⟨w.heap.size, 2, none⟩) HK0.out.lt).trans (HK0.out.cell 2)
    have q3 : ∀ w', Below w3.heap.size w3 w' → w'.cell? ⟨w.heap.size, 3, none⟩ = some (.slice A0b c0.outs.length n0b) := fun w' h => (h.cell (p := ⟨w.heap.size, 3, none⟩) HK0.out.lt).trans (HK0.out.cell 3)
    have q4 : ∀ w', Below w3.heap.size w3 w' → w'.cell? ⟨w.heap.size + 1, 0, none⟩ = some (.slice A1a g1.rows.length n1a) := fun w' h => (h.cell (p := ⟨w.heap.size + 1, 0, none⟩) HK1.out.lt).trans (HK1.out.cell 0)
    have q5 : ∀ w', Below w3.heap.size w3 w' → w'.cell? ⟨w.heap.size + 1, 1, none⟩ = some (.slice A1b g1.ones.length n1b) := fun w' h => (h.cell (p := ⟨w.heap.size + 1, 1, none⟩) HK1.out.lt).trans (HK1.out.cell 1)
    have q6 : ∀ w', Below w3.heap.size w3 w' → w'.cell? ⟨w.heap.size + 1, 2, none⟩ = some (.slice A1c g1.cols.length n1c) := fun w' h => (h.cell (p := ⟨w.heap.size + 1, 2, none⟩) HK1.out.lt).trans (HK1.out.cell 2)
    go_region_held3 (fun w' => Below w3.heap.size w3 w')
      (first | (refine below_step ?_ HD.out; assumption) | (exact (Below.refl _ _).drew) | (refine Below.alloc ?_ (Below.size ?_) _ <;> assumption))
      (first
        | (go_at_call 17; refine (c_laws_toCircuit ((H0.out.below HB.out).below (by first | assumption | (refine Below.alloc ?_ (Below.size ?_) _ <;> assumption))) Z0.out.2.1 Z0.out.2.2).mono ?_; rintro e wa0 ⟨gvu0, ovu0, mu0, rfl, Ou0, hb⟩; (try (have X1 : Hid (Below wa1.heap.size wa1 wa0) := (by first | exact below_step X1.out hb | exact below_step (X1.out.alloc X1.out.size _) hb))); have X0 := Lib.hid (Below.refl wa0.heap.size wa0); replace Ou0 := Lib.hid Ou0; have HD := Lib.hid hb)
        | (go_at_call 35; refine (c_laws_toHalved ((H1.out.below HB.out).below (by first | assumption | (refine Below.alloc ?_ (Below.size ?_) _ <;> assumption))) Z1.out.2).mono ?_; rintro e wa1 ⟨rvu1, nvu1, cvu1, vsu1, rfl, Ou1, hb⟩; (try (have X0 : Hid (Below wa0.heap.size wa0 wa1) := (by first | exact below_step X0.out hb | exact below_step (X0.out.alloc X0.out.size _) hb))); have X1 := Lib.hid (Below.refl wa1.heap.size wa1); replace Ou1 := Lib.hid Ou1; have HD := Lib.hid hb)
        | (go_at_call 34; refine (c_spec_IsHalved ((Ou0.out.cir).below (by first | exact X0.out | exact X0.out.alloc X0.out.size _)) ((Ou1.out.gbIn).below (by first | exact X1.out | exact X1.out.alloc X1.out.size _)) Z1.out.2).mono ?_; rintro e wz ⟨rfl, hb⟩;  have HD := Lib.hid hb))
    all_goals (go_wp2_with fail; go_meet; exact ⟨rfl, rfl, Lib.hid (by assumption)⟩)
  case rest =>
    obtain ⟨rfl, rfl, HX⟩ := hcut
    revert HX
    generalize wc = w4
    intro HX
    replace HB := Lib.hid (below_step HB.out HX.out)
    replace HK0 := Lib.hid (HK0.out.step HX.out)
    replace HK1 := Lib.hid (HK1.out.step HX.out)
    clear HX
    have x_HK0_0 : w4.cell? ⟨w.heap.size, 0, none⟩ = some (.int .i64 c0.i0) := HK0.out.cell 0
    have x_HK0_1 : w4.cell? ⟨w.heap.size, 1, none⟩ = some (.int .i64 c0.i1) := HK0.out.cell 1
    have x_HK0_2 : w4.cell? ⟨w.heap.size, 2, none⟩ = some (.slice A0a c0.gs.length n0a) := HK0.out.cell 2
    have x_HK0_3 : w4.cell? ⟨w.heap.size, 3, none⟩ = some (.slice A0b c0.outs.length n0b) := HK0.out.cell 3
    go_wp2_with fail
    refine (c_laws_toCircuit (H0.out.below HB.out) Z0.out.2.1 Z0.out.2.2).mono ?_
    rintro e w5 ⟨gvx0, ovx0, mx0, rfl, Ox0, hb⟩
    clear x_HK0_0 x_HK0_1 x_HK0_2 x_HK0_3
    replace HB := Lib.hid (below_step HB.out hb)
    replace HK0 := Lib.hid (HK0.out.step hb)
    replace HK1 := Lib.hid (HK1.out.step hb)
    clear hb
    obtain ⟨Dx0a, dx0a, rfl, -⟩ := Ox0.cir.gates
    obtain ⟨Dx0b, dx0b, rfl, -⟩ := Ox0.cir.outs
    replace Ox0 := Lib.hid Ox0
    unfold cirV
    obtain ⟨w6, hw6⟩ : ∃ W, w5.alloc (.cells #[.int .i64 c0.i0, .int .i64 c0.i1, .slice Dx0a c0.gs.length dx0a, .slice Dx0b c0.outs.length dx0b] 31) = W := ⟨_, rfl⟩
    have KX0 : Hid (Blk w6 w5.heap.size 31 #[.int .i64 c0.i0, .int .i64 c0.i1, .slice Dx0a c0.gs.length dx0a, .slice Dx0b c0.outs.length dx0b]) := by rw [← hw6]; exact Blk.new _ _ _
    have hb : Below w5.heap.size w5 w6 := by rw [← hw6]; exact (Below.refl _ _).alloc (Nat.le_refl _) _
    replace HB := Lib.hid (below_step HB.out hb)
    replace HK0 := Lib.hid (HK0.out.step hb)
    replace HK1 := Lib.hid (HK1.out.step hb)
    replace Ox0 := Lib.hid (Ox0.out.below hb)
    clear hb
    have x_HK1_0 : w6.cell? ⟨w.heap.size + 1, 0, none⟩ = some (.slice A1a g1.rows.length n1a) := HK1.out.cell 0
    have x_HK1_1 : w6.cell? ⟨w.heap.size + 1, 1, none⟩ = some (.slice A1b g1.ones.length n1b) := HK1.out.cell 1
    have x_HK1_2 : w6.cell? ⟨w.heap.size + 1, 2, none⟩ = some (.slice A1c g1.cols.length n1c) := HK1.out.cell 2
    go_wp2_with fail
    clear hw6
    refine (c_laws_toHalved (H1.out.below HB.out) Z1.out.2).mono ?_
    rintro e w7 ⟨rvx1, nvx1, cvx1, vsx1, rfl, Ox1, hb⟩
    clear x_HK1_0 x_HK1_1 x_HK1_2
    replace HB := Lib.hid (below_step HB.out hb)
    replace HK0 := Lib.hid (HK0.out.step hb)
    replace HK1 := Lib.hid (HK1.out.step hb)
    replace Ox0 := Lib.hid (Ox0.out.below hb)
    replace KX0 := Lib.hid (KX0.out.step hb)
    clear hb
    obtain ⟨Dx1a, dx1a, rfl, -⟩ := Ox1.rows.rowsIn.form
    obtain ⟨Dx1b, dx1b, rfl, -⟩ := Ox1.ones.ints
    obtain ⟨Dx1c, dx1c, rfl, -⟩ := Ox1.cols.ints
    replace Ox1 := Lib.hid Ox1
    unfold gbV
    obtain ⟨w8, hw8⟩ : ∃ W, w7.alloc (.cells #[.slice Dx1a g1.rows.length dx1a, .slice Dx1b g1.ones.length dx1b, .slice Dx1c g1.cols.length dx1c] 54) = W := ⟨_, rfl⟩
    have KX1 : Hid (Blk w8 w7.heap.size 54 #[.slice Dx1a g1.rows.length dx1a, .slice Dx1b g1.ones.length dx1b, .slice Dx1c g1.cols.length dx1c]) := by rw [← hw8]; exact Blk.new _ _ _
    have hb : Below w7.heap.size w7 w8 := by rw [← hw8]; exact (Below.refl _ _).alloc (Nat.le_refl _) _
    replace HB := Lib.hid (below_step HB.out hb)
    replace HK0 := Lib.hid (HK0.out.step hb)
    replace HK1 := Lib.hid (HK1.out.step hb)
    replace Ox0 := Lib.hid (Ox0.out.below hb)
    replace KX0 := Lib.hid (KX0.out.step hb)
    replace Ox1 := Lib.hid (Ox1.out.below hb)
    clear hb
    have x_KX0_0 : w8.cell? ⟨w5.heap.size, 0, none⟩ = some (.int .i64 c0.i0) := KX0.out.cell 0
    have x_KX0_1 : w8.cell? ⟨w5.heap.size, 1, none⟩ = some (.int .i64 c0.i1) := KX0.out.cell 1
    have x_KX0_2 : w8.cell? ⟨w5.heap.size, 2, none⟩ = some (.slice Dx0a c0.gs.length dx0a) := KX0.out.cell 2
    have x_KX0_3 : w8.cell? ⟨w5.heap.size, 3, none⟩ = some (.slice Dx0b c0.outs.length dx0b) := KX0.out.cell 3
    have x_KX1_0 : w8.cell? ⟨w7.heap.size, 0, none⟩ = some (.slice Dx1a g1.rows.length dx1a) := KX1.out.cell 0
    have x_KX1_1 : w8.cell? ⟨w7.heap.size, 1, none⟩ = some (.slice Dx1b g1.ones.length dx1b) := KX1.out.cell 1
    have x_KX1_2 : w8.cell? ⟨w7.heap.size, 2, none⟩ = some (.slice Dx1c g1.cols.length dx1c) := KX1.out.cell 2
    go_wp2_with fail
    clear hw8
    refine (c_impl_IsHalved Ox0.out.cir Ox1.out.gbIn Z1.out.2).mono ?_
    rintro e w9 ⟨rfl, hb⟩
    clear x_KX0_0 x_KX0_1 x_KX0_2 x_KX0_3 x_KX1_0 x_KX1_1 x_KX1_2
    replace HB := Lib.hid (below_step HB.out hb)
    replace HK0 := Lib.hid (HK0.out.step hb)
    replace HK1 := Lib.hid (HK1.out.step hb)
    replace Ox0 := Lib.hid (Ox0.out.below hb)
    replace KX0 := Lib.hid (KX0.out.step hb)
    replace Ox1 := Lib.hid (Ox1.out.below hb)
    replace KX1 := Lib.hid (KX1.out.step hb)
    clear hb
    go_wp2_with fail
    have q0 : ∀ w', Below w9.heap.size w9 w' → w'.cell? ⟨w.heap.size, 0, none⟩ = some (.int .i64 c0.i0) := fun w' h => (h.cell (p := ⟨w.heap.size, 0, none⟩) HK0.out.lt).trans (HK0.out.cell 0)
    have q1 : ∀ w', Below w9.heap.size w9 w' → w'.cell? ⟨w.heap.size, 1, none⟩ = some (.int .i64 c0.i1) := fun w' h => (h.cell (p := ⟨w.heap.size, 1, none⟩) HK0.out.lt).trans (HK0.out.cell 1)
    have q2 : ∀ w', Below w9.heap.size w9 w' → w'.cell? ⟨w.heap.size, 2, none⟩ = some (.slice A0a c0.gs.length n0a) := fun w' h => (h.cell (p := ⟨w.heap.size, 2, none⟩) HK0.out.lt).trans (HK0.out.cell 2)
    have q3 : ∀ w', Below w9.heap.size w9 w' → w'.cell? ⟨w.heap.size, 3, none⟩ = some (.slice A0b c0.outs.length n0b) := fun w' h => (h.cell (p := ⟨w.heap.size, 3, none⟩) HK0.out.lt).trans (HK0.out.cell 3)
    have q4 : ∀ w', Below w9.heap.size w9 w' → w'.cell? ⟨w5.heap.size, 0, none⟩ = some (.int .i64 c0.i0) := fun w' h => (h.cell (p := ⟨w5.heap.size, 0, none⟩) KX0.out.lt).trans (KX0.out.cell 0)
    have q5 : ∀ w', Below w9.heap.size w9 w' → w'.cell? ⟨w5.heap.size, 1, none⟩ = some (.int .i64 c0.i1) := fun w' h => (h.cell (p := ⟨w5.heap.size, 1, none⟩) KX0.out.lt).trans (KX0.out.cell 1)
    have q6 : ∀ w', Below w9.heap.size w9 w' → w'.cell? ⟨w5.heap.size, 2, none⟩ = some (.slice Dx0a c0.gs.length dx0a) := fun w' h => (h.cell (p := ⟨w5.heap.size, 2, none⟩) KX0.out.lt).trans (KX0.out.cell 2)
    have q7 : ∀ w', Below w9.heap.size w9 w' → w'.cell? ⟨w5.heap.size, 3, none⟩ = some (.slice Dx0b c0.outs.length dx0b) := fun w' h => (h.cell (p := ⟨w5.heap.size, 3, none⟩) KX0.out.lt).trans (KX0.out.cell 3)
    go_region_held3 (fun w' => Below w9.heap.size w9 w')
      (first | (refine below_step ?_ HD.out; assumption) | (exact (Below.refl _ _).drew))
      (first
        | (go_at_call 17; refine (c_laws_toCircuit ((H0.out.below HB.out).below (by assumption)) Z0.out.2.1 Z0.out.2.2).mono ?_; rintro e wa ⟨gvy, ovy, my, rfl, Oy, hb⟩; replace Oy := Lib.hid Oy; have HD := Lib.hid hb)
        | (go_at_call 19; refine (c_laws_eqCircuit ((Ox0.out.cir).below (by assumption)) Oy.out.cir (by have := Z0.out; omega) (by have := Z0.out; omega)).mono ?_; rintro e wb ⟨rfl, hb⟩; have HD := Lib.hid hb))
    have hE : Below w9.heap.size w9 wb := by assumption
    clear q0 q1 q2 q3 q4 q5 q6 q7
    generalize wb = w10 at *
    replace HB := Lib.hid (below_step HB.out hE)
    replace HK0 := Lib.hid (HK0.out.step hE)
    replace HK1 := Lib.hid (HK1.out.step hE)
    replace Ox0 := Lib.hid (Ox0.out.below hE)
    replace KX0 := Lib.hid (KX0.out.step hE)
    replace Ox1 := Lib.hid (Ox1.out.below hE)
    replace KX1 := Lib.hid (KX1.out.step hE)
    clear hE
    go_wp2_with fail
    have q0 : ∀ w', Below w10.heap.size w10 w' → w'.cell? ⟨w.heap.size + 1, 0, none⟩ = some (.slice A1a g1.rows.length n1a) := fun w' h => (h.cell (p := ⟨w.heap.size + 1, 0, none⟩) HK1.out.lt).trans (HK1.out.cell 0)
    have q1 : ∀ w', Below w10.heap.size w10 w' → w'.cell? ⟨w.heap.size + 1, 1, none⟩ = some (.slice A1b g1.ones.length n1b) := fun w' h => (h.cell (p := ⟨w.heap.size + 1, 1, none⟩) HK1.out.lt).trans (HK1.out.cell 1)
    have q2 : ∀ w', Below w10.heap.size w10 w' → w'.cell? ⟨w.heap.size + 1, 2, none⟩ = some (.slice A1c g1.cols.length n1c) := fun w' h => (h.cell (p := ⟨w.heap.size + 1, 2, none⟩) HK1.out.lt).trans (HK1.out.cell 2)
    have q3 : ∀ w', Below w10.heap.size w10 w' → w'.cell? ⟨w7.heap.size, 0, none⟩ = some (.slice Dx1a g1.rows.length dx1a) := fun w' h => (h.cell (p := ⟨w7.heap.size, 0, none⟩) KX1.out.lt).trans (KX1.out.cell 0)
    have q4 : ∀ w', Below w10.heap.size w10 w' → w'.cell? ⟨w7.heap.size, 1, none⟩ = some (.slice Dx1b g1.ones.length dx1b) := fun w' h => (h.cell (p := ⟨w7.heap.size, 1, none⟩) KX1.out.lt).trans (KX1.out.cell 1)
    have q5 : ∀ w', Below w10.heap.size w10 w' → w'.cell? ⟨w7.heap.size, 2, none⟩ = some (.slice Dx1c g1.cols.length dx1c) := fun w' h => (h.cell (p := ⟨w7.heap.size, 2, none⟩) KX1.out.lt).trans (KX1.out.cell 2)
    go_region_held3 (fun w' => Below w10.heap.size w10 w')
      (first | (refine below_step ?_ HD.out; assumption) | (exact (Below.refl _ _).drew))
      (first
        | (go_at_call 35; refine (c_laws_toHalved ((H1.out.below HB.out).below (by assumption)) Z1.out.2).mono ?_; rintro e wa ⟨rvy, nvy, cvy, vsy, rfl, Oy, hb⟩; replace Oy := Lib.hid Oy; have HD := Lib.hid hb)
        | (go_at_call 37; refine (c_laws_eqHalved ((Ox1.out.gbIn).below (by assumption)) Oy.out.gbIn (by have := Z1.out; omega)).mono ?_; rintro e wb ⟨rfl, hb⟩; have HD := Lib.hid hb))
    have hE : Below w10.heap.size w10 wb := by assumption
    clear q0 q1 q2 q3 q4 q5
    generalize wb = w11 at *
    replace HB := Lib.hid (below_step HB.out hE)
    replace HK0 := Lib.hid (HK0.out.step hE)
    replace HK1 := Lib.hid (HK1.out.step hE)
    replace Ox0 := Lib.hid (Ox0.out.below hE)
    replace KX0 := Lib.hid (KX0.out.step hE)
    replace Ox1 := Lib.hid (Ox1.out.below hE)
    replace KX1 := Lib.hid (KX1.out.step hE)
    clear hE
    go_wp2
    go_ret
    exact ⟨rfl, HB.out⟩

end Go.Proofs.Ytamngnenpapogaa
