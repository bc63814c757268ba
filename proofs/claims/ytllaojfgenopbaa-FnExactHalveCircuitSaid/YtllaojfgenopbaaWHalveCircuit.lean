/- The walk of the law FnExactHalveCircuit: its Go text returns true for every input. No condition. -/
import Derived.Test.YtllaojfgenopbaaLawK
import Derived.Test.YtllaojfgenopbaaZeU
namespace Go.Proofs.Ytllaojfgenopbaa
open Go.RowKit
set_option linter.unusedVariables false

set_option maxRecDepth 100000 in
set_option maxHeartbeats 4000000 in
theorem w_FnExactHalveCircuit (w : World) {c0 : Cir} {gv0 ov0 : Value} (h0 : CirIn w gv0 ov0 c0) {a1 : Int} (h1 : -9223372036854775808 ≤ a1 ∧ a1 ≤ 9223372036854775807) {a2 : Int} (h2 : -9223372036854775808 ≤ a2 ∧ a2 ≤ 9223372036854775807) : Calls Try.prog 6 #[cirV c0 gv0 ov0, .int .i64 a1, .int .i64 a2] w fun e w' => e = .returned (.bool true) ∧ Below w.heap.size w w' := by
  have H0 := Lib.hid h0
  obtain ⟨A0a, n0a, rfl, -⟩ := h0.gates
  obtain ⟨A0b, n0b, rfl, -⟩ := h0.outs
  clear h0
  unfold cirV
  obtain ⟨w1, hw1⟩ : ∃ W, w.alloc (.cells #[.int .i64 c0.i0, .int .i64 c0.i1, .slice A0a c0.gs.length n0a, .slice A0b c0.outs.length n0b] 25) = W := ⟨_, rfl⟩
  have HK0 := Lib.hid (Blk.new w 25 #[.int .i64 c0.i0, .int .i64 c0.i1, .slice A0a c0.gs.length n0a, .slice A0b c0.outs.length n0b])
  rw [hw1] at HK0
  have HB : Hid (Below w.heap.size w w1) := by rw [← hw1]; exact (Below.refl w.heap.size w).alloc (Nat.le_refl _) (.cells #[.int .i64 c0.i0, .int .i64 c0.i1, .slice A0a c0.gs.length n0a, .slice A0b c0.outs.length n0b] 25)
  go_enter Try.func6, Try.ntmps6
  have x_HK0_0 : w1.cell? ⟨w.heap.size, 0, none⟩ = some (.int .i64 c0.i0) := HK0.out.cell 0
  have x_HK0_1 : w1.cell? ⟨w.heap.size, 1, none⟩ = some (.int .i64 c0.i1) := HK0.out.cell 1
  have x_HK0_2 : w1.cell? ⟨w.heap.size, 2, none⟩ = some (.slice A0a c0.gs.length n0a) := HK0.out.cell 2
  have x_HK0_3 : w1.cell? ⟨w.heap.size, 3, none⟩ = some (.slice A0b c0.outs.length n0b) := HK0.out.cell 3
  go_wp2_with fail
  clear hw1
  refine (c_laws_szCircuit (H0.out.below HB.out) (by omega)).mono ?_
  rintro e w2 ⟨rfl, hb⟩
  clear x_HK0_0 x_HK0_1 x_HK0_2 x_HK0_3
  replace HB := Lib.hid (below_step HB.out hb)
  replace HK0 := Lib.hid (HK0.out.step hb)
  clear hb
  by_cases hz0 : szCM 1048576 c0 < 0
  · go_wp2
    go_ret
    exact ⟨rfl, HB.out⟩
  have Z0 := Lib.hid (szCM_ok (by omega) hz0)
  have hM : ((tablesM hgZ hgR c0 a1 a2).getD Gb.none).sz ≤ 2097152 := hg_sz c0 a1 a2
  have x_HK0_0 : w2.cell? ⟨w.heap.size, 0, none⟩ = some (.int .i64 c0.i0) := HK0.out.cell 0
  have x_HK0_1 : w2.cell? ⟨w.heap.size, 1, none⟩ = some (.int .i64 c0.i1) := HK0.out.cell 1
  have x_HK0_2 : w2.cell? ⟨w.heap.size, 2, none⟩ = some (.slice A0a c0.gs.length n0a) := HK0.out.cell 2
  have x_HK0_3 : w2.cell? ⟨w.heap.size, 3, none⟩ = some (.slice A0b c0.outs.length n0b) := HK0.out.cell 3
  go_wp2_with fail
  refine (c_laws_toCircuit (H0.out.below HB.out) Z0.out.2.1 Z0.out.2.2).mono ?_
  rintro e w3 ⟨gvu0, ovu0, mu0, rfl, Ou0, hb⟩
  clear x_HK0_0 x_HK0_1 x_HK0_2 x_HK0_3
  replace HB := Lib.hid (below_step HB.out hb)
  replace HK0 := Lib.hid (HK0.out.step hb)
  clear hb
  replace Ou0 := Lib.hid Ou0
  go_wp2_with fail
  refine (c_spec_HalveCircuit (Ou0.out.cir)).mono ?_
  rintro e w4 ⟨ruu, nuu, cuu, vuu, rfl, Qu, hb⟩
  replace HB := Lib.hid (below_step HB.out hb)
  replace HK0 := Lib.hid (HK0.out.step hb)
  replace Ou0 := Lib.hid (Ou0.out.below hb)
  clear hb
  obtain ⟨Uua, nua, rfl, -⟩ := Qu.rows.rowsIn.form
  obtain ⟨Uub, nub, rfl, -⟩ := Qu.ones.ints
  obtain ⟨Uuc, nuc, rfl, -⟩ := Qu.cols.ints
  replace Qu := Lib.hid Qu
  have Ru := Lib.hid Qu.out.bd
  unfold gbV
  obtain ⟨w5, hw5⟩ : ∃ W, w4.alloc (.cells #[.slice Uua ((tablesM hgZ hgR c0 a1 a2).getD Gb.none).rows.length nua, .slice Uub ((tablesM hgZ hgR c0 a1 a2).getD Gb.none).ones.length nub, .slice Uuc ((tablesM hgZ hgR c0 a1 a2).getD Gb.none).cols.length nuc] 44) = W := ⟨_, rfl⟩
  have KBu : Hid (Blk w5 w4.heap.size 44 #[.slice Uua ((tablesM hgZ hgR c0 a1 a2).getD Gb.none).rows.length nua, .slice Uub ((tablesM hgZ hgR c0 a1 a2).getD Gb.none).ones.length nub, .slice Uuc ((tablesM hgZ hgR c0 a1 a2).getD Gb.none).cols.length nuc]) := by rw [← hw5]; exact Blk.new _ _ _
  have hb : Below w4.heap.size w4 w5 := by rw [← hw5]; exact (Below.refl _ _).alloc (Nat.le_refl _) _
  replace HB := Lib.hid (below_step HB.out hb)
  replace HK0 := Lib.hid (HK0.out.step hb)
  replace Ou0 := Lib.hid (Ou0.out.below hb)
  replace Qu := Lib.hid (Qu.out.below hb)
  clear hb
  have hi_u_KBu : w4.heap.size ≤ w4.heap.size := Nat.le_refl _
  replace Qu := Lib.hid Qu.out.gbIn
  clear Ou0
  have HU := Lib.hid (Below.refl w5.heap.size w5)
  have la_0_HB : w.heap.size ≤ w5.heap.size := HB.out.size
  have lo_0_HK0 : w.heap.size < w5.heap.size := HK0.out.lt
  have lo_0_KBu : w4.heap.size < w5.heap.size := KBu.out.lt
  have la_0_HU : w5.heap.size ≤ w5.heap.size := HU.out.size
  have x_HK0_0 : w5.cell? ⟨w.heap.size, 0, none⟩ = some (.int .i64 c0.i0) := HK0.out.cell 0
  have x_HK0_1 : w5.cell? ⟨w.heap.size, 1, none⟩ = some (.int .i64 c0.i1) := HK0.out.cell 1
  have x_HK0_2 : w5.cell? ⟨w.heap.size, 2, none⟩ = some (.slice A0a c0.gs.length n0a) := HK0.out.cell 2
  have x_HK0_3 : w5.cell? ⟨w.heap.size, 3, none⟩ = some (.slice A0b c0.outs.length n0b) := HK0.out.cell 3
  go_wp2_with fail
  clear hw5
  refine (c_laws_toCircuit (H0.out.below HB.out) Z0.out.2.1 Z0.out.2.2).mono ?_
  rintro e w6 ⟨gvx0, ovx0, mx0, rfl, Ox0, hb⟩
  clear x_HK0_0 x_HK0_1 x_HK0_2 x_HK0_3
  replace HB := Lib.hid (below_step HB.out hb)
  replace HK0 := Lib.hid (HK0.out.step hb)
  replace KBu := Lib.hid (KBu.out.step hb)
  replace HU := Lib.hid (below_step HU.out hb)
  clear hb
  obtain ⟨Dx0a, dx0a, rfl, -⟩ := Ox0.cir.gates
  obtain ⟨Dx0b, dx0b, rfl, -⟩ := Ox0.cir.outs
  replace Ox0 := Lib.hid Ox0
  have R0 := Lib.hid Ox0.out.bd
  have HX0 := Lib.hid (Below.refl w6.heap.size w6)
  unfold cirV
  have hi_0_KX0 : w6.heap.size ≤ w6.heap.size := HX0.out.size
  obtain ⟨w7, hw7⟩ : ∃ W, w6.alloc (.cells #[.int .i64 c0.i0, .int .i64 c0.i1, .slice Dx0a c0.gs.length dx0a, .slice Dx0b c0.outs.length dx0b] 31) = W := ⟨_, rfl⟩
  have KX0 : Hid (Blk w7 w6.heap.size 31 #[.int .i64 c0.i0, .int .i64 c0.i1, .slice Dx0a c0.gs.length dx0a, .slice Dx0b c0.outs.length dx0b]) := by rw [← hw7]; exact Blk.new _ _ _
  have hb : Below w6.heap.size w6 w7 := by rw [← hw7]; exact (Below.refl _ _).alloc (Nat.le_refl _) _
  replace HB := Lib.hid (below_step HB.out hb)
  replace HK0 := Lib.hid (HK0.out.step hb)
  replace KBu := Lib.hid (KBu.out.step hb)
  replace HU := Lib.hid (below_step HU.out hb)
  replace Ox0 := Lib.hid (Ox0.out.below hb)
  replace HX0 := Lib.hid (below_step HX0.out hb)
  clear hb
  have la_g_HB : w.heap.size ≤ w7.heap.size := HB.out.size
  have lo_g_HK0 : w.heap.size < w7.heap.size := HK0.out.lt
  have lo_g_KBu : w4.heap.size < w7.heap.size := KBu.out.lt
  have la_g_HU : w5.heap.size ≤ w7.heap.size := HU.out.size
  have lo_g_KX0 : w6.heap.size < w7.heap.size := KX0.out.lt
  have gx0 : w6.heap.size ≤ w7.heap.size := HX0.out.size
  have x_KX0_0 : w7.cell? ⟨w6.heap.size, 0, none⟩ = some (.int .i64 c0.i0) := KX0.out.cell 0
  have x_KX0_1 : w7.cell? ⟨w6.heap.size, 1, none⟩ = some (.int .i64 c0.i1) := KX0.out.cell 1
  have x_KX0_2 : w7.cell? ⟨w6.heap.size, 2, none⟩ = some (.slice Dx0a c0.gs.length dx0a) := KX0.out.cell 2
  have x_KX0_3 : w7.cell? ⟨w6.heap.size, 3, none⟩ = some (.slice Dx0b c0.outs.length dx0b) := KX0.out.cell 3
  go_wp2_with fail
  clear hw7
  refine (c_impl_HalveCircuit (Ox0.out.cir)).mono ?_
  rintro e w8 ⟨rug, nug, cug, vug, rfl, Qg, hb⟩
  clear x_KX0_0 x_KX0_1 x_KX0_2 x_KX0_3
  replace HB := Lib.hid (below_step HB.out hb)
  replace HK0 := Lib.hid (HK0.out.step hb)
  replace KBu := Lib.hid (KBu.out.step hb)
  replace HU := Lib.hid (below_step HU.out hb)
  replace Ox0 := Lib.hid (Ox0.out.below hb)
  replace HX0 := Lib.hid (below_step HX0.out hb)
  replace KX0 := Lib.hid (KX0.out.step hb)
  clear hb
  obtain ⟨Uga, nga, rfl, -⟩ := Qg.rows.rowsIn.form
  obtain ⟨Ugb, ngb, rfl, -⟩ := Qg.ones.ints
  obtain ⟨Ugc, ngc, rfl, -⟩ := Qg.cols.ints
  replace Qg := Lib.hid Qg
  have Rg := Lib.hid Qg.out.bd
  unfold gbV
  have hi_0_KBg : w6.heap.size ≤ w8.heap.size := HX0.out.size
  obtain ⟨w9, hw9⟩ : ∃ W, w8.alloc (.cells #[.slice Uga ((tablesM hgZ hgR c0 a1 a2).getD Gb.none).rows.length nga, .slice Ugb ((tablesM hgZ hgR c0 a1 a2).getD Gb.none).ones.length ngb, .slice Ugc ((tablesM hgZ hgR c0 a1 a2).getD Gb.none).cols.length ngc] 44) = W := ⟨_, rfl⟩
  have KBg : Hid (Blk w9 w8.heap.size 44 #[.slice Uga ((tablesM hgZ hgR c0 a1 a2).getD Gb.none).rows.length nga, .slice Ugb ((tablesM hgZ hgR c0 a1 a2).getD Gb.none).ones.length ngb, .slice Ugc ((tablesM hgZ hgR c0 a1 a2).getD Gb.none).cols.length ngc]) := by rw [← hw9]; exact Blk.new _ _ _
  have hb : Below w8.heap.size w8 w9 := by rw [← hw9]; exact (Below.refl _ _).alloc (Nat.le_refl _) _
  replace HB := Lib.hid (below_step HB.out hb)
  replace HK0 := Lib.hid (HK0.out.step hb)
  replace KBu := Lib.hid (KBu.out.step hb)
  replace HU := Lib.hid (below_step HU.out hb)
  replace Ox0 := Lib.hid (Ox0.out.below hb)
  replace HX0 := Lib.hid (below_step HX0.out hb)
  replace KX0 := Lib.hid (KX0.out.step hb)
  replace Qg := Lib.hid (Qg.out.below hb)
  clear hb
  have hi_g_KBg : w8.heap.size ≤ w8.heap.size := Nat.le_refl _
  have x_KBg_0 : w9.cell? ⟨w8.heap.size, 0, none⟩ = some (.slice Uga ((tablesM hgZ hgR c0 a1 a2).getD Gb.none).rows.length nga) := KBg.out.cell 0
  have x_KBg_1 : w9.cell? ⟨w8.heap.size, 1, none⟩ = some (.slice Ugb ((tablesM hgZ hgR c0 a1 a2).getD Gb.none).ones.length ngb) := KBg.out.cell 1
  have x_KBg_2 : w9.cell? ⟨w8.heap.size, 2, none⟩ = some (.slice Ugc ((tablesM hgZ hgR c0 a1 a2).getD Gb.none).cols.length ngc) := KBg.out.cell 2
  have x_KBu_0 : w9.cell? ⟨w4.heap.size, 0, none⟩ = some (.slice Uua ((tablesM hgZ hgR c0 a1 a2).getD Gb.none).rows.length nua) := KBu.out.cell 0
  have x_KBu_1 : w9.cell? ⟨w4.heap.size, 1, none⟩ = some (.slice Uub ((tablesM hgZ hgR c0 a1 a2).getD Gb.none).ones.length nub) := KBu.out.cell 1
  have x_KBu_2 : w9.cell? ⟨w4.heap.size, 2, none⟩ = some (.slice Uuc ((tablesM hgZ hgR c0 a1 a2).getD Gb.none).cols.length nuc) := KBu.out.cell 2
  go_wp2_with fail
  clear hw9
  refine (c_laws_eqHalved Qg.out.gbIn (Qu.out.below HU.out) hM).mono ?_
  rintro e w10 ⟨rfl, hb⟩
  clear x_KBg_0 x_KBg_1 x_KBg_2 x_KBu_0 x_KBu_1 x_KBu_2
  replace HB := Lib.hid (below_step HB.out hb)
  replace HK0 := Lib.hid (HK0.out.step hb)
  replace KBu := Lib.hid (KBu.out.step hb)
  replace HU := Lib.hid (below_step HU.out hb)
  replace Ox0 := Lib.hid (Ox0.out.below hb)
  replace HX0 := Lib.hid (below_step HX0.out hb)
  replace KX0 := Lib.hid (KX0.out.step hb)
  replace Qg := Lib.hid (Qg.out.below hb)
  replace KBg := Lib.hid (KBg.out.step hb)
  clear hb
  go_wp2_with fail
  have q0 : ∀ w', Below w10.heap.size w10 w' → w'.cell? ⟨w.heap.size, 0, none⟩ = some (.int .i64 c0.i0) := fun w' h => (h.cell (p := ⟨w.heap.size, 0, none⟩) HK0.out.lt).trans (HK0.out.cell 0)
  have q1 : ∀ w', Below w10.heap.size w10 w' → w'.cell? ⟨w.heap.size, 1, none⟩ = some (.int .i64 c0.i1) := fun w' h => (h.cell (p := ⟨w.heap.size, 1, none⟩) HK0.out.lt).trans (HK0.out.cell 1)
  have q2 : ∀ w', Below w10.heap.size w10 w' → w'.cell? ⟨w.heap.size, 2, none⟩ = some (.slice A0a c0.gs.length n0a) := fun w' h => (h.cell (p := ⟨w.heap.size, 2, none⟩) HK0.out.lt).trans (HK0.out.cell 2)
  have q3 : ∀ w', Below w10.heap.size w10 w' → w'.cell? ⟨w.heap.size, 3, none⟩ = some (.slice A0b c0.outs.length n0b) := fun w' h => (h.cell (p := ⟨w.heap.size, 3, none⟩) HK0.out.lt).trans (HK0.out.cell 3)
  have q4 : ∀ w', Below w10.heap.size w10 w' → w'.cell? ⟨w6.heap.size, 0, none⟩ = some (.int .i64 c0.i0) := fun w' h => (h.cell (p := ⟨w6.heap.size, 0, none⟩) KX0.out.lt).trans (KX0.out.cell 0)
  have q5 : ∀ w', Below w10.heap.size w10 w' → w'.cell? ⟨w6.heap.size, 1, none⟩ = some (.int .i64 c0.i1) := fun w' h => (h.cell (p := ⟨w6.heap.size, 1, none⟩) KX0.out.lt).trans (KX0.out.cell 1)
  have q6 : ∀ w', Below w10.heap.size w10 w' → w'.cell? ⟨w6.heap.size, 2, none⟩ = some (.slice Dx0a c0.gs.length dx0a) := fun w' h => (h.cell (p := ⟨w6.heap.size, 2, none⟩) KX0.out.lt).trans (KX0.out.cell 2)
  have q7 : ∀ w', Below w10.heap.size w10 w' → w'.cell? ⟨w6.heap.size, 3, none⟩ = some (.slice Dx0b c0.outs.length dx0b) := fun w' h => (h.cell (p := ⟨w6.heap.size, 3, none⟩) KX0.out.lt).trans (KX0.out.cell 3)
  go_region_held3 (fun w' => Below w10.heap.size w10 w')
    (first | (refine below_step ?_ HD.out; assumption) | (exact (Below.refl _ _).drew))
    (first
      | (go_at_call 13; refine (c_laws_toCircuit ((H0.out.below HB.out).below (by assumption)) Z0.out.2.1 Z0.out.2.2).mono ?_; rintro e wa ⟨gvy, ovy, my, rfl, Oy, hb⟩; replace Oy := Lib.hid Oy; have HD := Lib.hid hb)
      | (go_at_call 16; refine (c_laws_eqCircuit ((Ox0.out.cir).below (by assumption)) Oy.out.cir (by have := Z0.out; omega) (by have := Z0.out; omega)).mono ?_; rintro e wb ⟨rfl, hb⟩; have HD := Lib.hid hb))
  have hE : Below w10.heap.size w10 wb := by assumption
  clear q0 q1 q2 q3 q4 q5 q6 q7
  generalize wb = w11 at *
  replace HB := Lib.hid (below_step HB.out hE)
  replace HK0 := Lib.hid (HK0.out.step hE)
  replace KBu := Lib.hid (KBu.out.step hE)
  replace HU := Lib.hid (below_step HU.out hE)
  replace Ox0 := Lib.hid (Ox0.out.below hE)
  replace HX0 := Lib.hid (below_step HX0.out hE)
  replace KX0 := Lib.hid (KX0.out.step hE)
  replace Qg := Lib.hid (Qg.out.below hE)
  replace KBg := Lib.hid (KBg.out.step hE)
  clear hE
  clear HX0
  have x_KX0_0 : w11.cell? ⟨w6.heap.size, 0, none⟩ = some (.int .i64 c0.i0) := KX0.out.cell 0
  have x_KX0_1 : w11.cell? ⟨w6.heap.size, 1, none⟩ = some (.int .i64 c0.i1) := KX0.out.cell 1
  have x_KX0_2 : w11.cell? ⟨w6.heap.size, 2, none⟩ = some (.slice Dx0a c0.gs.length dx0a) := KX0.out.cell 2
  have x_KX0_3 : w11.cell? ⟨w6.heap.size, 3, none⟩ = some (.slice Dx0b c0.outs.length dx0b) := KX0.out.cell 3
  go_wp2_with fail
  refine (c_laws_markCircuitO Ox0.out (by have z0 := Z0.out; omega) (by have z0 := Z0.out; omega) (by have z0 := Z0.out; omega)).mono ?_
  rintro e w12 ⟨rfl, ho⟩
  clear x_KX0_0 x_KX0_1 x_KX0_2 x_KX0_3
  clear Ox0
  replace HB := Lib.hid (anchor_only HB.out ho R0.out la_0_HB)
  replace HK0 := Lib.hid (HK0.out.apart ho (ne_lo R0.out lo_0_HK0))
  replace KBu := Lib.hid (KBu.out.apart ho (ne_lo R0.out lo_0_KBu))
  replace HU := Lib.hid (anchor_only HU.out ho R0.out la_0_HU)
  replace KX0 := Lib.hid (KX0.out.apart ho (ne_hi R0.out hi_0_KX0))
  replace Qg := Lib.hid (Qg.out.apartFrom ho (lt_hi R0.out gx0))
  replace KBg := Lib.hid (KBg.out.apart ho (ne_hi R0.out hi_0_KBg))
  clear ho
  have x_KBg_0 : w12.cell? ⟨w8.heap.size, 0, none⟩ = some (.slice Uga ((tablesM hgZ hgR c0 a1 a2).getD Gb.none).rows.length nga) := KBg.out.cell 0
  have x_KBg_1 : w12.cell? ⟨w8.heap.size, 1, none⟩ = some (.slice Ugb ((tablesM hgZ hgR c0 a1 a2).getD Gb.none).ones.length ngb) := KBg.out.cell 1
  have x_KBg_2 : w12.cell? ⟨w8.heap.size, 2, none⟩ = some (.slice Ugc ((tablesM hgZ hgR c0 a1 a2).getD Gb.none).cols.length ngc) := KBg.out.cell 2
  have x_KBu_0 : w12.cell? ⟨w4.heap.size, 0, none⟩ = some (.slice Uua ((tablesM hgZ hgR c0 a1 a2).getD Gb.none).rows.length nua) := KBu.out.cell 0
  have x_KBu_1 : w12.cell? ⟨w4.heap.size, 1, none⟩ = some (.slice Uub ((tablesM hgZ hgR c0 a1 a2).getD Gb.none).ones.length nub) := KBu.out.cell 1
  have x_KBu_2 : w12.cell? ⟨w4.heap.size, 2, none⟩ = some (.slice Uuc ((tablesM hgZ hgR c0 a1 a2).getD Gb.none).cols.length nuc) := KBu.out.cell 2
  go_wp2_with fail
  refine (c_laws_eqHalved Qg.out.gbIn (Qu.out.below HU.out) hM).mono ?_
  rintro e w13 ⟨rfl, hb⟩
  clear x_KBg_0 x_KBg_1 x_KBg_2 x_KBu_0 x_KBu_1 x_KBu_2
  replace HB := Lib.hid (below_step HB.out hb)
  replace HK0 := Lib.hid (HK0.out.step hb)
  replace KBu := Lib.hid (KBu.out.step hb)
  replace HU := Lib.hid (below_step HU.out hb)
  replace KX0 := Lib.hid (KX0.out.step hb)
  replace Qg := Lib.hid (Qg.out.below hb)
  replace KBg := Lib.hid (KBg.out.step hb)
  clear hb
  have x_KBg_0 : w13.cell? ⟨w8.heap.size, 0, none⟩ = some (.slice Uga ((tablesM hgZ hgR c0 a1 a2).getD Gb.none).rows.length nga) := KBg.out.cell 0
  have x_KBg_1 : w13.cell? ⟨w8.heap.size, 1, none⟩ = some (.slice Ugb ((tablesM hgZ hgR c0 a1 a2).getD Gb.none).ones.length ngb) := KBg.out.cell 1
  have x_KBg_2 : w13.cell? ⟨w8.heap.size, 2, none⟩ = some (.slice Ugc ((tablesM hgZ hgR c0 a1 a2).getD Gb.none).cols.length ngc) := KBg.out.cell 2
  go_wp2_with fail
  refine (c_laws_markHalved Qg.out hM (by omega)).mono ?_
  rintro e w14 ⟨rfl, om, ho⟩
  clear x_KBg_0 x_KBg_1 x_KBg_2
  replace HB := Lib.hid (anchor_only HB.out ho Rg.out la_g_HB)
  replace HK0 := Lib.hid (HK0.out.apart ho (ne_lo Rg.out lo_g_HK0))
  replace KBu := Lib.hid (KBu.out.apart ho (ne_lo Rg.out lo_g_KBu))
  replace HU := Lib.hid (anchor_only HU.out ho Rg.out la_g_HU)
  replace KX0 := Lib.hid (KX0.out.apart ho (ne_lo Rg.out lo_g_KX0))
  replace KBg := Lib.hid (KBg.out.apart ho (ne_hi Rg.out hi_g_KBg))
  replace Qg := Lib.hid om
  clear ho om
  have x_KBg_0 : w14.cell? ⟨w8.heap.size, 0, none⟩ = some (.slice Uga ((tablesM hgZ hgR c0 a1 a2).getD Gb.none).rows.length nga) := KBg.out.cell 0
  have x_KBg_1 : w14.cell? ⟨w8.heap.size, 1, none⟩ = some (.slice Ugb ((tablesM hgZ hgR c0 a1 a2).getD Gb.none).ones.length ngb) := KBg.out.cell 1
  have x_KBg_2 : w14.cell? ⟨w8.heap.size, 2, none⟩ = some (.slice Ugc ((tablesM hgZ hgR c0 a1 a2).getD Gb.none).cols.length ngc) := KBg.out.cell 2
  go_wp2_with fail
  refine (c_laws_heldHalved (g := (tablesM hgZ hgR c0 a1 a2).getD Gb.none) Qg.out.gbIn hM (by omega)).mono ?_
  rintro e w15 ⟨rfl, hb⟩
  clear x_KBg_0 x_KBg_1 x_KBg_2
  replace HB := Lib.hid (below_step HB.out hb)
  replace HK0 := Lib.hid (HK0.out.step hb)
  replace KBu := Lib.hid (KBu.out.step hb)
  replace HU := Lib.hid (below_step HU.out hb)
  replace KX0 := Lib.hid (KX0.out.step hb)
  replace Qg := Lib.hid (Qg.out.below hb)
  replace KBg := Lib.hid (KBg.out.step hb)
  clear hb
  have x_HK0_0 : w15.cell? ⟨w.heap.size, 0, none⟩ = some (.int .i64 c0.i0) := HK0.out.cell 0
  have x_HK0_1 : w15.cell? ⟨w.heap.size, 1, none⟩ = some (.int .i64 c0.i1) := HK0.out.cell 1
  have x_HK0_2 : w15.cell? ⟨w.heap.size, 2, none⟩ = some (.slice A0a c0.gs.length n0a) := HK0.out.cell 2
  have x_HK0_3 : w15.cell? ⟨w.heap.size, 3, none⟩ = some (.slice A0b c0.outs.length n0b) := HK0.out.cell 3
  go_wp2_with fail
  refine (c_laws_toCircuit (H0.out.below HB.out) Z0.out.2.1 Z0.out.2.2).mono ?_
  rintro e w16 ⟨gvh0, ovh0, mh0, rfl, Oh0, hb⟩
  clear x_HK0_0 x_HK0_1 x_HK0_2 x_HK0_3
  replace HB := Lib.hid (below_step HB.out hb)
  replace HK0 := Lib.hid (HK0.out.step hb)
  replace KBu := Lib.hid (KBu.out.step hb)
  replace HU := Lib.hid (below_step HU.out hb)
  replace KX0 := Lib.hid (KX0.out.step hb)
  replace Qg := Lib.hid (Qg.out.below hb)
  replace KBg := Lib.hid (KBg.out.step hb)
  clear hb
  replace Oh0 := Lib.hid Oh0
  go_wp2_with fail
  refine (c_impl_HalveCircuit (Oh0.out.cir)).mono ?_
  rintro e w17 ⟨ruh, nuh, cuh, vuh, rfl, Qh, hb⟩
  replace HB := Lib.hid (below_step HB.out hb)
  replace HK0 := Lib.hid (HK0.out.step hb)
  replace KBu := Lib.hid (KBu.out.step hb)
  replace HU := Lib.hid (below_step HU.out hb)
  replace KX0 := Lib.hid (KX0.out.step hb)
  replace Qg := Lib.hid (Qg.out.below hb)
  replace KBg := Lib.hid (KBg.out.step hb)
  replace Oh0 := Lib.hid (Oh0.out.below hb)
  clear hb
  obtain ⟨Uha, nha, rfl, -⟩ := Qh.rows.rowsIn.form
  obtain ⟨Uhb, nhb, rfl, -⟩ := Qh.ones.ints
  obtain ⟨Uhc, nhc, rfl, -⟩ := Qh.cols.ints
  replace Qh := Lib.hid Qh
  have Rh := Lib.hid Qh.out.bd
  unfold gbV
  obtain ⟨w18, hw18⟩ : ∃ W, w17.alloc (.cells #[.slice Uha ((tablesM hgZ hgR c0 a1 a2).getD Gb.none).rows.length nha, .slice Uhb ((tablesM hgZ hgR c0 a1 a2).getD Gb.none).ones.length nhb, .slice Uhc ((tablesM hgZ hgR c0 a1 a2).getD Gb.none).cols.length nhc] 44) = W := ⟨_, rfl⟩
  have KBh : Hid (Blk w18 w17.heap.size 44 #[.slice Uha ((tablesM hgZ hgR c0 a1 a2).getD Gb.none).rows.length nha, .slice Uhb ((tablesM hgZ hgR c0 a1 a2).getD Gb.none).ones.length nhb, .slice Uhc ((tablesM hgZ hgR c0 a1 a2).getD Gb.none).cols.length nhc]) := by rw [← hw18]; exact Blk.new _ _ _
  have hb : Below w17.heap.size w17 w18 := by rw [← hw18]; exact (Below.refl _ _).alloc (Nat.le_refl _) _
  replace HB := Lib.hid (below_step HB.out hb)
  replace HK0 := Lib.hid (HK0.out.step hb)
  replace KBu := Lib.hid (KBu.out.step hb)
  replace HU := Lib.hid (below_step HU.out hb)
  replace KX0 := Lib.hid (KX0.out.step hb)
  replace Qg := Lib.hid (Qg.out.below hb)
  replace KBg := Lib.hid (KBg.out.step hb)
  replace Oh0 := Lib.hid (Oh0.out.below hb)
  replace Qh := Lib.hid (Qh.out.below hb)
  clear hb
  have hi_h_KBh : w17.heap.size ≤ w17.heap.size := Nat.le_refl _
  replace Qh := Lib.hid Qh.out.gbIn
  clear Oh0
  have x_KBh_0 : w18.cell? ⟨w17.heap.size, 0, none⟩ = some (.slice Uha ((tablesM hgZ hgR c0 a1 a2).getD Gb.none).rows.length nha) := KBh.out.cell 0
  have x_KBh_1 : w18.cell? ⟨w17.heap.size, 1, none⟩ = some (.slice Uhb ((tablesM hgZ hgR c0 a1 a2).getD Gb.none).ones.length nhb) := KBh.out.cell 1
  have x_KBh_2 : w18.cell? ⟨w17.heap.size, 2, none⟩ = some (.slice Uhc ((tablesM hgZ hgR c0 a1 a2).getD Gb.none).cols.length nhc) := KBh.out.cell 2
  have x_KBu_0 : w18.cell? ⟨w4.heap.size, 0, none⟩ = some (.slice Uua ((tablesM hgZ hgR c0 a1 a2).getD Gb.none).rows.length nua) := KBu.out.cell 0
  have x_KBu_1 : w18.cell? ⟨w4.heap.size, 1, none⟩ = some (.slice Uub ((tablesM hgZ hgR c0 a1 a2).getD Gb.none).ones.length nub) := KBu.out.cell 1
  have x_KBu_2 : w18.cell? ⟨w4.heap.size, 2, none⟩ = some (.slice Uuc ((tablesM hgZ hgR c0 a1 a2).getD Gb.none).cols.length nuc) := KBu.out.cell 2
  go_wp2_with fail
  clear hw18
  refine (c_laws_eqHalved Qh.out (Qu.out.below HU.out) hM).mono ?_
  rintro e w19 ⟨rfl, hb⟩
  clear x_KBh_0 x_KBh_1 x_KBh_2 x_KBu_0 x_KBu_1 x_KBu_2
  replace HB := Lib.hid (below_step HB.out hb)
  replace HK0 := Lib.hid (HK0.out.step hb)
  replace KBu := Lib.hid (KBu.out.step hb)
  replace HU := Lib.hid (below_step HU.out hb)
  replace KX0 := Lib.hid (KX0.out.step hb)
  replace Qg := Lib.hid (Qg.out.below hb)
  replace KBg := Lib.hid (KBg.out.step hb)
  replace Qh := Lib.hid (Qh.out.below hb)
  replace KBh := Lib.hid (KBh.out.step hb)
  clear hb
  have x_KBg_0 : w19.cell? ⟨w8.heap.size, 0, none⟩ = some (.slice Uga ((tablesM hgZ hgR c0 a1 a2).getD Gb.none).rows.length nga) := KBg.out.cell 0
  have x_KBg_1 : w19.cell? ⟨w8.heap.size, 1, none⟩ = some (.slice Ugb ((tablesM hgZ hgR c0 a1 a2).getD Gb.none).ones.length ngb) := KBg.out.cell 1
  have x_KBg_2 : w19.cell? ⟨w8.heap.size, 2, none⟩ = some (.slice Ugc ((tablesM hgZ hgR c0 a1 a2).getD Gb.none).cols.length ngc) := KBg.out.cell 2
  go_wp2_with fail
  refine (c_laws_heldHalved (g := (tablesM hgZ hgR c0 a1 a2).getD Gb.none) Qg.out.gbIn hM (by omega)).mono ?_
  rintro e w20 ⟨rfl, hb⟩
  clear x_KBg_0 x_KBg_1 x_KBg_2
  replace HB := Lib.hid (below_step HB.out hb)
  replace HK0 := Lib.hid (HK0.out.step hb)
  replace KBu := Lib.hid (KBu.out.step hb)
  replace HU := Lib.hid (below_step HU.out hb)
  replace KX0 := Lib.hid (KX0.out.step hb)
  replace Qg := Lib.hid (Qg.out.below hb)
  replace KBg := Lib.hid (KBg.out.step hb)
  replace Qh := Lib.hid (Qh.out.below hb)
  replace KBh := Lib.hid (KBh.out.step hb)
  clear hb
  go_wp2
  go_ret
  exact ⟨rfl, HB.out⟩

end Go.Proofs.Ytllaojfgenopbaa
