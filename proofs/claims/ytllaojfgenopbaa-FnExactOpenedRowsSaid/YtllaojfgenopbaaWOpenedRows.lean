/- The walk of the law FnExactOpenedRows: its Go text returns true for every input. No condition. -/
import Derived.Test.YtllaojfgenopbaaLawK
import Derived.Test.YtllaojfgenopbaaOpcC
namespace Go.Proofs.Ytllaojfgenopbaa
open Go.RowKit
set_option linter.unusedVariables false

set_option maxRecDepth 100000 in
set_option maxHeartbeats 4000000 in
theorem w_FnExactOpenedRows (w : World) {c0 : Cir} {gv0 ov0 : Value} (h0 : CirIn w gv0 ov0 c0) {a1 : Int} (h1 : -9223372036854775808 ≤ a1 ∧ a1 ≤ 9223372036854775807) {a2 : Int} (h2 : -9223372036854775808 ≤ a2 ∧ a2 ≤ 9223372036854775807) {l3 : List Int} {v3 : Value} (h3 : Ints w v3 l3) {l4 : List Int} {v4 : Value} (h4 : Ints w v4 l4) : Calls Try.prog 8 #[cirV c0 gv0 ov0, .int .i64 a1, .int .i64 a2, v3, v4] w fun e w' => e = .returned (.bool true) ∧ Below w.heap.size w w' := by
  have H0 := Lib.hid h0
  obtain ⟨A0a, n0a, rfl, -⟩ := h0.gates
  obtain ⟨A0b, n0b, rfl, -⟩ := h0.outs
  clear h0
  have H3 := Lib.hid h3
  obtain ⟨A3, n3, rfl, -, m3, -⟩ := h3
  unfold maxLen at m3
  have H4 := Lib.hid h4
  obtain ⟨A4, n4, rfl, -, m4, -⟩ := h4
  unfold maxLen at m4
  unfold cirV
  have hM : ((opensM c0 a1 a2 l3 l4).getD []).length ≤ 2097152 := Nat.le_trans (opens_len c0 a1 a2 l3 l4) (by omega)
  by_cases k3 : l3.length ≤ 1048576
  rotate_left
  · go_enter Try.func8, Try.ntmps8
    go_wp2
    go_ret; exact ⟨rfl, (Below.refl w.heap.size w).alloc (Nat.le_refl _) (.cells #[.int .i64 c0.i0, .int .i64 c0.i1, .slice A0a c0.gs.length n0a, .slice A0b c0.outs.length n0b] 25)⟩
  by_cases k4 : l4.length ≤ 1048576
  rotate_left
  · go_enter Try.func8, Try.ntmps8
    go_wp2
    go_ret; exact ⟨rfl, (Below.refl w.heap.size w).alloc (Nat.le_refl _) (.cells #[.int .i64 c0.i0, .int .i64 c0.i1, .slice A0a c0.gs.length n0a, .slice A0b c0.outs.length n0b] 25)⟩
  obtain ⟨w1, hw1⟩ : ∃ W, w.alloc (.cells #[.int .i64 c0.i0, .int .i64 c0.i1, .slice A0a c0.gs.length n0a, .slice A0b c0.outs.length n0b] 25) = W := ⟨_, rfl⟩
  have HK0 := Lib.hid (Blk.new w 25 #[.int .i64 c0.i0, .int .i64 c0.i1, .slice A0a c0.gs.length n0a, .slice A0b c0.outs.length n0b])
  rw [hw1] at HK0
  have HB : Hid (Below w.heap.size w w1) := by rw [← hw1]; exact (Below.refl w.heap.size w).alloc (Nat.le_refl _) (.cells #[.int .i64 c0.i0, .int .i64 c0.i1, .slice A0a c0.gs.length n0a, .slice A0b c0.outs.length n0b] 25)
  go_enter Try.func8, Try.ntmps8
  have x_HK0_0 : w1.cell? ⟨w.heap.size, 0, none⟩ = some (.int .i64 c0.i0) := HK0.out.cell 0
  have x_HK0_1 : w1.cell? ⟨w.heap.size, 1, none⟩ = some (.int .i64 c0.i1) := HK0.out.cell 1
  have x_HK0_2 : w1.cell? ⟨w.heap.size, 2, none⟩ = some (.slice A0a c0.gs.length n0a) := HK0.out.cell 2
  have x_HK0_3 : w1.cell? ⟨w.heap.size, 3, none⟩ = some (.slice A0b c0.outs.length n0b) := HK0.out.cell 3
  go_wp2_with fail
  clear hw1
  refine (c_laws_szCircuit (H0.out.below HB.out) (by omega)).mono ?_
  rintro e w2 ⟨rfl, hb⟩
  clear x_HK0_0 x_HK0_1 x_HK0_2 x_HK0_3
  replace HB := Lib.hid (below_step HB.out hb)
  replace HK0 := Lib.hid (HK0.out.step hb)
  clear hb
  by_cases hz0 : szCM 1048576 c0 < 0
  · go_wp2
    go_ret
    exact ⟨rfl, HB.out⟩
  have Z0 := Lib.hid (szCM_ok (by omega) hz0)
  have x_HK0_0 : w2.cell? ⟨w.heap.size, 0, none⟩ = some (.int .i64 c0.i0) := HK0.out.cell 0
  have x_HK0_1 : w2.cell? ⟨w.heap.size, 1, none⟩ = some (.int .i64 c0.i1) := HK0.out.cell 1
  have x_HK0_2 : w2.cell? ⟨w.heap.size, 2, none⟩ = some (.slice A0a c0.gs.length n0a) := HK0.out.cell 2
  have x_HK0_3 : w2.cell? ⟨w.heap.size, 3, none⟩ = some (.slice A0b c0.outs.length n0b) := HK0.out.cell 3
  go_wp2_with fail
  refine (c_laws_toCircuit (H0.out.below HB.out) Z0.out.2.1 Z0.out.2.2).mono ?_
  rintro e w3 ⟨gvu0, ovu0, mu0, rfl, Ou0, hb⟩
  clear x_HK0_0 x_HK0_1 x_HK0_2 x_HK0_3
  replace HB := Lib.hid (below_step HB.out hb)
  replace HK0 := Lib.hid (HK0.out.step hb)
  clear hb
  replace Ou0 := Lib.hid Ou0
  go_wp2_with fail
  refine (c_laws_toIntS (H3.out.below HB.out) k3).mono ?_
  rintro e w4 ⟨vu3, rfl, Ou3, hb⟩
  replace HB := Lib.hid (below_step HB.out hb)
  replace HK0 := Lib.hid (HK0.out.step hb)
  replace Ou0 := Lib.hid (Ou0.out.below hb)
  clear hb
  replace Ou3 := Lib.hid Ou3
  go_wp2_with fail
  refine (c_laws_toIntS (H4.out.below HB.out) k4).mono ?_
  rintro e w5 ⟨vu4, rfl, Ou4, hb⟩
  replace HB := Lib.hid (below_step HB.out hb)
  replace HK0 := Lib.hid (HK0.out.step hb)
  replace Ou0 := Lib.hid (Ou0.out.below hb)
  replace Ou3 := Lib.hid (Ou3.out.below hb)
  clear hb
  replace Ou4 := Lib.hid Ou4
  go_wp2_with fail
  refine (c_spec_OpenedRows (Ou0.out.cir) (Ou3.out.ints) (Ou4.out.ints) k3 k4).mono ?_
  rintro e w6 ⟨uu, rfl, Qu, hb⟩
  replace HB := Lib.hid (below_step HB.out hb)
  replace HK0 := Lib.hid (HK0.out.step hb)
  replace Ou0 := Lib.hid (Ou0.out.below hb)
  replace Ou3 := Lib.hid (Ou3.out.below hb)
  replace Ou4 := Lib.hid (Ou4.out.below hb)
  clear hb
  replace Qu := Lib.hid Qu
  clear Ou0 Ou3 Ou4
  have HU := Lib.hid (Below.refl w6.heap.size w6)
  have la_0_HB : w.heap.size ≤ w6.heap.size := HB.out.size
  have lo_0_HK0 : w.heap.size < w6.heap.size := HK0.out.lt
  have la_0_HU : w6.heap.size ≤ w6.heap.size := HU.out.size
  have x_HK0_0 : w6.cell? ⟨w.heap.size, 0, none⟩ = some (.int .i64 c0.i0) := HK0.out.cell 0
  have x_HK0_1 : w6.cell? ⟨w.heap.size, 1, none⟩ = some (.int .i64 c0.i1) := HK0.out.cell 1
  have x_HK0_2 : w6.cell? ⟨w.heap.size, 2, none⟩ = some (.slice A0a c0.gs.length n0a) := HK0.out.cell 2
  have x_HK0_3 : w6.cell? ⟨w.heap.size, 3, none⟩ = some (.slice A0b c0.outs.length n0b) := HK0.out.cell 3
  go_wp2_with fail
  refine (c_laws_toCircuit (H0.out.below HB.out) Z0.out.2.1 Z0.out.2.2).mono ?_
  rintro e w7 ⟨gvx0, ovx0, mx0, rfl, Ox0, hb⟩
  clear x_HK0_0 x_HK0_1 x_HK0_2 x_HK0_3
  replace HB := Lib.hid (below_step HB.out hb)
  replace HK0 := Lib.hid (HK0.out.step hb)
  replace HU := Lib.hid (below_step HU.out hb)
  clear hb
  obtain ⟨Dx0a, dx0a, rfl, -⟩ := Ox0.cir.gates
  obtain ⟨Dx0b, dx0b, rfl, -⟩ := Ox0.cir.outs
  replace Ox0 := Lib.hid Ox0
  have R0 := Lib.hid Ox0.out.bd
  have HX0 := Lib.hid (Below.refl w7.heap.size w7)
  unfold cirV
  have hi_0_KX0 : w7.heap.size ≤ w7.heap.size := HX0.out.size
  obtain ⟨w8, hw8⟩ : ∃ W, w7.alloc (.cells #[.int .i64 c0.i0, .int .i64 c0.i1, .slice Dx0a c0.gs.length dx0a, .slice Dx0b c0.outs.length dx0b] 31) = W := ⟨_, rfl⟩
  have KX0 : Hid (Blk w8 w7.heap.size 31 #[.int .i64 c0.i0, .int .i64 c0.i1, .slice Dx0a c0.gs.length dx0a, .slice Dx0b c0.outs.length dx0b]) := by rw [← hw8]; exact Blk.new _ _ _
  have hb : Below w7.heap.size w7 w8 := by rw [← hw8]; exact (Below.refl _ _).alloc (Nat.le_refl _) _
  replace HB := Lib.hid (below_step HB.out hb)
  replace HK0 := Lib.hid (HK0.out.step hb)
  replace HU := Lib.hid (below_step HU.out hb)
  replace Ox0 := Lib.hid (Ox0.out.below hb)
  replace HX0 := Lib.hid (below_step HX0.out hb)
  clear hb
  have la_3_HB : w.heap.size ≤ w8.heap.size := HB.out.size
  have lo_3_HK0 : w.heap.size < w8.heap.size := HK0.out.lt
  have la_3_HU : w6.heap.size ≤ w8.heap.size := HU.out.size
  have la_3_HX0 : w7.heap.size ≤ w8.heap.size := HX0.out.size
  have lo_3_KX0 : w7.heap.size < w8.heap.size := KX0.out.lt
  have gx0_3 : w7.heap.size ≤ w8.heap.size := HX0.out.size
  go_wp2_with fail
  clear hw8
  refine (c_laws_toIntS (H3.out.below HB.out) k3).mono ?_
  rintro e w9 ⟨vx3, rfl, Ox3, hb⟩
  replace HB := Lib.hid (below_step HB.out hb)
  replace HK0 := Lib.hid (HK0.out.step hb)
  replace HU := Lib.hid (below_step HU.out hb)
  replace Ox0 := Lib.hid (Ox0.out.below hb)
  replace HX0 := Lib.hid (below_step HX0.out hb)
  replace KX0 := Lib.hid (KX0.out.step hb)
  clear hb
  replace Ox3 := Lib.hid Ox3
  have R3 := Lib.hid Ox3.out.bd
  have HX3 := Lib.hid (Below.refl w9.heap.size w9)
  have la_4_HB : w.heap.size ≤ w9.heap.size := HB.out.size
  have lo_4_HK0 : w.heap.size < w9.heap.size := HK0.out.lt
  have la_4_HU : w6.heap.size ≤ w9.heap.size := HU.out.size
  have la_4_HX0 : w7.heap.size ≤ w9.heap.size := HX0.out.size
  have lo_4_KX0 : w7.heap.size < w9.heap.size := KX0.out.lt
  have la_4_HX3 : w9.heap.size ≤ w9.heap.size := HX3.out.size
  have gx0_4 : w7.heap.size ≤ w9.heap.size := HX0.out.size
  have gx3_4 : w9.heap.size ≤ w9.heap.size := HX3.out.size
  go_wp2_with fail
  refine (c_laws_toIntS (H4.out.below HB.out) k4).mono ?_
  rintro e w10 ⟨vx4, rfl, Ox4, hb⟩
  replace HB := Lib.hid (below_step HB.out hb)
  replace HK0 := Lib.hid (HK0.out.step hb)
  replace HU := Lib.hid (below_step HU.out hb)
  replace Ox0 := Lib.hid (Ox0.out.below hb)
  replace HX0 := Lib.hid (below_step HX0.out hb)
  replace KX0 := Lib.hid (KX0.out.step hb)
  replace Ox3 := Lib.hid (Ox3.out.below hb)
  replace HX3 := Lib.hid (below_step HX3.out hb)
  clear hb
  replace Ox4 := Lib.hid Ox4
  have R4 := Lib.hid Ox4.out.bd
  have HX4 := Lib.hid (Below.refl w10.heap.size w10)
  have la_g_HB : w.heap.size ≤ w10.heap.size := HB.out.size
  have lo_g_HK0 : w.heap.size < w10.heap.size := HK0.out.lt
  have la_g_HU : w6.heap.size ≤ w10.heap.size := HU.out.size
  have lo_g_KX0 : w7.heap.size < w10.heap.size := KX0.out.lt
  have gx0 : w7.heap.size ≤ w10.heap.size := HX0.out.size
  have gx3 : w9.heap.size ≤ w10.heap.size := HX3.out.size
  have gx4 : w10.heap.size ≤ w10.heap.size := HX4.out.size
  have x_KX0_0 : w10.cell? ⟨w7.heap.size, 0, none⟩ = some (.int .i64 c0.i0) := KX0.out.cell 0
  have x_KX0_1 : w10.cell? ⟨w7.heap.size, 1, none⟩ = some (.int .i64 c0.i1) := KX0.out.cell 1
  have x_KX0_2 : w10.cell? ⟨w7.heap.size, 2, none⟩ = some (.slice Dx0a c0.gs.length dx0a) := KX0.out.cell 2
  have x_KX0_3 : w10.cell? ⟨w7.heap.size, 3, none⟩ = some (.slice Dx0b c0.outs.length dx0b) := KX0.out.cell 3
  go_wp2_with fail
  refine (c_impl_OpenedRows (Ox0.out.cir) (Ox3.out.ints) (Ox4.out.ints) k3 k4).mono ?_
  rintro e w11 ⟨ug, rfl, Qg, hb⟩
  clear x_KX0_0 x_KX0_1 x_KX0_2 x_KX0_3
  replace HB := Lib.hid (below_step HB.out hb)
  replace HK0 := Lib.hid (HK0.out.step hb)
  replace HU := Lib.hid (below_step HU.out hb)
  replace Ox0 := Lib.hid (Ox0.out.below hb)
  replace HX0 := Lib.hid (below_step HX0.out hb)
  replace KX0 := Lib.hid (KX0.out.step hb)
  replace Ox3 := Lib.hid (Ox3.out.below hb)
  replace HX3 := Lib.hid (below_step HX3.out hb)
  replace Ox4 := Lib.hid (Ox4.out.below hb)
  replace HX4 := Lib.hid (below_step HX4.out hb)
  clear hb
  replace Qg := Lib.hid Qg
  have Rg := Lib.hid Qg.out.bd
  go_wp2_with fail
  refine (c_laws_eqIntS Qg.out.ints (Qu.out.ints.below HU.out) hM).mono ?_
  rintro e w12 ⟨rfl, hb⟩
  replace HB := Lib.hid (below_step HB.out hb)
  replace HK0 := Lib.hid (HK0.out.step hb)
  replace HU := Lib.hid (below_step HU.out hb)
  replace Ox0 := Lib.hid (Ox0.out.below hb)
  replace HX0 := Lib.hid (below_step HX0.out hb)
  replace KX0 := Lib.hid (KX0.out.step hb)
  replace Ox3 := Lib.hid (Ox3.out.below hb)
  replace HX3 := Lib.hid (below_step HX3.out hb)
  replace Ox4 := Lib.hid (Ox4.out.below hb)
  replace HX4 := Lib.hid (below_step HX4.out hb)
  replace Qg := Lib.hid (Qg.out.below hb)
  clear hb
  go_wp2_with fail
  have q0 : ∀ w', Below w12.heap.size w12 w' → w'.cell? ⟨w.heap.size, 0, none⟩ = some (.int .i64 c0.i0) := fun w' h => (h.cell (p := ⟨w.heap.size, 0, none⟩) HK0.out.lt).trans (HK0.out.cell 0)
  have q1 : ∀ w', Below w12.heap.size w12 w' → w'.cell? ⟨w.heap.size, 1, none⟩ = some (.int .i64 c0.i1) := fun w' h => (h.cell (p := ⟨w.heap.size, 1, none⟩) HK0.out.lt).trans (HK0.out.cell 1)
  have q2 : ∀ w', Below w12.heap.size w12 w' → w'.cell? ⟨w.heap.size, 2, none⟩ = some (.slice A0a c0.gs.length n0a) := fun w' h => (h.cell (p := ⟨w.heap.size, 2, none⟩) HK0.out.lt).trans (HK0.out.cell 2)
  have q3 : ∀ w', Below w12.heap.size w12 w' → w'.cell? ⟨w.heap.size, 3, none⟩ = some (.slice A0b c0.outs.length n0b) := fun w' h => (h.cell (p := ⟨w.heap.size, 3, none⟩) HK0.out.lt).trans (HK0.out.cell 3)
  have q4 : ∀ w', Below w12.heap.size w12 w' → w'.cell? ⟨w7.heap.size, 0, none⟩ = some (.int .i64 c0.i0) := fun w' h => (h.cell (p := ⟨w7.heap.size, 0, none⟩) KX0.out.lt).trans (KX0.out.cell 0)
  have q5 : ∀ w', Below w12.heap.size w12 w' → w'.cell? ⟨w7.heap.size, 1, none⟩ = some (.int .i64 c0.i1) := fun w' h => (h.cell (p := ⟨w7.heap.size, 1, none⟩) KX0.out.lt).trans (KX0.out.cell 1)
  have q6 : ∀ w', Below w12.heap.size w12 w' → w'.cell? ⟨w7.heap.size, 2, none⟩ = some (.slice Dx0a c0.gs.length dx0a) := fun w' h => (h.cell (p := ⟨w7.heap.size, 2, none⟩) KX0.out.lt).trans (KX0.out.cell 2)
  have q7 : ∀ w', Below w12.heap.size w12 w' → w'.cell? ⟨w7.heap.size, 3, none⟩ = some (.slice Dx0b c0.outs.length dx0b) := fun w' h => (h.cell (p := ⟨w7.heap.size, 3, none⟩) KX0.out.lt).trans (KX0.out.cell 3)
  go_region_held3 (fun w' => Below w12.heap.size w12 w')
    (first | (refine below_step ?_ HD.out; assumption) | (exact (Below.refl _ _).drew))
    (first
      | (go_at_call 13; refine (c_laws_toCircuit ((H0.out.below HB.out).below (by assumption)) Z0.out.2.1 Z0.out.2.2).mono ?_; rintro e wa ⟨gvy, ovy, my, rfl, Oy, hb⟩; replace Oy := Lib.hid Oy; have HD := Lib.hid hb)
      | (go_at_call 16; refine (c_laws_eqCircuit ((Ox0.out.cir).below (by assumption)) Oy.out.cir (by have := Z0.out; omega) (by have := Z0.out; omega)).mono ?_; rintro e wb ⟨rfl, hb⟩; have HD := Lib.hid hb))
  have hE : Below w12.heap.size w12 wb := by assumption
  clear q0 q1 q2 q3 q4 q5 q6 q7
  generalize wb = w13 at *
  replace HB := Lib.hid (below_step HB.out hE)
  replace HK0 := Lib.hid (HK0.out.step hE)
  replace HU := Lib.hid (below_step HU.out hE)
  replace Ox0 := Lib.hid (Ox0.out.below hE)
  replace HX0 := Lib.hid (below_step HX0.out hE)
  replace KX0 := Lib.hid (KX0.out.step hE)
  replace Ox3 := Lib.hid (Ox3.out.below hE)
  replace HX3 := Lib.hid (below_step HX3.out hE)
  replace Ox4 := Lib.hid (Ox4.out.below hE)
  replace HX4 := Lib.hid (below_step HX4.out hE)
  replace Qg := Lib.hid (Qg.out.below hE)
  clear hE
  go_wp2_with fail
  refine (c_laws_toIntS (H3.out.below HB.out) k3).mono ?_
  rintro e w14 ⟨y3, rfl, Oy, hb⟩
  replace HB := Lib.hid (below_step HB.out hb)
  replace HK0 := Lib.hid (HK0.out.step hb)
  replace HU := Lib.hid (below_step HU.out hb)
  replace Ox0 := Lib.hid (Ox0.out.below hb)
  replace HX0 := Lib.hid (below_step HX0.out hb)
  replace KX0 := Lib.hid (KX0.out.step hb)
  replace Ox3 := Lib.hid (Ox3.out.below hb)
  replace HX3 := Lib.hid (below_step HX3.out hb)
  replace Ox4 := Lib.hid (Ox4.out.below hb)
  replace HX4 := Lib.hid (below_step HX4.out hb)
  replace Qg := Lib.hid (Qg.out.below hb)
  clear hb
  replace Oy := Lib.hid Oy
  go_wp2_with fail
  refine (c_laws_eqIntS Ox3.out.ints Oy.out.ints (by omega)).mono ?_
  rintro e w15 ⟨rfl, hb⟩
  replace HB := Lib.hid (below_step HB.out hb)
  replace HK0 := Lib.hid (HK0.out.step hb)
  replace HU := Lib.hid (below_step HU.out hb)
  replace Ox0 := Lib.hid (Ox0.out.below hb)
  replace HX0 := Lib.hid (below_step HX0.out hb)
  replace KX0 := Lib.hid (KX0.out.step hb)
  replace Ox3 := Lib.hid (Ox3.out.below hb)
  replace HX3 := Lib.hid (below_step HX3.out hb)
  replace Ox4 := Lib.hid (Ox4.out.below hb)
  replace HX4 := Lib.hid (below_step HX4.out hb)
  replace Qg := Lib.hid (Qg.out.below hb)
  replace Oy := Lib.hid (Oy.out.below hb)
  clear hb
  clear Oy
  go_wp2_with fail
  refine (c_laws_toIntS (H4.out.below HB.out) k4).mono ?_
  rintro e w16 ⟨y4, rfl, Oy, hb⟩
  replace HB := Lib.hid (below_step HB.out hb)
  replace HK0 := Lib.hid (HK0.out.step hb)
  replace HU := Lib.hid (below_step HU.out hb)
  replace Ox0 := Lib.hid (Ox0.out.below hb)
  replace HX0 := Lib.hid (below_step HX0.out hb)
  replace KX0 := Lib.hid (KX0.out.step hb)
  replace Ox3 := Lib.hid (Ox3.out.below hb)
  replace HX3 := Lib.hid (below_step HX3.out hb)
  replace Ox4 := Lib.hid (Ox4.out.below hb)
  replace HX4 := Lib.hid (below_step HX4.out hb)
  replace Qg := Lib.hid (Qg.out.below hb)
  clear hb
  replace Oy := Lib.hid Oy
  go_wp2_with fail
  refine (c_laws_eqIntS Ox4.out.ints Oy.out.ints (by omega)).mono ?_
  rintro e w17 ⟨rfl, hb⟩
  replace HB := Lib.hid (below_step HB.out hb)
  replace HK0 := Lib.hid (HK0.out.step hb)
  replace HU := Lib.hid (below_step HU.out hb)
  replace Ox0 := Lib.hid (Ox0.out.below hb)
  replace HX0 := Lib.hid (below_step HX0.out hb)
  replace KX0 := Lib.hid (KX0.out.step hb)
  replace Ox3 := Lib.hid (Ox3.out.below hb)
  replace HX3 := Lib.hid (below_step HX3.out hb)
  replace Ox4 := Lib.hid (Ox4.out.below hb)
  replace HX4 := Lib.hid (below_step HX4.out hb)
  replace Qg := Lib.hid (Qg.out.below hb)
  replace Oy := Lib.hid (Oy.out.below hb)
  clear hb
  clear Oy
  clear HX0 HX3 HX4
  have x_KX0_0 : w17.cell? ⟨w7.heap.size, 0, none⟩ = some (.int .i64 c0.i0) := KX0.out.cell 0
  have x_KX0_1 : w17.cell? ⟨w7.heap.size, 1, none⟩ = some (.int .i64 c0.i1) := KX0.out.cell 1
  have x_KX0_2 : w17.cell? ⟨w7.heap.size, 2, none⟩ = some (.slice Dx0a c0.gs.length dx0a) := KX0.out.cell 2
  have x_KX0_3 : w17.cell? ⟨w7.heap.size, 3, none⟩ = some (.slice Dx0b c0.outs.length dx0b) := KX0.out.cell 3
  go_wp2_with fail
  refine (c_laws_markCircuitO Ox0.out (by have z0 := Z0.out; omega) (by have z0 := Z0.out; omega) (by have z0 := Z0.out; omega)).mono ?_
  rintro e w18 ⟨rfl, ho⟩
  clear x_KX0_0 x_KX0_1 x_KX0_2 x_KX0_3
  clear Ox0
  replace HB := Lib.hid (anchor_only HB.out ho R0.out la_0_HB)
  replace HK0 := Lib.hid (HK0.out.apart ho (ne_lo R0.out lo_0_HK0))
  replace HU := Lib.hid (anchor_only HU.out ho R0.out la_0_HU)
  replace KX0 := Lib.hid (KX0.out.apart ho (ne_hi R0.out hi_0_KX0))
  replace Ox3 := Lib.hid (Ox3.out.apartFrom ho (lt_hi R0.out gx0_3))
  replace Ox4 := Lib.hid (Ox4.out.apartFrom ho (lt_hi R0.out gx0_4))
  replace Qg := Lib.hid (Qg.out.apartFrom ho (lt_hi R0.out gx0))
  clear ho
  go_wp2_with fail
  refine (c_laws_markIntSO Ox3.out (by omega) (by have z0 := Z0.out; omega)).mono ?_
  rintro e w19 ⟨rfl, -, ho⟩
  clear Ox3
  replace HB := Lib.hid (anchor_only HB.out ho R3.out la_3_HB)
  replace HK0 := Lib.hid (HK0.out.apart ho (ne_lo R3.out lo_3_HK0))
  replace HU := Lib.hid (anchor_only HU.out ho R3.out la_3_HU)
  replace KX0 := Lib.hid (KX0.out.apart ho (ne_lo R3.out lo_3_KX0))
  replace Ox4 := Lib.hid (Ox4.out.apartFrom ho (lt_hi R3.out gx3_4))
  replace Qg := Lib.hid (Qg.out.apartFrom ho (lt_hi R3.out gx3))
  clear ho
  go_wp2_with fail
  refine (c_laws_markIntSO Ox4.out (by omega) (by have z0 := Z0.out; omega)).mono ?_
  rintro e w20 ⟨rfl, -, ho⟩
  clear Ox4
  replace HB := Lib.hid (anchor_only HB.out ho R4.out la_4_HB)
  replace HK0 := Lib.hid (HK0.out.apart ho (ne_lo R4.out lo_4_HK0))
  replace HU := Lib.hid (anchor_only HU.out ho R4.out la_4_HU)
  replace KX0 := Lib.hid (KX0.out.apart ho (ne_lo R4.out lo_4_KX0))
  replace Qg := Lib.hid (Qg.out.apartFrom ho (lt_hi R4.out gx4))
  clear ho
  go_wp2_with fail
  refine (c_laws_eqIntS Qg.out.ints (Qu.out.ints.below HU.out) hM).mono ?_
  rintro e w21 ⟨rfl, hb⟩
  replace HB := Lib.hid (below_step HB.out hb)
  replace HK0 := Lib.hid (HK0.out.step hb)
  replace HU := Lib.hid (below_step HU.out hb)
  replace KX0 := Lib.hid (KX0.out.step hb)
  replace Qg := Lib.hid (Qg.out.below hb)
  clear hb
  go_wp2_with fail
  refine (c_laws_markIntSO Qg.out hM (by omega)).mono ?_
  rintro e w22 ⟨rfl, om, ho⟩
  replace HB := Lib.hid (anchor_only HB.out ho Rg.out la_g_HB)
  replace HK0 := Lib.hid (HK0.out.apart ho (ne_lo Rg.out lo_g_HK0))
  replace HU := Lib.hid (anchor_only HU.out ho Rg.out la_g_HU)
  replace KX0 := Lib.hid (KX0.out.apart ho (ne_lo Rg.out lo_g_KX0))
  replace Qg := Lib.hid om
  clear ho om
  go_wp2_with fail
  refine (c_laws_heldIntS (n := ((opensM c0 a1 a2 l3 l4).getD []).length) Qg.out.ints hM (by omega)).mono ?_
  rintro e w' ⟨rfl, rfl⟩
  have x_HK0_0 : w22.cell? ⟨w.heap.size, 0, none⟩ = some (.int .i64 c0.i0) := HK0.out.cell 0
  have x_HK0_1 : w22.cell? ⟨w.heap.size, 1, none⟩ = some (.int .i64 c0.i1) := HK0.out.cell 1
  have x_HK0_2 : w22.cell? ⟨w.heap.size, 2, none⟩ = some (.slice A0a c0.gs.length n0a) := HK0.out.cell 2
  have x_HK0_3 : w22.cell? ⟨w.heap.size, 3, none⟩ = some (.slice A0b c0.outs.length n0b) := HK0.out.cell 3
  go_wp2_with fail
  refine (c_laws_toCircuit (H0.out.below HB.out) Z0.out.2.1 Z0.out.2.2).mono ?_
  rintro e w23 ⟨gvh0, ovh0, mh0, rfl, Oh0, hb⟩
  clear x_HK0_0 x_HK0_1 x_HK0_2 x_HK0_3
  replace HB := Lib.hid (below_step HB.out hb)
  replace HK0 := Lib.hid (HK0.out.step hb)
  replace HU := Lib.hid (below_step HU.out hb)
  replace KX0 := Lib.hid (KX0.out.step hb)
  replace Qg := Lib.hid (Qg.out.below hb)
  clear hb
  replace Oh0 := Lib.hid Oh0
  go_wp2_with fail
  refine (c_laws_toIntS (H3.out.below HB.out) k3).mono ?_
  rintro e w24 ⟨vh3, rfl, Oh3, hb⟩
  replace HB := Lib.hid (below_step HB.out hb)
  replace HK0 := Lib.hid (HK0.out.step hb)
  replace HU := Lib.hid (below_step HU.out hb)
  replace KX0 := Lib.hid (KX0.out.step hb)
  replace Qg := Lib.hid (Qg.out.below hb)
  replace Oh0 := Lib.hid (Oh0.out.below hb)
  clear hb
  replace Oh3 := Lib.hid Oh3
  go_wp2_with fail
  refine (c_laws_toIntS (H4.out.below HB.out) k4).mono ?_
  rintro e w25 ⟨vh4, rfl, Oh4, hb⟩
  replace HB := Lib.hid (below_step HB.out hb)
  replace HK0 := Lib.hid (HK0.out.step hb)
  replace HU := Lib.hid (below_step HU.out hb)
  replace KX0 := Lib.hid (KX0.out.step hb)
  replace Qg := Lib.hid (Qg.out.below hb)
  replace Oh0 := Lib.hid (Oh0.out.below hb)
  replace Oh3 := Lib.hid (Oh3.out.below hb)
  clear hb
  replace Oh4 := Lib.hid Oh4
  go_wp2_with fail
  refine (c_impl_OpenedRows (Oh0.out.cir) (Oh3.out.ints) (Oh4.out.ints) k3 k4).mono ?_
  rintro e w26 ⟨uh, rfl, Qh, hb⟩
  replace HB := Lib.hid (below_step HB.out hb)
  replace HK0 := Lib.hid (HK0.out.step hb)
  replace HU := Lib.hid (below_step HU.out hb)
  replace KX0 := Lib.hid (KX0.out.step hb)
  replace Qg := Lib.hid (Qg.out.below hb)
  replace Oh0 := Lib.hid (Oh0.out.below hb)
  replace Oh3 := Lib.hid (Oh3.out.below hb)
  replace Oh4 := Lib.hid (Oh4.out.below hb)
  clear hb
  replace Qh := Lib.hid Qh
  clear Oh0 Oh3 Oh4
  go_wp2_with fail
  refine (c_laws_eqIntS Qh.out.ints (Qu.out.ints.below HU.out) hM).mono ?_
  rintro e w27 ⟨rfl, hb⟩
  replace HB := Lib.hid (below_step HB.out hb)
  replace HK0 := Lib.hid (HK0.out.step hb)
  replace HU := Lib.hid (below_step HU.out hb)
  replace KX0 := Lib.hid (KX0.out.step hb)
  replace Qg := Lib.hid (Qg.out.below hb)
  replace Qh := Lib.hid (Qh.out.below hb)
  clear hb
  go_wp2_with fail
  refine (c_laws_heldIntS (n := ((opensM c0 a1 a2 l3 l4).getD []).length) Qg.out.ints hM (by omega)).mono ?_
  rintro e w' ⟨rfl, rfl⟩
  go_wp2
  go_ret
  exact ⟨rfl, HB.out⟩

end Go.Proofs.Ytllaojfgenopbaa
