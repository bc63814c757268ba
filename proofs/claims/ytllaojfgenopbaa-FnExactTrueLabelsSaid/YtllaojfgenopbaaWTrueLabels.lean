/- The walk of the law FnExactTrueLabels: its Go text returns true for every input. No condition. -/
import Derived.Test.YtllaojfgenopbaaLawK
import Derived.Test.YtllaojfgenopbaaTru
namespace Go.Proofs.Ytllaojfgenopbaa
open Go.RowKit
set_option linter.unusedVariables false

set_option maxRecDepth 100000 in
set_option maxHeartbeats 4000000 in
theorem w_FnExactTrueLabels (w : World) {c0 : Cir} {gv0 ov0 : Value} (h0 : CirIn w gv0 ov0 c0) {a1 : Int} (h1 : -9223372036854775808 ≤ a1 ∧ a1 ≤ 9223372036854775807) {a2 : Int} (h2 : -9223372036854775808 ≤ a2 ∧ a2 ≤ 9223372036854775807) {l3 : List Int} {v3 : Value} (h3 : Ints w v3 l3) : Calls Try.prog 4 #[cirV c0 gv0 ov0, .int .i64 a1, .int .i64 a2, v3] w fun e w' => e = .returned (.bool true) ∧ Below w.heap.size w w' := by
  have H0 := Lib.hid h0
  obtain ⟨A0a, n0a, rfl, -⟩ := h0.gates
  obtain ⟨A0b, n0b, rfl, -⟩ := h0.outs
  clear h0
  have H3 := Lib.hid h3
  obtain ⟨A3, n3, rfl, -, m3, -⟩ := h3
  unfold maxLen at m3
  unfold cirV
  by_cases k3 : l3.length ≤ 1048576
  rotate_left
  · go_enter Try.func4, Try.ntmps4
    go_wp2
    go_ret; exact ⟨rfl, (Below.refl w.heap.size w).alloc (Nat.le_refl _) (.cells #[.int .i64 c0.i0, .int .i64 c0.i1, .slice A0a c0.gs.length n0a, .slice A0b c0.outs.length n0b] 25)⟩
  obtain ⟨w1, hw1⟩ : ∃ W, w.alloc (.cells #[.int .i64 c0.i0, .int .i64 c0.i1, .slice A0a c0.gs.length n0a, .slice A0b c0.outs.length n0b] 25) = W := ⟨_, rfl⟩
  have HK0 := Lib.hid (Blk.new w 25 #[.int .i64 c0.i0, .int .i64 c0.i1, .slice A0a c0.gs.length n0a, .slice A0b c0.outs.length n0b])
  rw [hw1] at HK0
  have HB : Hid (Below w.heap.size w w1) := by rw [← hw1]; exact (Below.refl w.heap.size w).alloc (Nat.le_refl _) (.cells #[.int .i64 c0.i0, .int .i64 c0.i1, .slice A0a c0.gs.length n0a, .slice A0b c0.outs.length n0b] 25)
  go_enter Try.func4, Try.ntmps4
  have x_HK0_0 : w1.cell? ⟨w.heap.size, 0, none⟩ = some (.int .i64 c0.i0) := HK0.out.cell 0
  have x_HK0_1 : w1.cell? ⟨w.heap.size, 1, none⟩ = some (.int .i64 c0.i1) := HK0.out.cell 1
  have x_HK0_2 : w1.cell? ⟨w.heap.size, 2, none⟩ = some (.slice A0a c0.gs.length n0a) := HK0.out.cell 2
  have x_HK0_3 : w1.cell? ⟨w.heap.size, 3, none⟩ = some (.slice A0b c0.outs.length n0b) := HK0.out.cell 3
  go_wp2_with fail
  clear hw1
  refine (c_laws_szCircuit (H0.out.below HB.out) (by omega)).mono ?_
  rintro e w2 ⟨rfl, hb⟩
  clear x_HK0_0 x_HK0_1 x_HK0_2 x_HK0_3
  replace HB := Lib.hid (below_step HB.out hb)
  replace HK0 := Lib.hid (HK0.out.step hb)
  clear hb
  by_cases hz0 : szCM 1048576 c0 < 0
  · go_wp2
    go_ret
    exact ⟨rfl, HB.out⟩
  have Z0 := Lib.hid (szCM_ok (by omega) hz0)
  have x_HK0_0 : w2.cell? ⟨w.heap.size, 0, none⟩ = some (.int .i64 c0.i0) := HK0.out.cell 0
  have x_HK0_1 : w2.cell? ⟨w.heap.size, 1, none⟩ = some (.int .i64 c0.i1) := HK0.out.cell 1
  have x_HK0_2 : w2.cell? ⟨w.heap.size, 2, none⟩ = some (.slice A0a c0.gs.length n0a) := HK0.out.cell 2
  have x_HK0_3 : w2.cell? ⟨w.heap.size, 3, none⟩ = some (.slice A0b c0.outs.length n0b) := HK0.out.cell 3
  go_wp2_with fail
  refine (c_laws_toCircuit (H0.out.below HB.out) Z0.out.2.1 Z0.out.2.2).mono ?_
  rintro e w3 ⟨gvu0, ovu0, mu0, rfl, Ou0, hb⟩
  clear x_HK0_0 x_HK0_1 x_HK0_2 x_HK0_3
  replace HB := Lib.hid (below_step HB.out hb)
  replace HK0 := Lib.hid (HK0.out.step hb)
  clear hb
  replace Ou0 := Lib.hid Ou0
  go_wp2_with fail
  refine (c_laws_toIntS (H3.out.below HB.out) k3).mono ?_
  rintro e w4 ⟨vu3, rfl, Ou3, hb⟩
  replace HB := Lib.hid (below_step HB.out hb)
  replace HK0 := Lib.hid (HK0.out.step hb)
  replace Ou0 := Lib.hid (Ou0.out.below hb)
  clear hb
  replace Ou3 := Lib.hid Ou3
  go_wp2_with fail
  refine (c_spec_TrueLabels (Ou0.out.cir) (Ou3.out.ints) k3).mono ?_
  rintro e w5 ⟨rfl, hb⟩
  replace HB := Lib.hid (below_step HB.out hb)
  replace HK0 := Lib.hid (HK0.out.step hb)
  replace Ou0 := Lib.hid (Ou0.out.below hb)
  replace Ou3 := Lib.hid (Ou3.out.below hb)
  clear hb
  clear Ou0 Ou3
  have x_HK0_0 : w5.cell? ⟨w.heap.size, 0, none⟩ = some (.int .i64 c0.i0) := HK0.out.cell 0
  have x_HK0_1 : w5.cell? ⟨w.heap.size, 1, none⟩ = some (.int .i64 c0.i1) := HK0.out.cell 1
  have x_HK0_2 : w5.cell? ⟨w.heap.size, 2, none⟩ = some (.slice A0a c0.gs.length n0a) := HK0.out.cell 2
  have x_HK0_3 : w5.cell? ⟨w.heap.size, 3, none⟩ = some (.slice A0b c0.outs.length n0b) := HK0.out.cell 3
  go_wp2_with fail
  refine (c_laws_toCircuit (H0.out.below HB.out) Z0.out.2.1 Z0.out.2.2).mono ?_
  rintro e w6 ⟨gvx0, ovx0, mx0, rfl, Ox0, hb⟩
  clear x_HK0_0 x_HK0_1 x_HK0_2 x_HK0_3
  replace HB := Lib.hid (below_step HB.out hb)
  replace HK0 := Lib.hid (HK0.out.step hb)
  clear hb
  obtain ⟨Dx0a, dx0a, rfl, -⟩ := Ox0.cir.gates
  obtain ⟨Dx0b, dx0b, rfl, -⟩ := Ox0.cir.outs
  replace Ox0 := Lib.hid Ox0
  unfold cirV
  obtain ⟨w7, hw7⟩ : ∃ W, w6.alloc (.cells #[.int .i64 c0.i0, .int .i64 c0.i1, .slice Dx0a c0.gs.length dx0a, .slice Dx0b c0.outs.length dx0b] 31) = W := ⟨_, rfl⟩
  have KX0 : Hid (Blk w7 w6.heap.size 31 #[.int .i64 c0.i0, .int .i64 c0.i1, .slice Dx0a c0.gs.length dx0a, .slice Dx0b c0.outs.length dx0b]) := by rw [← hw7]; exact Blk.new _ _ _
  have hb : Below w6.heap.size w6 w7 := by rw [← hw7]; exact (Below.refl _ _).alloc (Nat.le_refl _) _
  replace HB := Lib.hid (below_step HB.out hb)
  replace HK0 := Lib.hid (HK0.out.step hb)
  replace Ox0 := Lib.hid (Ox0.out.below hb)
  clear hb
  go_wp2_with fail
  clear hw7
  refine (c_laws_toIntS (H3.out.below HB.out) k3).mono ?_
  rintro e w8 ⟨vx3, rfl, Ox3, hb⟩
  replace HB := Lib.hid (below_step HB.out hb)
  replace HK0 := Lib.hid (HK0.out.step hb)
  replace Ox0 := Lib.hid (Ox0.out.below hb)
  replace KX0 := Lib.hid (KX0.out.step hb)
  clear hb
  replace Ox3 := Lib.hid Ox3
  have x_KX0_0 : w8.cell? ⟨w6.heap.size, 0, none⟩ = some (.int .i64 c0.i0) := KX0.out.cell 0
  have x_KX0_1 : w8.cell? ⟨w6.heap.size, 1, none⟩ = some (.int .i64 c0.i1) := KX0.out.cell 1
  have x_KX0_2 : w8.cell? ⟨w6.heap.size, 2, none⟩ = some (.slice Dx0a c0.gs.length dx0a) := KX0.out.cell 2
  have x_KX0_3 : w8.cell? ⟨w6.heap.size, 3, none⟩ = some (.slice Dx0b c0.outs.length dx0b) := KX0.out.cell 3
  go_wp2_with fail
  refine (c_impl_TrueLabels (Ox0.out.cir) (Ox3.out.ints) k3).mono ?_
  rintro e w9 ⟨rfl, hb⟩
  clear x_KX0_0 x_KX0_1 x_KX0_2 x_KX0_3
  replace HB := Lib.hid (below_step HB.out hb)
  replace HK0 := Lib.hid (HK0.out.step hb)
  replace Ox0 := Lib.hid (Ox0.out.below hb)
  replace KX0 := Lib.hid (KX0.out.step hb)
  replace Ox3 := Lib.hid (Ox3.out.below hb)
  clear hb
  go_wp2_with fail
  have q0 : ∀ w', Below w9.heap.size w9 w' → w'.cell? ⟨w.heap.size, 0, none⟩ = some (.int .i64 c0.i0) := fun w' h => (h.cell (p := ⟨w.heap.size, 0, none⟩) HK0.out.lt).trans (HK0.out.cell 0)
  have q1 : ∀ w', Below w9.heap.size w9 w' → w'.cell? ⟨w.heap.size, 1, none⟩ = some (.int .i64 c0.i1) := fun w' h => (h.cell (p := ⟨w.heap.size, 1, none⟩) HK0.out.lt).trans (HK0.out.cell 1)
  have q2 : ∀ w', Below w9.heap.size w9 w' → w'.cell? ⟨w.heap.size, 2, none⟩ = some (.slice A0a c0.gs.length n0a) := fun w' h => (h.cell (p := ⟨w.heap.size, 2, none⟩) HK0.out.lt).trans (HK0.out.cell 2)
  have q3 : ∀ w', Below w9.heap.size w9 w' → w'.cell? ⟨w.heap.size, 3, none⟩ = some (.slice A0b c0.outs.length n0b) := fun w' h => (h.cell (p := ⟨w.heap.size, 3, none⟩) HK0.out.lt).trans (HK0.out.cell 3)
  have q4 : ∀ w', Below w9.heap.size w9 w' → w'.cell? ⟨w6.heap.size, 0, none⟩ = some (.int .i64 c0.i0) := fun w' h => (h.cell (p := ⟨w6.heap.size, 0, none⟩) KX0.out.lt).trans (KX0.out.cell 0)
  have q5 : ∀ w', Below w9.heap.size w9 w' → w'.cell? ⟨w6.heap.size, 1, none⟩ = some (.int .i64 c0.i1) := fun w' h => (h.cell (p := ⟨w6.heap.size, 1, none⟩) KX0.out.lt).trans (KX0.out.cell 1)
  have q6 : ∀ w', Below w9.heap.size w9 w' → w'.cell? ⟨w6.heap.size, 2, none⟩ = some (.slice Dx0a c0.gs.length dx0a) := fun w' h => (h.cell (p := ⟨w6.heap.size, 2, none⟩) KX0.out.lt).trans (KX0.out.cell 2)
  have q7 : ∀ w', Below w9.heap.size w9 w' → w'.cell? ⟨w6.heap.size, 3, none⟩ = some (.slice Dx0b c0.outs.length dx0b) := fun w' h => (h.cell (p := ⟨w6.heap.size, 3, none⟩) KX0.out.lt).trans (KX0.out.cell 3)
  go_region_held3 (fun w' => Below w9.heap.size w9 w')
    (first | (refine below_step ?_ HD.out; assumption) | (exact (Below.refl _ _).drew))
    (first
      | (go_at_call 13; refine (c_laws_toCircuit ((H0.out.below HB.out).below (by assumption)) Z0.out.2.1 Z0.out.2.2).mono ?_; rintro e wa ⟨gvy, ovy, my, rfl, Oy, hb⟩; replace Oy := Lib.hid Oy; have HD := Lib.hid hb)
      | (go_at_call 16; refine (c_laws_eqCircuit ((Ox0.out.cir).below (by assumption)) Oy.out.cir (by have := Z0.out; omega) (by have := Z0.out; omega)).mono ?_; rintro e wb ⟨rfl, hb⟩; have HD := Lib.hid hb))
  have hE : Below w9.heap.size w9 wb := by assumption
  clear q0 q1 q2 q3 q4 q5 q6 q7
  generalize wb = w10 at *
  replace HB := Lib.hid (below_step HB.out hE)
  replace HK0 := Lib.hid (HK0.out.step hE)
  replace Ox0 := Lib.hid (Ox0.out.below hE)
  replace KX0 := Lib.hid (KX0.out.step hE)
  replace Ox3 := Lib.hid (Ox3.out.below hE)
  clear hE
  go_wp2_with fail
  refine (c_laws_toIntS (H3.out.below HB.out) k3).mono ?_
  rintro e w11 ⟨y3, rfl, Oy, hb⟩
  replace HB := Lib.hid (below_step HB.out hb)
  replace HK0 := Lib.hid (HK0.out.step hb)
  replace Ox0 := Lib.hid (Ox0.out.below hb)
  replace KX0 := Lib.hid (KX0.out.step hb)
  replace Ox3 := Lib.hid (Ox3.out.below hb)
  clear hb
  replace Oy := Lib.hid Oy
  go_wp2_with fail
  refine (c_laws_eqIntS Ox3.out.ints Oy.out.ints (by omega)).mono ?_
  rintro e w12 ⟨rfl, hb⟩
  replace HB := Lib.hid (below_step HB.out hb)
  replace HK0 := Lib.hid (HK0.out.step hb)
  replace Ox0 := Lib.hid (Ox0.out.below hb)
  replace KX0 := Lib.hid (KX0.out.step hb)
  replace Ox3 := Lib.hid (Ox3.out.below hb)
  replace Oy := Lib.hid (Oy.out.below hb)
  clear hb
  clear Oy
  go_wp2
  go_ret
  exact ⟨rfl, HB.out⟩

end Go.Proofs.Ytllaojfgenopbaa
