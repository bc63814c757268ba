/- The walk of the law on the number of rows: its Go text returns true for every circuit. No condition. -/
import Derived.Test.YtamngnenpapogaaCirD
import Derived.Test.YtamngnenpapogaaCirH
namespace Go.Proofs.Ytamngnenpapogaa
open Go.RowKit
set_option linter.unusedVariables false

theorem szM_le {left : Int} {n : Nat} (h : ¬ szM left n < 0) : (n : Int) ≤ left ∧ szM left n = left - n := by
  unfold szM at h ⊢
  by_cases h1 : left - (n : Int) < 0
  · rw [if_pos h1] at h; omega
  · rw [if_neg h1]; omega
theorem szCM_bd {c : Cir} (h : ¬ szCM 1048576 c < 0) : c.gs.length ≤ 1048576 ∧ c.outs.length ≤ 1048576 := by
  unfold szCM at h
  by_cases h1 : szM 1048576 c.gs.length < 0
  · rw [if_pos h1] at h; omega
  · rw [if_neg h1] at h
    have h2 := szM_le h1
    have h3 := szM_le h
    omega
theorem CirIn.drew {w : World} {gv ov : Value} {c : Cir} (h : CirIn w gv ov c) : CirIn w.drew gv ov c := ⟨h.gates, h.outs⟩

set_option maxRecDepth 100000 in
set_option maxHeartbeats 1000000 in
theorem w_FnExactRowsFor (w : World) {c : Cir} {gv ov : Value} (h : CirIn w gv ov c) : Calls Try.prog 3 #[cirV c gv ov] w fun e w' => e = .returned (.bool true) ∧ Below w.heap.size w w' := by
  have H := Lib.hid h
  obtain ⟨hg, ho⟩ := h
  obtain ⟨A, cg, rfl, _, _, _⟩ := hg
  obtain ⟨A', co, rfl, _, _, _⟩ := ho
  have HX := Lib.hid (Blk.new w 25 #[.int .i64 c.i0, .int .i64 c.i1, .slice A c.gs.length cg, .slice A' c.outs.length co])
  have HB := Lib.hid ((Below.refl w.heap.size w).alloc (Nat.le_refl _) (.cells #[.int .i64 c.i0, .int .i64 c.i1, .slice A c.gs.length cg, .slice A' c.outs.length co] 25))
  unfold cirV
  go_enter Try.func3, Try.ntmps3
  go_wp2_with fail
  refine (c_laws_szCircuit (H.out.below HB.out) (by omega)).mono ?_
  rintro e w1 ⟨rfl, hb1⟩
  have HX1 := Lib.hid (HX.out.step hb1)
  have HB1 := Lib.hid (below_step HB.out hb1)
  clear hb1
  by_cases hneg : szCM 1048576 c < 0
  · go_wp2
    go_ret
    exact ⟨rfl, HB1.out⟩
  · obtain ⟨hl1, hl2⟩ := szCM_bd hneg
    have x0 : w1.cell? ⟨w.heap.size, 0, none⟩ = some (.int .i64 c.i0) := HX1.out.cell 0
    have x1 : w1.cell? ⟨w.heap.size, 1, none⟩ = some (.int .i64 c.i1) := HX1.out.cell 1
    have x2 : w1.cell? ⟨w.heap.size, 2, none⟩ = some (.slice A c.gs.length cg) := HX1.out.cell 2
    have x3 : w1.cell? ⟨w.heap.size, 3, none⟩ = some (.slice A' c.outs.length co) := HX1.out.cell 3
    go_wp2_with fail
    refine (c_laws_toCircuit (H.out.below HB1.out) hl1 hl2).mono ?_
    rintro e w2 ⟨gv2, ov2, m2, rfl, O2, hb2⟩
    have HX2 := Lib.hid (HX1.out.step hb2)
    have HB2 := Lib.hid (below_step HB1.out hb2)
    have HC2 := Lib.hid O2.cir
    clear hb2 O2 x0 x1 x2 x3
    go_wp2_with fail
    refine (c_spec_RowsFor HC2.out).mono ?_
    rintro e w3 ⟨rfl, hb3⟩
    have HX3 := Lib.hid (HX2.out.step hb3)
    have HB3 := Lib.hid (below_step HB2.out hb3)
    clear hb3
    have x0 : w3.cell? ⟨w.heap.size, 0, none⟩ = some (.int .i64 c.i0) := HX3.out.cell 0
    have x1 : w3.cell? ⟨w.heap.size, 1, none⟩ = some (.int .i64 c.i1) := HX3.out.cell 1
    have x2 : w3.cell? ⟨w.heap.size, 2, none⟩ = some (.slice A c.gs.length cg) := HX3.out.cell 2
    have x3 : w3.cell? ⟨w.heap.size, 3, none⟩ = some (.slice A' c.outs.length co) := HX3.out.cell 3
    go_wp2_with fail
    refine (c_laws_toCircuit (H.out.below HB3.out) hl1 hl2).mono ?_
    rintro e w4 ⟨gv4, ov4, m4, rfl, O4, hb4⟩
    have HX4 := Lib.hid (HX3.out.step hb4)
    have HB4 := Lib.hid (below_step HB3.out hb4)
    have HC4 := Lib.hid O4.cir
    obtain ⟨A4, cg4, rfl, _, _, _⟩ := O4.cir.gates
    obtain ⟨A4', co4, rfl, _, _, _⟩ := O4.cir.outs
    clear hb4 O4 x0 x1 x2 x3
    unfold cirV
    have HY4 := Lib.hid (Blk.new w4 31 #[.int .i64 c.i0, .int .i64 c.i1, .slice A4 c.gs.length cg4, .slice A4' c.outs.length co4])
    have HB5 := Lib.hid (HB4.out.alloc HB4.out.size (.cells #[.int .i64 c.i0, .int .i64 c.i1, .slice A4 c.gs.length cg4, .slice A4' c.outs.length co4] 31))
    have HC5 := Lib.hid (HC4.out.alloc (.cells #[.int .i64 c.i0, .int .i64 c.i1, .slice A4 c.gs.length cg4, .slice A4' c.outs.length co4] 31))
    go_wp2_with fail
    refine (c_impl_RowsFor HC5.out).mono ?_
    rintro e w6 ⟨rfl, hb6⟩
    have HX6 := Lib.hid ((HX4.out.alloc (.cells #[.int .i64 c.i0, .int .i64 c.i1, .slice A4 c.gs.length cg4, .slice A4' c.outs.length co4] 31)).step hb6)
    have HY6 := Lib.hid (HY4.out.step hb6)
    have HB6 := Lib.hid (below_step HB5.out hb6)
    have HC6 := Lib.hid (HC5.out.below hb6)
    clear hb6
    have x0 : w6.cell? ⟨w.heap.size, 0, none⟩ = some (.int .i64 c.i0) := HX6.out.cell 0
    have x1 : w6.cell? ⟨w.heap.size, 1, none⟩ = some (.int .i64 c.i1) := HX6.out.cell 1
    have x2 : w6.cell? ⟨w.heap.size, 2, none⟩ = some (.slice A c.gs.length cg) := HX6.out.cell 2
    have x3 : w6.cell? ⟨w.heap.size, 3, none⟩ = some (.slice A' c.outs.length co) := HX6.out.cell 3
    have y0 : w6.cell? ⟨w4.heap.size, 0, none⟩ = some (.int .i64 c.i0) := HY6.out.cell 0
    have y1 : w6.cell? ⟨w4.heap.size, 1, none⟩ = some (.int .i64 c.i1) := HY6.out.cell 1
    have y2 : w6.cell? ⟨w4.heap.size, 2, none⟩ = some (.slice A4 c.gs.length cg4) := HY6.out.cell 2
    have y3 : w6.cell? ⟨w4.heap.size, 3, none⟩ = some (.slice A4' c.outs.length co4) := HY6.out.cell 3
    go_wp2_with fail
    go_region_held3 (fun w' => w'.cell? ⟨w.heap.size, 0, none⟩ = some (.int .i64 c.i0) ∧ w'.cell? ⟨w.heap.size, 1, none⟩ = some (.int .i64 c.i1) ∧ w'.cell? ⟨w.heap.size, 2, none⟩ = some (.slice A c.gs.length cg) ∧ w'.cell? ⟨w.heap.size, 3, none⟩ = some (.slice A' c.outs.length co) ∧
        w'.cell? ⟨w4.heap.size, 0, none⟩ = some (.int .i64 c.i0) ∧ w'.cell? ⟨w4.heap.size, 1, none⟩ = some (.int .i64 c.i1) ∧ w'.cell? ⟨w4.heap.size, 2, none⟩ = some (.slice A4 c.gs.length cg4) ∧ w'.cell? ⟨w4.heap.size, 3, none⟩ = some (.slice A4' c.outs.length co4))
      (first | go_keep | exact ⟨HX8.out.cell 0, HX8.out.cell 1, HX8.out.cell 2, HX8.out.cell 3, HY8.out.cell 0, HY8.out.cell 1, HY8.out.cell 2, HY8.out.cell 3⟩ | exact ⟨HX7.out.cell 0, HX7.out.cell 1, HX7.out.cell 2, HX7.out.cell 3, HY7.out.cell 0, HY7.out.cell 1, HY7.out.cell 2, HY7.out.cell 3⟩)
      (first
        | (go_at_call 17; refine (c_laws_toCircuit (H.out.below HB6.out.drew) hl1 hl2).mono ?_; rintro e w7 ⟨gv7, ov7, m7, rfl, O7, hb7⟩; have HX7 := Lib.hid (HX6.out.drew.step hb7); have HY7 := Lib.hid (HY6.out.drew.step hb7); have HB7 := Lib.hid (below_step HB6.out.drew hb7); have HC7 := Lib.hid (HC6.out.drew.below hb7); have HD7 := Lib.hid O7.cir; clear hb7 O7)
        | (go_at_call 19; refine (c_laws_eqCircuit HC7.out HD7.out (by omega) (by omega)).mono ?_; rintro e w8 ⟨rfl, hb8⟩; have HX8 := Lib.hid (HX7.out.step hb8); have HY8 := Lib.hid (HY7.out.step hb8); have HB8 := Lib.hid (below_step HB7.out hb8); clear hb8))
    go_wp2
    go_ret
    exact ⟨rfl, HB8.out⟩

set_option maxRecDepth 100000 in
set_option maxHeartbeats 1000000 in
theorem w_FnExactHalfRows (w : World) {c : Cir} {gv ov : Value} (h : CirIn w gv ov c) : Calls Try.prog 4 #[cirV c gv ov] w fun e w' => e = .returned (.bool true) ∧ Below w.heap.size w w' := by
  have H := Lib.hid h
  obtain ⟨hg, ho⟩ := h
  obtain ⟨A, cg, rfl, _, _, _⟩ := hg
  obtain ⟨A', co, rfl, _, _, _⟩ := ho
  have HX := Lib.hid (Blk.new w 25 #[.int .i64 c.i0, .int .i64 c.i1, .slice A c.gs.length cg, .slice A' c.outs.length co])
  have HB := Lib.hid ((Below.refl w.heap.size w).alloc (Nat.le_refl _) (.cells #[.int .i64 c.i0, .int .i64 c.i1, .slice A c.gs.length cg, .slice A' c.outs.length co] 25))
  unfold cirV
  go_enter Try.func4, Try.ntmps4
  go_wp2_with fail
  refine (c_laws_szCircuit (H.out.below HB.out) (by omega)).mono ?_
  rintro e w1 ⟨rfl, hb1⟩
  have HX1 := Lib.hid (HX.out.step hb1)
  have HB1 := Lib.hid (below_step HB.out hb1)
  clear hb1
  by_cases hneg : szCM 1048576 c < 0
  · go_wp2
    go_ret
    exact ⟨rfl, HB1.out⟩
  · obtain ⟨hl1, hl2⟩ := szCM_bd hneg
    have x0 : w1.cell? ⟨w.heap.size, 0, none⟩ = some (.int .i64 c.i0) := HX1.out.cell 0
    have x1 : w1.cell? ⟨w.heap.size, 1, none⟩ = some (.int .i64 c.i1) := HX1.out.cell 1
    have x2 : w1.cell? ⟨w.heap.size, 2, none⟩ = some (.slice A c.gs.length cg) := HX1.out.cell 2
    have x3 : w1.cell? ⟨w.heap.size, 3, none⟩ = some (.slice A' c.outs.length co) := HX1.out.cell 3
    go_wp2_with fail
    refine (c_laws_toCircuit (H.out.below HB1.out) hl1 hl2).mono ?_
    rintro e w2 ⟨gv2, ov2, m2, rfl, O2, hb2⟩
    have HX2 := Lib.hid (HX1.out.step hb2)
    have HB2 := Lib.hid (below_step HB1.out hb2)
    have HC2 := Lib.hid O2.cir
    clear hb2 O2 x0 x1 x2 x3
    go_wp2_with fail
    refine (c_spec_HalfRows HC2.out).mono ?_
    rintro e w3 ⟨rfl, hb3⟩
    have HX3 := Lib.hid (HX2.out.step hb3)
    have HB3 := Lib.hid (below_step HB2.out hb3)
    clear hb3
    have x0 : w3.cell? ⟨w.heap.size, 0, none⟩ = some (.int .i64 c.i0) := HX3.out.cell 0
    have x1 : w3.cell? ⟨w.heap.size, 1, none⟩ = some (.int .i64 c.i1) := HX3.out.cell 1
    have x2 : w3.cell? ⟨w.heap.size, 2, none⟩ = some (.slice A c.gs.length cg) := HX3.out.cell 2
    have x3 : w3.cell? ⟨w.heap.size, 3, none⟩ = some (.slice A' c.outs.length co) := HX3.out.cell 3
    go_wp2_with fail
    refine (c_laws_toCircuit (H.out.below HB3.out) hl1 hl2).mono ?_
    rintro e w4 ⟨gv4, ov4, m4, rfl, O4, hb4⟩
    have HX4 := Lib.hid (HX3.out.step hb4)
    have HB4 := Lib.hid (below_step HB3.out hb4)
    have HC4 := Lib.hid O4.cir
    obtain ⟨A4, cg4, rfl, _, _, _⟩ := O4.cir.gates
    obtain ⟨A4', co4, rfl, _, _, _⟩ := O4.cir.outs
    clear hb4 O4 x0 x1 x2 x3
    unfold cirV
    have HY4 := Lib.hid (Blk.new w4 31 #[.int .i64 c.i0, .int .i64 c.i1, .slice A4 c.gs.length cg4, .slice A4' c.outs.length co4])
    have HB5 := Lib.hid (HB4.out.alloc HB4.out.size (.cells #[.int .i64 c.i0, .int .i64 c.i1, .slice A4 c.gs.length cg4, .slice A4' c.outs.length co4] 31))
    have HC5 := Lib.hid (HC4.out.alloc (.cells #[.int .i64 c.i0, .int .i64 c.i1, .slice A4 c.gs.length cg4, .slice A4' c.outs.length co4] 31))
    go_wp2_with fail
    refine (c_impl_HalfRows HC5.out).mono ?_
    rintro e w6 ⟨rfl, hb6⟩
    have HX6 := Lib.hid ((HX4.out.alloc (.cells #[.int .i64 c.i0, .int .i64 c.i1, .slice A4 c.gs.length cg4, .slice A4' c.outs.length co4] 31)).step hb6)
    have HY6 := Lib.hid (HY4.out.step hb6)
    have HB6 := Lib.hid (below_step HB5.out hb6)
    have HC6 := Lib.hid (HC5.out.below hb6)
    clear hb6
    have x0 : w6.cell? ⟨w.heap.size, 0, none⟩ = some (.int .i64 c.i0) := HX6.out.cell 0
    have x1 : w6.cell? ⟨w.heap.size, 1, none⟩ = some (.int .i64 c.i1) := HX6.out.cell 1
    have x2 : w6.cell? ⟨w.heap.size, 2, none⟩ = some (.slice A c.gs.length cg) := HX6.out.cell 2
    have x3 : w6.cell? ⟨w.heap.size, 3, none⟩ = some (.slice A' c.outs.length co) := HX6.out.cell 3
    have y0 : w6.cell? ⟨w4.heap.size, 0, none⟩ = some (.int .i64 c.i0) := HY6.out.cell 0
    have y1 : w6.cell? ⟨w4.heap.size, 1, none⟩ = some (.int .i64 c.i1) := HY6.out.cell 1
    have y2 : w6.cell? ⟨w4.heap.size, 2, none⟩ = some (.slice A4 c.gs.length cg4) := HY6.out.cell 2
    have y3 : w6.cell? ⟨w4.heap.size, 3, none⟩ = some (.slice A4' c.outs.length co4) := HY6.out.cell 3
    go_wp2_with fail
    go_region_held3 (fun w' => w'.cell? ⟨w.heap.size, 0, none⟩ = some (.int .i64 c.i0) ∧ w'.cell? ⟨w.heap.size, 1, none⟩ = some (.int .i64 c.i1) ∧ w'.cell? ⟨w.heap.size, 2, none⟩ = some (.slice A c.gs.length cg) ∧ w'.cell? ⟨w.heap.size, 3, none⟩ = some (.slice A' c.outs.length co) ∧
        w'.cell? ⟨w4.heap.size, 0, none⟩ = some (.int .i64 c.i0) ∧ w'.cell? ⟨w4.heap.size, 1, none⟩ = some (.int .i64 c.i1) ∧ w'.cell? ⟨w4.heap.size, 2, none⟩ = some (.slice A4 c.gs.length cg4) ∧ w'.cell? ⟨w4.heap.size, 3, none⟩ = some (.slice A4' c.outs.length co4))
      (first | go_keep | exact ⟨HX8.out.cell 0, HX8.out.cell 1, HX8.out.cell 2, HX8.out.cell 3, HY8.out.cell 0, HY8.out.cell 1, HY8.out.cell 2, HY8.out.cell 3⟩ | exact ⟨HX7.out.cell 0, HX7.out.cell 1, HX7.out.cell 2, HX7.out.cell 3, HY7.out.cell 0, HY7.out.cell 1, HY7.out.cell 2, HY7.out.cell 3⟩)
      (first
        | (go_at_call 17; refine (c_laws_toCircuit (H.out.below HB6.out.drew) hl1 hl2).mono ?_; rintro e w7 ⟨gv7, ov7, m7, rfl, O7, hb7⟩; have HX7 := Lib.hid (HX6.out.drew.step hb7); have HY7 := Lib.hid (HY6.out.drew.step hb7); have HB7 := Lib.hid (below_step HB6.out.drew hb7); have HC7 := Lib.hid (HC6.out.drew.below hb7); have HD7 := Lib.hid O7.cir; clear hb7 O7)
        | (go_at_call 19; refine (c_laws_eqCircuit HC7.out HD7.out (by omega) (by omega)).mono ?_; rintro e w8 ⟨rfl, hb8⟩; have HX8 := Lib.hid (HX7.out.step hb8); have HY8 := Lib.hid (HY7.out.step hb8); have HB8 := Lib.hid (below_step HB7.out hb8); clear hb8))
    go_wp2
    go_ret
    exact ⟨rfl, HB8.out⟩
end Go.Proofs.Ytamngnenpapogaa
