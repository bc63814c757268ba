/- Contracts of the reference's exported zero labels and tables. No condition. -/
import Derived.Test.YtejeppjmlgfiaaaGreatHa46
import Derived.Test.YtejeppjmlgfiaaaGreatHa39
namespace Go.Proofs.YtejeppjmlgfiaaaGreat
open Go.RowKit
set_option linter.unusedVariables false

set_option maxRecDepth 100000 in
set_option maxHeartbeats 2000000 in
theorem c_spec_ZeroLabels {c : Cir} {gv ov : Value} {key off : Int} {w : World} (h : CirIn w gv ov c) : Calls Tryz.prog 34 #[cirV c gv ov, .int .i64 key, .int .i64 off] w (RetIB w (zerosM gbZ gbR c key off)) := by
  have H := Lib.hid h
  obtain ⟨hg, hoo⟩ := h
  obtain ⟨A, cg, rfl, -⟩ := hg
  obtain ⟨A', co, rfl, -⟩ := hoo
  unfold cirV
  obtain ⟨w0, hw0⟩ : ∃ W, w.alloc (.cells #[.int .i64 c.i0, .int .i64 c.i1, .slice A c.gs.length cg, .slice A' c.outs.length co] 26) = W := ⟨_, rfl⟩
  have HKC : Hid (Blk w0 w.heap.size 26 #[.int .i64 c.i0, .int .i64 c.i1, .slice A c.gs.length cg, .slice A' c.outs.length co]) := by rw [← hw0]; exact Blk.new _ _ _
  have HB : Hid (Below w.heap.size w w0) := by rw [← hw0]; exact (Below.refl _ _).alloc (Nat.le_refl _) _
  have x0 : w0.cell? ⟨w.heap.size, 0, none⟩ = some (.int .i64 c.i0) := HKC.out.cell 0
  have x1 : w0.cell? ⟨w.heap.size, 1, none⟩ = some (.int .i64 c.i1) := HKC.out.cell 1
  have x2 : w0.cell? ⟨w.heap.size, 2, none⟩ = some (.slice A c.gs.length cg) := HKC.out.cell 2
  have x3 : w0.cell? ⟨w.heap.size, 3, none⟩ = some (.slice A' c.outs.length co) := HKC.out.cell 3
  rcases hk : keyB c key off with _ | _
  · have HM := Lib.hid (show zerosM gbZ gbR c key off = none by unfold zerosM; rw [hk]; rfl)
    go_enter Tryz.func34, Tryz.ntmps34
    go_wp2_with fail
    refine (c_spec_gbKeys (H.out.below HB.out)).mono ?_
    rintro e w1 ⟨rfl, hb1⟩
    go_wp2
    go_ret2
    rw [HM.out]
    exact RetIB.no_below (below_step HB.out hb1)
  · have HM := Lib.hid (show zerosM gbZ gbR c key off = some (zrM (gbZ off) (gbR off) key off c.ins.toNat c.gs).zs by unfold zerosM; rw [hk]; rfl)
    have HV := Lib.hid (keyB_of hk)
    go_enter Tryz.func34, Tryz.ntmps34
    go_wp2_with fail
    refine (c_spec_gbKeys (H.out.below HB.out)).mono ?_
    rintro e w1 ⟨rfl, hb1⟩
    have HB1 := Lib.hid (below_step HB.out hb1)
    replace HKC := Lib.hid (HKC.out.step hb1)
    have x0 : w1.cell? ⟨w.heap.size, 0, none⟩ = some (.int .i64 c.i0) := HKC.out.cell 0
    have x1 : w1.cell? ⟨w.heap.size, 1, none⟩ = some (.int .i64 c.i1) := HKC.out.cell 1
    have x2 : w1.cell? ⟨w.heap.size, 2, none⟩ = some (.slice A c.gs.length cg) := HKC.out.cell 2
    have x3 : w1.cell? ⟨w.heap.size, 3, none⟩ = some (.slice A' c.outs.length co) := HKC.out.cell 3
    clear hw0 hb1
    go_wp2_with fail
    refine (c_spec_gbZeros (H.out.below HB1.out) HV.out.1 HV.out.2.1 HV.out.2.2.1).mono ?_
    rintro e w2 ⟨u, rfl, hu, hb2⟩
    go_wp2
    go_ret2
    rw [HM.out]
    exact RetIB.yes (hu.mono HB1.out.size) (below_step HB1.out hb2)
set_option maxRecDepth 100000 in
set_option maxHeartbeats 2000000 in
theorem c_spec_HalfZeros {c : Cir} {gv ov : Value} {key off : Int} {w : World} (h : CirIn w gv ov c) : Calls Tryz.prog 13 #[cirV c gv ov, .int .i64 key, .int .i64 off] w (RetIB w (zerosM hgZ hgR c key off)) := by
  have H := Lib.hid h
  obtain ⟨hg, hoo⟩ := h
  obtain ⟨A, cg, rfl, -⟩ := hg
  obtain ⟨A', co, rfl, -⟩ := hoo
  unfold cirV
  obtain ⟨w0, hw0⟩ : ∃ W, w.alloc (.cells #[.int .i64 c.i0, .int .i64 c.i1, .slice A c.gs.length cg, .slice A' c.outs.length co] 26) = W := ⟨_, rfl⟩
  have HKC : Hid (Blk w0 w.heap.size 26 #[.int .i64 c.i0, .int .i64 c.i1, .slice A c.gs.length cg, .slice A' c.outs.length co]) := by rw [← hw0]; exact Blk.new _ _ _
  have HB : Hid (Below w.heap.size w w0) := by rw [← hw0]; exact (Below.refl _ _).alloc (Nat.le_refl _) _
  have x0 : w0.cell? ⟨w.heap.size, 0, none⟩ = some (.int .i64 c.i0) := HKC.out.cell 0
  have x1 : w0.cell? ⟨w.heap.size, 1, none⟩ = some (.int .i64 c.i1) := HKC.out.cell 1
  have x2 : w0.cell? ⟨w.heap.size, 2, none⟩ = some (.slice A c.gs.length cg) := HKC.out.cell 2
  have x3 : w0.cell? ⟨w.heap.size, 3, none⟩ = some (.slice A' c.outs.length co) := HKC.out.cell 3
  rcases hk : keyB c key off with _ | _
  · have HM := Lib.hid (show zerosM hgZ hgR c key off = none by unfold zerosM; rw [hk]; rfl)
    go_enter Tryz.func13, Tryz.ntmps13
    go_wp2_with fail
    refine (c_spec_hgAsked (H.out.below HB.out)).mono ?_
    rintro e w1 ⟨rfl, hb1⟩
    go_wp2
    go_ret2
    rw [HM.out]
    exact RetIB.no_below (below_step HB.out hb1)
  · have HM := Lib.hid (show zerosM hgZ hgR c key off = some (zrM (hgZ off) (hgR off) key off c.ins.toNat c.gs).zs by unfold zerosM; rw [hk]; rfl)
    have HV := Lib.hid (keyB_of hk)
    go_enter Tryz.func13, Tryz.ntmps13
    go_wp2_with fail
    refine (c_spec_hgAsked (H.out.below HB.out)).mono ?_
    rintro e w1 ⟨rfl, hb1⟩
    have HB1 := Lib.hid (below_step HB.out hb1)
    replace HKC := Lib.hid (HKC.out.step hb1)
    have x0 : w1.cell? ⟨w.heap.size, 0, none⟩ = some (.int .i64 c.i0) := HKC.out.cell 0
    have x1 : w1.cell? ⟨w.heap.size, 1, none⟩ = some (.int .i64 c.i1) := HKC.out.cell 1
    have x2 : w1.cell? ⟨w.heap.size, 2, none⟩ = some (.slice A c.gs.length cg) := HKC.out.cell 2
    have x3 : w1.cell? ⟨w.heap.size, 3, none⟩ = some (.slice A' c.outs.length co) := HKC.out.cell 3
    clear hw0 hb1
    go_wp2_with fail
    refine (c_spec_hgMake (H.out.below HB1.out) HV.out.1 HV.out.2.1 HV.out.2.2.1).mono ?_
    rintro e w2 ⟨u, rv, nv, cv, vs, rfl, hu, hz, hb2⟩
    obtain ⟨Ar, cr, rfl, -⟩ := hz.rows.rowsIn.form
    obtain ⟨Ao, co', rfl, -⟩ := hz.ones.ints
    obtain ⟨Ac, cc, rfl, -⟩ := hz.cols.ints
    have HU := Lib.hid (hu.mono HB1.out.size)
    have HB2 := Lib.hid (below_step HB1.out hb2)
    clear hu hz hb2
    unfold gbV
    go_wp2
    go_ret2
    rw [HM.out]
    exact RetIB.yes (HU.out.alloc _) (HB2.out.alloc HB2.out.size _)
set_option maxRecDepth 100000 in
set_option maxHeartbeats 2000000 in
theorem c_spec_GarbleCircuit {c : Cir} {gv ov : Value} {key off : Int} {w : World} (h : CirIn w gv ov c) : Calls Tryz.prog 32 #[cirV c gv ov, .int .i64 key, .int .i64 off] w (RetGbB w (tablesM gbZ gbR c key off)) := by
  have H := Lib.hid h
  obtain ⟨hg, hoo⟩ := h
  obtain ⟨A, cg, rfl, -⟩ := hg
  obtain ⟨A', co, rfl, -⟩ := hoo
  unfold cirV
  obtain ⟨w0, hw0⟩ : ∃ W, (w.alloc (.cells #[.int .i64 c.i0, .int .i64 c.i1, .slice A c.gs.length cg, .slice A' c.outs.length co] 26)).alloc (.cells #[.slice none 0 0, .slice none 0 0, .slice none 0 0] 50) = W := ⟨_, rfl⟩
  have HKC : Hid (Blk w0 w.heap.size 26 #[.int .i64 c.i0, .int .i64 c.i1, .slice A c.gs.length cg, .slice A' c.outs.length co]) := by rw [← hw0]; exact (Blk.new _ _ _).alloc _
  have HR : Hid (Blk w0 (w.heap.size + 1) 50 #[.slice none 0 0, .slice none 0 0, .slice none 0 0]) := by rw [← hw0]; have := Blk.new (w.alloc (.cells #[.int .i64 c.i0, .int .i64 c.i1, .slice A c.gs.length cg, .slice A' c.outs.length co] 26)) 50 #[.slice none 0 0, .slice none 0 0, .slice none 0 0]; simp only [World.size_alloc] at this; exact this
  have HB : Hid (Below w.heap.size w w0) := by rw [← hw0]; exact ((Below.refl _ _).alloc (Nat.le_refl _) _).alloc (by simp) _
  have x0 : w0.cell? ⟨w.heap.size, 0, none⟩ = some (.int .i64 c.i0) := HKC.out.cell 0
  have x1 : w0.cell? ⟨w.heap.size, 1, none⟩ = some (.int .i64 c.i1) := HKC.out.cell 1
  have x2 : w0.cell? ⟨w.heap.size, 2, none⟩ = some (.slice A c.gs.length cg) := HKC.out.cell 2
  have x3 : w0.cell? ⟨w.heap.size, 3, none⟩ = some (.slice A' c.outs.length co) := HKC.out.cell 3
  rcases hk : keyB c key off with _ | _
  · have HM := Lib.hid (show tablesM gbZ gbR c key off = none by unfold tablesM; rw [hk]; rfl)
    go_enter Tryz.func32, Tryz.ntmps32
    go_wp2_with fail
    refine (c_spec_gbKeys (H.out.below HB.out)).mono ?_
    rintro e w1 ⟨rfl, hb1⟩
    have hR := HR.out.step hb1
    have r0 : w1.cell? ⟨w.heap.size + 1, 0, none⟩ = some (.slice none 0 0) := hR.cell 0
    have r1 : w1.cell? ⟨w.heap.size + 1, 1, none⟩ = some (.slice none 0 0) := hR.cell 1
    have r2 : w1.cell? ⟨w.heap.size + 1, 2, none⟩ = some (.slice none 0 0) := hR.cell 2
    have rf0 := hR.free 0
    have rf1 := hR.free 1
    have rf2 := hR.free 2
    have hRl := hR.lt
    clear hR
    go_wp2
    refine bodyPost_ret (v := .tuple #[gbV (.slice none 0 0) (.slice none 0 0) (.slice none 0 0), .bool false]) (by simp [results, Tryz.results32, go_sem, gbV, r0, r1, r2]) rfl ?_
    rw [HM.out]
    exact RetGbB.no ((((below_step HB.out hb1).setCell (p := ⟨w.heap.size + 1, 0, none⟩) (by simp) _).setCell (p := ⟨w.heap.size + 1, 1, none⟩) (by simp) _).setCell (p := ⟨w.heap.size + 1, 2, none⟩) (by simp) _)
  · have HM := Lib.hid (show tablesM gbZ gbR c key off = some (tabM (gbZ off) (gbR off) key off c) by unfold tablesM; rw [hk]; rfl)
    have HV := Lib.hid (keyB_of hk)
    go_enter Tryz.func32, Tryz.ntmps32
    go_wp2_with fail
    refine (c_spec_gbKeys (H.out.below HB.out)).mono ?_
    rintro e w1 ⟨rfl, hb1⟩
    have HB1 := Lib.hid (below_step HB.out hb1)
    replace HKC := Lib.hid (HKC.out.step hb1)
    have x0 : w1.cell? ⟨w.heap.size, 0, none⟩ = some (.int .i64 c.i0) := HKC.out.cell 0
    have x1 : w1.cell? ⟨w.heap.size, 1, none⟩ = some (.int .i64 c.i1) := HKC.out.cell 1
    have x2 : w1.cell? ⟨w.heap.size, 2, none⟩ = some (.slice A c.gs.length cg) := HKC.out.cell 2
    have x3 : w1.cell? ⟨w.heap.size, 3, none⟩ = some (.slice A' c.outs.length co) := HKC.out.cell 3
    clear hw0
    go_wp2_with fail
    refine (c_spec_gbMake (H.out.below HB1.out) HV.out.1 HV.out.2.1 HV.out.2.2.1).mono ?_
    rintro e w2 ⟨rv, nv, cv, vs, rfl, hz, hb2⟩
    obtain ⟨Ar, cr, rfl, -⟩ := hz.rows.rowsIn.form
    obtain ⟨Ao, co', rfl, -⟩ := hz.ones.ints
    obtain ⟨Ac, cc, rfl, -⟩ := hz.cols.ints
    have HB2 := Lib.hid (below_step HB1.out hb2)
    have hR := (HR.out.step hb1).step hb2
    have r0 : w2.cell? ⟨w.heap.size + 1, 0, none⟩ = some (.slice none 0 0) := hR.cell 0
    have r1 : w2.cell? ⟨w.heap.size + 1, 1, none⟩ = some (.slice none 0 0) := hR.cell 1
    have r2 : w2.cell? ⟨w.heap.size + 1, 2, none⟩ = some (.slice none 0 0) := hR.cell 2
    have rf0 := hR.free 0
    have rf1 := hR.free 1
    have rf2 := hR.free 2
    have hRl := hR.lt
    have hlow : w.heap.size + 1 < w1.heap.size := (HR.out.step hb1).lt
    have HBX := HB2
    replace hz := Lib.hid hz
    clear hb1 hb2 hR
    unfold gbV
    go_wp2
    refine bodyPost_ret (v := .tuple #[gbV (.slice Ar (tabM (gbZ off) (gbR off) key off c).rows.length cr) (.slice Ao (tabM (gbZ off) (gbR off) key off c).ones.length co') (.slice Ac (tabM (gbZ off) (gbR off) key off c).cols.length cc), .bool true]) (by simp [results, Tryz.results32, go_sem, gbV, r0, r1, r2]) rfl ⟨_, _, _, vs, by rw [HM.out]; rfl, ?_, ?_⟩
    · rw [HM.out]
      exact (((hz.out.setLow hlow 0 _).setLow hlow 1 _).setLow hlow 2 _).mono HB1.out.size
    · exact ((HBX.out.setCell (p := ⟨w.heap.size + 1, 0, none⟩) (by simp) _).setCell (p := ⟨w.heap.size + 1, 1, none⟩) (by simp) _).setCell (p := ⟨w.heap.size + 1, 2, none⟩) (by simp) _
set_option maxRecDepth 100000 in
set_option maxHeartbeats 2000000 in
theorem c_spec_HalveCircuit {c : Cir} {gv ov : Value} {key off : Int} {w : World} (h : CirIn w gv ov c) : Calls Tryz.prog 11 #[cirV c gv ov, .int .i64 key, .int .i64 off] w (RetGbB w (tablesM hgZ hgR c key off)) := by
  have H := Lib.hid h
  obtain ⟨hg, hoo⟩ := h
  obtain ⟨A, cg, rfl, -⟩ := hg
  obtain ⟨A', co, rfl, -⟩ := hoo
  unfold cirV
  obtain ⟨w0, hw0⟩ : ∃ W, (w.alloc (.cells #[.int .i64 c.i0, .int .i64 c.i1, .slice A c.gs.length cg, .slice A' c.outs.length co] 26)).alloc (.cells #[.slice none 0 0, .slice none 0 0, .slice none 0 0] 35) = W := ⟨_, rfl⟩
  have HKC : Hid (Blk w0 w.heap.size 26 #[.int .i64 c.i0, .int .i64 c.i1, .slice A c.gs.length cg, .slice A' c.outs.length co]) := by rw [← hw0]; exact (Blk.new _ _ _).alloc _
  have HR : Hid (Blk w0 (w.heap.size + 1) 35 #[.slice none 0 0, .slice none 0 0, .slice none 0 0]) := by rw [← hw0]; have := Blk.new (w.alloc (.cells #[.int .i64 c.i0, .int .i64 c.i1, .slice A c.gs.length cg, .slice A' c.outs.length co] 26)) 35 #[.slice none 0 0, .slice none 0 0, .slice none 0 0]; simp only [World.size_alloc] at this; exact this
  have HB : Hid (Below w.heap.size w w0) := by rw [← hw0]; exact ((Below.refl _ _).alloc (Nat.le_refl _) _).alloc (by simp) _
  have x0 : w0.cell? ⟨w.heap.size, 0, none⟩ = some (.int .i64 c.i0) := HKC.out.cell 0
  have x1 : w0.cell? ⟨w.heap.size, 1, none⟩ = some (.int .i64 c.i1) := HKC.out.cell 1
  have x2 : w0.cell? ⟨w.heap.size, 2, none⟩ = some (.slice A c.gs.length cg) := HKC.out.cell 2
  have x3 : w0.cell? ⟨w.heap.size, 3, none⟩ = some (.slice A' c.outs.length co) := HKC.out.cell 3
  rcases hk : keyB c key off with _ | _
  · have HM := Lib.hid (show tablesM hgZ hgR c key off = none by unfold tablesM; rw [hk]; rfl)
    go_enter Tryz.func11, Tryz.ntmps11
    go_wp2_with fail
    refine (c_spec_hgAsked (H.out.below HB.out)).mono ?_
    rintro e w1 ⟨rfl, hb1⟩
    have hR := HR.out.step hb1
    have r0 : w1.cell? ⟨w.heap.size + 1, 0, none⟩ = some (.slice none 0 0) := hR.cell 0
    have r1 : w1.cell? ⟨w.heap.size + 1, 1, none⟩ = some (.slice none 0 0) := hR.cell 1
    have r2 : w1.cell? ⟨w.heap.size + 1, 2, none⟩ = some (.slice none 0 0) := hR.cell 2
    have rf0 := hR.free 0
    have rf1 := hR.free 1
    have rf2 := hR.free 2
    have hRl := hR.lt
    clear hR
    go_wp2
    refine bodyPost_ret (v := .tuple #[gbV (.slice none 0 0) (.slice none 0 0) (.slice none 0 0), .bool false]) (by simp [results, Tryz.results11, go_sem, gbV, r0, r1, r2]) rfl ?_
    rw [HM.out]
    exact RetGbB.no ((((below_step HB.out hb1).setCell (p := ⟨w.heap.size + 1, 0, none⟩) (by simp) _).setCell (p := ⟨w.heap.size + 1, 1, none⟩) (by simp) _).setCell (p := ⟨w.heap.size + 1, 2, none⟩) (by simp) _)
  · have HM := Lib.hid (show tablesM hgZ hgR c key off = some (tabM (hgZ off) (hgR off) key off c) by unfold tablesM; rw [hk]; rfl)
    have HV := Lib.hid (keyB_of hk)
    go_enter Tryz.func11, Tryz.ntmps11
    go_wp2_with fail
    refine (c_spec_hgAsked (H.out.below HB.out)).mono ?_
    rintro e w1 ⟨rfl, hb1⟩
    have HB1 := Lib.hid (below_step HB.out hb1)
    replace HKC := Lib.hid (HKC.out.step hb1)
    have x0 : w1.cell? ⟨w.heap.size, 0, none⟩ = some (.int .i64 c.i0) := HKC.out.cell 0
    have x1 : w1.cell? ⟨w.heap.size, 1, none⟩ = some (.int .i64 c.i1) := HKC.out.cell 1
    have x2 : w1.cell? ⟨w.heap.size, 2, none⟩ = some (.slice A c.gs.length cg) := HKC.out.cell 2
    have x3 : w1.cell? ⟨w.heap.size, 3, none⟩ = some (.slice A' c.outs.length co) := HKC.out.cell 3
    clear hw0
    go_wp2_with fail
    refine (c_spec_hgMake (H.out.below HB1.out) HV.out.1 HV.out.2.1 HV.out.2.2.1).mono ?_
    rintro e w2 ⟨u, rv, nv, cv, vs, rfl, hu, hz, hb2⟩
    obtain ⟨Ar, cr, rfl, -⟩ := hz.rows.rowsIn.form
    obtain ⟨Ao, co', rfl, -⟩ := hz.ones.ints
    obtain ⟨Ac, cc, rfl, -⟩ := hz.cols.ints
    have HB2 := Lib.hid (below_step HB1.out hb2)
    have hR := (HR.out.step hb1).step hb2
    have r0 : w2.cell? ⟨w.heap.size + 1, 0, none⟩ = some (.slice none 0 0) := hR.cell 0
    have r1 : w2.cell? ⟨w.heap.size + 1, 1, none⟩ = some (.slice none 0 0) := hR.cell 1
    have r2 : w2.cell? ⟨w.heap.size + 1, 2, none⟩ = some (.slice none 0 0) := hR.cell 2
    have rf0 := hR.free 0
    have rf1 := hR.free 1
    have rf2 := hR.free 2
    have hRl := hR.lt
    have HRR := Lib.hid hR
    have hlow : w.heap.size + 1 < w1.heap.size := (HR.out.step hb1).lt
    have HBX := HB2
    replace hz := Lib.hid hz
    clear hb1 hb2 hR
    unfold gbV
    clear hu
    obtain ⟨w3, hw3⟩ : ∃ W, w2.alloc (.cells #[.slice Ar (tabM (hgZ off) (hgR off) key off c).rows.length cr, .slice Ao (tabM (hgZ off) (hgR off) key off c).ones.length co', .slice Ac (tabM (hgZ off) (hgR off) key off c).cols.length cc] 35) = W := ⟨_, rfl⟩
    have hb3 : Below w2.heap.size w2 w3 := by rw [← hw3]; exact (Below.refl _ _).alloc (Nat.le_refl _) _
    have hk3 : Blk w3 w2.heap.size 35 #[.slice Ar (tabM (hgZ off) (hgR off) key off c).rows.length cr, .slice Ao (tabM (hgZ off) (hgR off) key off c).ones.length co', .slice Ac (tabM (hgZ off) (hgR off) key off c).cols.length cc] := by rw [← hw3]; exact Blk.new _ _ _
    have y0 : w3.cell? ⟨w2.heap.size, 0, none⟩ = some (.slice Ar (tabM (hgZ off) (hgR off) key off c).rows.length cr) := hk3.cell 0
    have y1 : w3.cell? ⟨w2.heap.size, 1, none⟩ = some (.slice Ao (tabM (hgZ off) (hgR off) key off c).ones.length co') := hk3.cell 1
    have y2 : w3.cell? ⟨w2.heap.size, 2, none⟩ = some (.slice Ac (tabM (hgZ off) (hgR off) key off c).cols.length cc) := hk3.cell 2
    replace r0 := (hb3.cell (p := ⟨w.heap.size + 1, 0, none⟩) hRl).trans r0
    replace r1 := (hb3.cell (p := ⟨w.heap.size + 1, 1, none⟩) hRl).trans r1
    replace r2 := (hb3.cell (p := ⟨w.heap.size + 1, 2, none⟩) hRl).trans r2
    have hR3 := (Blk.step (w := w2) (w' := w3) HRR.out hb3)
    replace rf0 := hR3.free 0
    replace rf1 := hR3.free 1
    replace rf2 := hR3.free 2
    replace hRl := hR3.lt
    replace hz := Lib.hid (hz.out.below hb3)
    replace HBX := Lib.hid (below_step HBX.out hb3)
    clear hb3 hk3 hR3
    go_wp2
    refine bodyPost_ret (v := .tuple #[gbV (.slice Ar (tabM (hgZ off) (hgR off) key off c).rows.length cr) (.slice Ao (tabM (hgZ off) (hgR off) key off c).ones.length co') (.slice Ac (tabM (hgZ off) (hgR off) key off c).cols.length cc), .bool true]) (by simp [results, Tryz.results11, go_sem, gbV, r0, r1, r2]) rfl ⟨_, _, _, vs, by rw [HM.out]; rfl, ?_, ?_⟩
    · rw [HM.out]
      exact (((hz.out.setLow hlow 0 _).setLow hlow 1 _).setLow hlow 2 _).mono HB1.out.size
    · exact ((HBX.out.setCell (p := ⟨w.heap.size + 1, 0, none⟩) (by simp) _).setCell (p := ⟨w.heap.size + 1, 1, none⟩) (by simp) _).setCell (p := ⟨w.heap.size + 1, 2, none⟩) (by simp) _

theorem zerosM_len {F : Int → Int → Int → Int → Int} {R : Int → Int → Int → Int → List Int} (c : Cir) (key off : Int) : ((zerosM F R c key off).getD []).length ≤ 340 := by
  unfold zerosM
  rcases h : keyB c key off with _ | _
  · simp
  · have hc := (keyB_of h).1
    have h1 := zr_len (F := F off) (R := R off) (key := key) (off := off) hc
    have hb := cirB_bd hc
    have : c.ins.toNat ≤ 40 := by unfold Cir.ins; omega
    simp only [if_true, Option.getD_some]
    omega
theorem gb_sz (c : Cir) (key off : Int) : ((tablesM gbZ gbR c key off).getD Gb.none).sz ≤ 2097152 := by
  unfold tablesM
  rcases h : keyB c key off with _ | _
  · show Gb.none.sz ≤ 2097152; decide
  · have hv := keyB_of h
    simp only [if_true, Option.getD_some]
    exact Nat.le_trans (tab_sz (n := 3) hv.1 (gb_tab_ok hv.1 hv.2.2.1) (by omega)) (by omega)
theorem hg_sz (c : Cir) (key off : Int) : ((tablesM hgZ hgR c key off).getD Gb.none).sz ≤ 2097152 := by
  unfold tablesM
  rcases h : keyB c key off with _ | _
  · show Gb.none.sz ≤ 2097152; decide
  · have hv := keyB_of h
    simp only [if_true, Option.getD_some]
    exact Nat.le_trans (tab_sz (n := 2) hv.1 (hg_tab_ok hv.1 hv.2.2.1) (by omega)) (by omega)
end Go.Proofs.YtejeppjmlgfiaaaGreat
