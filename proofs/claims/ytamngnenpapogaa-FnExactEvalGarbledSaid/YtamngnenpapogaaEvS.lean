/- Contracts of the evaluation of garbled and halved circuits, the reference's. Conditions: the lists are short. -/
import Derived.Test.YtamngnenpapogaaWirS
import Derived.Test.YtamngnenpapogaaWirG
namespace Go.Proofs.Ytamngnenpapogaa
open Go.RowKit
set_option linter.unusedVariables false

set_option maxRecDepth 100000 in
set_option maxHeartbeats 2000000 in
theorem c_spec_EvalHalved {c : Cir} {g : Gb} {gv ov rv nv cv vi : Value} {l : List Int} {w : World} (h : CirIn w gv ov c) (h2 : GbIn w rv nv cv g) (hs : g.sz ≤ 1048576) (hi : Ints w vi l) (hl : l.length ≤ 1048576) :
    Calls Try.prog 53 #[cirV c gv ov, gbV rv nv cv, vi] w (RetIB w (evalM 2 joinM c g l)) := by
  have H := Lib.hid h
  have H2 := Lib.hid h2
  have HI := Lib.hid hi
  obtain ⟨hg, ho⟩ := h
  obtain ⟨A, cg, rfl, -⟩ := hg
  obtain ⟨A', co, rfl, -⟩ := ho
  obtain ⟨hr, ho, hcc⟩ := h2
  obtain ⟨A1, c1, rfl, -⟩ := hr.form
  obtain ⟨A2, c2, rfl, -⟩ := ho
  obtain ⟨A3, c3, rfl, -⟩ := hcc
  obtain ⟨AI, cI, rfl, -⟩ := hi
  clear hr
  unfold cirV gbV
  obtain ⟨w0, hw0⟩ : ∃ W, (w.alloc (.cells #[.int .i64 c.i0, .int .i64 c.i1, .slice A c.gs.length cg, .slice A' c.outs.length co] 31)).alloc (.cells #[.slice A1 g.rows.length c1, .slice A2 g.ones.length c2, .slice A3 g.cols.length c3] 54) = W := ⟨_, rfl⟩
  have HKC := Lib.hid ((Blk.new w 31 #[.int .i64 c.i0, .int .i64 c.i1, .slice A c.gs.length cg, .slice A' c.outs.length co]).alloc (.cells #[.slice A1 g.rows.length c1, .slice A2 g.ones.length c2, .slice A3 g.cols.length c3] 54))
  rw [hw0] at HKC
  have HKG := Lib.hid (Blk.new (w.alloc (.cells #[.int .i64 c.i0, .int .i64 c.i1, .slice A c.gs.length cg, .slice A' c.outs.length co] 31)) 54 #[.slice A1 g.rows.length c1, .slice A2 g.ones.length c2, .slice A3 g.cols.length c3])
  simp only [World.size_alloc, hw0] at HKG
  have HB : Hid (Below w.heap.size w w0) := by rw [← hw0]; exact ((Below.refl w.heap.size w).alloc (Nat.le_refl _) _).alloc (by simp) _
  have x0 : w0.cell? ⟨w.heap.size, 0, none⟩ = some (.int .i64 c.i0) := HKC.out.cell 0
  have x1 : w0.cell? ⟨w.heap.size, 1, none⟩ = some (.int .i64 c.i1) := HKC.out.cell 1
  have x2 : w0.cell? ⟨w.heap.size, 2, none⟩ = some (.slice A c.gs.length cg) := HKC.out.cell 2
  have x3 : w0.cell? ⟨w.heap.size, 3, none⟩ = some (.slice A' c.outs.length co) := HKC.out.cell 3
  have y0 : w0.cell? ⟨w.heap.size + 1, 0, none⟩ = some (.slice A1 g.rows.length c1) := HKG.out.cell 0
  have y1 : w0.cell? ⟨w.heap.size + 1, 1, none⟩ = some (.slice A2 g.ones.length c2) := HKG.out.cell 1
  have y2 : w0.cell? ⟨w.heap.size + 1, 2, none⟩ = some (.slice A3 g.cols.length c3) := HKG.out.cell 2
  go_enter Try.func53, Try.ntmps53
  go_wp2_with fail
  clear hw0 x0 x1 x2 x3 y0 y1 y2
  refine (c_spec_ciGood (H.out.below HB.out)).mono ?_
  rintro e w1 ⟨rfl, hb⟩
  replace HB := Lib.hid (below_step HB.out hb)
  replace HKC := Lib.hid (HKC.out.step hb)
  replace HKG := Lib.hid (HKG.out.step hb)
  clear hb
  rcases hc : cirB c with _ | _
  · have HM := Lib.hid (show evalM 2 joinM c g l = none by simp [evalM, hc])
    go_wp2
    go_ret2; rw [HM.out]; exact RetIB.no_below HB.out
  have x0 : w1.cell? ⟨w.heap.size, 0, none⟩ = some (.int .i64 c.i0) := HKC.out.cell 0
  have x1 : w1.cell? ⟨w.heap.size, 1, none⟩ = some (.int .i64 c.i1) := HKC.out.cell 1
  have x2 : w1.cell? ⟨w.heap.size, 2, none⟩ = some (.slice A c.gs.length cg) := HKC.out.cell 2
  have x3 : w1.cell? ⟨w.heap.size, 3, none⟩ = some (.slice A' c.outs.length co) := HKC.out.cell 3
  have y0 : w1.cell? ⟨w.heap.size + 1, 0, none⟩ = some (.slice A1 g.rows.length c1) := HKG.out.cell 0
  have y1 : w1.cell? ⟨w.heap.size + 1, 1, none⟩ = some (.slice A2 g.ones.length c2) := HKG.out.cell 1
  have y2 : w1.cell? ⟨w.heap.size + 1, 2, none⟩ = some (.slice A3 g.cols.length c3) := HKG.out.cell 2
  have HC := Lib.hid hc
  clear hc
  go_wp2_with fail
  clear x0 x1 x2 x3 y0 y1 y2
  refine (c_spec_hgGood (H.out.below HB.out) HC.out (H2.out.below HB.out) hs).mono ?_
  rintro e w2 ⟨rfl, hb⟩
  replace HB := Lib.hid (below_step HB.out hb)
  replace HKC := Lib.hid (HKC.out.step hb)
  replace HKG := Lib.hid (HKG.out.step hb)
  clear hb
  rcases ht : tabB 2 c g with _ | _
  · have HM := Lib.hid (show evalM 2 joinM c g l = none by simp [evalM, ht])
    go_wp2
    go_ret2; rw [HM.out]; exact RetIB.no_below HB.out
  have x0 : w2.cell? ⟨w.heap.size, 0, none⟩ = some (.int .i64 c.i0) := HKC.out.cell 0
  have x1 : w2.cell? ⟨w.heap.size, 1, none⟩ = some (.int .i64 c.i1) := HKC.out.cell 1
  have x2 : w2.cell? ⟨w.heap.size, 2, none⟩ = some (.slice A c.gs.length cg) := HKC.out.cell 2
  have x3 : w2.cell? ⟨w.heap.size, 3, none⟩ = some (.slice A' c.outs.length co) := HKC.out.cell 3
  have y0 : w2.cell? ⟨w.heap.size + 1, 0, none⟩ = some (.slice A1 g.rows.length c1) := HKG.out.cell 0
  have y1 : w2.cell? ⟨w.heap.size + 1, 1, none⟩ = some (.slice A2 g.ones.length c2) := HKG.out.cell 1
  have y2 : w2.cell? ⟨w.heap.size + 1, 2, none⟩ = some (.slice A3 g.cols.length c3) := HKG.out.cell 2
  have HT := Lib.hid ht
  have hbd := cirB_bd HC.out
  have hins : 0 ≤ c.ins ∧ c.ins ≤ 40 := by unfold Cir.ins; omega
  clear ht
  go_wp2_with fail
  clear x0 x1 x2 x3 y0 y1 y2
  refine (c_spec_ciInputs (H.out.below HB.out) ⟨hbd.1, hbd.2.1, hbd.2.2.1, hbd.2.2.2.1⟩).mono ?_
  rintro e w3 ⟨rfl, hb⟩
  replace HB := Lib.hid (below_step HB.out hb)
  replace HKC := Lib.hid (HKC.out.step hb)
  replace HKG := Lib.hid (HKG.out.step hb)
  clear hb
  rcases hn : ((l.length : Int) != c.ins) with _ | _
  rotate_left
  · have HM := Lib.hid (show evalM 2 joinM c g l = none by (have : ¬ (l.length : Int) = c.ins := (by simpa using hn)); simp [evalM, this])
    go_wp2
    go_ret2; rw [HM.out]; exact RetIB.no_below HB.out
  have HN := Lib.hid (show (l.length : Int) = c.ins by simpa using hn)
  have hol : c.outs.length ≤ 40 := hbd.2.2.2.2.2
  clear hbd
  go_wp2_with fail
  refine (c_spec_l1All (HI.out.below HB.out) (by omega)).mono ?_
  rintro e w' ⟨rfl, rfl⟩
  rcases ha : allB l 0 65535 with _ | _
  · have HM := Lib.hid (show evalM 2 joinM c g l = none by simp [evalM, ha])
    go_wp2
    go_ret2; rw [HM.out]; exact RetIB.no_below HB.out
  have x0 : w3.cell? ⟨w.heap.size, 0, none⟩ = some (.int .i64 c.i0) := HKC.out.cell 0
  have x1 : w3.cell? ⟨w.heap.size, 1, none⟩ = some (.int .i64 c.i1) := HKC.out.cell 1
  have x2 : w3.cell? ⟨w.heap.size, 2, none⟩ = some (.slice A c.gs.length cg) := HKC.out.cell 2
  have x3 : w3.cell? ⟨w.heap.size, 3, none⟩ = some (.slice A' c.outs.length co) := HKC.out.cell 3
  have y0 : w3.cell? ⟨w.heap.size + 1, 0, none⟩ = some (.slice A1 g.rows.length c1) := HKG.out.cell 0
  have y1 : w3.cell? ⟨w.heap.size + 1, 1, none⟩ = some (.slice A2 g.ones.length c2) := HKG.out.cell 1
  have y2 : w3.cell? ⟨w.heap.size + 1, 2, none⟩ = some (.slice A3 g.cols.length c3) := HKG.out.cell 2
  have HA := Lib.hid ha
  have HM := Lib.hid (show evalM 2 joinM c g l = some (pickM (wiresM joinM g l c.gs).1 c.outs) by unfold evalM; rw [HC.out, HT.out, HA.out, HN.out]; simp)
  clear ha
  go_wp2_with fail
  clear x0 x1 x2 x3 y0 y1 y2
  refine (c_spec_hgEval (H.out.below HB.out) HC.out (H2.out.below HB.out) HT.out (HI.out.below HB.out) HN.out (allB_bd HA.out)).mono ?_
  rintro e w4 ⟨u, rfl, hu, hb⟩
  go_wp2
  go_ret2; rw [HM.out]; exact RetIB.yes (hu.mono HB.out.size) (below_step HB.out hb)
set_option maxRecDepth 100000 in
set_option maxHeartbeats 2000000 in
theorem c_spec_EvalGarbled {c : Cir} {g : Gb} {gv ov rv nv cv vi : Value} {l : List Int} {w : World} (h : CirIn w gv ov c) (h2 : GbIn w rv nv cv g) (hs : g.sz ≤ 1048576) (hi : Ints w vi l) (hl : l.length ≤ 1048576) :
    Calls Try.prog 51 #[cirV c gv ov, gbV rv nv cv, vi] w (RetIB w (evalM 3 openM c g l)) := by
  have H := Lib.hid h
  have H2 := Lib.hid h2
  have HI := Lib.hid hi
  obtain ⟨hg, ho⟩ := h
  obtain ⟨A, cg, rfl, -⟩ := hg
  obtain ⟨A', co, rfl, -⟩ := ho
  obtain ⟨hr, ho, hcc⟩ := h2
  obtain ⟨A1, c1, rfl, -⟩ := hr.form
  obtain ⟨A2, c2, rfl, -⟩ := ho
  obtain ⟨A3, c3, rfl, -⟩ := hcc
  obtain ⟨AI, cI, rfl, -⟩ := hi
  clear hr
  unfold cirV gbV
  obtain ⟨w0, hw0⟩ : ∃ W, (w.alloc (.cells #[.int .i64 c.i0, .int .i64 c.i1, .slice A c.gs.length cg, .slice A' c.outs.length co] 31)).alloc (.cells #[.slice A1 g.rows.length c1, .slice A2 g.ones.length c2, .slice A3 g.cols.length c3] 47) = W := ⟨_, rfl⟩
  have HKC := Lib.hid ((Blk.new w 31 #[.int .i64 c.i0, .int .i64 c.i1, .slice A c.gs.length cg, .slice A' c.outs.length co]).alloc (.cells #[.slice A1 g.rows.length c1, .slice A2 g.ones.length c2, .slice A3 g.cols.length c3] 47))
  rw [hw0] at HKC
  have HKG := Lib.hid (Blk.new (w.alloc (.cells #[.int .i64 c.i0, .int .i64 c.i1, .slice A c.gs.length cg, .slice A' c.outs.length co] 31)) 47 #[.slice A1 g.rows.length c1, .slice A2 g.ones.length c2, .slice A3 g.cols.length c3])
  simp only [World.size_alloc, hw0] at HKG
  have HB : Hid (Below w.heap.size w w0) := by rw [← hw0]; exact ((Below.refl w.heap.size w).alloc (Nat.le_refl _) _).alloc (by simp) _
  have x0 : w0.cell? ⟨w.heap.size, 0, none⟩ = some (.int .i64 c.i0) := HKC.out.cell 0
  have x1 : w0.cell? ⟨w.heap.size, 1, none⟩ = some (.int .i64 c.i1) := HKC.out.cell 1
  have x2 : w0.cell? ⟨w.heap.size, 2, none⟩ = some (.slice A c.gs.length cg) := HKC.out.cell 2
  have x3 : w0.cell? ⟨w.heap.size, 3, none⟩ = some (.slice A' c.outs.length co) := HKC.out.cell 3
  have y0 : w0.cell? ⟨w.heap.size + 1, 0, none⟩ = some (.slice A1 g.rows.length c1) := HKG.out.cell 0
  have y1 : w0.cell? ⟨w.heap.size + 1, 1, none⟩ = some (.slice A2 g.ones.length c2) := HKG.out.cell 1
  have y2 : w0.cell? ⟨w.heap.size + 1, 2, none⟩ = some (.slice A3 g.cols.length c3) := HKG.out.cell 2
  go_enter Try.func51, Try.ntmps51
  go_wp2_with fail
  clear hw0 x0 x1 x2 x3 y0 y1 y2
  refine (c_spec_ciGood (H.out.below HB.out)).mono ?_
  rintro e w1 ⟨rfl, hb⟩
  replace HB := Lib.hid (below_step HB.out hb)
  replace HKC := Lib.hid (HKC.out.step hb)
  replace HKG := Lib.hid (HKG.out.step hb)
  clear hb
  rcases hc : cirB c with _ | _
  · have HM := Lib.hid (show evalM 3 openM c g l = none by simp [evalM, hc])
    go_wp2
    go_ret2; rw [HM.out]; exact RetIB.no_below HB.out
  have x0 : w1.cell? ⟨w.heap.size, 0, none⟩ = some (.int .i64 c.i0) := HKC.out.cell 0
  have x1 : w1.cell? ⟨w.heap.size, 1, none⟩ = some (.int .i64 c.i1) := HKC.out.cell 1
  have x2 : w1.cell? ⟨w.heap.size, 2, none⟩ = some (.slice A c.gs.length cg) := HKC.out.cell 2
  have x3 : w1.cell? ⟨w.heap.size, 3, none⟩ = some (.slice A' c.outs.length co) := HKC.out.cell 3
  have y0 : w1.cell? ⟨w.heap.size + 1, 0, none⟩ = some (.slice A1 g.rows.length c1) := HKG.out.cell 0
  have y1 : w1.cell? ⟨w.heap.size + 1, 1, none⟩ = some (.slice A2 g.ones.length c2) := HKG.out.cell 1
  have y2 : w1.cell? ⟨w.heap.size + 1, 2, none⟩ = some (.slice A3 g.cols.length c3) := HKG.out.cell 2
  have HC := Lib.hid hc
  clear hc
  go_wp2_with fail
  clear x0 x1 x2 x3 y0 y1 y2
  refine (c_spec_gbGood (H.out.below HB.out) HC.out (H2.out.below HB.out) hs).mono ?_
  rintro e w2 ⟨rfl, hb⟩
  replace HB := Lib.hid (below_step HB.out hb)
  replace HKC := Lib.hid (HKC.out.step hb)
  replace HKG := Lib.hid (HKG.out.step hb)
  clear hb
  rcases ht : tabB 3 c g with _ | _
  · have HM := Lib.hid (show evalM 3 openM c g l = none by simp [evalM, ht])
    go_wp2
    go_ret2; rw [HM.out]; exact RetIB.no_below HB.out
  have x0 : w2.cell? ⟨w.heap.size, 0, none⟩ = some (.int .i64 c.i0) := HKC.out.cell 0
  have x1 : w2.cell? ⟨w.heap.size, 1, none⟩ = some (.int .i64 c.i1) := HKC.out.cell 1
  have x2 : w2.cell? ⟨w.heap.size, 2, none⟩ = some (.slice A c.gs.length cg) := HKC.out.cell 2
  have x3 : w2.cell? ⟨w.heap.size, 3, none⟩ = some (.slice A' c.outs.length co) := HKC.out.cell 3
  have y0 : w2.cell? ⟨w.heap.size + 1, 0, none⟩ = some (.slice A1 g.rows.length c1) := HKG.out.cell 0
  have y1 : w2.cell? ⟨w.heap.size + 1, 1, none⟩ = some (.slice A2 g.ones.length c2) := HKG.out.cell 1
  have y2 : w2.cell? ⟨w.heap.size + 1, 2, none⟩ = some (.slice A3 g.cols.length c3) := HKG.out.cell 2
  have HT := Lib.hid ht
  have hbd := cirB_bd HC.out
  have hins : 0 ≤ c.ins ∧ c.ins ≤ 40 := by unfold Cir.ins; omega
  clear ht
  go_wp2_with fail
  clear x0 x1 x2 x3 y0 y1 y2
  refine (c_spec_ciInputs (H.out.below HB.out) ⟨hbd.1, hbd.2.1, hbd.2.2.1, hbd.2.2.2.1⟩).mono ?_
  rintro e w3 ⟨rfl, hb⟩
  replace HB := Lib.hid (below_step HB.out hb)
  replace HKC := Lib.hid (HKC.out.step hb)
  replace HKG := Lib.hid (HKG.out.step hb)
  clear hb
  rcases hn : ((l.length : Int) != c.ins) with _ | _
  rotate_left
  · have HM := Lib.hid (show evalM 3 openM c g l = none by (have : ¬ (l.length : Int) = c.ins := (by simpa using hn)); simp [evalM, this])
    go_wp2
    go_ret2; rw [HM.out]; exact RetIB.no_below HB.out
  have HN := Lib.hid (show (l.length : Int) = c.ins by simpa using hn)
  have hol : c.outs.length ≤ 40 := hbd.2.2.2.2.2
  have HLB := Lib.hid (show labsB l = allB l 0 65535 by have h2 := HN.out; simp [labsB]; intro _; omega)
  clear hbd
  go_wp2_with fail
  refine (c_spec_lbAll (HI.out.below HB.out) (by omega)).mono ?_
  rw [HLB.out]
  rintro e w' ⟨rfl, rfl⟩
  rcases ha : allB l 0 65535 with _ | _
  · have HM := Lib.hid (show evalM 3 openM c g l = none by simp [evalM, ha])
    go_wp2
    go_ret2; rw [HM.out]; exact RetIB.no_below HB.out
  have x0 : w3.cell? ⟨w.heap.size, 0, none⟩ = some (.int .i64 c.i0) := HKC.out.cell 0
  have x1 : w3.cell? ⟨w.heap.size, 1, none⟩ = some (.int .i64 c.i1) := HKC.out.cell 1
  have x2 : w3.cell? ⟨w.heap.size, 2, none⟩ = some (.slice A c.gs.length cg) := HKC.out.cell 2
  have x3 : w3.cell? ⟨w.heap.size, 3, none⟩ = some (.slice A' c.outs.length co) := HKC.out.cell 3
  have y0 : w3.cell? ⟨w.heap.size + 1, 0, none⟩ = some (.slice A1 g.rows.length c1) := HKG.out.cell 0
  have y1 : w3.cell? ⟨w.heap.size + 1, 1, none⟩ = some (.slice A2 g.ones.length c2) := HKG.out.cell 1
  have y2 : w3.cell? ⟨w.heap.size + 1, 2, none⟩ = some (.slice A3 g.cols.length c3) := HKG.out.cell 2
  have HA := Lib.hid ha
  have HM := Lib.hid (show evalM 3 openM c g l = some (pickM (wiresM openM g l c.gs).1 c.outs) by unfold evalM; rw [HC.out, HT.out, HA.out, HN.out]; simp)
  clear ha
  go_wp2_with fail
  clear x0 x1 x2 x3 y0 y1 y2
  refine (c_spec_gbWires (H.out.below HB.out) HC.out (H2.out.below HB.out) HT.out (HI.out.below HB.out) HN.out (allB_bd HA.out)).mono ?_
  rintro e w4 ⟨u1, u2, rfl, hu1, hu2, hb⟩
  have HU := Lib.hid (show Ints w4 u1 (wiresM openM g l c.gs).1 by have := hu1.ints; rw [used_fst] at this; exact this)
  have hsz3 := HB.out.size
  replace HB := Lib.hid (below_step HB.out hb)
  replace HKC := Lib.hid (HKC.out.step hb)
  replace HKG := Lib.hid (HKG.out.step hb)
  clear hb hu1 hu2
  have x0 : w4.cell? ⟨w.heap.size, 0, none⟩ = some (.int .i64 c.i0) := HKC.out.cell 0
  have x1 : w4.cell? ⟨w.heap.size, 1, none⟩ = some (.int .i64 c.i1) := HKC.out.cell 1
  have x2 : w4.cell? ⟨w.heap.size, 2, none⟩ = some (.slice A c.gs.length cg) := HKC.out.cell 2
  have x3 : w4.cell? ⟨w.heap.size, 3, none⟩ = some (.slice A' c.outs.length co) := HKC.out.cell 3
  have y0 : w4.cell? ⟨w.heap.size + 1, 0, none⟩ = some (.slice A1 g.rows.length c1) := HKG.out.cell 0
  have y1 : w4.cell? ⟨w.heap.size + 1, 1, none⟩ = some (.slice A2 g.ones.length c2) := HKG.out.cell 1
  have y2 : w4.cell? ⟨w.heap.size + 1, 2, none⟩ = some (.slice A3 g.cols.length c3) := HKG.out.cell 2
  go_wp2_with fail
  refine (c_spec_ciPick HU.out (H.out.below HB.out).outs (Nat.le_trans (wires_len HC.out HN.out) (by omega)) (by omega) (outs_bd HC.out HN.out)).mono ?_
  rintro e w5 ⟨u, rfl, hu, hb⟩
  go_wp2
  go_ret2; rw [HM.out]; exact RetIB.yes (hu.mono HB.out.size) (below_step HB.out hb)
end Go.Proofs.Ytamngnenpapogaa
