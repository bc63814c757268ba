/- Contracts of the bending of one row, the reference model. Conditions: the tables are short. -/
import Derived.Test.YtamngnenpapogaaBendX
import Derived.Test.YtamngnenpapogaaWir
namespace Go.Proofs.Ytamngnenpapogaa
open Go.RowKit
set_option linter.unusedVariables false

set_option maxRecDepth 100000 in
set_option maxHeartbeats 4000000 in
theorem c_spec_BendRow {c : Cir} {g : Gb} {gv qv rv nv cv : Value} {w : World} {k row m : Int} (hC : CirIn w gv qv c) (h : GbIn w rv nv cv g) (hs : g.sz ≤ 1048576) :
    Calls Try.prog 48 #[cirV c gv qv, gbV rv nv cv, .int .i64 k, .int .i64 row, .int .i64 m] w (RetGbB w (bendM 3 1 3 c g k row m)) := by
  have H := Lib.hid h
  have HS := Lib.hid hs
  obtain ⟨hrw, ho, hc⟩ := h
  obtain ⟨A, c9, rfl, -⟩ := hrw.form
  obtain ⟨A1, c1, rfl, -⟩ := ho
  obtain ⟨A2, c2, rfl, -⟩ := hc
  have hol : g.ones.length ≤ 1048576 := by unfold Gb.sz at hs; omega
  have hcl : g.cols.length ≤ 1048576 := by unfold Gb.sz at hs; omega
  have hrl : g.rows.length ≤ 1048576 := by unfold Gb.sz at hs; omega
  have HRL := Lib.hid (Gb.row_le hs)
  obtain ⟨A', c', e', hlc, hcm, hat⟩ := hrw.form
  injection e' with e1 e2 e3
  subst e1 e3
  have HAT := Lib.hid hat
  clear hrw hs hat
  have HC := Lib.hid hC
  obtain ⟨hg, ho⟩ := hC
  obtain ⟨Ag, cg, rfl, -⟩ := hg
  obtain ⟨Aq, cq, rfl, -⟩ := ho
  unfold cirV gbV
  obtain ⟨w0, hw0⟩ : ∃ W, (((w.alloc (.cells #[.int .i64 c.i0, .int .i64 c.i1, .slice Ag c.gs.length cg, .slice Aq c.outs.length cq] 31)).alloc (.cells #[.slice A g.rows.length c9, .slice A1 g.ones.length c1, .slice A2 g.cols.length c2] 47)).alloc (.cells #[.slice none 0 0, .slice none 0 0, .slice none 0 0] 47)) = W := ⟨_, rfl⟩
  have HK0 : Hid (Blk w0 w.heap.size 31 #[.int .i64 c.i0, .int .i64 c.i1, .slice Ag c.gs.length cg, .slice Aq c.outs.length cq]) := by rw [← hw0]; exact ((Blk.new _ _ _).alloc _).alloc _
  have HK1 : Hid (Blk w0 (w.heap.size + 1) 47 #[.slice A g.rows.length c9, .slice A1 g.ones.length c1, .slice A2 g.cols.length c2]) := by rw [← hw0]; have := (Blk.new (w.alloc (.cells #[.int .i64 c.i0, .int .i64 c.i1, .slice Ag c.gs.length cg, .slice Aq c.outs.length cq] 31)) 47 #[.slice A g.rows.length c9, .slice A1 g.ones.length c1, .slice A2 g.cols.length c2]).alloc (.cells #[.slice none 0 0, .slice none 0 0, .slice none 0 0] 47); simp only [World.size_alloc] at this; exact this
  have HK2 : Hid (Blk w0 (w.heap.size + 1 + 1) 47 #[.slice none 0 0, .slice none 0 0, .slice none 0 0]) := by rw [← hw0]; have := Blk.new ((w.alloc (.cells #[.int .i64 c.i0, .int .i64 c.i1, .slice Ag c.gs.length cg, .slice Aq c.outs.length cq] 31)).alloc (.cells #[.slice A g.rows.length c9, .slice A1 g.ones.length c1, .slice A2 g.cols.length c2] 47)) 47 #[.slice none 0 0, .slice none 0 0, .slice none 0 0]; simp only [World.size_alloc] at this; exact this
  have HB : Hid (Below w.heap.size w w0) := by rw [← hw0]; exact (((Below.refl _ _).alloc (Nat.le_refl _) _).alloc (by simp) _).alloc (by simp; omega) _
  rcases k1 : cirB c with _ | _
  · skip
    have HM := Lib.hid (show bendM 3 1 3 c g k row m = none by unfold bendM; simp [k1])
    have xa0 : w0.cell? ⟨w.heap.size, 0, none⟩ = some (.int .i64 c.i0) := HK0.out.cell 0
    have xa1 : w0.cell? ⟨w.heap.size, 1, none⟩ = some (.int .i64 c.i1) := HK0.out.cell 1
    have xa2 : w0.cell? ⟨w.heap.size, 2, none⟩ = some (.slice Ag c.gs.length cg) := HK0.out.cell 2
    have xa3 : w0.cell? ⟨w.heap.size, 3, none⟩ = some (.slice Aq c.outs.length cq) := HK0.out.cell 3
    have xb0 : w0.cell? ⟨w.heap.size + 1, 0, none⟩ = some (.slice A g.rows.length c9) := HK1.out.cell 0
    have xb1 : w0.cell? ⟨w.heap.size + 1, 1, none⟩ = some (.slice A1 g.ones.length c1) := HK1.out.cell 1
    have xb2 : w0.cell? ⟨w.heap.size + 1, 2, none⟩ = some (.slice A2 g.cols.length c2) := HK1.out.cell 2
    have xr0 : w0.cell? ⟨w.heap.size + 1 + 1, 0, none⟩ = some (.slice none 0 0) := HK2.out.cell 0
    have xrf0 : w0.frozen? ⟨w.heap.size + 1 + 1, 0, none⟩ = false := HK2.out.free 0
    have xr1 : w0.cell? ⟨w.heap.size + 1 + 1, 1, none⟩ = some (.slice none 0 0) := HK2.out.cell 1
    have xrf1 : w0.frozen? ⟨w.heap.size + 1 + 1, 1, none⟩ = false := HK2.out.free 1
    have xr2 : w0.cell? ⟨w.heap.size + 1 + 1, 2, none⟩ = some (.slice none 0 0) := HK2.out.cell 2
    have xrf2 : w0.frozen? ⟨w.heap.size + 1 + 1, 2, none⟩ = false := HK2.out.free 2
    go_enter Try.func48, Try.ntmps48
    go_wp2_with fail
    clear hw0
    refine (c_spec_ciGood (HC.out.below HB.out)).mono ?_
    rintro e wz ⟨rfl, hb⟩
    clear xa0 xa1 xa2 xa3 xb0 xb1 xb2 xr0 xr1 xr2 xrf0 xrf1 xrf2
    replace HK0 := Lib.hid (HK0.out.step hb)
    replace HK1 := Lib.hid (HK1.out.step hb)
    replace HK2 := Lib.hid (HK2.out.step hb)
    replace HB := Lib.hid (below_step HB.out hb)
    clear hb
    have xa0 : wz.cell? ⟨w.heap.size, 0, none⟩ = some (.int .i64 c.i0) := HK0.out.cell 0
    have xa1 : wz.cell? ⟨w.heap.size, 1, none⟩ = some (.int .i64 c.i1) := HK0.out.cell 1
    have xa2 : wz.cell? ⟨w.heap.size, 2, none⟩ = some (.slice Ag c.gs.length cg) := HK0.out.cell 2
    have xa3 : wz.cell? ⟨w.heap.size, 3, none⟩ = some (.slice Aq c.outs.length cq) := HK0.out.cell 3
    have xb0 : wz.cell? ⟨w.heap.size + 1, 0, none⟩ = some (.slice A g.rows.length c9) := HK1.out.cell 0
    have xb1 : wz.cell? ⟨w.heap.size + 1, 1, none⟩ = some (.slice A1 g.ones.length c1) := HK1.out.cell 1
    have xb2 : wz.cell? ⟨w.heap.size + 1, 2, none⟩ = some (.slice A2 g.cols.length c2) := HK1.out.cell 2
    have xr0 : wz.cell? ⟨w.heap.size + 1 + 1, 0, none⟩ = some (.slice none 0 0) := HK2.out.cell 0
    have xrf0 : wz.frozen? ⟨w.heap.size + 1 + 1, 0, none⟩ = false := HK2.out.free 0
    have xr1 : wz.cell? ⟨w.heap.size + 1 + 1, 1, none⟩ = some (.slice none 0 0) := HK2.out.cell 1
    have xrf1 : wz.frozen? ⟨w.heap.size + 1 + 1, 1, none⟩ = false := HK2.out.free 1
    have xr2 : wz.cell? ⟨w.heap.size + 1 + 1, 2, none⟩ = some (.slice none 0 0) := HK2.out.cell 2
    have xrf2 : wz.frozen? ⟨w.heap.size + 1 + 1, 2, none⟩ = false := HK2.out.free 2
    go_wp2
    refine bodyPost_ret (v := .tuple #[gbV (.slice none 0 0) (.slice none 0 0) (.slice none 0 0), .bool false]) (by simp [results, Try.results48, go_sem, gbV, xr0, xr1, xr2]) rfl ?_
    rw [HM.out]
    exact RetGbB.no (((HB.out.setCell (p := ⟨w.heap.size + 1 + 1, 0, none⟩) (by simp; omega) _).setCell (p := ⟨w.heap.size + 1 + 1, 1, none⟩) (by simp; omega) _).setCell (p := ⟨w.heap.size + 1 + 1, 2, none⟩) (by simp; omega) _)
  rcases k2 : tabB 3 c g with _ | _
  · skip
    have HM := Lib.hid (show bendM 3 1 3 c g k row m = none by unfold bendM; simp [k1, k2])
    have xa0 : w0.cell? ⟨w.heap.size, 0, none⟩ = some (.int .i64 c.i0) := HK0.out.cell 0
    have xa1 : w0.cell? ⟨w.heap.size, 1, none⟩ = some (.int .i64 c.i1) := HK0.out.cell 1
    have xa2 : w0.cell? ⟨w.heap.size, 2, none⟩ = some (.slice Ag c.gs.length cg) := HK0.out.cell 2
    have xa3 : w0.cell? ⟨w.heap.size, 3, none⟩ = some (.slice Aq c.outs.length cq) := HK0.out.cell 3
    have xb0 : w0.cell? ⟨w.heap.size + 1, 0, none⟩ = some (.slice A g.rows.length c9) := HK1.out.cell 0
    have xb1 : w0.cell? ⟨w.heap.size + 1, 1, none⟩ = some (.slice A1 g.ones.length c1) := HK1.out.cell 1
    have xb2 : w0.cell? ⟨w.heap.size + 1, 2, none⟩ = some (.slice A2 g.cols.length c2) := HK1.out.cell 2
    have xr0 : w0.cell? ⟨w.heap.size + 1 + 1, 0, none⟩ = some (.slice none 0 0) := HK2.out.cell 0
    have xrf0 : w0.frozen? ⟨w.heap.size + 1 + 1, 0, none⟩ = false := HK2.out.free 0
    have xr1 : w0.cell? ⟨w.heap.size + 1 + 1, 1, none⟩ = some (.slice none 0 0) := HK2.out.cell 1
    have xrf1 : w0.frozen? ⟨w.heap.size + 1 + 1, 1, none⟩ = false := HK2.out.free 1
    have xr2 : w0.cell? ⟨w.heap.size + 1 + 1, 2, none⟩ = some (.slice none 0 0) := HK2.out.cell 2
    have xrf2 : w0.frozen? ⟨w.heap.size + 1 + 1, 2, none⟩ = false := HK2.out.free 2
    go_enter Try.func48, Try.ntmps48
    go_wp2_with fail
    clear hw0
    refine (c_spec_ciGood (HC.out.below HB.out)).mono ?_
    rintro e u0 ⟨rfl, hb⟩
    clear xa0 xa1 xa2 xa3 xb0 xb1 xb2 xr0 xr1 xr2 xrf0 xrf1 xrf2
    replace HK0 := Lib.hid (HK0.out.step hb)
    replace HK1 := Lib.hid (HK1.out.step hb)
    replace HK2 := Lib.hid (HK2.out.step hb)
    replace HB := Lib.hid (below_step HB.out hb)
    clear hb
    have xa0 : u0.cell? ⟨w.heap.size, 0, none⟩ = some (.int .i64 c.i0) := HK0.out.cell 0
    have xa1 : u0.cell? ⟨w.heap.size, 1, none⟩ = some (.int .i64 c.i1) := HK0.out.cell 1
    have xa2 : u0.cell? ⟨w.heap.size, 2, none⟩ = some (.slice Ag c.gs.length cg) := HK0.out.cell 2
    have xa3 : u0.cell? ⟨w.heap.size, 3, none⟩ = some (.slice Aq c.outs.length cq) := HK0.out.cell 3
    have xb0 : u0.cell? ⟨w.heap.size + 1, 0, none⟩ = some (.slice A g.rows.length c9) := HK1.out.cell 0
    have xb1 : u0.cell? ⟨w.heap.size + 1, 1, none⟩ = some (.slice A1 g.ones.length c1) := HK1.out.cell 1
    have xb2 : u0.cell? ⟨w.heap.size + 1, 2, none⟩ = some (.slice A2 g.cols.length c2) := HK1.out.cell 2
    have xr0 : u0.cell? ⟨w.heap.size + 1 + 1, 0, none⟩ = some (.slice none 0 0) := HK2.out.cell 0
    have xrf0 : u0.frozen? ⟨w.heap.size + 1 + 1, 0, none⟩ = false := HK2.out.free 0
    have xr1 : u0.cell? ⟨w.heap.size + 1 + 1, 1, none⟩ = some (.slice none 0 0) := HK2.out.cell 1
    have xrf1 : u0.frozen? ⟨w.heap.size + 1 + 1, 1, none⟩ = false := HK2.out.free 1
    have xr2 : u0.cell? ⟨w.heap.size + 1 + 1, 2, none⟩ = some (.slice none 0 0) := HK2.out.cell 2
    have xrf2 : u0.frozen? ⟨w.heap.size + 1 + 1, 2, none⟩ = false := HK2.out.free 2
    go_wp2_with fail
    refine (c_spec_gbGood (HC.out.below HB.out) k1 (H.out.below HB.out) HS.out).mono ?_
    rintro e wz ⟨rfl, hb⟩
    clear xa0 xa1 xa2 xa3 xb0 xb1 xb2 xr0 xr1 xr2 xrf0 xrf1 xrf2
    replace HK0 := Lib.hid (HK0.out.step hb)
    replace HK1 := Lib.hid (HK1.out.step hb)
    replace HK2 := Lib.hid (HK2.out.step hb)
    replace HB := Lib.hid (below_step HB.out hb)
    clear hb
    have xa0 : wz.cell? ⟨w.heap.size, 0, none⟩ = some (.int .i64 c.i0) := HK0.out.cell 0
    have xa1 : wz.cell? ⟨w.heap.size, 1, none⟩ = some (.int .i64 c.i1) := HK0.out.cell 1
    have xa2 : wz.cell? ⟨w.heap.size, 2, none⟩ = some (.slice Ag c.gs.length cg) := HK0.out.cell 2
    have xa3 : wz.cell? ⟨w.heap.size, 3, none⟩ = some (.slice Aq c.outs.length cq) := HK0.out.cell 3
    have xb0 : wz.cell? ⟨w.heap.size + 1, 0, none⟩ = some (.slice A g.rows.length c9) := HK1.out.cell 0
    have xb1 : wz.cell? ⟨w.heap.size + 1, 1, none⟩ = some (.slice A1 g.ones.length c1) := HK1.out.cell 1
    have xb2 : wz.cell? ⟨w.heap.size + 1, 2, none⟩ = some (.slice A2 g.cols.length c2) := HK1.out.cell 2
    have xr0 : wz.cell? ⟨w.heap.size + 1 + 1, 0, none⟩ = some (.slice none 0 0) := HK2.out.cell 0
    have xrf0 : wz.frozen? ⟨w.heap.size + 1 + 1, 0, none⟩ = false := HK2.out.free 0
    have xr1 : wz.cell? ⟨w.heap.size + 1 + 1, 1, none⟩ = some (.slice none 0 0) := HK2.out.cell 1
    have xrf1 : wz.frozen? ⟨w.heap.size + 1 + 1, 1, none⟩ = false := HK2.out.free 1
    have xr2 : wz.cell? ⟨w.heap.size + 1 + 1, 2, none⟩ = some (.slice none 0 0) := HK2.out.cell 2
    have xrf2 : wz.frozen? ⟨w.heap.size + 1 + 1, 2, none⟩ = false := HK2.out.free 2
    go_wp2
    refine bodyPost_ret (v := .tuple #[gbV (.slice none 0 0) (.slice none 0 0) (.slice none 0 0), .bool false]) (by simp [results, Try.results48, go_sem, gbV, xr0, xr1, xr2]) rfl ?_
    rw [HM.out]
    exact RetGbB.no (((HB.out.setCell (p := ⟨w.heap.size + 1 + 1, 0, none⟩) (by simp; omega) _).setCell (p := ⟨w.heap.size + 1 + 1, 1, none⟩) (by simp; omega) _).setCell (p := ⟨w.heap.size + 1 + 1, 2, none⟩) (by simp; omega) _)
  rcases k3 : inB k 0 ((g.rows.length : Int) - 1) with _ | _
  · skip
    have HM := Lib.hid (show bendM 3 1 3 c g k row m = none by unfold bendM; simp [k1, k2, k3])
    have xa0 : w0.cell? ⟨w.heap.size, 0, none⟩ = some (.int .i64 c.i0) := HK0.out.cell 0
    have xa1 : w0.cell? ⟨w.heap.size, 1, none⟩ = some (.int .i64 c.i1) := HK0.out.cell 1
    have xa2 : w0.cell? ⟨w.heap.size, 2, none⟩ = some (.slice Ag c.gs.length cg) := HK0.out.cell 2
    have xa3 : w0.cell? ⟨w.heap.size, 3, none⟩ = some (.slice Aq c.outs.length cq) := HK0.out.cell 3
    have xb0 : w0.cell? ⟨w.heap.size + 1, 0, none⟩ = some (.slice A g.rows.length c9) := HK1.out.cell 0
    have xb1 : w0.cell? ⟨w.heap.size + 1, 1, none⟩ = some (.slice A1 g.ones.length c1) := HK1.out.cell 1
    have xb2 : w0.cell? ⟨w.heap.size + 1, 2, none⟩ = some (.slice A2 g.cols.length c2) := HK1.out.cell 2
    have xr0 : w0.cell? ⟨w.heap.size + 1 + 1, 0, none⟩ = some (.slice none 0 0) := HK2.out.cell 0
    have xrf0 : w0.frozen? ⟨w.heap.size + 1 + 1, 0, none⟩ = false := HK2.out.free 0
    have xr1 : w0.cell? ⟨w.heap.size + 1 + 1, 1, none⟩ = some (.slice none 0 0) := HK2.out.cell 1
    have xrf1 : w0.frozen? ⟨w.heap.size + 1 + 1, 1, none⟩ = false := HK2.out.free 1
    have xr2 : w0.cell? ⟨w.heap.size + 1 + 1, 2, none⟩ = some (.slice none 0 0) := HK2.out.cell 2
    have xrf2 : w0.frozen? ⟨w.heap.size + 1 + 1, 2, none⟩ = false := HK2.out.free 2
    go_enter Try.func48, Try.ntmps48
    go_wp2_with fail
    clear hw0
    refine (c_spec_ciGood (HC.out.below HB.out)).mono ?_
    rintro e u0 ⟨rfl, hb⟩
    clear xa0 xa1 xa2 xa3 xb0 xb1 xb2 xr0 xr1 xr2 xrf0 xrf1 xrf2
    replace HK0 := Lib.hid (HK0.out.step hb)
    replace HK1 := Lib.hid (HK1.out.step hb)
    replace HK2 := Lib.hid (HK2.out.step hb)
    replace HB := Lib.hid (below_step HB.out hb)
    clear hb
    have xa0 : u0.cell? ⟨w.heap.size, 0, none⟩ = some (.int .i64 c.i0) := HK0.out.cell 0
    have xa1 : u0.cell? ⟨w.heap.size, 1, none⟩ = some (.int .i64 c.i1) := HK0.out.cell 1
    have xa2 : u0.cell? ⟨w.heap.size, 2, none⟩ = some (.slice Ag c.gs.length cg) := HK0.out.cell 2
    have xa3 : u0.cell? ⟨w.heap.size, 3, none⟩ = some (.slice Aq c.outs.length cq) := HK0.out.cell 3
    have xb0 : u0.cell? ⟨w.heap.size + 1, 0, none⟩ = some (.slice A g.rows.length c9) := HK1.out.cell 0
    have xb1 : u0.cell? ⟨w.heap.size + 1, 1, none⟩ = some (.slice A1 g.ones.length c1) := HK1.out.cell 1
    have xb2 : u0.cell? ⟨w.heap.size + 1, 2, none⟩ = some (.slice A2 g.cols.length c2) := HK1.out.cell 2
    have xr0 : u0.cell? ⟨w.heap.size + 1 + 1, 0, none⟩ = some (.slice none 0 0) := HK2.out.cell 0
    have xrf0 : u0.frozen? ⟨w.heap.size + 1 + 1, 0, none⟩ = false := HK2.out.free 0
    have xr1 : u0.cell? ⟨w.heap.size + 1 + 1, 1, none⟩ = some (.slice none 0 0) := HK2.out.cell 1
    have xrf1 : u0.frozen? ⟨w.heap.size + 1 + 1, 1, none⟩ = false := HK2.out.free 1
    have xr2 : u0.cell? ⟨w.heap.size + 1 + 1, 2, none⟩ = some (.slice none 0 0) := HK2.out.cell 2
    have xrf2 : u0.frozen? ⟨w.heap.size + 1 + 1, 2, none⟩ = false := HK2.out.free 2
    go_wp2_with fail
    refine (c_spec_gbGood (HC.out.below HB.out) k1 (H.out.below HB.out) HS.out).mono ?_
    rintro e wz ⟨rfl, hb⟩
    clear xa0 xa1 xa2 xa3 xb0 xb1 xb2 xr0 xr1 xr2 xrf0 xrf1 xrf2
    replace HK0 := Lib.hid (HK0.out.step hb)
    replace HK1 := Lib.hid (HK1.out.step hb)
    replace HK2 := Lib.hid (HK2.out.step hb)
    replace HB := Lib.hid (below_step HB.out hb)
    clear hb
    have xa0 : wz.cell? ⟨w.heap.size, 0, none⟩ = some (.int .i64 c.i0) := HK0.out.cell 0
    have xa1 : wz.cell? ⟨w.heap.size, 1, none⟩ = some (.int .i64 c.i1) := HK0.out.cell 1
    have xa2 : wz.cell? ⟨w.heap.size, 2, none⟩ = some (.slice Ag c.gs.length cg) := HK0.out.cell 2
    have xa3 : wz.cell? ⟨w.heap.size, 3, none⟩ = some (.slice Aq c.outs.length cq) := HK0.out.cell 3
    have xb0 : wz.cell? ⟨w.heap.size + 1, 0, none⟩ = some (.slice A g.rows.length c9) := HK1.out.cell 0
    have xb1 : wz.cell? ⟨w.heap.size + 1, 1, none⟩ = some (.slice A1 g.ones.length c1) := HK1.out.cell 1
    have xb2 : wz.cell? ⟨w.heap.size + 1, 2, none⟩ = some (.slice A2 g.cols.length c2) := HK1.out.cell 2
    have xr0 : wz.cell? ⟨w.heap.size + 1 + 1, 0, none⟩ = some (.slice none 0 0) := HK2.out.cell 0
    have xrf0 : wz.frozen? ⟨w.heap.size + 1 + 1, 0, none⟩ = false := HK2.out.free 0
    have xr1 : wz.cell? ⟨w.heap.size + 1 + 1, 1, none⟩ = some (.slice none 0 0) := HK2.out.cell 1
    have xrf1 : wz.frozen? ⟨w.heap.size + 1 + 1, 1, none⟩ = false := HK2.out.free 1
    have xr2 : wz.cell? ⟨w.heap.size + 1 + 1, 2, none⟩ = some (.slice none 0 0) := HK2.out.cell 2
    have xrf2 : wz.frozen? ⟨w.heap.size + 1 + 1, 2, none⟩ = false := HK2.out.free 2
    go_wp2_with fail
    refine (c_spec_l1In).mono ?_
    rintro e w' ⟨rfl, rfl⟩
    go_wp2
    refine bodyPost_ret (v := .tuple #[gbV (.slice none 0 0) (.slice none 0 0) (.slice none 0 0), .bool false]) (by simp [results, Try.results48, go_sem, gbV, xr0, xr1, xr2]) rfl ?_
    rw [HM.out]
    exact RetGbB.no (((HB.out.setCell (p := ⟨w.heap.size + 1 + 1, 0, none⟩) (by simp; omega) _).setCell (p := ⟨w.heap.size + 1 + 1, 1, none⟩) (by simp; omega) _).setCell (p := ⟨w.heap.size + 1 + 1, 2, none⟩) (by simp; omega) _)
  rcases k4 : inB row 1 3 with _ | _
  · skip
    have HM := Lib.hid (show bendM 3 1 3 c g k row m = none by unfold bendM; simp [k1, k2, k3, k4])
    have xa0 : w0.cell? ⟨w.heap.size, 0, none⟩ = some (.int .i64 c.i0) := HK0.out.cell 0
    have xa1 : w0.cell? ⟨w.heap.size, 1, none⟩ = some (.int .i64 c.i1) := HK0.out.cell 1
    have xa2 : w0.cell? ⟨w.heap.size, 2, none⟩ = some (.slice Ag c.gs.length cg) := HK0.out.cell 2
    have xa3 : w0.cell? ⟨w.heap.size, 3, none⟩ = some (.slice Aq c.outs.length cq) := HK0.out.cell 3
    have xb0 : w0.cell? ⟨w.heap.size + 1, 0, none⟩ = some (.slice A g.rows.length c9) := HK1.out.cell 0
    have xb1 : w0.cell? ⟨w.heap.size + 1, 1, none⟩ = some (.slice A1 g.ones.length c1) := HK1.out.cell 1
    have xb2 : w0.cell? ⟨w.heap.size + 1, 2, none⟩ = some (.slice A2 g.cols.length c2) := HK1.out.cell 2
    have xr0 : w0.cell? ⟨w.heap.size + 1 + 1, 0, none⟩ = some (.slice none 0 0) := HK2.out.cell 0
    have xrf0 : w0.frozen? ⟨w.heap.size + 1 + 1, 0, none⟩ = false := HK2.out.free 0
    have xr1 : w0.cell? ⟨w.heap.size + 1 + 1, 1, none⟩ = some (.slice none 0 0) := HK2.out.cell 1
    have xrf1 : w0.frozen? ⟨w.heap.size + 1 + 1, 1, none⟩ = false := HK2.out.free 1
    have xr2 : w0.cell? ⟨w.heap.size + 1 + 1, 2, none⟩ = some (.slice none 0 0) := HK2.out.cell 2
    have xrf2 : w0.frozen? ⟨w.heap.size + 1 + 1, 2, none⟩ = false := HK2.out.free 2
    go_enter Try.func48, Try.ntmps48
    go_wp2_with fail
    clear hw0
    refine (c_spec_ciGood (HC.out.below HB.out)).mono ?_
    rintro e u0 ⟨rfl, hb⟩
    clear xa0 xa1 xa2 xa3 xb0 xb1 xb2 xr0 xr1 xr2 xrf0 xrf1 xrf2
    replace HK0 := Lib.hid (HK0.out.step hb)
    replace HK1 := Lib.hid (HK1.out.step hb)
    replace HK2 := Lib.hid (HK2.out.step hb)
    replace HB := Lib.hid (below_step HB.out hb)
    clear hb
    have xa0 : u0.cell? ⟨w.heap.size, 0, none⟩ = some (.int .i64 c.i0) := HK0.out.cell 0
    have xa1 : u0.cell? ⟨w.heap.size, 1, none⟩ = some (.int .i64 c.i1) := HK0.out.cell 1
    have xa2 : u0.cell? ⟨w.heap.size, 2, none⟩ = some (.slice Ag c.gs.length cg) := HK0.out.cell 2
    have xa3 : u0.cell? ⟨w.heap.size, 3, none⟩ = some (.slice Aq c.outs.length cq) := HK0.out.cell 3
    have xb0 : u0.cell? ⟨w.heap.size + 1, 0, none⟩ = some (.slice A g.rows.length c9) := HK1.out.cell 0
    have xb1 : u0.cell? ⟨w.heap.size + 1, 1, none⟩ = some (.slice A1 g.ones.length c1) := HK1.out.cell 1
    have xb2 : u0.cell? ⟨w.heap.size + 1, 2, none⟩ = some (.slice A2 g.cols.length c2) := HK1.out.cell 2
    have xr0 : u0.cell? ⟨w.heap.size + 1 + 1, 0, none⟩ = some (.slice none 0 0) := HK2.out.cell 0
    have xrf0 : u0.frozen? ⟨w.heap.size + 1 + 1, 0, none⟩ = false := HK2.out.free 0
    have xr1 : u0.cell? ⟨w.heap.size + 1 + 1, 1, none⟩ = some (.slice none 0 0) := HK2.out.cell 1
    have xrf1 : u0.frozen? ⟨w.heap.size + 1 + 1, 1, none⟩ = false := HK2.out.free 1
    have xr2 : u0.cell? ⟨w.heap.size + 1 + 1, 2, none⟩ = some (.slice none 0 0) := HK2.out.cell 2
    have xrf2 : u0.frozen? ⟨w.heap.size + 1 + 1, 2, none⟩ = false := HK2.out.free 2
    go_wp2_with fail
    refine (c_spec_gbGood (HC.out.below HB.out) k1 (H.out.below HB.out) HS.out).mono ?_
    rintro e wz ⟨rfl, hb⟩
    clear xa0 xa1 xa2 xa3 xb0 xb1 xb2 xr0 xr1 xr2 xrf0 xrf1 xrf2
    replace HK0 := Lib.hid (HK0.out.step hb)
    replace HK1 := Lib.hid (HK1.out.step hb)
    replace HK2 := Lib.hid (HK2.out.step hb)
    replace HB := Lib.hid (below_step HB.out hb)
    clear hb
    have xa0 : wz.cell? ⟨w.heap.size, 0, none⟩ = some (.int .i64 c.i0) := HK0.out.cell 0
    have xa1 : wz.cell? ⟨w.heap.size, 1, none⟩ = some (.int .i64 c.i1) := HK0.out.cell 1
    have xa2 : wz.cell? ⟨w.heap.size, 2, none⟩ = some (.slice Ag c.gs.length cg) := HK0.out.cell 2
    have xa3 : wz.cell? ⟨w.heap.size, 3, none⟩ = some (.slice Aq c.outs.length cq) := HK0.out.cell 3
    have xb0 : wz.cell? ⟨w.heap.size + 1, 0, none⟩ = some (.slice A g.rows.length c9) := HK1.out.cell 0
    have xb1 : wz.cell? ⟨w.heap.size + 1, 1, none⟩ = some (.slice A1 g.ones.length c1) := HK1.out.cell 1
    have xb2 : wz.cell? ⟨w.heap.size + 1, 2, none⟩ = some (.slice A2 g.cols.length c2) := HK1.out.cell 2
    have xr0 : wz.cell? ⟨w.heap.size + 1 + 1, 0, none⟩ = some (.slice none 0 0) := HK2.out.cell 0
    have xrf0 : wz.frozen? ⟨w.heap.size + 1 + 1, 0, none⟩ = false := HK2.out.free 0
    have xr1 : wz.cell? ⟨w.heap.size + 1 + 1, 1, none⟩ = some (.slice none 0 0) := HK2.out.cell 1
    have xrf1 : wz.frozen? ⟨w.heap.size + 1 + 1, 1, none⟩ = false := HK2.out.free 1
    have xr2 : wz.cell? ⟨w.heap.size + 1 + 1, 2, none⟩ = some (.slice none 0 0) := HK2.out.cell 2
    have xrf2 : wz.frozen? ⟨w.heap.size + 1 + 1, 2, none⟩ = false := HK2.out.free 2
    go_wp2_with fail
    refine (c_spec_l1In).mono ?_
    rintro e w' ⟨rfl, rfl⟩
    go_wp2_with fail
    refine (c_spec_l1In).mono ?_
    rintro e w' ⟨rfl, rfl⟩
    go_wp2
    refine bodyPost_ret (v := .tuple #[gbV (.slice none 0 0) (.slice none 0 0) (.slice none 0 0), .bool false]) (by simp [results, Try.results48, go_sem, gbV, xr0, xr1, xr2]) rfl ?_
    rw [HM.out]
    exact RetGbB.no (((HB.out.setCell (p := ⟨w.heap.size + 1 + 1, 0, none⟩) (by simp; omega) _).setCell (p := ⟨w.heap.size + 1 + 1, 1, none⟩) (by simp; omega) _).setCell (p := ⟨w.heap.size + 1 + 1, 2, none⟩) (by simp; omega) _)
  rcases k5 : inB m 0 65535 with _ | _
  · skip
    have HM := Lib.hid (show bendM 3 1 3 c g k row m = none by unfold bendM; simp [k1, k2, k3, k4, k5])
    have xa0 : w0.cell? ⟨w.heap.size, 0, none⟩ = some (.int .i64 c.i0) := HK0.out.cell 0
    have xa1 : w0.cell? ⟨w.heap.size, 1, none⟩ = some (.int .i64 c.i1) := HK0.out.cell 1
    have xa2 : w0.cell? ⟨w.heap.size, 2, none⟩ = some (.slice Ag c.gs.length cg) := HK0.out.cell 2
    have xa3 : w0.cell? ⟨w.heap.size, 3, none⟩ = some (.slice Aq c.outs.length cq) := HK0.out.cell 3
    have xb0 : w0.cell? ⟨w.heap.size + 1, 0, none⟩ = some (.slice A g.rows.length c9) := HK1.out.cell 0
    have xb1 : w0.cell? ⟨w.heap.size + 1, 1, none⟩ = some (.slice A1 g.ones.length c1) := HK1.out.cell 1
    have xb2 : w0.cell? ⟨w.heap.size + 1, 2, none⟩ = some (.slice A2 g.cols.length c2) := HK1.out.cell 2
    have xr0 : w0.cell? ⟨w.heap.size + 1 + 1, 0, none⟩ = some (.slice none 0 0) := HK2.out.cell 0
    have xrf0 : w0.frozen? ⟨w.heap.size + 1 + 1, 0, none⟩ = false := HK2.out.free 0
    have xr1 : w0.cell? ⟨w.heap.size + 1 + 1, 1, none⟩ = some (.slice none 0 0) := HK2.out.cell 1
    have xrf1 : w0.frozen? ⟨w.heap.size + 1 + 1, 1, none⟩ = false := HK2.out.free 1
    have xr2 : w0.cell? ⟨w.heap.size + 1 + 1, 2, none⟩ = some (.slice none 0 0) := HK2.out.cell 2
    have xrf2 : w0.frozen? ⟨w.heap.size + 1 + 1, 2, none⟩ = false := HK2.out.free 2
    go_enter Try.func48, Try.ntmps48
    go_wp2_with fail
    clear hw0
    refine (c_spec_ciGood (HC.out.below HB.out)).mono ?_
    rintro e u0 ⟨rfl, hb⟩
    clear xa0 xa1 xa2 xa3 xb0 xb1 xb2 xr0 xr1 xr2 xrf0 xrf1 xrf2
    replace HK0 := Lib.hid (HK0.out.step hb)
    replace HK1 := Lib.hid (HK1.out.step hb)
    replace HK2 := Lib.hid (HK2.out.step hb)
    replace HB := Lib.hid (below_step HB.out hb)
    clear hb
    have xa0 : u0.cell? ⟨w.heap.size, 0, none⟩ = some (.int .i64 c.i0) := HK0.out.cell 0
    have xa1 : u0.cell? ⟨w.heap.size, 1, none⟩ = some (.int .i64 c.i1) := HK0.out.cell 1
    have xa2 : u0.cell? ⟨w.heap.size, 2, none⟩ = some (.slice Ag c.gs.length cg) := HK0.out.cell 2
    have xa3 : u0.cell? ⟨w.heap.size, 3, none⟩ = some (.slice Aq c.outs.length cq) := HK0.out.cell 3
    have xb0 : u0.cell? ⟨w.heap.size + 1, 0, none⟩ = some (.slice A g.rows.length c9) := HK1.out.cell 0
    have xb1 : u0.cell? ⟨w.heap.size + 1, 1, none⟩ = some (.slice A1 g.ones.length c1) := HK1.out.cell 1
    have xb2 : u0.cell? ⟨w.heap.size + 1, 2, none⟩ = some (.slice A2 g.cols.length c2) := HK1.out.cell 2
    have xr0 : u0.cell? ⟨w.heap.size + 1 + 1, 0, none⟩ = some (.slice none 0 0) := HK2.out.cell 0
    have xrf0 : u0.frozen? ⟨w.heap.size + 1 + 1, 0, none⟩ = false := HK2.out.free 0
    have xr1 : u0.cell? ⟨w.heap.size + 1 + 1, 1, none⟩ = some (.slice none 0 0) := HK2.out.cell 1
    have xrf1 : u0.frozen? ⟨w.heap.size + 1 + 1, 1, none⟩ = false := HK2.out.free 1
    have xr2 : u0.cell? ⟨w.heap.size + 1 + 1, 2, none⟩ = some (.slice none 0 0) := HK2.out.cell 2
    have xrf2 : u0.frozen? ⟨w.heap.size + 1 + 1, 2, none⟩ = false := HK2.out.free 2
    go_wp2_with fail
    refine (c_spec_gbGood (HC.out.below HB.out) k1 (H.out.below HB.out) HS.out).mono ?_
    rintro e wz ⟨rfl, hb⟩
    clear xa0 xa1 xa2 xa3 xb0 xb1 xb2 xr0 xr1 xr2 xrf0 xrf1 xrf2
    replace HK0 := Lib.hid (HK0.out.step hb)
    replace HK1 := Lib.hid (HK1.out.step hb)
    replace HK2 := Lib.hid (HK2.out.step hb)
    replace HB := Lib.hid (below_step HB.out hb)
    clear hb
    have xa0 : wz.cell? ⟨w.heap.size, 0, none⟩ = some (.int .i64 c.i0) := HK0.out.cell 0
    have xa1 : wz.cell? ⟨w.heap.size, 1, none⟩ = some (.int .i64 c.i1) := HK0.out.cell 1
    have xa2 : wz.cell? ⟨w.heap.size, 2, none⟩ = some (.slice Ag c.gs.length cg) := HK0.out.cell 2
    have xa3 : wz.cell? ⟨w.heap.size, 3, none⟩ = some (.slice Aq c.outs.length cq) := HK0.out.cell 3
    have xb0 : wz.cell? ⟨w.heap.size + 1, 0, none⟩ = some (.slice A g.rows.length c9) := HK1.out.cell 0
    have xb1 : wz.cell? ⟨w.heap.size + 1, 1, none⟩ = some (.slice A1 g.ones.length c1) := HK1.out.cell 1
    have xb2 : wz.cell? ⟨w.heap.size + 1, 2, none⟩ = some (.slice A2 g.cols.length c2) := HK1.out.cell 2
    have xr0 : wz.cell? ⟨w.heap.size + 1 + 1, 0, none⟩ = some (.slice none 0 0) := HK2.out.cell 0
    have xrf0 : wz.frozen? ⟨w.heap.size + 1 + 1, 0, none⟩ = false := HK2.out.free 0
    have xr1 : wz.cell? ⟨w.heap.size + 1 + 1, 1, none⟩ = some (.slice none 0 0) := HK2.out.cell 1
    have xrf1 : wz.frozen? ⟨w.heap.size + 1 + 1, 1, none⟩ = false := HK2.out.free 1
    have xr2 : wz.cell? ⟨w.heap.size + 1 + 1, 2, none⟩ = some (.slice none 0 0) := HK2.out.cell 2
    have xrf2 : wz.frozen? ⟨w.heap.size + 1 + 1, 2, none⟩ = false := HK2.out.free 2
    go_wp2_with fail
    refine (c_spec_l1In).mono ?_
    rintro e w' ⟨rfl, rfl⟩
    go_wp2_with fail
    refine (c_spec_l1In).mono ?_
    rintro e w' ⟨rfl, rfl⟩
    go_wp2_with fail
    refine (c_spec_lbGood).mono ?_
    rintro e w' ⟨rfl, rfl⟩
    go_wp2
    refine bodyPost_ret (v := .tuple #[gbV (.slice none 0 0) (.slice none 0 0) (.slice none 0 0), .bool false]) (by simp [results, Try.results48, go_sem, gbV, xr0, xr1, xr2]) rfl ?_
    rw [HM.out]
    exact RetGbB.no (((HB.out.setCell (p := ⟨w.heap.size + 1 + 1, 0, none⟩) (by simp; omega) _).setCell (p := ⟨w.heap.size + 1 + 1, 1, none⟩) (by simp; omega) _).setCell (p := ⟨w.heap.size + 1 + 1, 2, none⟩) (by simp; omega) _)
  obtain ⟨kn, rfl⟩ : ∃ n : Nat, k = (n : Int) := ⟨k.toNat, by have := inB_bd k3; omega⟩
  obtain ⟨rn, rfl⟩ : ∃ n : Nat, row = (n : Int) + 1 := ⟨(row - 1).toNat, by have := inB_bd k4; omega⟩
  have hkl : kn < g.rows.length := by have := inB_bd k3; omega
  have hrn : rn < 3 := by have := inB_bd k4; omega
  have hmb := inB_bd k5
  have hro := bend_row k2 hkl
  have HM := Lib.hid (show bendM 3 1 3 c g kn (rn + 1) m = some (bendG g kn rn m) by unfold bendM; rw [k1, k2, k3, k4, k5]; simp)
  have xa0 : w0.cell? ⟨w.heap.size, 0, none⟩ = some (.int .i64 c.i0) := HK0.out.cell 0
  have xa1 : w0.cell? ⟨w.heap.size, 1, none⟩ = some (.int .i64 c.i1) := HK0.out.cell 1
  have xa2 : w0.cell? ⟨w.heap.size, 2, none⟩ = some (.slice Ag c.gs.length cg) := HK0.out.cell 2
  have xa3 : w0.cell? ⟨w.heap.size, 3, none⟩ = some (.slice Aq c.outs.length cq) := HK0.out.cell 3
  have xb0 : w0.cell? ⟨w.heap.size + 1, 0, none⟩ = some (.slice A g.rows.length c9) := HK1.out.cell 0
  have xb1 : w0.cell? ⟨w.heap.size + 1, 1, none⟩ = some (.slice A1 g.ones.length c1) := HK1.out.cell 1
  have xb2 : w0.cell? ⟨w.heap.size + 1, 2, none⟩ = some (.slice A2 g.cols.length c2) := HK1.out.cell 2
  have xr0 : w0.cell? ⟨w.heap.size + 1 + 1, 0, none⟩ = some (.slice none 0 0) := HK2.out.cell 0
  have xrf0 : w0.frozen? ⟨w.heap.size + 1 + 1, 0, none⟩ = false := HK2.out.free 0
  have xr1 : w0.cell? ⟨w.heap.size + 1 + 1, 1, none⟩ = some (.slice none 0 0) := HK2.out.cell 1
  have xrf1 : w0.frozen? ⟨w.heap.size + 1 + 1, 1, none⟩ = false := HK2.out.free 1
  have xr2 : w0.cell? ⟨w.heap.size + 1 + 1, 2, none⟩ = some (.slice none 0 0) := HK2.out.cell 2
  have xrf2 : w0.frozen? ⟨w.heap.size + 1 + 1, 2, none⟩ = false := HK2.out.free 2
  go_enter Try.func48, Try.ntmps48
  go_wp2_with fail
  clear hw0
  refine (c_spec_ciGood (HC.out.below HB.out)).mono ?_
  rintro e u0 ⟨rfl, hb⟩
  clear xa0 xa1 xa2 xa3 xb0 xb1 xb2 xr0 xr1 xr2 xrf0 xrf1 xrf2
  replace HK0 := Lib.hid (HK0.out.step hb)
  replace HK1 := Lib.hid (HK1.out.step hb)
  replace HK2 := Lib.hid (HK2.out.step hb)
  replace HB := Lib.hid (below_step HB.out hb)
  clear hb
  have xa0 : u0.cell? ⟨w.heap.size, 0, none⟩ = some (.int .i64 c.i0) := HK0.out.cell 0
  have xa1 : u0.cell? ⟨w.heap.size, 1, none⟩ = some (.int .i64 c.i1) := HK0.out.cell 1
  have xa2 : u0.cell? ⟨w.heap.size, 2, none⟩ = some (.slice Ag c.gs.length cg) := HK0.out.cell 2
  have xa3 : u0.cell? ⟨w.heap.size, 3, none⟩ = some (.slice Aq c.outs.length cq) := HK0.out.cell 3
  have xb0 : u0.cell? ⟨w.heap.size + 1, 0, none⟩ = some (.slice A g.rows.length c9) := HK1.out.cell 0
  have xb1 : u0.cell? ⟨w.heap.size + 1, 1, none⟩ = some (.slice A1 g.ones.length c1) := HK1.out.cell 1
  have xb2 : u0.cell? ⟨w.heap.size + 1, 2, none⟩ = some (.slice A2 g.cols.length c2) := HK1.out.cell 2
  have xr0 : u0.cell? ⟨w.heap.size + 1 + 1, 0, none⟩ = some (.slice none 0 0) := HK2.out.cell 0
  have xrf0 : u0.frozen? ⟨w.heap.size + 1 + 1, 0, none⟩ = false := HK2.out.free 0
  have xr1 : u0.cell? ⟨w.heap.size + 1 + 1, 1, none⟩ = some (.slice none 0 0) := HK2.out.cell 1
  have xrf1 : u0.frozen? ⟨w.heap.size + 1 + 1, 1, none⟩ = false := HK2.out.free 1
  have xr2 : u0.cell? ⟨w.heap.size + 1 + 1, 2, none⟩ = some (.slice none 0 0) := HK2.out.cell 2
  have xrf2 : u0.frozen? ⟨w.heap.size + 1 + 1, 2, none⟩ = false := HK2.out.free 2
  go_wp2_with fail
  refine (c_spec_gbGood (HC.out.below HB.out) k1 (H.out.below HB.out) HS.out).mono ?_
  rintro e w0 ⟨rfl, hb⟩
  clear xa0 xa1 xa2 xa3 xb0 xb1 xb2 xr0 xr1 xr2 xrf0 xrf1 xrf2
  replace HK0 := Lib.hid (HK0.out.step hb)
  replace HK1 := Lib.hid (HK1.out.step hb)
  replace HK2 := Lib.hid (HK2.out.step hb)
  replace HB := Lib.hid (below_step HB.out hb)
  clear hb
  have xa0 : w0.cell? ⟨w.heap.size, 0, none⟩ = some (.int .i64 c.i0) := HK0.out.cell 0
  have xa1 : w0.cell? ⟨w.heap.size, 1, none⟩ = some (.int .i64 c.i1) := HK0.out.cell 1
  have xa2 : w0.cell? ⟨w.heap.size, 2, none⟩ = some (.slice Ag c.gs.length cg) := HK0.out.cell 2
  have xa3 : w0.cell? ⟨w.heap.size, 3, none⟩ = some (.slice Aq c.outs.length cq) := HK0.out.cell 3
  have xb0 : w0.cell? ⟨w.heap.size + 1, 0, none⟩ = some (.slice A g.rows.length c9) := HK1.out.cell 0
  have xb1 : w0.cell? ⟨w.heap.size + 1, 1, none⟩ = some (.slice A1 g.ones.length c1) := HK1.out.cell 1
  have xb2 : w0.cell? ⟨w.heap.size + 1, 2, none⟩ = some (.slice A2 g.cols.length c2) := HK1.out.cell 2
  have xr0 : w0.cell? ⟨w.heap.size + 1 + 1, 0, none⟩ = some (.slice none 0 0) := HK2.out.cell 0
  have xrf0 : w0.frozen? ⟨w.heap.size + 1 + 1, 0, none⟩ = false := HK2.out.free 0
  have xr1 : w0.cell? ⟨w.heap.size + 1 + 1, 1, none⟩ = some (.slice none 0 0) := HK2.out.cell 1
  have xrf1 : w0.frozen? ⟨w.heap.size + 1 + 1, 1, none⟩ = false := HK2.out.free 1
  have xr2 : w0.cell? ⟨w.heap.size + 1 + 1, 2, none⟩ = some (.slice none 0 0) := HK2.out.cell 2
  have xrf2 : w0.frozen? ⟨w.heap.size + 1 + 1, 2, none⟩ = false := HK2.out.free 2
  go_wp2_with fail
  refine (c_spec_l1In).mono ?_
  rintro e w' ⟨rfl, rfl⟩
  go_wp2_with fail
  refine (c_spec_l1In).mono ?_
  rintro e w' ⟨rfl, rfl⟩
  go_wp2_with fail
  refine (c_spec_lbGood).mono ?_
  rintro e w' ⟨rfl, rfl⟩
  go_wp2_with fail
  refine (c_spec_gbOwn (H.out.below HB.out) HS.out).mono ?_
  rintro e w9 ⟨rv9, ov9, cv9, vs, rfl, O, hb⟩
  unfold gbV
  obtain ⟨Ao, co, rfl, -⟩ := O.ones.ints
  obtain ⟨Ac, cc, rfl, -⟩ := O.cols.ints
  have hlow := HK2.out.lt
  have hsz := HB.out.size
  obtain ⟨g0, c0, u, r, A8, c8, e8, -, -, hvs, hrk, hue, hcell, hOu⟩ := O.rows.at_ hkl
  have er : g.rows.getD kn [] = r := by rw [List.getD_eq_getElem?_getD, hrk]; rfl
  rw [er] at hro
  obtain ⟨hrl8, hrb⟩ := hro
  have hrn8 : rn < r.length := by omega
  have hx : r[rn]? = some r[rn] := List.getElem?_eq_getElem hrn8
  have hxb := hrb r[rn] (List.getElem_mem _)
  have hbx := bits_xor hxb.1 hmb.1 (by omega) (by omega)
  have hG := Lib.hid (show (⟨g.rows.set kn (r.set rn (xorI r[rn] m)), g.ones, g.cols⟩ : Gb) = bendG g kn rn m by unfold bendG bendR bendRow; rw [er, show r.getD rn 0 = r[rn] by rw [List.getD_eq_getElem?_getD, hx]; rfl])
  obtain ⟨gu, cu, eu, -, hgu, hcu⟩ := own_at hOu (by intro e; rw [e] at hrn8; simp at hrn8)
  subst eu
  have hxc := hcu rn _ hx
  have hxf := hOu.free rn
  subst e8
  clear xa0 xa1 xa2 xa3 xb0 xb1 xb2 xr0 xr1 xr2 xrf0 xrf1 xrf2
  replace HK0 := Lib.hid (HK0.out.step hb)
  replace HK1 := Lib.hid (HK1.out.step hb)
  replace HK2 := Lib.hid (HK2.out.step hb)
  replace HB := Lib.hid (below_step HB.out hb)
  clear hb
  have hg0 := World.block_lt_of_cell? w9 _ hcell
  have hal := (Below.refl w9.heap.size w9).alloc (Nat.le_refl _) (.cells #[.slice (some ⟨g0, 0, none⟩) g.rows.length c0, .slice Ao g.ones.length co, .slice Ac g.cols.length cc] 47)
  have hw2 := HK2.out.lt
  have O8 := Lib.hid (O.below hal)
  have O9 := Lib.hid ((hOu.below hal).put rn (xorI r[rn] m))
  have HVS := Lib.hid hvs
  obtain ⟨w8, hw8⟩ : ∃ W, w9.alloc (.cells #[.slice (some ⟨g0, 0, none⟩) g.rows.length c0, .slice Ao g.ones.length co, .slice Ac g.cols.length cc] 47) = W := ⟨_, rfl⟩
  have HBX : Hid (Blk w8 w9.heap.size 47 #[.slice (some ⟨g0, 0, none⟩) g.rows.length c0, .slice Ao g.ones.length co, .slice Ac g.cols.length cc]) := by rw [← hw8]; exact Blk.new _ _ _
  have z0 : w8.cell? ⟨w9.heap.size, 0, none⟩ = some (.slice (some ⟨g0, 0, none⟩) g.rows.length c0) := HBX.out.cell 0
  have z1 : w8.cell? ⟨w9.heap.size, 1, none⟩ = some (.slice Ao g.ones.length co) := HBX.out.cell 1
  have z2 : w8.cell? ⟨w9.heap.size, 2, none⟩ = some (.slice Ac g.cols.length cc) := HBX.out.cell 2
  rw [hw8] at O8 O9 hal
  have q0 := (hal.cell (p := ⟨g0, kn, none⟩) hg0).trans hcell
  have q1 := (hal.cell (p := ⟨gu, rn, none⟩) hgu).trans hxc
  have q2 := (hal.frozen (p := ⟨gu, rn, none⟩) hgu).trans hxf
  have hne : gu ≠ w9.heap.size := by omega
  have HBN := Lib.hid ((below_step HB.out hal).setCell (p := ⟨gu, rn, none⟩) (show w.heap.size ≤ gu by have := hOu.ge gu rfl; omega) (.int .i64 (xorI r[rn] m)))
  have hgr := hOu.ge gu rfl
  replace HK2 := Lib.hid (HK2.out.step hal)
  have hr2 : gu ≠ w.heap.size + 1 + 1 := by omega
  have hr3 : ¬ w9.heap.size = w.heap.size + 1 + 1 := by omega
  have xr0 : w8.cell? ⟨w.heap.size + 1 + 1, 0, none⟩ = some (.slice none 0 0) := HK2.out.cell 0
  have xrf0 : w8.frozen? ⟨w.heap.size + 1 + 1, 0, none⟩ = false := HK2.out.free 0
  have xr1 : w8.cell? ⟨w.heap.size + 1 + 1, 1, none⟩ = some (.slice none 0 0) := HK2.out.cell 1
  have xrf1 : w8.frozen? ⟨w.heap.size + 1 + 1, 1, none⟩ = false := HK2.out.free 1
  have xr2 : w8.cell? ⟨w.heap.size + 1 + 1, 2, none⟩ = some (.slice none 0 0) := HK2.out.cell 2
  have xrf2 : w8.frozen? ⟨w.heap.size + 1 + 1, 2, none⟩ = false := HK2.out.free 2
  have H9 := Lib.hid (OwnGb.put O8.out HVS.out (grown_set w8 ⟨gu, rn, none⟩ (.int .i64 (xorI r[rn] m))) O9.out)
  rw [hG.out] at H9
  clear hal hOu O hcell hxc hxf hcu hx hG er
  try clear HKX
  generalize r[rn] = x at *
  go_wp2
  refine bodyPost_ret (v := .tuple #[gbV (.slice (some ⟨g0, 0, none⟩) g.rows.length c0) (.slice Ao g.ones.length co) (.slice Ac g.cols.length cc), .bool true]) (by simp [results, Try.results48, go_sem, gbV, xr0, xr1, xr2]) rfl ⟨_, _, _, vs, by rw [HM.out]; rfl, ?_, ?_⟩
  · rw [HM.out]; exact (((H9.out.setLow hlow 0 _).setLow hlow 1 _).setLow hlow 2 _).mono hsz
  · exact ((HBN.out.setCell (p := ⟨w.heap.size + 1 + 1, 0, none⟩) (by simp; omega) _).setCell (p := ⟨w.heap.size + 1 + 1, 1, none⟩) (by simp; omega) _).setCell (p := ⟨w.heap.size + 1 + 1, 2, none⟩) (by simp; omega) _
set_option maxRecDepth 100000 in
set_option maxHeartbeats 4000000 in
theorem c_spec_BendHalf {c : Cir} {g : Gb} {gv qv rv nv cv : Value} {w : World} {k row m : Int} (hC : CirIn w gv qv c) (h : GbIn w rv nv cv g) (hs : g.sz ≤ 1048576) :
    Calls Try.prog 45 #[cirV c gv qv, gbV rv nv cv, .int .i64 k, .int .i64 row, .int .i64 m] w (RetGbB w (bendM 2 0 1 c g k row m)) := by
  have H := Lib.hid h
  have HS := Lib.hid hs
  obtain ⟨hrw, ho, hc⟩ := h
  obtain ⟨A, c9, rfl, -⟩ := hrw.form
  obtain ⟨A1, c1, rfl, -⟩ := ho
  obtain ⟨A2, c2, rfl, -⟩ := hc
  have hol : g.ones.length ≤ 1048576 := by unfold Gb.sz at hs; omega
  have hcl : g.cols.length ≤ 1048576 := by unfold Gb.sz at hs; omega
  have hrl : g.rows.length ≤ 1048576 := by unfold Gb.sz at hs; omega
  have HRL := Lib.hid (Gb.row_le hs)
  obtain ⟨A', c', e', hlc, hcm, hat⟩ := hrw.form
  injection e' with e1 e2 e3
  subst e1 e3
  have HAT := Lib.hid hat
  clear hrw hs hat
  have HC := Lib.hid hC
  obtain ⟨hg, ho⟩ := hC
  obtain ⟨Ag, cg, rfl, -⟩ := hg
  obtain ⟨Aq, cq, rfl, -⟩ := ho
  unfold cirV gbV
  obtain ⟨w0, hw0⟩ : ∃ W, (((w.alloc (.cells #[.int .i64 c.i0, .int .i64 c.i1, .slice Ag c.gs.length cg, .slice Aq c.outs.length cq] 31)).alloc (.cells #[.slice A g.rows.length c9, .slice A1 g.ones.length c1, .slice A2 g.cols.length c2] 54)).alloc (.cells #[.slice none 0 0, .slice none 0 0, .slice none 0 0] 54)) = W := ⟨_, rfl⟩
  have HK0 : Hid (Blk w0 w.heap.size 31 #[.int .i64 c.i0, .int .i64 c.i1, .slice Ag c.gs.length cg, .slice Aq c.outs.length cq]) := by rw [← hw0]; exact ((Blk.new _ _ _).alloc _).alloc _
  have HK1 : Hid (Blk w0 (w.heap.size + 1) 54 #[.slice A g.rows.length c9, .slice A1 g.ones.length c1, .slice A2 g.cols.length c2]) := by rw [← hw0]; have := (Blk.new (w.alloc (.cells #[.int .i64 c.i0, .int .i64 c.i1, .slice Ag c.gs.length cg, .slice Aq c.outs.length cq] 31)) 54 #[.slice A g.rows.length c9, .slice A1 g.ones.length c1, .slice A2 g.cols.length c2]).alloc (.cells #[.slice none 0 0, .slice none 0 0, .slice none 0 0] 54); simp only [World.size_alloc] at this; exact this
  have HK2 : Hid (Blk w0 (w.heap.size + 1 + 1) 54 #[.slice none 0 0, .slice none 0 0, .slice none 0 0]) := by rw [← hw0]; have := Blk.new ((w.alloc (.cells #[.int .i64 c.i0, .int .i64 c.i1, .slice Ag c.gs.length cg, .slice Aq c.outs.length cq] 31)).alloc (.cells #[.slice A g.rows.length c9, .slice A1 g.ones.length c1, .slice A2 g.cols.length c2] 54)) 54 #[.slice none 0 0, .slice none 0 0, .slice none 0 0]; simp only [World.size_alloc] at this; exact this
  have HB : Hid (Below w.heap.size w w0) := by rw [← hw0]; exact (((Below.refl _ _).alloc (Nat.le_refl _) _).alloc (by simp) _).alloc (by simp; omega) _
  rcases k1 : cirB c with _ | _
  · skip
    have HM := Lib.hid (show bendM 2 0 1 c g k row m = none by unfold bendM; simp [k1])
    have xa0 : w0.cell? ⟨w.heap.size, 0, none⟩ = some (.int .i64 c.i0) := HK0.out.cell 0
    have xa1 : w0.cell? ⟨w.heap.size, 1, none⟩ = some (.int .i64 c.i1) := HK0.out.cell 1
    have xa2 : w0.cell? ⟨w.heap.size, 2, none⟩ = some (.slice Ag c.gs.length cg) := HK0.out.cell 2
    have xa3 : w0.cell? ⟨w.heap.size, 3, none⟩ = some (.slice Aq c.outs.length cq) := HK0.out.cell 3
    have xb0 : w0.cell? ⟨w.heap.size + 1, 0, none⟩ = some (.slice A g.rows.length c9) := HK1.out.cell 0
    have xb1 : w0.cell? ⟨w.heap.size + 1, 1, none⟩ = some (.slice A1 g.ones.length c1) := HK1.out.cell 1
    have xb2 : w0.cell? ⟨w.heap.size + 1, 2, none⟩ = some (.slice A2 g.cols.length c2) := HK1.out.cell 2
    have xr0 : w0.cell? ⟨w.heap.size + 1 + 1, 0, none⟩ = some (.slice none 0 0) := HK2.out.cell 0
    have xrf0 : w0.frozen? ⟨w.heap.size + 1 + 1, 0, none⟩ = false := HK2.out.free 0
    have xr1 : w0.cell? ⟨w.heap.size + 1 + 1, 1, none⟩ = some (.slice none 0 0) := HK2.out.cell 1
    have xrf1 : w0.frozen? ⟨w.heap.size + 1 + 1, 1, none⟩ = false := HK2.out.free 1
    have xr2 : w0.cell? ⟨w.heap.size + 1 + 1, 2, none⟩ = some (.slice none 0 0) := HK2.out.cell 2
    have xrf2 : w0.frozen? ⟨w.heap.size + 1 + 1, 2, none⟩ = false := HK2.out.free 2
    go_enter Try.func45, Try.ntmps45
    go_wp2_with fail
    clear hw0
    refine (c_spec_ciGood (HC.out.below HB.out)).mono ?_
    rintro e wz ⟨rfl, hb⟩
    clear xa0 xa1 xa2 xa3 xb0 xb1 xb2 xr0 xr1 xr2 xrf0 xrf1 xrf2
    replace HK0 := Lib.hid (HK0.out.step hb)
    replace HK1 := Lib.hid (HK1.out.step hb)
    replace HK2 := Lib.hid (HK2.out.step hb)
    replace HB := Lib.hid (below_step HB.out hb)
    clear hb
    have xa0 : wz.cell? ⟨w.heap.size, 0, none⟩ = some (.int .i64 c.i0) := HK0.out.cell 0
    have xa1 : wz.cell? ⟨w.heap.size, 1, none⟩ = some (.int .i64 c.i1) := HK0.out.cell 1
    have xa2 : wz.cell? ⟨w.heap.size, 2, none⟩ = some (.slice Ag c.gs.length cg) := HK0.out.cell 2
    have xa3 : wz.cell? ⟨w.heap.size, 3, none⟩ = some (.slice Aq c.outs.length cq) := HK0.out.cell 3
    have xb0 : wz.cell? ⟨w.heap.size + 1, 0, none⟩ = some (.slice A g.rows.length c9) := HK1.out.cell 0
    have xb1 : wz.cell? ⟨w.heap.size + 1, 1, none⟩ = some (.slice A1 g.ones.length c1) := HK1.out.cell 1
    have xb2 : wz.cell? ⟨w.heap.size + 1, 2, none⟩ = some (.slice A2 g.cols.length c2) := HK1.out.cell 2
    have xr0 : wz.cell? ⟨w.heap.size + 1 + 1, 0, none⟩ = some (.slice none 0 0) := HK2.out.cell 0
    have xrf0 : wz.frozen? ⟨w.heap.size + 1 + 1, 0, none⟩ = false := HK2.out.free 0
    have xr1 : wz.cell? ⟨w.heap.size + 1 + 1, 1, none⟩ = some (.slice none 0 0) := HK2.out.cell 1
    have xrf1 : wz.frozen? ⟨w.heap.size + 1 + 1, 1, none⟩ = false := HK2.out.free 1
    have xr2 : wz.cell? ⟨w.heap.size + 1 + 1, 2, none⟩ = some (.slice none 0 0) := HK2.out.cell 2
    have xrf2 : wz.frozen? ⟨w.heap.size + 1 + 1, 2, none⟩ = false := HK2.out.free 2
    go_wp2
    refine bodyPost_ret (v := .tuple #[gbV (.slice none 0 0) (.slice none 0 0) (.slice none 0 0), .bool false]) (by simp [results, Try.results45, go_sem, gbV, xr0, xr1, xr2]) rfl ?_
    rw [HM.out]
    exact RetGbB.no (((HB.out.setCell (p := ⟨w.heap.size + 1 + 1, 0, none⟩) (by simp; omega) _).setCell (p := ⟨w.heap.size + 1 + 1, 1, none⟩) (by simp; omega) _).setCell (p := ⟨w.heap.size + 1 + 1, 2, none⟩) (by simp; omega) _)
  rcases k2 : tabB 2 c g with _ | _
  · skip
    have HM := Lib.hid (show bendM 2 0 1 c g k row m = none by unfold bendM; simp [k1, k2])
    have xa0 : w0.cell? ⟨w.heap.size, 0, none⟩ = some (.int .i64 c.i0) := HK0.out.cell 0
    have xa1 : w0.cell? ⟨w.heap.size, 1, none⟩ = some (.int .i64 c.i1) := HK0.out.cell 1
    have xa2 : w0.cell? ⟨w.heap.size, 2, none⟩ = some (.slice Ag c.gs.length cg) := HK0.out.cell 2
    have xa3 : w0.cell? ⟨w.heap.size, 3, none⟩ = some (.slice Aq c.outs.length cq) := HK0.out.cell 3
    have xb0 : w0.cell? ⟨w.heap.size + 1, 0, none⟩ = some (.slice A g.rows.length c9) := HK1.out.cell 0
    have xb1 : w0.cell? ⟨w.heap.size + 1, 1, none⟩ = some (.slice A1 g.ones.length c1) := HK1.out.cell 1
    have xb2 : w0.cell? ⟨w.heap.size + 1, 2, none⟩ = some (.slice A2 g.cols.length c2) := HK1.out.cell 2
    have xr0 : w0.cell? ⟨w.heap.size + 1 + 1, 0, none⟩ = some (.slice none 0 0) := HK2.out.cell 0
    have xrf0 : w0.frozen? ⟨w.heap.size + 1 + 1, 0, none⟩ = false := HK2.out.free 0
    have xr1 : w0.cell? ⟨w.heap.size + 1 + 1, 1, none⟩ = some (.slice none 0 0) := HK2.out.cell 1
    have xrf1 : w0.frozen? ⟨w.heap.size + 1 + 1, 1, none⟩ = false := HK2.out.free 1
    have xr2 : w0.cell? ⟨w.heap.size + 1 + 1, 2, none⟩ = some (.slice none 0 0) := HK2.out.cell 2
    have xrf2 : w0.frozen? ⟨w.heap.size + 1 + 1, 2, none⟩ = false := HK2.out.free 2
    go_enter Try.func45, Try.ntmps45
    go_wp2_with fail
    clear hw0
    refine (c_spec_ciGood (HC.out.below HB.out)).mono ?_
    rintro e u0 ⟨rfl, hb⟩
    clear xa0 xa1 xa2 xa3 xb0 xb1 xb2 xr0 xr1 xr2 xrf0 xrf1 xrf2
    replace HK0 := Lib.hid (HK0.out.step hb)
    replace HK1 := Lib.hid (HK1.out.step hb)
    replace HK2 := Lib.hid (HK2.out.step hb)
    replace HB := Lib.hid (below_step HB.out hb)
    clear hb
    have xa0 : u0.cell? ⟨w.heap.size, 0, none⟩ = some (.int .i64 c.i0) := HK0.out.cell 0
    have xa1 : u0.cell? ⟨w.heap.size, 1, none⟩ = some (.int .i64 c.i1) := HK0.out.cell 1
    have xa2 : u0.cell? ⟨w.heap.size, 2, none⟩ = some (.slice Ag c.gs.length cg) := HK0.out.cell 2
    have xa3 : u0.cell? ⟨w.heap.size, 3, none⟩ = some (.slice Aq c.outs.length cq) := HK0.out.cell 3
    have xb0 : u0.cell? ⟨w.heap.size + 1, 0, none⟩ = some (.slice A g.rows.length c9) := HK1.out.cell 0
    have xb1 : u0.cell? ⟨w.heap.size + 1, 1, none⟩ = some (.slice A1 g.ones.length c1) := HK1.out.cell 1
    have xb2 : u0.cell? ⟨w.heap.size + 1, 2, none⟩ = some (.slice A2 g.cols.length c2) := HK1.out.cell 2
    have xr0 : u0.cell? ⟨w.heap.size + 1 + 1, 0, none⟩ = some (.slice none 0 0) := HK2.out.cell 0
    have xrf0 : u0.frozen? ⟨w.heap.size + 1 + 1, 0, none⟩ = false := HK2.out.free 0
    have xr1 : u0.cell? ⟨w.heap.size + 1 + 1, 1, none⟩ = some (.slice none 0 0) := HK2.out.cell 1
    have xrf1 : u0.frozen? ⟨w.heap.size + 1 + 1, 1, none⟩ = false := HK2.out.free 1
    have xr2 : u0.cell? ⟨w.heap.size + 1 + 1, 2, none⟩ = some (.slice none 0 0) := HK2.out.cell 2
    have xrf2 : u0.frozen? ⟨w.heap.size + 1 + 1, 2, none⟩ = false := HK2.out.free 2
    go_wp2_with fail
    refine (c_spec_hgGood (HC.out.below HB.out) k1 (H.out.below HB.out) HS.out).mono ?_
    rintro e wz ⟨rfl, hb⟩
    clear xa0 xa1 xa2 xa3 xb0 xb1 xb2 xr0 xr1 xr2 xrf0 xrf1 xrf2
    replace HK0 := Lib.hid (HK0.out.step hb)
    replace HK1 := Lib.hid (HK1.out.step hb)
    replace HK2 := Lib.hid (HK2.out.step hb)
    replace HB := Lib.hid (below_step HB.out hb)
    clear hb
    have xa0 : wz.cell? ⟨w.heap.size, 0, none⟩ = some (.int .i64 c.i0) := HK0.out.cell 0
    have xa1 : wz.cell? ⟨w.heap.size, 1, none⟩ = some (.int .i64 c.i1) := HK0.out.cell 1
    have xa2 : wz.cell? ⟨w.heap.size, 2, none⟩ = some (.slice Ag c.gs.length cg) := HK0.out.cell 2
    have xa3 : wz.cell? ⟨w.heap.size, 3, none⟩ = some (.slice Aq c.outs.length cq) := HK0.out.cell 3
    have xb0 : wz.cell? ⟨w.heap.size + 1, 0, none⟩ = some (.slice A g.rows.length c9) := HK1.out.cell 0
    have xb1 : wz.cell? ⟨w.heap.size + 1, 1, none⟩ = some (.slice A1 g.ones.length c1) := HK1.out.cell 1
    have xb2 : wz.cell? ⟨w.heap.size + 1, 2, none⟩ = some (.slice A2 g.cols.length c2) := HK1.out.cell 2
    have xr0 : wz.cell? ⟨w.heap.size + 1 + 1, 0, none⟩ = some (.slice none 0 0) := HK2.out.cell 0
    have xrf0 : wz.frozen? ⟨w.heap.size + 1 + 1, 0, none⟩ = false := HK2.out.free 0
    have xr1 : wz.cell? ⟨w.heap.size + 1 + 1, 1, none⟩ = some (.slice none 0 0) := HK2.out.cell 1
    have xrf1 : wz.frozen? ⟨w.heap.size + 1 + 1, 1, none⟩ = false := HK2.out.free 1
    have xr2 : wz.cell? ⟨w.heap.size + 1 + 1, 2, none⟩ = some (.slice none 0 0) := HK2.out.cell 2
    have xrf2 : wz.frozen? ⟨w.heap.size + 1 + 1, 2, none⟩ = false := HK2.out.free 2
    go_wp2
    refine bodyPost_ret (v := .tuple #[gbV (.slice none 0 0) (.slice none 0 0) (.slice none 0 0), .bool false]) (by simp [results, Try.results45, go_sem, gbV, xr0, xr1, xr2]) rfl ?_
    rw [HM.out]
    exact RetGbB.no (((HB.out.setCell (p := ⟨w.heap.size + 1 + 1, 0, none⟩) (by simp; omega) _).setCell (p := ⟨w.heap.size + 1 + 1, 1, none⟩) (by simp; omega) _).setCell (p := ⟨w.heap.size + 1 + 1, 2, none⟩) (by simp; omega) _)
  rcases k3 : inB k 0 ((g.rows.length : Int) - 1) with _ | _
  · skip
    have HM := Lib.hid (show bendM 2 0 1 c g k row m = none by unfold bendM; simp [k1, k2, k3])
    have xa0 : w0.cell? ⟨w.heap.size, 0, none⟩ = some (.int .i64 c.i0) := HK0.out.cell 0
    have xa1 : w0.cell? ⟨w.heap.size, 1, none⟩ = some (.int .i64 c.i1) := HK0.out.cell 1
    have xa2 : w0.cell? ⟨w.heap.size, 2, none⟩ = some (.slice Ag c.gs.length cg) := HK0.out.cell 2
    have xa3 : w0.cell? ⟨w.heap.size, 3, none⟩ = some (.slice Aq c.outs.length cq) := HK0.out.cell 3
    have xb0 : w0.cell? ⟨w.heap.size + 1, 0, none⟩ = some (.slice A g.rows.length c9) := HK1.out.cell 0
    have xb1 : w0.cell? ⟨w.heap.size + 1, 1, none⟩ = some (.slice A1 g.ones.length c1) := HK1.out.cell 1
    have xb2 : w0.cell? ⟨w.heap.size + 1, 2, none⟩ = some (.slice A2 g.cols.length c2) := HK1.out.cell 2
    have xr0 : w0.cell? ⟨w.heap.size + 1 + 1, 0, none⟩ = some (.slice none 0 0) := HK2.out.cell 0
    have xrf0 : w0.frozen? ⟨w.heap.size + 1 + 1, 0, none⟩ = false := HK2.out.free 0
    have xr1 : w0.cell? ⟨w.heap.size + 1 + 1, 1, none⟩ = some (.slice none 0 0) := HK2.out.cell 1
    have xrf1 : w0.frozen? ⟨w.heap.size + 1 + 1, 1, none⟩ = false := HK2.out.free 1
    have xr2 : w0.cell? ⟨w.heap.size + 1 + 1, 2, none⟩ = some (.slice none 0 0) := HK2.out.cell 2
    have xrf2 : w0.frozen? ⟨w.heap.size + 1 + 1, 2, none⟩ = false := HK2.out.free 2
    go_enter Try.func45, Try.ntmps45
    go_wp2_with fail
    clear hw0
    refine (c_spec_ciGood (HC.out.below HB.out)).mono ?_
    rintro e u0 ⟨rfl, hb⟩
    clear xa0 xa1 xa2 xa3 xb0 xb1 xb2 xr0 xr1 xr2 xrf0 xrf1 xrf2
    replace HK0 := Lib.hid (HK0.out.step hb)
    replace HK1 := Lib.hid (HK1.out.step hb)
    replace HK2 := Lib.hid (HK2.out.step hb)
    replace HB := Lib.hid (below_step HB.out hb)
    clear hb
    have xa0 : u0.cell? ⟨w.heap.size, 0, none⟩ = some (.int .i64 c.i0) := HK0.out.cell 0
    have xa1 : u0.cell? ⟨w.heap.size, 1, none⟩ = some (.int .i64 c.i1) := HK0.out.cell 1
    have xa2 : u0.cell? ⟨w.heap.size, 2, none⟩ = some (.slice Ag c.gs.length cg) := HK0.out.cell 2
    have xa3 : u0.cell? ⟨w.heap.size, 3, none⟩ = some (.slice Aq c.outs.length cq) := HK0.out.cell 3
    have xb0 : u0.cell? ⟨w.heap.size + 1, 0, none⟩ = some (.slice A g.rows.length c9) := HK1.out.cell 0
    have xb1 : u0.cell? ⟨w.heap.size + 1, 1, none⟩ = some (.slice A1 g.ones.length c1) := HK1.out.cell 1
    have xb2 : u0.cell? ⟨w.heap.size + 1, 2, none⟩ = some (.slice A2 g.cols.length c2) := HK1.out.cell 2
    have xr0 : u0.cell? ⟨w.heap.size + 1 + 1, 0, none⟩ = some (.slice none 0 0) := HK2.out.cell 0
    have xrf0 : u0.frozen? ⟨w.heap.size + 1 + 1, 0, none⟩ = false := HK2.out.free 0
    have xr1 : u0.cell? ⟨w.heap.size + 1 + 1, 1, none⟩ = some (.slice none 0 0) := HK2.out.cell 1
    have xrf1 : u0.frozen? ⟨w.heap.size + 1 + 1, 1, none⟩ = false := HK2.out.free 1
    have xr2 : u0.cell? ⟨w.heap.size + 1 + 1, 2, none⟩ = some (.slice none 0 0) := HK2.out.cell 2
    have xrf2 : u0.frozen? ⟨w.heap.size + 1 + 1, 2, none⟩ = false := HK2.out.free 2
    go_wp2_with fail
    refine (c_spec_hgGood (HC.out.below HB.out) k1 (H.out.below HB.out) HS.out).mono ?_
    rintro e wz ⟨rfl, hb⟩
    clear xa0 xa1 xa2 xa3 xb0 xb1 xb2 xr0 xr1 xr2 xrf0 xrf1 xrf2
    replace HK0 := Lib.hid (HK0.out.step hb)
    replace HK1 := Lib.hid (HK1.out.step hb)
    replace HK2 := Lib.hid (HK2.out.step hb)
    replace HB := Lib.hid (below_step HB.out hb)
    clear hb
    have xa0 : wz.cell? ⟨w.heap.size, 0, none⟩ = some (.int .i64 c.i0) := HK0.out.cell 0
    have xa1 : wz.cell? ⟨w.heap.size, 1, none⟩ = some (.int .i64 c.i1) := HK0.out.cell 1
    have xa2 : wz.cell? ⟨w.heap.size, 2, none⟩ = some (.slice Ag c.gs.length cg) := HK0.out.cell 2
    have xa3 : wz.cell? ⟨w.heap.size, 3, none⟩ = some (.slice Aq c.outs.length cq) := HK0.out.cell 3
    have xb0 : wz.cell? ⟨w.heap.size + 1, 0, none⟩ = some (.slice A g.rows.length c9) := HK1.out.cell 0
    have xb1 : wz.cell? ⟨w.heap.size + 1, 1, none⟩ = some (.slice A1 g.ones.length c1) := HK1.out.cell 1
    have xb2 : wz.cell? ⟨w.heap.size + 1, 2, none⟩ = some (.slice A2 g.cols.length c2) := HK1.out.cell 2
    have xr0 : wz.cell? ⟨w.heap.size + 1 + 1, 0, none⟩ = some (.slice none 0 0) := HK2.out.cell 0
    have xrf0 : wz.frozen? ⟨w.heap.size + 1 + 1, 0, none⟩ = false := HK2.out.free 0
    have xr1 : wz.cell? ⟨w.heap.size + 1 + 1, 1, none⟩ = some (.slice none 0 0) := HK2.out.cell 1
    have xrf1 : wz.frozen? ⟨w.heap.size + 1 + 1, 1, none⟩ = false := HK2.out.free 1
    have xr2 : wz.cell? ⟨w.heap.size + 1 + 1, 2, none⟩ = some (.slice none 0 0) := HK2.out.cell 2
    have xrf2 : wz.frozen? ⟨w.heap.size + 1 + 1, 2, none⟩ = false := HK2.out.free 2
    go_wp2_with fail
    refine (c_spec_l1In).mono ?_
    rintro e w' ⟨rfl, rfl⟩
    go_wp2
    refine bodyPost_ret (v := .tuple #[gbV (.slice none 0 0) (.slice none 0 0) (.slice none 0 0), .bool false]) (by simp [results, Try.results45, go_sem, gbV, xr0, xr1, xr2]) rfl ?_
    rw [HM.out]
    exact RetGbB.no (((HB.out.setCell (p := ⟨w.heap.size + 1 + 1, 0, none⟩) (by simp; omega) _).setCell (p := ⟨w.heap.size + 1 + 1, 1, none⟩) (by simp; omega) _).setCell (p := ⟨w.heap.size + 1 + 1, 2, none⟩) (by simp; omega) _)
  rcases k4 : inB row 0 1 with _ | _
  · skip
    have HM := Lib.hid (show bendM 2 0 1 c g k row m = none by unfold bendM; simp [k1, k2, k3, k4])
    have xa0 : w0.cell? ⟨w.heap.size, 0, none⟩ = some (.int .i64 c.i0) := HK0.out.cell 0
    have xa1 : w0.cell? ⟨w.heap.size, 1, none⟩ = some (.int .i64 c.i1) := HK0.out.cell 1
    have xa2 : w0.cell? ⟨w.heap.size, 2, none⟩ = some (.slice Ag c.gs.length cg) := HK0.out.cell 2
    have xa3 : w0.cell? ⟨w.heap.size, 3, none⟩ = some (.slice Aq c.outs.length cq) := HK0.out.cell 3
    have xb0 : w0.cell? ⟨w.heap.size + 1, 0, none⟩ = some (.slice A g.rows.length c9) := HK1.out.cell 0
    have xb1 : w0.cell? ⟨w.heap.size + 1, 1, none⟩ = some (.slice A1 g.ones.length c1) := HK1.out.cell 1
    have xb2 : w0.cell? ⟨w.heap.size + 1, 2, none⟩ = some (.slice A2 g.cols.length c2) := HK1.out.cell 2
    have xr0 : w0.cell? ⟨w.heap.size + 1 + 1, 0, none⟩ = some (.slice none 0 0) := HK2.out.cell 0
    have xrf0 : w0.frozen? ⟨w.heap.size + 1 + 1, 0, none⟩ = false := HK2.out.free 0
    have xr1 : w0.cell? ⟨w.heap.size + 1 + 1, 1, none⟩ = some (.slice none 0 0) := HK2.out.cell 1
    have xrf1 : w0.frozen? ⟨w.heap.size + 1 + 1, 1, none⟩ = false := HK2.out.free 1
    have xr2 : w0.cell? ⟨w.heap.size + 1 + 1, 2, none⟩ = some (.slice none 0 0) := HK2.out.cell 2
    have xrf2 : w0.frozen? ⟨w.heap.size + 1 + 1, 2, none⟩ = false := HK2.out.free 2
    go_enter Try.func45, Try.ntmps45
    go_wp2_with fail
    clear hw0
    refine (c_spec_ciGood (HC.out.below HB.out)).mono ?_
    rintro e u0 ⟨rfl, hb⟩
    clear xa0 xa1 xa2 xa3 xb0 xb1 xb2 xr0 xr1 xr2 xrf0 xrf1 xrf2
    replace HK0 := Lib.hid (HK0.out.step hb)
    replace HK1 := Lib.hid (HK1.out.step hb)
    replace HK2 := Lib.hid (HK2.out.step hb)
    replace HB := Lib.hid (below_step HB.out hb)
    clear hb
    have xa0 : u0.cell? ⟨w.heap.size, 0, none⟩ = some (.int .i64 c.i0) := HK0.out.cell 0
    have xa1 : u0.cell? ⟨w.heap.size, 1, none⟩ = some (.int .i64 c.i1) := HK0.out.cell 1
    have xa2 : u0.cell? ⟨w.heap.size, 2, none⟩ = some (.slice Ag c.gs.length cg) := HK0.out.cell 2
    have xa3 : u0.cell? ⟨w.heap.size, 3, none⟩ = some (.slice Aq c.outs.length cq) := HK0.out.cell 3
    have xb0 : u0.cell? ⟨w.heap.size + 1, 0, none⟩ = some (.slice A g.rows.length c9) := HK1.out.cell 0
    have xb1 : u0.cell? ⟨w.heap.size + 1, 1, none⟩ = some (.slice A1 g.ones.length c1) := HK1.out.cell 1
    have xb2 : u0.cell? ⟨w.heap.size + 1, 2, none⟩ = some (.slice A2 g.cols.length c2) := HK1.out.cell 2
    have xr0 : u0.cell? ⟨w.heap.size + 1 + 1, 0, none⟩ = some (.slice none 0 0) := HK2.out.cell 0
    have xrf0 : u0.frozen? ⟨w.heap.size + 1 + 1, 0, none⟩ = false := HK2.out.free 0
    have xr1 : u0.cell? ⟨w.heap.size + 1 + 1, 1, none⟩ = some (.slice none 0 0) := HK2.out.cell 1
    have xrf1 : u0.frozen? ⟨w.heap.size + 1 + 1, 1, none⟩ = false := HK2.out.free 1
    have xr2 : u0.cell? ⟨w.heap.size + 1 + 1, 2, none⟩ = some (.slice none 0 0) := HK2.out.cell 2
    have xrf2 : u0.frozen? ⟨w.heap.size + 1 + 1, 2, none⟩ = false := HK2.out.free 2
    go_wp2_with fail
    refine (c_spec_hgGood (HC.out.below HB.out) k1 (H.out.below HB.out) HS.out).mono ?_
    rintro e wz ⟨rfl, hb⟩
    clear xa0 xa1 xa2 xa3 xb0 xb1 xb2 xr0 xr1 xr2 xrf0 xrf1 xrf2
    replace HK0 := Lib.hid (HK0.out.step hb)
    replace HK1 := Lib.hid (HK1.out.step hb)
    replace HK2 := Lib.hid (HK2.out.step hb)
    replace HB := Lib.hid (below_step HB.out hb)
    clear hb
    have xa0 : wz.cell? ⟨w.heap.size, 0, none⟩ = some (.int .i64 c.i0) := HK0.out.cell 0
    have xa1 : wz.cell? ⟨w.heap.size, 1, none⟩ = some (.int .i64 c.i1) := HK0.out.cell 1
    have xa2 : wz.cell? ⟨w.heap.size, 2, none⟩ = some (.slice Ag c.gs.length cg) := HK0.out.cell 2
    have xa3 : wz.cell? ⟨w.heap.size, 3, none⟩ = some (.slice Aq c.outs.length cq) := HK0.out.cell 3
    have xb0 : wz.cell? ⟨w.heap.size + 1, 0, none⟩ = some (.slice A g.rows.length c9) := HK1.out.cell 0
    have xb1 : wz.cell? ⟨w.heap.size + 1, 1, none⟩ = some (.slice A1 g.ones.length c1) := HK1.out.cell 1
    have xb2 : wz.cell? ⟨w.heap.size + 1, 2, none⟩ = some (.slice A2 g.cols.length c2) := HK1.out.cell 2
    have xr0 : wz.cell? ⟨w.heap.size + 1 + 1, 0, none⟩ = some (.slice none 0 0) := HK2.out.cell 0
    have xrf0 : wz.frozen? ⟨w.heap.size + 1 + 1, 0, none⟩ = false := HK2.out.free 0
    have xr1 : wz.cell? ⟨w.heap.size + 1 + 1, 1, none⟩ = some (.slice none 0 0) := HK2.out.cell 1
    have xrf1 : wz.frozen? ⟨w.heap.size + 1 + 1, 1, none⟩ = false := HK2.out.free 1
    have xr2 : wz.cell? ⟨w.heap.size + 1 + 1, 2, none⟩ = some (.slice none 0 0) := HK2.out.cell 2
    have xrf2 : wz.frozen? ⟨w.heap.size + 1 + 1, 2, none⟩ = false := HK2.out.free 2
    go_wp2_with fail
    refine (c_spec_l1In).mono ?_
    rintro e w' ⟨rfl, rfl⟩
    go_wp2_with fail
    refine (c_spec_l1In).mono ?_
    rintro e w' ⟨rfl, rfl⟩
    go_wp2
    refine bodyPost_ret (v := .tuple #[gbV (.slice none 0 0) (.slice none 0 0) (.slice none 0 0), .bool false]) (by simp [results, Try.results45, go_sem, gbV, xr0, xr1, xr2]) rfl ?_
    rw [HM.out]
    exact RetGbB.no (((HB.out.setCell (p := ⟨w.heap.size + 1 + 1, 0, none⟩) (by simp; omega) _).setCell (p := ⟨w.heap.size + 1 + 1, 1, none⟩) (by simp; omega) _).setCell (p := ⟨w.heap.size + 1 + 1, 2, none⟩) (by simp; omega) _)
  rcases k5 : inB m 0 65535 with _ | _
  · skip
    have HM := Lib.hid (show bendM 2 0 1 c g k row m = none by unfold bendM; simp [k1, k2, k3, k4, k5])
    have xa0 : w0.cell? ⟨w.heap.size, 0, none⟩ = some (.int .i64 c.i0) := HK0.out.cell 0
    have xa1 : w0.cell? ⟨w.heap.size, 1, none⟩ = some (.int .i64 c.i1) := HK0.out.cell 1
    have xa2 : w0.cell? ⟨w.heap.size, 2, none⟩ = some (.slice Ag c.gs.length cg) := HK0.out.cell 2
    have xa3 : w0.cell? ⟨w.heap.size, 3, none⟩ = some (.slice Aq c.outs.length cq) := HK0.out.cell 3
    have xb0 : w0.cell? ⟨w.heap.size + 1, 0, none⟩ = some (.slice A g.rows.length c9) := HK1.out.cell 0
    have xb1 : w0.cell? ⟨w.heap.size + 1, 1, none⟩ = some (.slice A1 g.ones.length c1) := HK1.out.cell 1
    have xb2 : w0.cell? ⟨w.heap.size + 1, 2, none⟩ = some (.slice A2 g.cols.length c2) := HK1.out.cell 2
    have xr0 : w0.cell? ⟨w.heap.size + 1 + 1, 0, none⟩ = some (.slice none 0 0) := HK2.out.cell 0
    have xrf0 : w0.frozen? ⟨w.heap.size + 1 + 1, 0, none⟩ = false := HK2.out.free 0
    have xr1 : w0.cell? ⟨w.heap.size + 1 + 1, 1, none⟩ = some (.slice none 0 0) := HK2.out.cell 1
    have xrf1 : w0.frozen? ⟨w.heap.size + 1 + 1, 1, none⟩ = false := HK2.out.free 1
    have xr2 : w0.cell? ⟨w.heap.size + 1 + 1, 2, none⟩ = some (.slice none 0 0) := HK2.out.cell 2
    have xrf2 : w0.frozen? ⟨w.heap.size + 1 + 1, 2, none⟩ = false := HK2.out.free 2
    go_enter Try.func45, Try.ntmps45
    go_wp2_with fail
    clear hw0
    refine (c_spec_ciGood (HC.out.below HB.out)).mono ?_
    rintro e u0 ⟨rfl, hb⟩
    clear xa0 xa1 xa2 xa3 xb0 xb1 xb2 xr0 xr1 xr2 xrf0 xrf1 xrf2
    replace HK0 := Lib.hid (HK0.out.step hb)
    replace HK1 := Lib.hid (HK1.out.step hb)
    replace HK2 := Lib.hid (HK2.out.step hb)
    replace HB := Lib.hid (below_step HB.out hb)
    clear hb
    have xa0 : u0.cell? ⟨w.heap.size, 0, none⟩ = some (.int .i64 c.i0) := HK0.out.cell 0
    have xa1 : u0.cell? ⟨w.heap.size, 1, none⟩ = some (.int .i64 c.i1) := HK0.out.cell 1
    have xa2 : u0.cell? ⟨w.heap.size, 2, none⟩ = some (.slice Ag c.gs.length cg) := HK0.out.cell 2
    have xa3 : u0.cell? ⟨w.heap.size, 3, none⟩ = some (.slice Aq c.outs.length cq) := HK0.out.cell 3
    have xb0 : u0.cell? ⟨w.heap.size + 1, 0, none⟩ = some (.slice A g.rows.length c9) := HK1.out.cell 0
    have xb1 : u0.cell? ⟨w.heap.size + 1, 1, none⟩ = some (.slice A1 g.ones.length c1) := HK1.out.cell 1
    have xb2 : u0.cell? ⟨w.heap.size + 1, 2, none⟩ = some (.slice A2 g.cols.length c2) := HK1.out.cell 2
    have xr0 : u0.cell? ⟨w.heap.size + 1 + 1, 0, none⟩ = some (.slice none 0 0) := HK2.out.cell 0
    have xrf0 : u0.frozen? ⟨w.heap.size + 1 + 1, 0, none⟩ = false := HK2.out.free 0
    have xr1 : u0.cell? ⟨w.heap.size + 1 + 1, 1, none⟩ = some (.slice none 0 0) := HK2.out.cell 1
    have xrf1 : u0.frozen? ⟨w.heap.size + 1 + 1, 1, none⟩ = false := HK2.out.free 1
    have xr2 : u0.cell? ⟨w.heap.size + 1 + 1, 2, none⟩ = some (.slice none 0 0) := HK2.out.cell 2
    have xrf2 : u0.frozen? ⟨w.heap.size + 1 + 1, 2, none⟩ = false := HK2.out.free 2
    go_wp2_with fail
    refine (c_spec_hgGood (HC.out.below HB.out) k1 (H.out.below HB.out) HS.out).mono ?_
    rintro e wz ⟨rfl, hb⟩
    clear xa0 xa1 xa2 xa3 xb0 xb1 xb2 xr0 xr1 xr2 xrf0 xrf1 xrf2
    replace HK0 := Lib.hid (HK0.out.step hb)
    replace HK1 := Lib.hid (HK1.out.step hb)
    replace HK2 := Lib.hid (HK2.out.step hb)
    replace HB := Lib.hid (below_step HB.out hb)
    clear hb
    have xa0 : wz.cell? ⟨w.heap.size, 0, none⟩ = some (.int .i64 c.i0) := HK0.out.cell 0
    have xa1 : wz.cell? ⟨w.heap.size, 1, none⟩ = some (.int .i64 c.i1) := HK0.out.cell 1
    have xa2 : wz.cell? ⟨w.heap.size, 2, none⟩ = some (.slice Ag c.gs.length cg) := HK0.out.cell 2
    have xa3 : wz.cell? ⟨w.heap.size, 3, none⟩ = some (.slice Aq c.outs.length cq) := HK0.out.cell 3
    have xb0 : wz.cell? ⟨w.heap.size + 1, 0, none⟩ = some (.slice A g.rows.length c9) := HK1.out.cell 0
    have xb1 : wz.cell? ⟨w.heap.size + 1, 1, none⟩ = some (.slice A1 g.ones.length c1) := HK1.out.cell 1
    have xb2 : wz.cell? ⟨w.heap.size + 1, 2, none⟩ = some (.slice A2 g.cols.length c2) := HK1.out.cell 2
    have xr0 : wz.cell? ⟨w.heap.size + 1 + 1, 0, none⟩ = some (.slice none 0 0) := HK2.out.cell 0
    have xrf0 : wz.frozen? ⟨w.heap.size + 1 + 1, 0, none⟩ = false := HK2.out.free 0
    have xr1 : wz.cell? ⟨w.heap.size + 1 + 1, 1, none⟩ = some (.slice none 0 0) := HK2.out.cell 1
    have xrf1 : wz.frozen? ⟨w.heap.size + 1 + 1, 1, none⟩ = false := HK2.out.free 1
    have xr2 : wz.cell? ⟨w.heap.size + 1 + 1, 2, none⟩ = some (.slice none 0 0) := HK2.out.cell 2
    have xrf2 : wz.frozen? ⟨w.heap.size + 1 + 1, 2, none⟩ = false := HK2.out.free 2
    go_wp2_with fail
    refine (c_spec_l1In).mono ?_
    rintro e w' ⟨rfl, rfl⟩
    go_wp2_with fail
    refine (c_spec_l1In).mono ?_
    rintro e w' ⟨rfl, rfl⟩
    go_wp2_with fail
    refine (c_spec_lbGood).mono ?_
    rintro e w' ⟨rfl, rfl⟩
    go_wp2
    refine bodyPost_ret (v := .tuple #[gbV (.slice none 0 0) (.slice none 0 0) (.slice none 0 0), .bool false]) (by simp [results, Try.results45, go_sem, gbV, xr0, xr1, xr2]) rfl ?_
    rw [HM.out]
    exact RetGbB.no (((HB.out.setCell (p := ⟨w.heap.size + 1 + 1, 0, none⟩) (by simp; omega) _).setCell (p := ⟨w.heap.size + 1 + 1, 1, none⟩) (by simp; omega) _).setCell (p := ⟨w.heap.size + 1 + 1, 2, none⟩) (by simp; omega) _)
  obtain ⟨kn, rfl⟩ : ∃ n : Nat, k = (n : Int) := ⟨k.toNat, by have := inB_bd k3; omega⟩
  obtain ⟨rn, rfl⟩ : ∃ n : Nat, row = (n : Int) := ⟨row.toNat, by have := inB_bd k4; omega⟩
  have hkl : kn < g.rows.length := by have := inB_bd k3; omega
  have hrn : rn < 2 := by have := inB_bd k4; omega
  have hmb := inB_bd k5
  have hro := bend_row k2 hkl
  have HM := Lib.hid (show bendM 2 0 1 c g kn rn m = some (bendG g kn rn m) by unfold bendM; rw [k1, k2, k3, k4, k5]; simp)
  have xa0 : w0.cell? ⟨w.heap.size, 0, none⟩ = some (.int .i64 c.i0) := HK0.out.cell 0
  have xa1 : w0.cell? ⟨w.heap.size, 1, none⟩ = some (.int .i64 c.i1) := HK0.out.cell 1
  have xa2 : w0.cell? ⟨w.heap.size, 2, none⟩ = some (.slice Ag c.gs.length cg) := HK0.out.cell 2
  have xa3 : w0.cell? ⟨w.heap.size, 3, none⟩ = some (.slice Aq c.outs.length cq) := HK0.out.cell 3
  have xb0 : w0.cell? ⟨w.heap.size + 1, 0, none⟩ = some (.slice A g.rows.length c9) := HK1.out.cell 0
  have xb1 : w0.cell? ⟨w.heap.size + 1, 1, none⟩ = some (.slice A1 g.ones.length c1) := HK1.out.cell 1
  have xb2 : w0.cell? ⟨w.heap.size + 1, 2, none⟩ = some (.slice A2 g.cols.length c2) := HK1.out.cell 2
  have xr0 : w0.cell? ⟨w.heap.size + 1 + 1, 0, none⟩ = some (.slice none 0 0) := HK2.out.cell 0
  have xrf0 : w0.frozen? ⟨w.heap.size + 1 + 1, 0, none⟩ = false := HK2.out.free 0
  have xr1 : w0.cell? ⟨w.heap.size + 1 + 1, 1, none⟩ = some (.slice none 0 0) := HK2.out.cell 1
  have xrf1 : w0.frozen? ⟨w.heap.size + 1 + 1, 1, none⟩ = false := HK2.out.free 1
  have xr2 : w0.cell? ⟨w.heap.size + 1 + 1, 2, none⟩ = some (.slice none 0 0) := HK2.out.cell 2
  have xrf2 : w0.frozen? ⟨w.heap.size + 1 + 1, 2, none⟩ = false := HK2.out.free 2
  go_enter Try.func45, Try.ntmps45
  go_wp2_with fail
  clear hw0
  refine (c_spec_ciGood (HC.out.below HB.out)).mono ?_
  rintro e u0 ⟨rfl, hb⟩
  clear xa0 xa1 xa2 xa3 xb0 xb1 xb2 xr0 xr1 xr2 xrf0 xrf1 xrf2
  replace HK0 := Lib.hid (HK0.out.step hb)
  replace HK1 := Lib.hid (HK1.out.step hb)
  replace HK2 := Lib.hid (HK2.out.step hb)
  replace HB := Lib.hid (below_step HB.out hb)
  clear hb
  have xa0 : u0.cell? ⟨w.heap.size, 0, none⟩ = some (.int .i64 c.i0) := HK0.out.cell 0
  have xa1 : u0.cell? ⟨w.heap.size, 1, none⟩ = some (.int .i64 c.i1) := HK0.out.cell 1
  have xa2 : u0.cell? ⟨w.heap.size, 2, none⟩ = some (.slice Ag c.gs.length cg) := HK0.out.cell 2
  have xa3 : u0.cell? ⟨w.heap.size, 3, none⟩ = some (.slice Aq c.outs.length cq) := HK0.out.cell 3
  have xb0 : u0.cell? ⟨w.heap.size + 1, 0, none⟩ = some (.slice A g.rows.length c9) := HK1.out.cell 0
  have xb1 : u0.cell? ⟨w.heap.size + 1, 1, none⟩ = some (.slice A1 g.ones.length c1) := HK1.out.cell 1
  have xb2 : u0.cell? ⟨w.heap.size + 1, 2, none⟩ = some (.slice A2 g.cols.length c2) := HK1.out.cell 2
  have xr0 : u0.cell? ⟨w.heap.size + 1 + 1, 0, none⟩ = some (.slice none 0 0) := HK2.out.cell 0
  have xrf0 : u0.frozen? ⟨w.heap.size + 1 + 1, 0, none⟩ = false := HK2.out.free 0
  have xr1 : u0.cell? ⟨w.heap.size + 1 + 1, 1, none⟩ = some (.slice none 0 0) := HK2.out.cell 1
  have xrf1 : u0.frozen? ⟨w.heap.size + 1 + 1, 1, none⟩ = false := HK2.out.free 1
  have xr2 : u0.cell? ⟨w.heap.size + 1 + 1, 2, none⟩ = some (.slice none 0 0) := HK2.out.cell 2
  have xrf2 : u0.frozen? ⟨w.heap.size + 1 + 1, 2, none⟩ = false := HK2.out.free 2
  go_wp2_with fail
  refine (c_spec_hgGood (HC.out.below HB.out) k1 (H.out.below HB.out) HS.out).mono ?_
  rintro e w0 ⟨rfl, hb⟩
  clear xa0 xa1 xa2 xa3 xb0 xb1 xb2 xr0 xr1 xr2 xrf0 xrf1 xrf2
  replace HK0 := Lib.hid (HK0.out.step hb)
  replace HK1 := Lib.hid (HK1.out.step hb)
  replace HK2 := Lib.hid (HK2.out.step hb)
  replace HB := Lib.hid (below_step HB.out hb)
  clear hb
  have xa0 : w0.cell? ⟨w.heap.size, 0, none⟩ = some (.int .i64 c.i0) := HK0.out.cell 0
  have xa1 : w0.cell? ⟨w.heap.size, 1, none⟩ = some (.int .i64 c.i1) := HK0.out.cell 1
  have xa2 : w0.cell? ⟨w.heap.size, 2, none⟩ = some (.slice Ag c.gs.length cg) := HK0.out.cell 2
  have xa3 : w0.cell? ⟨w.heap.size, 3, none⟩ = some (.slice Aq c.outs.length cq) := HK0.out.cell 3
  have xb0 : w0.cell? ⟨w.heap.size + 1, 0, none⟩ = some (.slice A g.rows.length c9) := HK1.out.cell 0
  have xb1 : w0.cell? ⟨w.heap.size + 1, 1, none⟩ = some (.slice A1 g.ones.length c1) := HK1.out.cell 1
  have xb2 : w0.cell? ⟨w.heap.size + 1, 2, none⟩ = some (.slice A2 g.cols.length c2) := HK1.out.cell 2
  have xr0 : w0.cell? ⟨w.heap.size + 1 + 1, 0, none⟩ = some (.slice none 0 0) := HK2.out.cell 0
  have xrf0 : w0.frozen? ⟨w.heap.size + 1 + 1, 0, none⟩ = false := HK2.out.free 0
  have xr1 : w0.cell? ⟨w.heap.size + 1 + 1, 1, none⟩ = some (.slice none 0 0) := HK2.out.cell 1
  have xrf1 : w0.frozen? ⟨w.heap.size + 1 + 1, 1, none⟩ = false := HK2.out.free 1
  have xr2 : w0.cell? ⟨w.heap.size + 1 + 1, 2, none⟩ = some (.slice none 0 0) := HK2.out.cell 2
  have xrf2 : w0.frozen? ⟨w.heap.size + 1 + 1, 2, none⟩ = false := HK2.out.free 2
  go_wp2_with fail
  refine (c_spec_l1In).mono ?_
  rintro e w' ⟨rfl, rfl⟩
  go_wp2_with fail
  refine (c_spec_l1In).mono ?_
  rintro e w' ⟨rfl, rfl⟩
  go_wp2_with fail
  refine (c_spec_lbGood).mono ?_
  rintro e w' ⟨rfl, rfl⟩
  have HP := HK1
  have hsz := HB.out.size
  have hlow := HK2.out.lt
  go_upto_region 3 with fail
  clear xa0 xa1 xa2 xa3 xb0 xb1 xb2 xr0 xr1 xr2 xrf0 xrf1 xrf2
  go_cut [12] (fun s9 wx => ∃ b ov cv, s9 = .pointer (some ⟨b, 0, none⟩) ∧ Hid (Three 54 wx w0 b ov cv g.ones g.cols))
  case first =>
    have q0 : ∀ w', Below w0.heap.size w0 w' → w'.cell? ⟨w.heap.size + 1, 1, none⟩ = some (.slice A1 g.ones.length c1) := fun w' h => (h.cell (p := ⟨w.heap.size + 1, 1, none⟩) HP.out.lt).trans (HP.out.cell 1)
    have q1 : ∀ w', Below w0.heap.size w0 w' → w'.cell? ⟨w.heap.size + 1, 2, none⟩ = some (.slice A2 g.cols.length c2) := fun w' h => (h.cell (p := ⟨w.heap.size + 1, 2, none⟩) HP.out.lt).trans (HP.out.cell 2)
    go_region_held3 (fun w' => Below w0.heap.size w0 w')
      (first | (refine below_step ?_ HD.out; assumption) | (exact (Below.refl _ _).drew) | (exact Below.refl _ _) | (exact Below.alloc (by assumption) (Below.size (B := w0.heap.size) (w := w0) (by assumption)) _) | (exact Below.alloc (Below.refl _ _) (Nat.le_refl _) _) | (exact below_refill (by assumption) (by first | exact Nat.le_refl _ | assumption | simp)) | (refine Below.setCell (Below.setCell (Below.setCell (by assumption) (p := ⟨_, 0, none⟩) ?_ _) (p := ⟨_, 1, none⟩) ?_ _) (p := ⟨_, 2, none⟩) ?_ _ <;> (first | exact Nat.le_refl _ | assumption)))
      (first
        | (go_at_call_of 84 (Value.slice A1 g.ones.length c1); refine (c_spec_l1Own ((H.out.ones.below HB.out).below (by first | assumption | (refine Below.alloc ?_ (Below.size ?_) _ <;> assumption))) (by omega)).mono ?_; rintro e wa ⟨ua, rfl, Oa, hb⟩; obtain ⟨Aa, ca, rfl, -⟩ := Oa.ints; replace Oa := Lib.hid Oa; have HD := Lib.hid hb; have hLa : Below w0.heap.size w0 wa := below_step (by first | assumption | exact (Below.refl _ _).drew) hb; have hsa : w0.heap.size ≤ wa.heap.size := Nat.le_trans (by first | exact Nat.le_refl _ | assumption | exact Nat.le_succ_of_le (by assumption) | (simp; done) | (simp; omega)) hb.size; (first | (replace KZ := Lib.hid (KZ.out.step hb)) | (have KZ : Hid (Blk _ w0.heap.size _ _) := Lib.hid ((Blk.new w0.drew _ _).step hb)) | (have KZ := Lib.hid ((Blk.new _ _ _).step hb)) | skip); (try (have y0 := KZ.out.cell 0; have y1 := KZ.out.cell 1; have y2 := KZ.out.cell 2; have yf0 := KZ.out.free 0; have yf1 := KZ.out.free 1; have yf2 := KZ.out.free 2; simp only [List.getElem?_toArray, List.getElem?_cons_zero, List.getElem?_cons_succ] at y0 y1 y2)))
        | (go_at_call_of 84 (Value.slice A2 g.cols.length c2); refine (c_spec_l1Own ((H.out.cols.below HB.out).below (by first | assumption | (refine Below.alloc ?_ (Below.size ?_) _ <;> assumption))) (by omega)).mono ?_; rintro e wb ⟨ub, rfl, Ob, hb⟩; obtain ⟨Ab, cb, rfl, -⟩ := Ob.ints; replace Ob := Lib.hid Ob; have HD := Lib.hid hb; have hLb : Below w0.heap.size w0 wb := below_step (by first | assumption | exact (Below.refl _ _).drew) hb; (try have hka := KZ.out.lt); have hsb : w0.heap.size ≤ wb.heap.size := Nat.le_trans (by first | exact Nat.le_refl _ | assumption | exact Nat.le_succ_of_le (by assumption) | (simp; done) | (simp; omega)) hb.size; (first | (replace KZ := Lib.hid (KZ.out.step hb)) | (have KZ : Hid (Blk _ w0.heap.size _ _) := Lib.hid ((Blk.new w0.drew _ _).step hb)) | (have KZ := Lib.hid ((Blk.new _ _ _).step hb)) | skip); (try (have y0 := KZ.out.cell 0; have y1 := KZ.out.cell 1; have y2 := KZ.out.cell 2; have yf0 := KZ.out.free 0; have yf1 := KZ.out.free 1; have yf2 := KZ.out.free 2; simp only [List.getElem?_toArray, List.getElem?_cons_zero, List.getElem?_cons_succ] at y0 y1 y2))))
    all_goals
      have h1 : OwnI wb w0.heap.size (.slice Aa g.ones.length ca) g.ones := (OwnI.mono (B' := w0.heap.size) Oa.out (by first | exact Nat.le_refl _ | (simp; done))).below (by first | exact HD.out | exact lit_trans HD.out)
      have h2 : OwnI wb w0.heap.size (.slice Ab g.cols.length cb) g.cols := OwnI.mono (B' := w0.heap.size) Ob.out (by first | exact hsa | exact Nat.le_succ_of_le hsa | (simp; omega))
      have h3 : Apt (.slice Aa g.ones.length ca) (.slice Ab g.cols.length cb) := Apt.ofLt Oa.out.lt (fun b hb => Nat.le_trans (by first | exact Nat.le_refl _ | (simp; done)) (Ob.out.ge b hb))
      have h4 := hLb
      go_wp2_with fail
      go_meet
      first
        | exact ⟨_, _, _, rfl, Lib.hid (three_new h1 h2 h3 h4 hsb)⟩
        | exact ⟨_, _, _, rfl, Lib.hid (three_set KZ.out h1 h2 h3 h4 (by rintro u (rfl | rfl) e; (first | (have l2 : w0.heap.size + 1 ≤ _ := Nat.le_trans (by simp) (Oa.out.ge _ e); omega) | (have l1 := Oa.out.lt _ e; omega)); (first | (have l3 := Ob.out.ge _ e; omega) | (have l4 : wa.heap.size + 1 ≤ _ := Nat.le_trans (by simp) (Ob.out.ge _ e); omega))) (by first | exact Nat.le_refl _ | exact hsa))⟩
  case rest =>
    obtain ⟨b, ov, cv, rfl, H3⟩ := hcut
    obtain ⟨W1, hW1⟩ : ∃ W, wc = W := ⟨_, rfl⟩
    rw [hW1] at H3 ⊢
    clear hW1
    have p0 : W1.cell? ⟨w.heap.size + 1, 0, none⟩ = some (.slice A g.rows.length c9) := (H3.out.below.cell (p := ⟨w.heap.size + 1, 0, none⟩) HP.out.lt).trans (HP.out.cell 0)
    have HST := Lib.hid H3.out.sta
    have hlo := HST.out.lo
    clear H3
    go_wp2_with fail
    go_loopw [14, 54] (fun s5 i wr => ∃ (j : Nat) (x5 : Value), s5 = x5 ∧ j ≤ g.rows.length ∧ i = .int .i64 j ∧ ∃ rv vs, Hid (Sta 54 wr w0 b rv ov cv vs ⟨g.rows.take j, g.ones, g.cols⟩)) (fun _ i _ => g.rows.length - (intOf i).toNat)
    case atStart => exact ⟨0, _, rfl, Nat.zero_le _, rfl, _, _, by simpa using HST⟩
    case round =>
      obtain ⟨j, x5, rfl, hj, rfl, rv, vs, HO⟩ := hrel
      clear HST p0
      obtain ⟨wa, rfl⟩ : ∃ W, W = wr := ⟨wr, rfl⟩
      have HBa := Lib.hid (HB.out.trans (HO.out.below.mono HB.out.size))
      have hlb := HO.out.below.size
      by_cases hlt : j < g.rows.length
      · obtain ⟨bb, o, A', r, c', rfl, hbl, hrk, hcell, hi⟩ := HAT.out j hlt
        have hc2 := (HBa.out.cell (p := ⟨bb, o + j, none⟩) hbl).trans hcell
        have hrl' := HRL.out r (List.mem_of_getElem? hrk)
        have HI := Lib.hid ((hi.below HBa.out).drew)
        have HRK := Lib.hid hrk
        have hlen : (g.rows.take j).length = j := by simp; omega
        have x0 : wa.cell? ⟨b, 0, none⟩ = some rv := HO.out.blk.cell 0
        have hbl2 := HO.out.blk.lt
        clear hcell hi hrk
        go_wp2_with fail
        go_region_law (first
          | (refine step_app1 (B := w0.heap.size) (by rfl) (by rfl) Try.underlying41 info_ints rfl (HOW.out.alloc _) (cell_new w1 _ _) (by rfl) (by rfl) rfl (by unfold maxLen; omega) (by omega) (by simp; omega) ?_; intro v' w2 ho hg hfr; have HN := Lib.hid (HO.out.row (hb1.alloc hb1.size (.cells #[.slice Au r.length cu] 23)) (hu.alloc _) (by rw [hlen]; exact ho) hg hfr); have hk2 := (HS1.out.blk.alloc (.cells #[.slice Au r.length cu] 23)).grown hg (fun e => HS1.out.far rv (by simp) e.symm); have z0 : w2.cell? ⟨b, 0, none⟩ = some rv := hk2.cell 0; have zf := hk2.free 0; clear hk2; obtain ⟨Av, cv9, ev, -⟩ := HN.out.own.rows.rowsIn.form; simp only [List.length_append, hlen, List.length_cons, List.length_nil, Nat.zero_add] at ev; subst ev)
          | (go_simp; go_at_call 84; refine (c_spec_l1Own HI.out (by omega)).mono ?_; rintro e w1 ⟨u, rfl, hu, hb1⟩; obtain ⟨Au, cu, rfl, -⟩ := hu.ints; replace hb1 : Below wa.heap.size wa w1 := below_step ((Below.refl _ _).drew) hb1; have hsz1 := hb1.size; have HS1 := Lib.hid (HO.out.step hb1); have x1 : w1.cell? ⟨b, 0, none⟩ = some rv := HS1.out.blk.cell 0; have x2 : (w1.alloc (.cells #[.slice Au r.length cu] 23)).cell? ⟨b, 0, none⟩ = some rv := (HS1.out.blk.alloc _).cell 0; have hown := HS1.out.own.rows.outer; rw [hlen] at hown; have HOW := Lib.hid hown; clear hown))
        all_goals
          go_wp2
          go_roundw
          case rel => exact ⟨j + 1, _, rfl, by omega, by go_num, _, _, by rw [take_snoc HRK.out]; exact HN⟩
          case measure => simp [intOf]; omega
      · obtain rfl : j = g.rows.length := by omega
        have HO2 : Hid (Sta 54 wa w0 b rv ov cv vs g) := by have h := HO.out; rw [List.take_of_length_le (Nat.le_refl _)] at h; exact h
        clear HO
        obtain ⟨Ar, cr, rfl, -⟩ := HO2.out.own.rows.rowsIn.form
        obtain ⟨Ao, co, rfl, -⟩ := HO2.out.own.ones.ints
        obtain ⟨Ac, cc, rfl, -⟩ := HO2.out.own.cols.ints
        have x0 : wa.cell? ⟨b, 0, none⟩ = some _ := HO2.out.blk.cell 0
        have x1 : wa.cell? ⟨b, 1, none⟩ = some _ := HO2.out.blk.cell 1
        have x2 : wa.cell? ⟨b, 2, none⟩ = some _ := HO2.out.blk.cell 2
        obtain ⟨g0, c0, u, r, A8, c8, e8, -, -, hvs, hrk, hue, hcell, hOu⟩ := HO2.out.own.rows.at_ hkl
        have er : g.rows.getD kn [] = r := by rw [List.getD_eq_getElem?_getD, hrk]; rfl
        rw [er] at hro
        obtain ⟨hrl8, hrb⟩ := hro
        have hrn8 : rn < r.length := by omega
        have hx : r[rn]? = some r[rn] := List.getElem?_eq_getElem hrn8
        have hxb := hrb r[rn] (List.getElem_mem _)
        have hbx := bits_xor hxb.1 hmb.1 (by omega) (by omega)
        have hG := Lib.hid (show (⟨g.rows.set kn (r.set rn (xorI r[rn] m)), g.ones, g.cols⟩ : Gb) = bendG g kn rn m by unfold bendG bendR bendRow; rw [er, show r.getD rn 0 = r[rn] by rw [List.getD_eq_getElem?_getD, hx]; rfl])
        obtain ⟨gu, cu, eu, -, hgu, hcu⟩ := own_at hOu (by intro e; rw [e] at hrn8; simp at hrn8)
        subst eu
        have hxc := hcu rn _ hx
        have hxf := hOu.free rn
        injection e8 with e81 e82 e83
        subst e81 e83
        have HK9 := Lib.hid (HK2.out.below HO2.out.below HK2.out.lt)
        have xr0 : wa.cell? ⟨w.heap.size + 1 + 1, 0, none⟩ = some (.slice none 0 0) := HK9.out.cell 0
        have xr1 : wa.cell? ⟨w.heap.size + 1 + 1, 1, none⟩ = some (.slice none 0 0) := HK9.out.cell 1
        have xr2 : wa.cell? ⟨w.heap.size + 1 + 1, 2, none⟩ = some (.slice none 0 0) := HK9.out.cell 2
        have xrf0 := HK9.out.free 0
        have xrf1 := HK9.out.free 1
        have xrf2 := HK9.out.free 2
        have hum := List.mem_of_getElem? hvs
        have hfu := HO2.out.far _ (show _ ∈ _ from List.mem_cons_of_mem _ (List.mem_cons_of_mem _ (List.mem_cons_of_mem _ hum)))
        have hne : gu ≠ b := fun e => hfu (by rw [e]; rfl)
        have hgr := hOu.ge gu rfl
        have hr2 : gu ≠ w.heap.size + 1 + 1 := by omega
        have hr3 : ¬ b = w.heap.size + 1 + 1 := by omega
        have HBN := Lib.hid (HBa.out.setCell (p := ⟨gu, rn, none⟩) (show w.heap.size ≤ gu by omega) (.int .i64 (xorI r[rn] m)))
        have H9 := Lib.hid (OwnGb.put HO2.out.own hvs (grown_set wa ⟨gu, rn, none⟩ (.int .i64 (xorI r[rn] m))) (hOu.put rn (xorI r[rn] m)))
        rw [hG.out] at H9
        clear hOu hcu hx hG er hvs hum hfu
        generalize r[rn] = x at *
        go_wp2
        refine bodyPost_ret (v := .tuple #[gbV (.slice (some ⟨g0, 0, none⟩) g.rows.length cr) (.slice Ao g.ones.length co) (.slice Ac g.cols.length cc), .bool true]) (by simp [results, Try.results45, go_sem, gbV, xr0, xr1, xr2]) rfl ⟨_, _, _, vs, by rw [HM.out]; rfl, ?_, ?_⟩
        · rw [HM.out]; exact (((H9.out.setLow hlow 0 _).setLow hlow 1 _).setLow hlow 2 _).mono hsz
        · exact ((HBN.out.setCell (p := ⟨w.heap.size + 1 + 1, 0, none⟩) (by simp; omega) _).setCell (p := ⟨w.heap.size + 1 + 1, 1, none⟩) (by simp; omega) _).setCell (p := ⟨w.heap.size + 1 + 1, 2, none⟩) (by simp; omega) _
end Go.Proofs.Ytamngnenpapogaa
