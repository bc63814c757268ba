/- Contracts: the numbers of all rows of a circuit's tables, the program's and the reference's. No condition. -/
import Derived.Test.YtejeppjmlgfiaaaGreatCirE
import Derived.Test.YtejeppjmlgfiaaaGreatCirF
import Derived.Test.YtejeppjmlgfiaaaGreatCirG
namespace Go.Proofs.YtejeppjmlgfiaaaGreat
open Go.RowKit
set_option linter.unusedVariables false

def rowsM (m : Int) (c : Cir) : Option Int := if cirB c then some (m * cnt 1 c.gs) else none
theorem own_at {w : World} {B : Nat} {v : Value} {l : List Int} (h : OwnI w B v l) (hl : l ≠ []) : ∃ g c, v = .slice (some ⟨g, 0, none⟩) l.length c ∧ B ≤ g ∧ g < w.heap.size ∧ ∀ j x, l[j]? = some x → w.cell? ⟨g, j, none⟩ = some (.int .i64 x) := by
  obtain ⟨g, c, rfl, h1, h2, h3, h4⟩ := own_pos h (List.length_pos_iff.2 hl)
  refine ⟨g, c, rfl, h1, h2, fun j x hx => ?_⟩
  have hj := (List.getElem?_eq_some_iff.1 hx).1
  have := h.cellAt j (by simpa using hj)
  rw [this]; simp [hx]

theorem c_impl_RowsFor {c : Cir} {gv ov : Value} {w : World} (h : CirIn w gv ov c) : Calls Tryz.prog 37 #[cirV c gv ov] w fun e w' => e = .returned (.tuple #[.int .i64 (oV (rowsM 3 c)), .bool (oB (rowsM 3 c))]) ∧ Below w.heap.size w w' := by
  have H := Lib.hid h
  obtain ⟨hg, ho⟩ := h
  obtain ⟨A, cg, rfl, _, _, _⟩ := hg
  obtain ⟨A', co, rfl, _, _, _⟩ := ho
  have HX := Lib.hid (Blk.new w 26 #[.int .i64 c.i0, .int .i64 c.i1, .slice A c.gs.length cg, .slice A' c.outs.length co])
  have HB := Lib.hid ((Below.refl w.heap.size w).alloc (Nat.le_refl _) (.cells #[.int .i64 c.i0, .int .i64 c.i1, .slice A c.gs.length cg, .slice A' c.outs.length co] 26))
  unfold cirV
  go_enter Tryz.func37, Tryz.ntmps37
  go_wp2_with fail
  refine (c_impl_IsCircuit (H.out.below HB.out)).mono ?_
  rintro e w1 ⟨rfl, hb1⟩
  have HX1 := Lib.hid (HX.out.step hb1)
  have HB1 := Lib.hid (below_step HB.out hb1)
  clear hb1
  rcases hc : cirB c with _ | _
  · go_wp2
    go_ret2
    exact ⟨by simp [rowsM, hc, oV, oB], HB1.out⟩
  · have hbd := cirB_bd hc
    have k2 : w1.cell? ⟨w.heap.size, 2, none⟩ = some (.slice A c.gs.length cg) := HX1.out.cell 2
    go_wp2_with fail
    refine (c_impl_countKinds (H.out.below HB1.out).gates hbd.2.2.2.2.1 (cirB_kinds hc)).mono ?_
    rintro e w2 ⟨u, rfl, hu, hb2⟩
    obtain ⟨g, cc, rfl, _, _, hcell⟩ := own_at hu (by simp [kinds])
    have k1 : w2.cell? ⟨g, 1, none⟩ = some (.int .i64 (cnt 1 c.gs)) := hcell 1 _ rfl
    have hcb := cnt_bd 1 c.gs
    have HB2 := Lib.hid (below_step HB1.out hb2)
    rw [show (kinds c.gs).length = 4 from rfl]
    clear hb2 hcell hu
    go_wp2
    go_ret2
    exact ⟨by simp [rowsM, hc, oV, oB], HB2.out⟩
theorem c_impl_HalfRows {c : Cir} {gv ov : Value} {w : World} (h : CirIn w gv ov c) : Calls Tryz.prog 17 #[cirV c gv ov] w fun e w' => e = .returned (.tuple #[.int .i64 (oV (rowsM 2 c)), .bool (oB (rowsM 2 c))]) ∧ Below w.heap.size w w' := by
  have H := Lib.hid h
  obtain ⟨hg, ho⟩ := h
  obtain ⟨A, cg, rfl, _, _, _⟩ := hg
  obtain ⟨A', co, rfl, _, _, _⟩ := ho
  have HX := Lib.hid (Blk.new w 26 #[.int .i64 c.i0, .int .i64 c.i1, .slice A c.gs.length cg, .slice A' c.outs.length co])
  have HB := Lib.hid ((Below.refl w.heap.size w).alloc (Nat.le_refl _) (.cells #[.int .i64 c.i0, .int .i64 c.i1, .slice A c.gs.length cg, .slice A' c.outs.length co] 26))
  unfold cirV
  go_enter Tryz.func17, Tryz.ntmps17
  go_wp2_with fail
  refine (c_impl_IsCircuit (H.out.below HB.out)).mono ?_
  rintro e w1 ⟨rfl, hb1⟩
  have HX1 := Lib.hid (HX.out.step hb1)
  have HB1 := Lib.hid (below_step HB.out hb1)
  clear hb1
  rcases hc : cirB c with _ | _
  · go_wp2
    go_ret2
    exact ⟨by simp [rowsM, hc, oV, oB], HB1.out⟩
  · have hbd := cirB_bd hc
    have k2 : w1.cell? ⟨w.heap.size, 2, none⟩ = some (.slice A c.gs.length cg) := HX1.out.cell 2
    go_wp2_with fail
    refine (c_impl_countKinds (H.out.below HB1.out).gates hbd.2.2.2.2.1 (cirB_kinds hc)).mono ?_
    rintro e w2 ⟨u, rfl, hu, hb2⟩
    obtain ⟨g, cc, rfl, _, _, hcell⟩ := own_at hu (by simp [kinds])
    have k1 : w2.cell? ⟨g, 1, none⟩ = some (.int .i64 (cnt 1 c.gs)) := hcell 1 _ rfl
    have hcb := cnt_bd 1 c.gs
    have HB2 := Lib.hid (below_step HB1.out hb2)
    rw [show (kinds c.gs).length = 4 from rfl]
    clear hb2 hcell hu
    go_wp2
    go_ret2
    exact ⟨by simp [rowsM, hc, oV, oB], HB2.out⟩
end Go.Proofs.YtejeppjmlgfiaaaGreat
