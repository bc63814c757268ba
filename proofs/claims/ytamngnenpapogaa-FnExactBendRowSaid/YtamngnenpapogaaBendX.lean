/- Contracts of the bending of one row. Conditions: the tables are short. -/
import Derived.Test.YtamngnenpapogaaBend
import Derived.Test.YtamngnenpapogaaWir
namespace Go.Proofs.Ytamngnenpapogaa
open Go.RowKit
set_option linter.unusedVariables false

def Gb.none : Gb := ⟨[], [], []⟩
def RetGbB (w : World) (o : Option Gb) (e : Ending) (w' : World) : Prop := ∃ rv ov cv vs, e = .returned (.tuple #[gbV rv ov cv, .bool o.isSome]) ∧ OwnGb w' w.heap.size rv ov cv vs (o.getD Gb.none) ∧ Below w.heap.size w w'
theorem OwnGb.empty (w : World) (B : Nat) : OwnGb w B (.slice none 0 0) (.slice none 0 0) (.slice none 0 0) [] Gb.none :=
  ⟨OwnRs.nil w B, World.ownsRow_nil w B _ 1, World.ownsRow_nil w B _ 1, by
    refine List.pairwise_cons.2 ⟨fun u hu => ?_, List.pairwise_cons.2 ⟨fun u hu => ?_, by simp⟩⟩ <;> (intro g e; cases e)⟩
theorem RetGbB.no {w w' : World} (h : Below w.heap.size w w') : RetGbB w none (.returned (.tuple #[gbV (.slice none 0 0) (.slice none 0 0) (.slice none 0 0), .bool false])) w' := ⟨_, _, _, [], rfl, OwnGb.empty w' _, h⟩
theorem OwnGb.put {w w' : World} {B : Nat} {rv ov cv u : Value} {vs : List Value} {g : Gb} {i : Nat} {r : List Int} (h : OwnGb w B rv ov cv vs g) (hi : vs[i]? = some u) (hg : w.grownBy w' u.ownBlock) (hu : OwnI w' B u r) : OwnGb w' B rv ov cv vs ⟨g.rows.set i r, g.ones, g.cols⟩ := by
  have hap := List.pairwise_cons.1 h.apart
  have hap2 := List.pairwise_cons.1 hap.2
  have hm := List.mem_of_getElem? hi
  exact ⟨h.rows.put hi hg hu, h.ones.grown hg (fun x e e' => hap.1 u (by simp [hm]) x e e'.symm), h.cols.grown hg (fun x e e' => hap2.1 u (by simp [hm]) x e e'.symm), h.apart⟩
def bendM (n lo hi : Int) (c : Cir) (g : Gb) (k row m : Int) : Option Gb := if cirB c && tabB n c g && inB k 0 ((g.rows.length : Int) - 1) && inB row lo hi && inB m 0 65535 then some (bendG g k.toNat (row - lo).toNat m) else none
theorem bend_row {n : Int} {c : Cir} {g : Gb} {k : Nat} (h : tabB n c g = true) (hk : k < g.rows.length) : ((g.rows.getD k []).length : Int) = n ∧ ∀ x ∈ g.rows.getD k [], 0 ≤ x ∧ x ≤ 65535 := by
  have e : g.rows.getD k [] = g.rows[k] := by rw [List.getD_eq_getElem?_getD, List.getElem?_eq_getElem hk]; rfl
  rw [e]; exact (tabB_of h).2.1 _ (List.getElem_mem hk)
set_option maxRecDepth 100000 in
set_option maxHeartbeats 4000000 in
theorem c_impl_BendHalf {c : Cir} {g : Gb} {gv qv rv nv cv : Value} {w : World} {k row m : Int} (hC : CirIn w gv qv c) (h : GbIn w rv nv cv g) (hs : g.sz ≤ 1048576) :
    Calls Try.prog 46 #[cirV c gv qv, gbV rv nv cv, .int .i64 k, .int .i64 row, .int .i64 m] w (RetGbB w (bendM 2 0 1 c g k row m)) := by
  have H := Lib.hid h
  have HS := Lib.hid hs
  obtain ⟨hrw, ho, hc⟩ := h
  obtain ⟨A, c9, rfl, -⟩ := hrw.form
  obtain ⟨A1, c1, rfl, -⟩ := ho
  obtain ⟨A2, c2, rfl, -⟩ := hc
  have hol : g.ones.length ≤ 1048576 := by unfold Gb.sz at hs; omega
  have hcl : g.cols.length ≤ 1048576 := by unfold Gb.sz at hs; omega
  have hrl : g.rows.length ≤ 1048576 := by unfold Gb.sz at hs; omega
  have HRL := Lib.hid (Gb.row_le hs)
  obtain ⟨A', c', e', hlc, hcm, hat⟩ := hrw.form
  injection e' with e1 e2 e3
  subst e1 e3
  have HAT := Lib.hid hat
  clear hrw hs hat
  have HC := Lib.hid hC
  obtain ⟨hg, ho⟩ := hC
  obtain ⟨Ag, cg, rfl, -⟩ := hg
  obtain ⟨Aq, cq, rfl, -⟩ := ho
  unfold cirV gbV
  obtain ⟨w0, hw0⟩ : ∃ W, (((w.alloc (.cells #[.int .i64 c.i0, .int .i64 c.i1, .slice Ag c.gs.length cg, .slice Aq c.outs.length cq] 31)).alloc (.cells #[.slice A g.rows.length c9, .slice A1 g.ones.length c1, .slice A2 g.cols.length c2] 54)).alloc (.cells #[.slice none 0 0, .slice none 0 0, .slice none 0 0] 54)) = W := ⟨_, rfl⟩
  have HK0 : Hid (Blk w0 w.heap.size 31 #[.int .i64 c.i0, .int .i64 c.i1, .slice Ag c.gs.length cg, .slice Aq c.outs.length cq]) := by rw [← hw0]; exact ((Blk.new _ _ _).alloc _).alloc _
  have HK1 : Hid (Blk w0 (w.heap.size + 1) 54 #[.slice A g.rows.length c9, .slice A1 g.ones.length c1, .slice A2 g.cols.length c2]) := by rw [← hw0]; have := (Blk.new (w.alloc (.cells #[.int .i64 c.i0, .int .i64 c.i1, .slice Ag c.gs.length cg, .slice Aq c.outs.length cq] 31)) 54 #[.slice A g.rows.length c9, .slice A1 g.ones.length c1, .slice A2 g.cols.length c2]).alloc (.cells #[.slice none 0 0, .slice none 0 0, .slice none 0 0] 54); simp only [World.size_alloc] at this; exact this
  have HK2 : Hid (Blk w0 (w.heap.size + 1 + 1) 54 #[.slice none 0 0, .slice none 0 0, .slice none 0 0]) := by rw [← hw0]; have := Blk.new ((w.alloc (.cells #[.int .i64 c.i0, .int .i64 c.i1, .slice Ag c.gs.length cg, .slice Aq c.outs.length cq] 31)).alloc (.cells #[.slice A g.rows.length c9, .slice A1 g.ones.length c1, .slice A2 g.cols.length c2] 54)) 54 #[.slice none 0 0, .slice none 0 0, .slice none 0 0]; simp only [World.size_alloc] at this; exact this
  have HB : Hid (Below w.heap.size w w0) := by rw [← hw0]; exact (((Below.refl _ _).alloc (Nat.le_refl _) _).alloc (by simp) _).alloc (by simp; omega) _
  rcases k1 : cirB c with _ | _
  · skip
    have HM := Lib.hid (show bendM 2 0 1 c g k row m = none by unfold bendM; simp [k1])
    have xa0 : w0.cell? ⟨w.heap.size, 0, none⟩ = some (.int .i64 c.i0) := HK0.out.cell 0
    have xa1 : w0.cell? ⟨w.heap.size, 1, none⟩ = some (.int .i64 c.i1) := HK0.out.cell 1
    have xa2 : w0.cell? ⟨w.heap.size, 2, none⟩ = some (.slice Ag c.gs.length cg) := HK0.out.cell 2
    have xa3 : w0.cell? ⟨w.heap.size, 3, none⟩ = some (.slice Aq c.outs.length cq) := HK0.out.cell 3
    have xb0 : w0.cell? ⟨w.heap.size + 1, 0, none⟩ = some (.slice A g.rows.length c9) := HK1.out.cell 0
    have xb1 : w0.cell? ⟨w.heap.size + 1, 1, none⟩ = some (.slice A1 g.ones.length c1) := HK1.out.cell 1
    have xb2 : w0.cell? ⟨w.heap.size + 1, 2, none⟩ = some (.slice A2 g.cols.length c2) := HK1.out.cell 2
    have xr0 : w0.cell? ⟨w.heap.size + 1 + 1, 0, none⟩ = some (.slice none 0 0) := HK2.out.cell 0
    have xrf0 : w0.frozen? ⟨w.heap.size + 1 + 1, 0, none⟩ = false := HK2.out.free 0
    have xr1 : w0.cell? ⟨w.heap.size + 1 + 1, 1, none⟩ = some (.slice none 0 0) := HK2.out.cell 1
    have xrf1 : w0.frozen? ⟨w.heap.size + 1 + 1, 1, none⟩ = false := HK2.out.free 1
    have xr2 : w0.cell? ⟨w.heap.size + 1 + 1, 2, none⟩ = some (.slice none 0 0) := HK2.out.cell 2
    have xrf2 : w0.frozen? ⟨w.heap.size + 1 + 1, 2, none⟩ = false := HK2.out.free 2
    go_enter Try.func46, Try.ntmps46
    go_wp2_with fail
    clear hw0
    refine (c_impl_IsCircuit (HC.out.below HB.out)).mono ?_
    rintro e wz ⟨rfl, hb⟩
    clear xa0 xa1 xa2 xa3 xb0 xb1 xb2 xr0 xr1 xr2 xrf0 xrf1 xrf2
    replace HK0 := Lib.hid (HK0.out.step hb)
    replace HK1 := Lib.hid (HK1.out.step hb)
    replace HK2 := Lib.hid (HK2.out.step hb)
    replace HB := Lib.hid (below_step HB.out hb)
    clear hb
    have xa0 : wz.cell? ⟨w.heap.size, 0, none⟩ = some (.int .i64 c.i0) := HK0.out.cell 0
    have xa1 : wz.cell? ⟨w.heap.size, 1, none⟩ = some (.int .i64 c.i1) := HK0.out.cell 1
    have xa2 : wz.cell? ⟨w.heap.size, 2, none⟩ = some (.slice Ag c.gs.length cg) := HK0.out.cell 2
    have xa3 : wz.cell? ⟨w.heap.size, 3, none⟩ = some (.slice Aq c.outs.length cq) := HK0.out.cell 3
    have xb0 : wz.cell? ⟨w.heap.size + 1, 0, none⟩ = some (.slice A g.rows.length c9) := HK1.out.cell 0
    have xb1 : wz.cell? ⟨w.heap.size + 1, 1, none⟩ = some (.slice A1 g.ones.length c1) := HK1.out.cell 1
    have xb2 : wz.cell? ⟨w.heap.size + 1, 2, none⟩ = some (.slice A2 g.cols.length c2) := HK1.out.cell 2
    have xr0 : wz.cell? ⟨w.heap.size + 1 + 1, 0, none⟩ = some (.slice none 0 0) := HK2.out.cell 0
    have xrf0 : wz.frozen? ⟨w.heap.size + 1 + 1, 0, none⟩ = false := HK2.out.free 0
    have xr1 : wz.cell? ⟨w.heap.size + 1 + 1, 1, none⟩ = some (.slice none 0 0) := HK2.out.cell 1
    have xrf1 : wz.frozen? ⟨w.heap.size + 1 + 1, 1, none⟩ = false := HK2.out.free 1
    have xr2 : wz.cell? ⟨w.heap.size + 1 + 1, 2, none⟩ = some (.slice none 0 0) := HK2.out.cell 2
    have xrf2 : wz.frozen? ⟨w.heap.size + 1 + 1, 2, none⟩ = false := HK2.out.free 2
    go_wp2
    refine bodyPost_ret (v := .tuple #[gbV (.slice none 0 0) (.slice none 0 0) (.slice none 0 0), .bool false]) (by simp [results, Try.results46, go_sem, gbV, xr0, xr1, xr2]) rfl ?_
    rw [HM.out]
    exact RetGbB.no (((HB.out.setCell (p := ⟨w.heap.size + 1 + 1, 0, none⟩) (by simp; omega) _).setCell (p := ⟨w.heap.size + 1 + 1, 1, none⟩) (by simp; omega) _).setCell (p := ⟨w.heap.size + 1 + 1, 2, none⟩) (by simp; omega) _)
  rcases k2 : tabB 2 c g with _ | _
  · skip
    have HM := Lib.hid (show bendM 2 0 1 c g k row m = none by unfold bendM; simp [k1, k2])
    have xa0 : w0.cell? ⟨w.heap.size, 0, none⟩ = some (.int .i64 c.i0) := HK0.out.cell 0
    have xa1 : w0.cell? ⟨w.heap.size, 1, none⟩ = some (.int .i64 c.i1) := HK0.out.cell 1
    have xa2 : w0.cell? ⟨w.heap.size, 2, none⟩ = some (.slice Ag c.gs.length cg) := HK0.out.cell 2
    have xa3 : w0.cell? ⟨w.heap.size, 3, none⟩ = some (.slice Aq c.outs.length cq) := HK0.out.cell 3
    have xb0 : w0.cell? ⟨w.heap.size + 1, 0, none⟩ = some (.slice A g.rows.length c9) := HK1.out.cell 0
    have xb1 : w0.cell? ⟨w.heap.size + 1, 1, none⟩ = some (.slice A1 g.ones.length c1) := HK1.out.cell 1
    have xb2 : w0.cell? ⟨w.heap.size + 1, 2, none⟩ = some (.slice A2 g.cols.length c2) := HK1.out.cell 2
    have xr0 : w0.cell? ⟨w.heap.size + 1 + 1, 0, none⟩ = some (.slice none 0 0) := HK2.out.cell 0
    have xrf0 : w0.frozen? ⟨w.heap.size + 1 + 1, 0, none⟩ = false := HK2.out.free 0
    have xr1 : w0.cell? ⟨w.heap.size + 1 + 1, 1, none⟩ = some (.slice none 0 0) := HK2.out.cell 1
    have xrf1 : w0.frozen? ⟨w.heap.size + 1 + 1, 1, none⟩ = false := HK2.out.free 1
    have xr2 : w0.cell? ⟨w.heap.size + 1 + 1, 2, none⟩ = some (.slice none 0 0) := HK2.out.cell 2
    have xrf2 : w0.frozen? ⟨w.heap.size + 1 + 1, 2, none⟩ = false := HK2.out.free 2
    go_enter Try.func46, Try.ntmps46
    go_wp2_with fail
    clear hw0
    refine (c_impl_IsCircuit (HC.out.below HB.out)).mono ?_
    rintro e u0 ⟨rfl, hb⟩
    clear xa0 xa1 xa2 xa3 xb0 xb1 xb2 xr0 xr1 xr2 xrf0 xrf1 xrf2
    replace HK0 := Lib.hid (HK0.out.step hb)
    replace HK1 := Lib.hid (HK1.out.step hb)
    replace HK2 := Lib.hid (HK2.out.step hb)
    replace HB := Lib.hid (below_step HB.out hb)
    clear hb
    have xa0 : u0.cell? ⟨w.heap.size, 0, none⟩ = some (.int .i64 c.i0) := HK0.out.cell 0
    have xa1 : u0.cell? ⟨w.heap.size, 1, none⟩ = some (.int .i64 c.i1) := HK0.out.cell 1
    have xa2 : u0.cell? ⟨w.heap.size, 2, none⟩ = some (.slice Ag c.gs.length cg) := HK0.out.cell 2
    have xa3 : u0.cell? ⟨w.heap.size, 3, none⟩ = some (.slice Aq c.outs.length cq) := HK0.out.cell 3
    have xb0 : u0.cell? ⟨w.heap.size + 1, 0, none⟩ = some (.slice A g.rows.length c9) := HK1.out.cell 0
    have xb1 : u0.cell? ⟨w.heap.size + 1, 1, none⟩ = some (.slice A1 g.ones.length c1) := HK1.out.cell 1
    have xb2 : u0.cell? ⟨w.heap.size + 1, 2, none⟩ = some (.slice A2 g.cols.length c2) := HK1.out.cell 2
    have xr0 : u0.cell? ⟨w.heap.size + 1 + 1, 0, none⟩ = some (.slice none 0 0) := HK2.out.cell 0
    have xrf0 : u0.frozen? ⟨w.heap.size + 1 + 1, 0, none⟩ = false := HK2.out.free 0
    have xr1 : u0.cell? ⟨w.heap.size + 1 + 1, 1, none⟩ = some (.slice none 0 0) := HK2.out.cell 1
    have xrf1 : u0.frozen? ⟨w.heap.size + 1 + 1, 1, none⟩ = false := HK2.out.free 1
    have xr2 : u0.cell? ⟨w.heap.size + 1 + 1, 2, none⟩ = some (.slice none 0 0) := HK2.out.cell 2
    have xrf2 : u0.frozen? ⟨w.heap.size + 1 + 1, 2, none⟩ = false := HK2.out.free 2
    go_wp2_with fail
    refine (c_impl_areTables (HC.out.below HB.out) k1 (H.out.below HB.out) HS.out).mono ?_
    rintro e wz ⟨rfl, hb⟩
    clear xa0 xa1 xa2 xa3 xb0 xb1 xb2 xr0 xr1 xr2 xrf0 xrf1 xrf2
    replace HK0 := Lib.hid (HK0.out.step hb)
    replace HK1 := Lib.hid (HK1.out.step hb)
    replace HK2 := Lib.hid (HK2.out.step hb)
    replace HB := Lib.hid (below_step HB.out hb)
    clear hb
    have xa0 : wz.cell? ⟨w.heap.size, 0, none⟩ = some (.int .i64 c.i0) := HK0.out.cell 0
    have xa1 : wz.cell? ⟨w.heap.size, 1, none⟩ = some (.int .i64 c.i1) := HK0.out.cell 1
    have xa2 : wz.cell? ⟨w.heap.size, 2, none⟩ = some (.slice Ag c.gs.length cg) := HK0.out.cell 2
    have xa3 : wz.cell? ⟨w.heap.size, 3, none⟩ = some (.slice Aq c.outs.length cq) := HK0.out.cell 3
    have xb0 : wz.cell? ⟨w.heap.size + 1, 0, none⟩ = some (.slice A g.rows.length c9) := HK1.out.cell 0
    have xb1 : wz.cell? ⟨w.heap.size + 1, 1, none⟩ = some (.slice A1 g.ones.length c1) := HK1.out.cell 1
    have xb2 : wz.cell? ⟨w.heap.size + 1, 2, none⟩ = some (.slice A2 g.cols.length c2) := HK1.out.cell 2
    have xr0 : wz.cell? ⟨w.heap.size + 1 + 1, 0, none⟩ = some (.slice none 0 0) := HK2.out.cell 0
    have xrf0 : wz.frozen? ⟨w.heap.size + 1 + 1, 0, none⟩ = false := HK2.out.free 0
    have xr1 : wz.cell? ⟨w.heap.size + 1 + 1, 1, none⟩ = some (.slice none 0 0) := HK2.out.cell 1
    have xrf1 : wz.frozen? ⟨w.heap.size + 1 + 1, 1, none⟩ = false := HK2.out.free 1
    have xr2 : wz.cell? ⟨w.heap.size + 1 + 1, 2, none⟩ = some (.slice none 0 0) := HK2.out.cell 2
    have xrf2 : wz.frozen? ⟨w.heap.size + 1 + 1, 2, none⟩ = false := HK2.out.free 2
    go_wp2
    refine bodyPost_ret (v := .tuple #[gbV (.slice none 0 0) (.slice none 0 0) (.slice none 0 0), .bool false]) (by simp [results, Try.results46, go_sem, gbV, xr0, xr1, xr2]) rfl ?_
    rw [HM.out]
    exact RetGbB.no (((HB.out.setCell (p := ⟨w.heap.size + 1 + 1, 0, none⟩) (by simp; omega) _).setCell (p := ⟨w.heap.size + 1 + 1, 1, none⟩) (by simp; omega) _).setCell (p := ⟨w.heap.size + 1 + 1, 2, none⟩) (by simp; omega) _)
  rcases k3 : inB k 0 ((g.rows.length : Int) - 1) with _ | _
  · skip
    have HM := Lib.hid (show bendM 2 0 1 c g k row m = none by unfold bendM; simp [k1, k2, k3])
    have xa0 : w0.cell? ⟨w.heap.size, 0, none⟩ = some (.int .i64 c.i0) := HK0.out.cell 0
    have xa1 : w0.cell? ⟨w.heap.size, 1, none⟩ = some (.int .i64 c.i1) := HK0.out.cell 1
    have xa2 : w0.cell? ⟨w.heap.size, 2, none⟩ = some (.slice Ag c.gs.length cg) := HK0.out.cell 2
    have xa3 : w0.cell? ⟨w.heap.size, 3, none⟩ = some (.slice Aq c.outs.length cq) := HK0.out.cell 3
    have xb0 : w0.cell? ⟨w.heap.size + 1, 0, none⟩ = some (.slice A g.rows.length c9) := HK1.out.cell 0
    have xb1 : w0.cell? ⟨w.heap.size + 1, 1, none⟩ = some (.slice A1 g.ones.length c1) := HK1.out.cell 1
    have xb2 : w0.cell? ⟨w.heap.size + 1, 2, none⟩ = some (.slice A2 g.cols.length c2) := HK1.out.cell 2
    have xr0 : w0.cell? ⟨w.heap.size + 1 + 1, 0, none⟩ = some (.slice none 0 0) := HK2.out.cell 0
    have xrf0 : w0.frozen? ⟨w.heap.size + 1 + 1, 0, none⟩ = false := HK2.out.free 0
    have xr1 : w0.cell? ⟨w.heap.size + 1 + 1, 1, none⟩ = some (.slice none 0 0) := HK2.out.cell 1
    have xrf1 : w0.frozen? ⟨w.heap.size + 1 + 1, 1, none⟩ = false := HK2.out.free 1
    have xr2 : w0.cell? ⟨w.heap.size + 1 + 1, 2, none⟩ = some (.slice none 0 0) := HK2.out.cell 2
    have xrf2 : w0.frozen? ⟨w.heap.size + 1 + 1, 2, none⟩ = false := HK2.out.free 2
    go_enter Try.func46, Try.ntmps46
    go_wp2_with fail
    clear hw0
    refine (c_impl_IsCircuit (HC.out.below HB.out)).mono ?_
    rintro e u0 ⟨rfl, hb⟩
    clear xa0 xa1 xa2 xa3 xb0 xb1 xb2 xr0 xr1 xr2 xrf0 xrf1 xrf2
    replace HK0 := Lib.hid (HK0.out.step hb)
    replace HK1 := Lib.hid (HK1.out.step hb)
    replace HK2 := Lib.hid (HK2.out.step hb)
    replace HB := Lib.hid (below_step HB.out hb)
    clear hb
    have xa0 : u0.cell? ⟨w.heap.size, 0, none⟩ = some (.int .i64 c.i0) := HK0.out.cell 0
    have xa1 : u0.cell? ⟨w.heap.size, 1, none⟩ = some (.int .i64 c.i1) := HK0.out.cell 1
    have xa2 : u0.cell? ⟨w.heap.size, 2, none⟩ = some (.slice Ag c.gs.length cg) := HK0.out.cell 2
    have xa3 : u0.cell? ⟨w.heap.size, 3, none⟩ = some (.slice Aq c.outs.length cq) := HK0.out.cell 3
    have xb0 : u0.cell? ⟨w.heap.size + 1, 0, none⟩ = some (.slice A g.rows.length c9) := HK1.out.cell 0
    have xb1 : u0.cell? ⟨w.heap.size + 1, 1, none⟩ = some (.slice A1 g.ones.length c1) := HK1.out.cell 1
    have xb2 : u0.cell? ⟨w.heap.size + 1, 2, none⟩ = some (.slice A2 g.cols.length c2) := HK1.out.cell 2
    have xr0 : u0.cell? ⟨w.heap.size + 1 + 1, 0, none⟩ = some (.slice none 0 0) := HK2.out.cell 0
    have xrf0 : u0.frozen? ⟨w.heap.size + 1 + 1, 0, none⟩ = false := HK2.out.free 0
    have xr1 : u0.cell? ⟨w.heap.size + 1 + 1, 1, none⟩ = some (.slice none 0 0) := HK2.out.cell 1
    have xrf1 : u0.frozen? ⟨w.heap.size + 1 + 1, 1, none⟩ = false := HK2.out.free 1
    have xr2 : u0.cell? ⟨w.heap.size + 1 + 1, 2, none⟩ = some (.slice none 0 0) := HK2.out.cell 2
    have xrf2 : u0.frozen? ⟨w.heap.size + 1 + 1, 2, none⟩ = false := HK2.out.free 2
    go_wp2_with fail
    refine (c_impl_areTables (HC.out.below HB.out) k1 (H.out.below HB.out) HS.out).mono ?_
    rintro e wz ⟨rfl, hb⟩
    clear xa0 xa1 xa2 xa3 xb0 xb1 xb2 xr0 xr1 xr2 xrf0 xrf1 xrf2
    replace HK0 := Lib.hid (HK0.out.step hb)
    replace HK1 := Lib.hid (HK1.out.step hb)
    replace HK2 := Lib.hid (HK2.out.step hb)
    replace HB := Lib.hid (below_step HB.out hb)
    clear hb
    have xa0 : wz.cell? ⟨w.heap.size, 0, none⟩ = some (.int .i64 c.i0) := HK0.out.cell 0
    have xa1 : wz.cell? ⟨w.heap.size, 1, none⟩ = some (.int .i64 c.i1) := HK0.out.cell 1
    have xa2 : wz.cell? ⟨w.heap.size, 2, none⟩ = some (.slice Ag c.gs.length cg) := HK0.out.cell 2
    have xa3 : wz.cell? ⟨w.heap.size, 3, none⟩ = some (.slice Aq c.outs.length cq) := HK0.out.cell 3
    have xb0 : wz.cell? ⟨w.heap.size + 1, 0, none⟩ = some (.slice A g.rows.length c9) := HK1.out.cell 0
    have xb1 : wz.cell? ⟨w.heap.size + 1, 1, none⟩ = some (.slice A1 g.ones.length c1) := HK1.out.cell 1
    have xb2 : wz.cell? ⟨w.heap.size + 1, 2, none⟩ = some (.slice A2 g.cols.length c2) := HK1.out.cell 2
    have xr0 : wz.cell? ⟨w.heap.size + 1 + 1, 0, none⟩ = some (.slice none 0 0) := HK2.out.cell 0
    have xrf0 : wz.frozen? ⟨w.heap.size + 1 + 1, 0, none⟩ = false := HK2.out.free 0
    have xr1 : wz.cell? ⟨w.heap.size + 1 + 1, 1, none⟩ = some (.slice none 0 0) := HK2.out.cell 1
    have xrf1 : wz.frozen? ⟨w.heap.size + 1 + 1, 1, none⟩ = false := HK2.out.free 1
    have xr2 : wz.cell? ⟨w.heap.size + 1 + 1, 2, none⟩ = some (.slice none 0 0) := HK2.out.cell 2
    have xrf2 : wz.frozen? ⟨w.heap.size + 1 + 1, 2, none⟩ = false := HK2.out.free 2
    go_wp2_with fail
    refine (c_impl_within).mono ?_
    rintro e w' ⟨rfl, rfl⟩
    go_wp2
    refine bodyPost_ret (v := .tuple #[gbV (.slice none 0 0) (.slice none 0 0) (.slice none 0 0), .bool false]) (by simp [results, Try.results46, go_sem, gbV, xr0, xr1, xr2]) rfl ?_
    rw [HM.out]
    exact RetGbB.no (((HB.out.setCell (p := ⟨w.heap.size + 1 + 1, 0, none⟩) (by simp; omega) _).setCell (p := ⟨w.heap.size + 1 + 1, 1, none⟩) (by simp; omega) _).setCell (p := ⟨w.heap.size + 1 + 1, 2, none⟩) (by simp; omega) _)
  rcases k4 : inB row 0 1 with _ | _
  · skip
    have HM := Lib.hid (show bendM 2 0 1 c g k row m = none by unfold bendM; simp [k1, k2, k3, k4])
    have xa0 : w0.cell? ⟨w.heap.size, 0, none⟩ = some (.int .i64 c.i0) := HK0.out.cell 0
    have xa1 : w0.cell? ⟨w.heap.size, 1, none⟩ = some (.int .i64 c.i1) := HK0.out.cell 1
    have xa2 : w0.cell? ⟨w.heap.size, 2, none⟩ = some (.slice Ag c.gs.length cg) := HK0.out.cell 2
    have xa3 : w0.cell? ⟨w.heap.size, 3, none⟩ = some (.slice Aq c.outs.length cq) := HK0.out.cell 3
    have xb0 : w0.cell? ⟨w.heap.size + 1, 0, none⟩ = some (.slice A g.rows.length c9) := HK1.out.cell 0
    have xb1 : w0.cell? ⟨w.heap.size + 1, 1, none⟩ = some (.slice A1 g.ones.length c1) := HK1.out.cell 1
    have xb2 : w0.cell? ⟨w.heap.size + 1, 2, none⟩ = some (.slice A2 g.cols.length c2) := HK1.out.cell 2
    have xr0 : w0.cell? ⟨w.heap.size + 1 + 1, 0, none⟩ = some (.slice none 0 0) := HK2.out.cell 0
    have xrf0 : w0.frozen? ⟨w.heap.size + 1 + 1, 0, none⟩ = false := HK2.out.free 0
    have xr1 : w0.cell? ⟨w.heap.size + 1 + 1, 1, none⟩ = some (.slice none 0 0) := HK2.out.cell 1
    have xrf1 : w0.frozen? ⟨w.heap.size + 1 + 1, 1, none⟩ = false := HK2.out.free 1
    have xr2 : w0.cell? ⟨w.heap.size + 1 + 1, 2, none⟩ = some (.slice none 0 0) := HK2.out.cell 2
    have xrf2 : w0.frozen? ⟨w.heap.size + 1 + 1, 2, none⟩ = false := HK2.out.free 2
    go_enter Try.func46, Try.ntmps46
    go_wp2_with fail
    clear hw0
    refine (c_impl_IsCircuit (HC.out.below HB.out)).mono ?_
    rintro e u0 ⟨rfl, hb⟩
    clear xa0 xa1 xa2 xa3 xb0 xb1 xb2 xr0 xr1 xr2 xrf0 xrf1 xrf2
    replace HK0 := Lib.hid (HK0.out.step hb)
    replace HK1 := Lib.hid (HK1.out.step hb)
    replace HK2 := Lib.hid (HK2.out.step hb)
    replace HB := Lib.hid (below_step HB.out hb)
    clear hb
    have xa0 : u0.cell? ⟨w.heap.size, 0, none⟩ = some (.int .i64 c.i0) := HK0.out.cell 0
    have xa1 : u0.cell? ⟨w.heap.size, 1, none⟩ = some (.int .i64 c.i1) := HK0.out.cell 1
    have xa2 : u0.cell? ⟨w.heap.size, 2, none⟩ = some (.slice Ag c.gs.length cg) := HK0.out.cell 2
    have xa3 : u0.cell? ⟨w.heap.size, 3, none⟩ = some (.slice Aq c.outs.length cq) := HK0.out.cell 3
    have xb0 : u0.cell? ⟨w.heap.size + 1, 0, none⟩ = some (.slice A g.rows.length c9) := HK1.out.cell 0
    have xb1 : u0.cell? ⟨w.heap.size + 1, 1, none⟩ = some (.slice A1 g.ones.length c1) := HK1.out.cell 1
    have xb2 : u0.cell? ⟨w.heap.size + 1, 2, none⟩ = some (.slice A2 g.cols.length c2) := HK1.out.cell 2
    have xr0 : u0.cell? ⟨w.heap.size + 1 + 1, 0, none⟩ = some (.slice none 0 0) := HK2.out.cell 0
    have xrf0 : u0.frozen? ⟨w.heap.size + 1 + 1, 0, none⟩ = false := HK2.out.free 0
    have xr1 : u0.cell? ⟨w.heap.size + 1 + 1, 1, none⟩ = some (.slice none 0 0) := HK2.out.cell 1
    have xrf1 : u0.frozen? ⟨w.heap.size + 1 + 1, 1, none⟩ = false := HK2.out.free 1
    have xr2 : u0.cell? ⟨w.heap.size + 1 + 1, 2, none⟩ = some (.slice none 0 0) := HK2.out.cell 2
    have xrf2 : u0.frozen? ⟨w.heap.size + 1 + 1, 2, none⟩ = false := HK2.out.free 2
    go_wp2_with fail
    refine (c_impl_areTables (HC.out.below HB.out) k1 (H.out.below HB.out) HS.out).mono ?_
    rintro e wz ⟨rfl, hb⟩
    clear xa0 xa1 xa2 xa3 xb0 xb1 xb2 xr0 xr1 xr2 xrf0 xrf1 xrf2
    replace HK0 := Lib.hid (HK0.out.step hb)
    replace HK1 := Lib.hid (HK1.out.step hb)
    replace HK2 := Lib.hid (HK2.out.step hb)
    replace HB := Lib.hid (below_step HB.out hb)
    clear hb
    have xa0 : wz.cell? ⟨w.heap.size, 0, none⟩ = some (.int .i64 c.i0) := HK0.out.cell 0
    have xa1 : wz.cell? ⟨w.heap.size, 1, none⟩ = some (.int .i64 c.i1) := HK0.out.cell 1
    have xa2 : wz.cell? ⟨w.heap.size, 2, none⟩ = some (.slice Ag c.gs.length cg) := HK0.out.cell 2
    have xa3 : wz.cell? ⟨w.heap.size, 3, none⟩ = some (.slice Aq c.outs.length cq) := HK0.out.cell 3
    have xb0 : wz.cell? ⟨w.heap.size + 1, 0, none⟩ = some (.slice A g.rows.length c9) := HK1.out.cell 0
    have xb1 : wz.cell? ⟨w.heap.size + 1, 1, none⟩ = some (.slice A1 g.ones.length c1) := HK1.out.cell 1
    have xb2 : wz.cell? ⟨w.heap.size + 1, 2, none⟩ = some (.slice A2 g.cols.length c2) := HK1.out.cell 2
    have xr0 : wz.cell? ⟨w.heap.size + 1 + 1, 0, none⟩ = some (.slice none 0 0) := HK2.out.cell 0
    have xrf0 : wz.frozen? ⟨w.heap.size + 1 + 1, 0, none⟩ = false := HK2.out.free 0
    have xr1 : wz.cell? ⟨w.heap.size + 1 + 1, 1, none⟩ = some (.slice none 0 0) := HK2.out.cell 1
    have xrf1 : wz.frozen? ⟨w.heap.size + 1 + 1, 1, none⟩ = false := HK2.out.free 1
    have xr2 : wz.cell? ⟨w.heap.size + 1 + 1, 2, none⟩ = some (.slice none 0 0) := HK2.out.cell 2
    have xrf2 : wz.frozen? ⟨w.heap.size + 1 + 1, 2, none⟩ = false := HK2.out.free 2
    go_wp2_with fail
    refine (c_impl_within).mono ?_
    rintro e w' ⟨rfl, rfl⟩
    go_wp2_with fail
    refine (c_impl_isBit).mono ?_
    rintro e w' ⟨rfl, rfl⟩
    go_wp2
    refine bodyPost_ret (v := .tuple #[gbV (.slice none 0 0) (.slice none 0 0) (.slice none 0 0), .bool false]) (by simp [results, Try.results46, go_sem, gbV, xr0, xr1, xr2]) rfl ?_
    rw [HM.out]
    exact RetGbB.no (((HB.out.setCell (p := ⟨w.heap.size + 1 + 1, 0, none⟩) (by simp; omega) _).setCell (p := ⟨w.heap.size + 1 + 1, 1, none⟩) (by simp; omega) _).setCell (p := ⟨w.heap.size + 1 + 1, 2, none⟩) (by simp; omega) _)
  rcases k5 : inB m 0 65535 with _ | _
  · skip
    have HM := Lib.hid (show bendM 2 0 1 c g k row m = none by unfold bendM; simp [k1, k2, k3, k4, k5])
    have xa0 : w0.cell? ⟨w.heap.size, 0, none⟩ = some (.int .i64 c.i0) := HK0.out.cell 0
    have xa1 : w0.cell? ⟨w.heap.size, 1, none⟩ = some (.int .i64 c.i1) := HK0.out.cell 1
    have xa2 : w0.cell? ⟨w.heap.size, 2, none⟩ = some (.slice Ag c.gs.length cg) := HK0.out.cell 2
    have xa3 : w0.cell? ⟨w.heap.size, 3, none⟩ = some (.slice Aq c.outs.length cq) := HK0.out.cell 3
    have xb0 : w0.cell? ⟨w.heap.size + 1, 0, none⟩ = some (.slice A g.rows.length c9) := HK1.out.cell 0
    have xb1 : w0.cell? ⟨w.heap.size + 1, 1, none⟩ = some (.slice A1 g.ones.length c1) := HK1.out.cell 1
    have xb2 : w0.cell? ⟨w.heap.size + 1, 2, none⟩ = some (.slice A2 g.cols.length c2) := HK1.out.cell 2
    have xr0 : w0.cell? ⟨w.heap.size + 1 + 1, 0, none⟩ = some (.slice none 0 0) := HK2.out.cell 0
    have xrf0 : w0.frozen? ⟨w.heap.size + 1 + 1, 0, none⟩ = false := HK2.out.free 0
    have xr1 : w0.cell? ⟨w.heap.size + 1 + 1, 1, none⟩ = some (.slice none 0 0) := HK2.out.cell 1
    have xrf1 : w0.frozen? ⟨w.heap.size + 1 + 1, 1, none⟩ = false := HK2.out.free 1
    have xr2 : w0.cell? ⟨w.heap.size + 1 + 1, 2, none⟩ = some (.slice none 0 0) := HK2.out.cell 2
    have xrf2 : w0.frozen? ⟨w.heap.size + 1 + 1, 2, none⟩ = false := HK2.out.free 2
    go_enter Try.func46, Try.ntmps46
    go_wp2_with fail
    clear hw0
    refine (c_impl_IsCircuit (HC.out.below HB.out)).mono ?_
    rintro e u0 ⟨rfl, hb⟩
    clear xa0 xa1 xa2 xa3 xb0 xb1 xb2 xr0 xr1 xr2 xrf0 xrf1 xrf2
    replace HK0 := Lib.hid (HK0.out.step hb)
    replace HK1 := Lib.hid (HK1.out.step hb)
    replace HK2 := Lib.hid (HK2.out.step hb)
    replace HB := Lib.hid (below_step HB.out hb)
    clear hb
    have xa0 : u0.cell? ⟨w.heap.size, 0, none⟩ = some (.int .i64 c.i0) := HK0.out.cell 0
    have xa1 : u0.cell? ⟨w.heap.size, 1, none⟩ = some (.int .i64 c.i1) := HK0.out.cell 1
    have xa2 : u0.cell? ⟨w.heap.size, 2, none⟩ = some (.slice Ag c.gs.length cg) := HK0.out.cell 2
    have xa3 : u0.cell? ⟨w.heap.size, 3, none⟩ = some (.slice Aq c.outs.length cq) := HK0.out.cell 3
    have xb0 : u0.cell? ⟨w.heap.size + 1, 0, none⟩ = some (.slice A g.rows.length c9) := HK1.out.cell 0
    have xb1 : u0.cell? ⟨w.heap.size + 1, 1, none⟩ = some (.slice A1 g.ones.length c1) := HK1.out.cell 1
    have xb2 : u0.cell? ⟨w.heap.size + 1, 2, none⟩ = some (.slice A2 g.cols.length c2) := HK1.out.cell 2
    have xr0 : u0.cell? ⟨w.heap.size + 1 + 1, 0, none⟩ = some (.slice none 0 0) := HK2.out.cell 0
    have xrf0 : u0.frozen? ⟨w.heap.size + 1 + 1, 0, none⟩ = false := HK2.out.free 0
    have xr1 : u0.cell? ⟨w.heap.size + 1 + 1, 1, none⟩ = some (.slice none 0 0) := HK2.out.cell 1
    have xrf1 : u0.frozen? ⟨w.heap.size + 1 + 1, 1, none⟩ = false := HK2.out.free 1
    have xr2 : u0.cell? ⟨w.heap.size + 1 + 1, 2, none⟩ = some (.slice none 0 0) := HK2.out.cell 2
    have xrf2 : u0.frozen? ⟨w.heap.size + 1 + 1, 2, none⟩ = false := HK2.out.free 2
    go_wp2_with fail
    refine (c_impl_areTables (HC.out.below HB.out) k1 (H.out.below HB.out) HS.out).mono ?_
    rintro e wz ⟨rfl, hb⟩
    clear xa0 xa1 xa2 xa3 xb0 xb1 xb2 xr0 xr1 xr2 xrf0 xrf1 xrf2
    replace HK0 := Lib.hid (HK0.out.step hb)
    replace HK1 := Lib.hid (HK1.out.step hb)
    replace HK2 := Lib.hid (HK2.out.step hb)
    replace HB := Lib.hid (below_step HB.out hb)
    clear hb
    have xa0 : wz.cell? ⟨w.heap.size, 0, none⟩ = some (.int .i64 c.i0) := HK0.out.cell 0
    have xa1 : wz.cell? ⟨w.heap.size, 1, none⟩ = some (.int .i64 c.i1) := HK0.out.cell 1
    have xa2 : wz.cell? ⟨w.heap.size, 2, none⟩ = some (.slice Ag c.gs.length cg) := HK0.out.cell 2
    have xa3 : wz.cell? ⟨w.heap.size, 3, none⟩ = some (.slice Aq c.outs.length cq) := HK0.out.cell 3
    have xb0 : wz.cell? ⟨w.heap.size + 1, 0, none⟩ = some (.slice A g.rows.length c9) := HK1.out.cell 0
    have xb1 : wz.cell? ⟨w.heap.size + 1, 1, none⟩ = some (.slice A1 g.ones.length c1) := HK1.out.cell 1
    have xb2 : wz.cell? ⟨w.heap.size + 1, 2, none⟩ = some (.slice A2 g.cols.length c2) := HK1.out.cell 2
    have xr0 : wz.cell? ⟨w.heap.size + 1 + 1, 0, none⟩ = some (.slice none 0 0) := HK2.out.cell 0
    have xrf0 : wz.frozen? ⟨w.heap.size + 1 + 1, 0, none⟩ = false := HK2.out.free 0
    have xr1 : wz.cell? ⟨w.heap.size + 1 + 1, 1, none⟩ = some (.slice none 0 0) := HK2.out.cell 1
    have xrf1 : wz.frozen? ⟨w.heap.size + 1 + 1, 1, none⟩ = false := HK2.out.free 1
    have xr2 : wz.cell? ⟨w.heap.size + 1 + 1, 2, none⟩ = some (.slice none 0 0) := HK2.out.cell 2
    have xrf2 : wz.frozen? ⟨w.heap.size + 1 + 1, 2, none⟩ = false := HK2.out.free 2
    go_wp2_with fail
    refine (c_impl_within).mono ?_
    rintro e w' ⟨rfl, rfl⟩
    go_wp2_with fail
    refine (c_impl_isBit).mono ?_
    rintro e w' ⟨rfl, rfl⟩
    go_wp2_with fail
    refine (c_impl_isLabel).mono ?_
    rintro e w' ⟨rfl, rfl⟩
    go_wp2
    refine bodyPost_ret (v := .tuple #[gbV (.slice none 0 0) (.slice none 0 0) (.slice none 0 0), .bool false]) (by simp [results, Try.results46, go_sem, gbV, xr0, xr1, xr2]) rfl ?_
    rw [HM.out]
    exact RetGbB.no (((HB.out.setCell (p := ⟨w.heap.size + 1 + 1, 0, none⟩) (by simp; omega) _).setCell (p := ⟨w.heap.size + 1 + 1, 1, none⟩) (by simp; omega) _).setCell (p := ⟨w.heap.size + 1 + 1, 2, none⟩) (by simp; omega) _)
  obtain ⟨kn, rfl⟩ : ∃ n : Nat, k = (n : Int) := ⟨k.toNat, by have := inB_bd k3; omega⟩
  obtain ⟨rn, rfl⟩ : ∃ n : Nat, row = (n : Int) := ⟨row.toNat, by have := inB_bd k4; omega⟩
  have hkl : kn < g.rows.length := by have := inB_bd k3; omega
  have hrn : rn < 2 := by have := inB_bd k4; omega
  have hmb := inB_bd k5
  have hro := bend_row k2 hkl
  have HM := Lib.hid (show bendM 2 0 1 c g kn rn m = some (bendG g kn rn m) by unfold bendM; rw [k1, k2, k3, k4, k5]; simp)
  have xa0 : w0.cell? ⟨w.heap.size, 0, none⟩ = some (.int .i64 c.i0) := HK0.out.cell 0
  have xa1 : w0.cell? ⟨w.heap.size, 1, none⟩ = some (.int .i64 c.i1) := HK0.out.cell 1
  have xa2 : w0.cell? ⟨w.heap.size, 2, none⟩ = some (.slice Ag c.gs.length cg) := HK0.out.cell 2
  have xa3 : w0.cell? ⟨w.heap.size, 3, none⟩ = some (.slice Aq c.outs.length cq) := HK0.out.cell 3
  have xb0 : w0.cell? ⟨w.heap.size + 1, 0, none⟩ = some (.slice A g.rows.length c9) := HK1.out.cell 0
  have xb1 : w0.cell? ⟨w.heap.size + 1, 1, none⟩ = some (.slice A1 g.ones.length c1) := HK1.out.cell 1
  have xb2 : w0.cell? ⟨w.heap.size + 1, 2, none⟩ = some (.slice A2 g.cols.length c2) := HK1.out.cell 2
  have xr0 : w0.cell? ⟨w.heap.size + 1 + 1, 0, none⟩ = some (.slice none 0 0) := HK2.out.cell 0
  have xrf0 : w0.frozen? ⟨w.heap.size + 1 + 1, 0, none⟩ = false := HK2.out.free 0
  have xr1 : w0.cell? ⟨w.heap.size + 1 + 1, 1, none⟩ = some (.slice none 0 0) := HK2.out.cell 1
  have xrf1 : w0.frozen? ⟨w.heap.size + 1 + 1, 1, none⟩ = false := HK2.out.free 1
  have xr2 : w0.cell? ⟨w.heap.size + 1 + 1, 2, none⟩ = some (.slice none 0 0) := HK2.out.cell 2
  have xrf2 : w0.frozen? ⟨w.heap.size + 1 + 1, 2, none⟩ = false := HK2.out.free 2
  go_enter Try.func46, Try.ntmps46
  go_wp2_with fail
  clear hw0
  refine (c_impl_IsCircuit (HC.out.below HB.out)).mono ?_
  rintro e u0 ⟨rfl, hb⟩
  clear xa0 xa1 xa2 xa3 xb0 xb1 xb2 xr0 xr1 xr2 xrf0 xrf1 xrf2
  replace HK0 := Lib.hid (HK0.out.step hb)
  replace HK1 := Lib.hid (HK1.out.step hb)
  replace HK2 := Lib.hid (HK2.out.step hb)
  replace HB := Lib.hid (below_step HB.out hb)
  clear hb
  have xa0 : u0.cell? ⟨w.heap.size, 0, none⟩ = some (.int .i64 c.i0) := HK0.out.cell 0
  have xa1 : u0.cell? ⟨w.heap.size, 1, none⟩ = some (.int .i64 c.i1) := HK0.out.cell 1
  have xa2 : u0.cell? ⟨w.heap.size, 2, none⟩ = some (.slice Ag c.gs.length cg) := HK0.out.cell 2
  have xa3 : u0.cell? ⟨w.heap.size, 3, none⟩ = some (.slice Aq c.outs.length cq) := HK0.out.cell 3
  have xb0 : u0.cell? ⟨w.heap.size + 1, 0, none⟩ = some (.slice A g.rows.length c9) := HK1.out.cell 0
  have xb1 : u0.cell? ⟨w.heap.size + 1, 1, none⟩ = some (.slice A1 g.ones.length c1) := HK1.out.cell 1
  have xb2 : u0.cell? ⟨w.heap.size + 1, 2, none⟩ = some (.slice A2 g.cols.length c2) := HK1.out.cell 2
  have xr0 : u0.cell? ⟨w.heap.size + 1 + 1, 0, none⟩ = some (.slice none 0 0) := HK2.out.cell 0
  have xrf0 : u0.frozen? ⟨w.heap.size + 1 + 1, 0, none⟩ = false := HK2.out.free 0
  have xr1 : u0.cell? ⟨w.heap.size + 1 + 1, 1, none⟩ = some (.slice none 0 0) := HK2.out.cell 1
  have xrf1 : u0.frozen? ⟨w.heap.size + 1 + 1, 1, none⟩ = false := HK2.out.free 1
  have xr2 : u0.cell? ⟨w.heap.size + 1 + 1, 2, none⟩ = some (.slice none 0 0) := HK2.out.cell 2
  have xrf2 : u0.frozen? ⟨w.heap.size + 1 + 1, 2, none⟩ = false := HK2.out.free 2
  go_wp2_with fail
  refine (c_impl_areTables (HC.out.below HB.out) k1 (H.out.below HB.out) HS.out).mono ?_
  rintro e w0 ⟨rfl, hb⟩
  clear xa0 xa1 xa2 xa3 xb0 xb1 xb2 xr0 xr1 xr2 xrf0 xrf1 xrf2
  replace HK0 := Lib.hid (HK0.out.step hb)
  replace HK1 := Lib.hid (HK1.out.step hb)
  replace HK2 := Lib.hid (HK2.out.step hb)
  replace HB := Lib.hid (below_step HB.out hb)
  clear hb
  have xa0 : w0.cell? ⟨w.heap.size, 0, none⟩ = some (.int .i64 c.i0) := HK0.out.cell 0
  have xa1 : w0.cell? ⟨w.heap.size, 1, none⟩ = some (.int .i64 c.i1) := HK0.out.cell 1
  have xa2 : w0.cell? ⟨w.heap.size, 2, none⟩ = some (.slice Ag c.gs.length cg) := HK0.out.cell 2
  have xa3 : w0.cell? ⟨w.heap.size, 3, none⟩ = some (.slice Aq c.outs.length cq) := HK0.out.cell 3
  have xb0 : w0.cell? ⟨w.heap.size + 1, 0, none⟩ = some (.slice A g.rows.length c9) := HK1.out.cell 0
  have xb1 : w0.cell? ⟨w.heap.size + 1, 1, none⟩ = some (.slice A1 g.ones.length c1) := HK1.out.cell 1
  have xb2 : w0.cell? ⟨w.heap.size + 1, 2, none⟩ = some (.slice A2 g.cols.length c2) := HK1.out.cell 2
  have xr0 : w0.cell? ⟨w.heap.size + 1 + 1, 0, none⟩ = some (.slice none 0 0) := HK2.out.cell 0
  have xrf0 : w0.frozen? ⟨w.heap.size + 1 + 1, 0, none⟩ = false := HK2.out.free 0
  have xr1 : w0.cell? ⟨w.heap.size + 1 + 1, 1, none⟩ = some (.slice none 0 0) := HK2.out.cell 1
  have xrf1 : w0.frozen? ⟨w.heap.size + 1 + 1, 1, none⟩ = false := HK2.out.free 1
  have xr2 : w0.cell? ⟨w.heap.size + 1 + 1, 2, none⟩ = some (.slice none 0 0) := HK2.out.cell 2
  have xrf2 : w0.frozen? ⟨w.heap.size + 1 + 1, 2, none⟩ = false := HK2.out.free 2
  go_wp2_with fail
  refine (c_impl_within).mono ?_
  rintro e w' ⟨rfl, rfl⟩
  go_wp2_with fail
  refine (c_impl_isBit).mono ?_
  rintro e w' ⟨rfl, rfl⟩
  go_wp2_with fail
  refine (c_impl_isLabel).mono ?_
  rintro e w' ⟨rfl, rfl⟩
  have hrl9 : rn < (g.rows.getD kn []).length := by have := hro.1; omega
  go_wp2_with fail
  refine (c_impl_bent (H.out.below HB.out) HS.out hkl hrl9 hro.2 hmb).mono ?_
  rintro e w9 ⟨rv9, ov9, cv9, vs, rfl, O, hb⟩
  unfold gbV
  obtain ⟨Ar, cr, rfl, -⟩ := O.rows.rowsIn.form
  obtain ⟨Ao, co, rfl, -⟩ := O.ones.ints
  obtain ⟨Ac, cc, rfl, -⟩ := O.cols.ints
  have hlow := HK2.out.lt
  replace O := Lib.hid O
  have hsz := HB.out.size
  clear xa0 xa1 xa2 xa3 xb0 xb1 xb2 xr0 xr1 xr2 xrf0 xrf1 xrf2
  replace HK0 := Lib.hid (HK0.out.step hb)
  replace HK1 := Lib.hid (HK1.out.step hb)
  replace HK2 := Lib.hid (HK2.out.step hb)
  replace HB := Lib.hid (below_step HB.out hb)
  clear hb
  have xa0 : w9.cell? ⟨w.heap.size, 0, none⟩ = some (.int .i64 c.i0) := HK0.out.cell 0
  have xa1 : w9.cell? ⟨w.heap.size, 1, none⟩ = some (.int .i64 c.i1) := HK0.out.cell 1
  have xa2 : w9.cell? ⟨w.heap.size, 2, none⟩ = some (.slice Ag c.gs.length cg) := HK0.out.cell 2
  have xa3 : w9.cell? ⟨w.heap.size, 3, none⟩ = some (.slice Aq c.outs.length cq) := HK0.out.cell 3
  have xb0 : w9.cell? ⟨w.heap.size + 1, 0, none⟩ = some (.slice A g.rows.length c9) := HK1.out.cell 0
  have xb1 : w9.cell? ⟨w.heap.size + 1, 1, none⟩ = some (.slice A1 g.ones.length c1) := HK1.out.cell 1
  have xb2 : w9.cell? ⟨w.heap.size + 1, 2, none⟩ = some (.slice A2 g.cols.length c2) := HK1.out.cell 2
  have xr0 : w9.cell? ⟨w.heap.size + 1 + 1, 0, none⟩ = some (.slice none 0 0) := HK2.out.cell 0
  have xrf0 : w9.frozen? ⟨w.heap.size + 1 + 1, 0, none⟩ = false := HK2.out.free 0
  have xr1 : w9.cell? ⟨w.heap.size + 1 + 1, 1, none⟩ = some (.slice none 0 0) := HK2.out.cell 1
  have xrf1 : w9.frozen? ⟨w.heap.size + 1 + 1, 1, none⟩ = false := HK2.out.free 1
  have xr2 : w9.cell? ⟨w.heap.size + 1 + 1, 2, none⟩ = some (.slice none 0 0) := HK2.out.cell 2
  have xrf2 : w9.frozen? ⟨w.heap.size + 1 + 1, 2, none⟩ = false := HK2.out.free 2
  go_wp2
  refine bodyPost_ret (v := .tuple #[gbV (.slice Ar (bendG g kn rn m).rows.length cr) (.slice Ao (bendG g kn rn m).ones.length co) (.slice Ac (bendG g kn rn m).cols.length cc), .bool true]) (by simp [results, Try.results46, go_sem, gbV, xr0, xr1, xr2]) rfl ⟨_, _, _, vs, by rw [HM.out]; rfl, ?_, ?_⟩
  · rw [HM.out]; exact (((O.out.setLow hlow 0 _).setLow hlow 1 _).setLow hlow 2 _).mono hsz
  · exact ((HB.out.setCell (p := ⟨w.heap.size + 1 + 1, 0, none⟩) (by simp; omega) _).setCell (p := ⟨w.heap.size + 1 + 1, 1, none⟩) (by simp; omega) _).setCell (p := ⟨w.heap.size + 1 + 1, 2, none⟩) (by simp; omega) _
set_option maxRecDepth 100000 in
set_option maxHeartbeats 4000000 in
theorem c_impl_BendRow {c : Cir} {g : Gb} {gv qv rv nv cv : Value} {w : World} {k row m : Int} (hC : CirIn w gv qv c) (h : GbIn w rv nv cv g) (hs : g.sz ≤ 1048576) :
    Calls Try.prog 49 #[cirV c gv qv, gbV rv nv cv, .int .i64 k, .int .i64 row, .int .i64 m] w (RetGbB w (bendM 3 1 3 c g k row m)) := by
  have H := Lib.hid h
  have HS := Lib.hid hs
  obtain ⟨hrw, ho, hc⟩ := h
  obtain ⟨A, c9, rfl, -⟩ := hrw.form
  obtain ⟨A1, c1, rfl, -⟩ := ho
  obtain ⟨A2, c2, rfl, -⟩ := hc
  have hol : g.ones.length ≤ 1048576 := by unfold Gb.sz at hs; omega
  have hcl : g.cols.length ≤ 1048576 := by unfold Gb.sz at hs; omega
  have hrl : g.rows.length ≤ 1048576 := by unfold Gb.sz at hs; omega
  have HRL := Lib.hid (Gb.row_le hs)
  obtain ⟨A', c', e', hlc, hcm, hat⟩ := hrw.form
  injection e' with e1 e2 e3
  subst e1 e3
  have HAT := Lib.hid hat
  clear hrw hs hat
  have HC := Lib.hid hC
  obtain ⟨hg, ho⟩ := hC
  obtain ⟨Ag, cg, rfl, -⟩ := hg
  obtain ⟨Aq, cq, rfl, -⟩ := ho
  unfold cirV gbV
  obtain ⟨w0, hw0⟩ : ∃ W, (((w.alloc (.cells #[.int .i64 c.i0, .int .i64 c.i1, .slice Ag c.gs.length cg, .slice Aq c.outs.length cq] 31)).alloc (.cells #[.slice A g.rows.length c9, .slice A1 g.ones.length c1, .slice A2 g.cols.length c2] 47)).alloc (.cells #[.slice none 0 0, .slice none 0 0, .slice none 0 0] 47)) = W := ⟨_, rfl⟩
  have HK0 : Hid (Blk w0 w.heap.size 31 #[.int .i64 c.i0, .int .i64 c.i1, .slice Ag c.gs.length cg, .slice Aq c.outs.length cq]) := by rw [← hw0]; exact ((Blk.new _ _ _).alloc _).alloc _
  have HK1 : Hid (Blk w0 (w.heap.size + 1) 47 #[.slice A g.rows.length c9, .slice A1 g.ones.length c1, .slice A2 g.cols.length c2]) := by rw [← hw0]; have := (Blk.new (w.alloc (.cells #[.int .i64 c.i0, .int .i64 c.i1, .slice Ag c.gs.length cg, .slice Aq c.outs.length cq] 31)) 47 #[.slice A g.rows.length c9, .slice A1 g.ones.length c1, .slice A2 g.cols.length c2]).alloc (.cells #[.slice none 0 0, .slice none 0 0, .slice none 0 0] 47); simp only [World.size_alloc] at this; exact this
  have HK2 : Hid (Blk w0 (w.heap.size + 1 + 1) 47 #[.slice none 0 0, .slice none 0 0, .slice none 0 0]) := by rw [← hw0]; have := Blk.new ((w.alloc (.cells #[.int .i64 c.i0, .int .i64 c.i1, .slice Ag c.gs.length cg, .slice Aq c.outs.length cq] 31)).alloc (.cells #[.slice A g.rows.length c9, .slice A1 g.ones.length c1, .slice A2 g.cols.length c2] 47)) 47 #[.slice none 0 0, .slice none 0 0, .slice none 0 0]; simp only [World.size_alloc] at this; exact this
  have HB : Hid (Below w.heap.size w w0) := by rw [← hw0]; exact (((Below.refl _ _).alloc (Nat.le_refl _) _).alloc (by simp) _).alloc (by simp; omega) _
  rcases k1 : cirB c with _ | _
  · skip
    have HM := Lib.hid (show bendM 3 1 3 c g k row m = none by unfold bendM; simp [k1])
    have xa0 : w0.cell? ⟨w.heap.size, 0, none⟩ = some (.int .i64 c.i0) := HK0.out.cell 0
    have xa1 : w0.cell? ⟨w.heap.size, 1, none⟩ = some (.int .i64 c.i1) := HK0.out.cell 1
    have xa2 : w0.cell? ⟨w.heap.size, 2, none⟩ = some (.slice Ag c.gs.length cg) := HK0.out.cell 2
    have xa3 : w0.cell? ⟨w.heap.size, 3, none⟩ = some (.slice Aq c.outs.length cq) := HK0.out.cell 3
    have xb0 : w0.cell? ⟨w.heap.size + 1, 0, none⟩ = some (.slice A g.rows.length c9) := HK1.out.cell 0
    have xb1 : w0.cell? ⟨w.heap.size + 1, 1, none⟩ = some (.slice A1 g.ones.length c1) := HK1.out.cell 1
    have xb2 : w0.cell? ⟨w.heap.size + 1, 2, none⟩ = some (.slice A2 g.cols.length c2) := HK1.out.cell 2
    have xr0 : w0.cell? ⟨w.heap.size + 1 + 1, 0, none⟩ = some (.slice none 0 0) := HK2.out.cell 0
    have xrf0 : w0.frozen? ⟨w.heap.size + 1 + 1, 0, none⟩ = false := HK2.out.free 0
    have xr1 : w0.cell? ⟨w.heap.size + 1 + 1, 1, none⟩ = some (.slice none 0 0) := HK2.out.cell 1
    have xrf1 : w0.frozen? ⟨w.heap.size + 1 + 1, 1, none⟩ = false := HK2.out.free 1
    have xr2 : w0.cell? ⟨w.heap.size + 1 + 1, 2, none⟩ = some (.slice none 0 0) := HK2.out.cell 2
    have xrf2 : w0.frozen? ⟨w.heap.size + 1 + 1, 2, none⟩ = false := HK2.out.free 2
    go_enter Try.func49, Try.ntmps49
    go_wp2_with fail
    clear hw0
    refine (c_impl_IsCircuit (HC.out.below HB.out)).mono ?_
    rintro e wz ⟨rfl, hb⟩
    clear xa0 xa1 xa2 xa3 xb0 xb1 xb2 xr0 xr1 xr2 xrf0 xrf1 xrf2
    replace HK0 := Lib.hid (HK0.out.step hb)
    replace HK1 := Lib.hid (HK1.out.step hb)
    replace HK2 := Lib.hid (HK2.out.step hb)
    replace HB := Lib.hid (below_step HB.out hb)
    clear hb
    have xa0 : wz.cell? ⟨w.heap.size, 0, none⟩ = some (.int .i64 c.i0) := HK0.out.cell 0
    have xa1 : wz.cell? ⟨w.heap.size, 1, none⟩ = some (.int .i64 c.i1) := HK0.out.cell 1
    have xa2 : wz.cell? ⟨w.heap.size, 2, none⟩ = some (.slice Ag c.gs.length cg) := HK0.out.cell 2
    have xa3 : wz.cell? ⟨w.heap.size, 3, none⟩ = some (.slice Aq c.outs.length cq) := HK0.out.cell 3
    have xb0 : wz.cell? ⟨w.heap.size + 1, 0, none⟩ = some (.slice A g.rows.length c9) := HK1.out.cell 0
    have xb1 : wz.cell? ⟨w.heap.size + 1, 1, none⟩ = some (.slice A1 g.ones.length c1) := HK1.out.cell 1
    have xb2 : wz.cell? ⟨w.heap.size + 1, 2, none⟩ = some (.slice A2 g.cols.length c2) := HK1.out.cell 2
    have xr0 : wz.cell? ⟨w.heap.size + 1 + 1, 0, none⟩ = some (.slice none 0 0) := HK2.out.cell 0
    have xrf0 : wz.frozen? ⟨w.heap.size + 1 + 1, 0, none⟩ = false := HK2.out.free 0
    have xr1 : wz.cell? ⟨w.heap.size + 1 + 1, 1, none⟩ = some (.slice none 0 0) := HK2.out.cell 1
    have xrf1 : wz.frozen? ⟨w.heap.size + 1 + 1, 1, none⟩ = false := HK2.out.free 1
    have xr2 : wz.cell? ⟨w.heap.size + 1 + 1, 2, none⟩ = some (.slice none 0 0) := HK2.out.cell 2
    have xrf2 : wz.frozen? ⟨w.heap.size + 1 + 1, 2, none⟩ = false := HK2.out.free 2
    go_wp2
    refine bodyPost_ret (v := .tuple #[gbV (.slice none 0 0) (.slice none 0 0) (.slice none 0 0), .bool false]) (by simp [results, Try.results49, go_sem, gbV, xr0, xr1, xr2]) rfl ?_
    rw [HM.out]
    exact RetGbB.no (((HB.out.setCell (p := ⟨w.heap.size + 1 + 1, 0, none⟩) (by simp; omega) _).setCell (p := ⟨w.heap.size + 1 + 1, 1, none⟩) (by simp; omega) _).setCell (p := ⟨w.heap.size + 1 + 1, 2, none⟩) (by simp; omega) _)
  rcases k2 : tabB 3 c g with _ | _
  · skip
    have HM := Lib.hid (show bendM 3 1 3 c g k row m = none by unfold bendM; simp [k1, k2])
    have xa0 : w0.cell? ⟨w.heap.size, 0, none⟩ = some (.int .i64 c.i0) := HK0.out.cell 0
    have xa1 : w0.cell? ⟨w.heap.size, 1, none⟩ = some (.int .i64 c.i1) := HK0.out.cell 1
    have xa2 : w0.cell? ⟨w.heap.size, 2, none⟩ = some (.slice Ag c.gs.length cg) := HK0.out.cell 2
    have xa3 : w0.cell? ⟨w.heap.size, 3, none⟩ = some (.slice Aq c.outs.length cq) := HK0.out.cell 3
    have xb0 : w0.cell? ⟨w.heap.size + 1, 0, none⟩ = some (.slice A g.rows.length c9) := HK1.out.cell 0
    have xb1 : w0.cell? ⟨w.heap.size + 1, 1, none⟩ = some (.slice A1 g.ones.length c1) := HK1.out.cell 1
    have xb2 : w0.cell? ⟨w.heap.size + 1, 2, none⟩ = some (.slice A2 g.cols.length c2) := HK1.out.cell 2
    have xr0 : w0.cell? ⟨w.heap.size + 1 + 1, 0, none⟩ = some (.slice none 0 0) := HK2.out.cell 0
    have xrf0 : w0.frozen? ⟨w.heap.size + 1 + 1, 0, none⟩ = false := HK2.out.free 0
    have xr1 : w0.cell? ⟨w.heap.size + 1 + 1, 1, none⟩ = some (.slice none 0 0) := HK2.out.cell 1
    have xrf1 : w0.frozen? ⟨w.heap.size + 1 + 1, 1, none⟩ = false := HK2.out.free 1
    have xr2 : w0.cell? ⟨w.heap.size + 1 + 1, 2, none⟩ = some (.slice none 0 0) := HK2.out.cell 2
    have xrf2 : w0.frozen? ⟨w.heap.size + 1 + 1, 2, none⟩ = false := HK2.out.free 2
    go_enter Try.func49, Try.ntmps49
    go_wp2_with fail
    clear hw0
    refine (c_impl_IsCircuit (HC.out.below HB.out)).mono ?_
    rintro e u0 ⟨rfl, hb⟩
    clear xa0 xa1 xa2 xa3 xb0 xb1 xb2 xr0 xr1 xr2 xrf0 xrf1 xrf2
    replace HK0 := Lib.hid (HK0.out.step hb)
    replace HK1 := Lib.hid (HK1.out.step hb)
    replace HK2 := Lib.hid (HK2.out.step hb)
    replace HB := Lib.hid (below_step HB.out hb)
    clear hb
    have xa0 : u0.cell? ⟨w.heap.size, 0, none⟩ = some (.int .i64 c.i0) := HK0.out.cell 0
    have xa1 : u0.cell? ⟨w.heap.size, 1, none⟩ = some (.int .i64 c.i1) := HK0.out.cell 1
    have xa2 : u0.cell? ⟨w.heap.size, 2, none⟩ = some (.slice Ag c.gs.length cg) := HK0.out.cell 2
    have xa3 : u0.cell? ⟨w.heap.size, 3, none⟩ = some (.slice Aq c.outs.length cq) := HK0.out.cell 3
    have xb0 : u0.cell? ⟨w.heap.size + 1, 0, none⟩ = some (.slice A g.rows.length c9) := HK1.out.cell 0
    have xb1 : u0.cell? ⟨w.heap.size + 1, 1, none⟩ = some (.slice A1 g.ones.length c1) := HK1.out.cell 1
    have xb2 : u0.cell? ⟨w.heap.size + 1, 2, none⟩ = some (.slice A2 g.cols.length c2) := HK1.out.cell 2
    have xr0 : u0.cell? ⟨w.heap.size + 1 + 1, 0, none⟩ = some (.slice none 0 0) := HK2.out.cell 0
    have xrf0 : u0.frozen? ⟨w.heap.size + 1 + 1, 0, none⟩ = false := HK2.out.free 0
    have xr1 : u0.cell? ⟨w.heap.size + 1 + 1, 1, none⟩ = some (.slice none 0 0) := HK2.out.cell 1
    have xrf1 : u0.frozen? ⟨w.heap.size + 1 + 1, 1, none⟩ = false := HK2.out.free 1
    have xr2 : u0.cell? ⟨w.heap.size + 1 + 1, 2, none⟩ = some (.slice none 0 0) := HK2.out.cell 2
    have xrf2 : u0.frozen? ⟨w.heap.size + 1 + 1, 2, none⟩ = false := HK2.out.free 2
    go_wp2_with fail
    refine (c_impl_areTables (HC.out.below HB.out) k1 (H.out.below HB.out) HS.out).mono ?_
    rintro e wz ⟨rfl, hb⟩
    clear xa0 xa1 xa2 xa3 xb0 xb1 xb2 xr0 xr1 xr2 xrf0 xrf1 xrf2
    replace HK0 := Lib.hid (HK0.out.step hb)
    replace HK1 := Lib.hid (HK1.out.step hb)
    replace HK2 := Lib.hid (HK2.out.step hb)
    replace HB := Lib.hid (below_step HB.out hb)
    clear hb
    have xa0 : wz.cell? ⟨w.heap.size, 0, none⟩ = some (.int .i64 c.i0) := HK0.out.cell 0
    have xa1 : wz.cell? ⟨w.heap.size, 1, none⟩ = some (.int .i64 c.i1) := HK0.out.cell 1
    have xa2 : wz.cell? ⟨w.heap.size, 2, none⟩ = some (.slice Ag c.gs.length cg) := HK0.out.cell 2
    have xa3 : wz.cell? ⟨w.heap.size, 3, none⟩ = some (.slice Aq c.outs.length cq) := HK0.out.cell 3
    have xb0 : wz.cell? ⟨w.heap.size + 1, 0, none⟩ = some (.slice A g.rows.length c9) := HK1.out.cell 0
    have xb1 : wz.cell? ⟨w.heap.size + 1, 1, none⟩ = some (.slice A1 g.ones.length c1) := HK1.out.cell 1
    have xb2 : wz.cell? ⟨w.heap.size + 1, 2, none⟩ = some (.slice A2 g.cols.length c2) := HK1.out.cell 2
    have xr0 : wz.cell? ⟨w.heap.size + 1 + 1, 0, none⟩ = some (.slice none 0 0) := HK2.out.cell 0
    have xrf0 : wz.frozen? ⟨w.heap.size + 1 + 1, 0, none⟩ = false := HK2.out.free 0
    have xr1 : wz.cell? ⟨w.heap.size + 1 + 1, 1, none⟩ = some (.slice none 0 0) := HK2.out.cell 1
    have xrf1 : wz.frozen? ⟨w.heap.size + 1 + 1, 1, none⟩ = false := HK2.out.free 1
    have xr2 : wz.cell? ⟨w.heap.size + 1 + 1, 2, none⟩ = some (.slice none 0 0) := HK2.out.cell 2
    have xrf2 : wz.frozen? ⟨w.heap.size + 1 + 1, 2, none⟩ = false := HK2.out.free 2
    go_wp2
    refine bodyPost_ret (v := .tuple #[gbV (.slice none 0 0) (.slice none 0 0) (.slice none 0 0), .bool false]) (by simp [results, Try.results49, go_sem, gbV, xr0, xr1, xr2]) rfl ?_
    rw [HM.out]
    exact RetGbB.no (((HB.out.setCell (p := ⟨w.heap.size + 1 + 1, 0, none⟩) (by simp; omega) _).setCell (p := ⟨w.heap.size + 1 + 1, 1, none⟩) (by simp; omega) _).setCell (p := ⟨w.heap.size + 1 + 1, 2, none⟩) (by simp; omega) _)
  rcases k3 : inB k 0 ((g.rows.length : Int) - 1) with _ | _
  · skip
    have HM := Lib.hid (show bendM 3 1 3 c g k row m = none by unfold bendM; simp [k1, k2, k3])
    have xa0 : w0.cell? ⟨w.heap.size, 0, none⟩ = some (.int .i64 c.i0) := HK0.out.cell 0
    have xa1 : w0.cell? ⟨w.heap.size, 1, none⟩ = some (.int .i64 c.i1) := HK0.out.cell 1
    have xa2 : w0.cell? ⟨w.heap.size, 2, none⟩ = some (.slice Ag c.gs.length cg) := HK0.out.cell 2
    have xa3 : w0.cell? ⟨w.heap.size, 3, none⟩ = some (.slice Aq c.outs.length cq) := HK0.out.cell 3
    have xb0 : w0.cell? ⟨w.heap.size + 1, 0, none⟩ = some (.slice A g.rows.length c9) := HK1.out.cell 0
    have xb1 : w0.cell? ⟨w.heap.size + 1, 1, none⟩ = some (.slice A1 g.ones.length c1) := HK1.out.cell 1
    have xb2 : w0.cell? ⟨w.heap.size + 1, 2, none⟩ = some (.slice A2 g.cols.length c2) := HK1.out.cell 2
    have xr0 : w0.cell? ⟨w.heap.size + 1 + 1, 0, none⟩ = some (.slice none 0 0) := HK2.out.cell 0
    have xrf0 : w0.frozen? ⟨w.heap.size + 1 + 1, 0, none⟩ = false := HK2.out.free 0
    have xr1 : w0.cell? ⟨w.heap.size + 1 + 1, 1, none⟩ = some (.slice none 0 0) := HK2.out.cell 1
    have xrf1 : w0.frozen? ⟨w.heap.size + 1 + 1, 1, none⟩ = false := HK2.out.free 1
    have xr2 : w0.cell? ⟨w.heap.size + 1 + 1, 2, none⟩ = some (.slice none 0 0) := HK2.out.cell 2
    have xrf2 : w0.frozen? ⟨w.heap.size + 1 + 1, 2, none⟩ = false := HK2.out.free 2
    go_enter Try.func49, Try.ntmps49
    go_wp2_with fail
    clear hw0
    refine (c_impl_IsCircuit (HC.out.below HB.out)).mono ?_
    rintro e u0 ⟨rfl, hb⟩
    clear xa0 xa1 xa2 xa3 xb0 xb1 xb2 xr0 xr1 xr2 xrf0 xrf1 xrf2
    replace HK0 := Lib.hid (HK0.out.step hb)
    replace HK1 := Lib.hid (HK1.out.step hb)
    replace HK2 := Lib.hid (HK2.out.step hb)
    replace HB := Lib.hid (below_step HB.out hb)
    clear hb
    have xa0 : u0.cell? ⟨w.heap.size, 0, none⟩ = some (.int .i64 c.i0) := HK0.out.cell 0
    have xa1 : u0.cell? ⟨w.heap.size, 1, none⟩ = some (.int .i64 c.i1) := HK0.out.cell 1
    have xa2 : u0.cell? ⟨w.heap.size, 2, none⟩ = some (.slice Ag c.gs.length cg) := HK0.out.cell 2
    have xa3 : u0.cell? ⟨w.heap.size, 3, none⟩ = some (.slice Aq c.outs.length cq) := HK0.out.cell 3
    have xb0 : u0.cell? ⟨w.heap.size + 1, 0, none⟩ = some (.slice A g.rows.length c9) := HK1.out.cell 0
    have xb1 : u0.cell? ⟨w.heap.size + 1, 1, none⟩ = some (.slice A1 g.ones.length c1) := HK1.out.cell 1
    have xb2 : u0.cell? ⟨w.heap.size + 1, 2, none⟩ = some (.slice A2 g.cols.length c2) := HK1.out.cell 2
    have xr0 : u0.cell? ⟨w.heap.size + 1 + 1, 0, none⟩ = some (.slice none 0 0) := HK2.out.cell 0
    have xrf0 : u0.frozen? ⟨w.heap.size + 1 + 1, 0, none⟩ = false := HK2.out.free 0
    have xr1 : u0.cell? ⟨w.heap.size + 1 + 1, 1, none⟩ = some (.slice none 0 0) := HK2.out.cell 1
    have xrf1 : u0.frozen? ⟨w.heap.size + 1 + 1, 1, none⟩ = false := HK2.out.free 1
    have xr2 : u0.cell? ⟨w.heap.size + 1 + 1, 2, none⟩ = some (.slice none 0 0) := HK2.out.cell 2
    have xrf2 : u0.frozen? ⟨w.heap.size + 1 + 1, 2, none⟩ = false := HK2.out.free 2
    go_wp2_with fail
    refine (c_impl_areTables (HC.out.below HB.out) k1 (H.out.below HB.out) HS.out).mono ?_
    rintro e wz ⟨rfl, hb⟩
    clear xa0 xa1 xa2 xa3 xb0 xb1 xb2 xr0 xr1 xr2 xrf0 xrf1 xrf2
    replace HK0 := Lib.hid (HK0.out.step hb)
    replace HK1 := Lib.hid (HK1.out.step hb)
    replace HK2 := Lib.hid (HK2.out.step hb)
    replace HB := Lib.hid (below_step HB.out hb)
    clear hb
    have xa0 : wz.cell? ⟨w.heap.size, 0, none⟩ = some (.int .i64 c.i0) := HK0.out.cell 0
    have xa1 : wz.cell? ⟨w.heap.size, 1, none⟩ = some (.int .i64 c.i1) := HK0.out.cell 1
    have xa2 : wz.cell? ⟨w.heap.size, 2, none⟩ = some (.slice Ag c.gs.length cg) := HK0.out.cell 2
    have xa3 : wz.cell? ⟨w.heap.size, 3, none⟩ = some (.slice Aq c.outs.length cq) := HK0.out.cell 3
    have xb0 : wz.cell? ⟨w.heap.size + 1, 0, none⟩ = some (.slice A g.rows.length c9) := HK1.out.cell 0
    have xb1 : wz.cell? ⟨w.heap.size + 1, 1, none⟩ = some (.slice A1 g.ones.length c1) := HK1.out.cell 1
    have xb2 : wz.cell? ⟨w.heap.size + 1, 2, none⟩ = some (.slice A2 g.cols.length c2) := HK1.out.cell 2
    have xr0 : wz.cell? ⟨w.heap.size + 1 + 1, 0, none⟩ = some (.slice none 0 0) := HK2.out.cell 0
    have xrf0 : wz.frozen? ⟨w.heap.size + 1 + 1, 0, none⟩ = false := HK2.out.free 0
    have xr1 : wz.cell? ⟨w.heap.size + 1 + 1, 1, none⟩ = some (.slice none 0 0) := HK2.out.cell 1
    have xrf1 : wz.frozen? ⟨w.heap.size + 1 + 1, 1, none⟩ = false := HK2.out.free 1
    have xr2 : wz.cell? ⟨w.heap.size + 1 + 1, 2, none⟩ = some (.slice none 0 0) := HK2.out.cell 2
    have xrf2 : wz.frozen? ⟨w.heap.size + 1 + 1, 2, none⟩ = false := HK2.out.free 2
    go_wp2_with fail
    refine (c_impl_within).mono ?_
    rintro e w' ⟨rfl, rfl⟩
    go_wp2
    refine bodyPost_ret (v := .tuple #[gbV (.slice none 0 0) (.slice none 0 0) (.slice none 0 0), .bool false]) (by simp [results, Try.results49, go_sem, gbV, xr0, xr1, xr2]) rfl ?_
    rw [HM.out]
    exact RetGbB.no (((HB.out.setCell (p := ⟨w.heap.size + 1 + 1, 0, none⟩) (by simp; omega) _).setCell (p := ⟨w.heap.size + 1 + 1, 1, none⟩) (by simp; omega) _).setCell (p := ⟨w.heap.size + 1 + 1, 2, none⟩) (by simp; omega) _)
  rcases k4 : inB row 1 3 with _ | _
  · skip
    have HM := Lib.hid (show bendM 3 1 3 c g k row m = none by unfold bendM; simp [k1, k2, k3, k4])
    have xa0 : w0.cell? ⟨w.heap.size, 0, none⟩ = some (.int .i64 c.i0) := HK0.out.cell 0
    have xa1 : w0.cell? ⟨w.heap.size, 1, none⟩ = some (.int .i64 c.i1) := HK0.out.cell 1
    have xa2 : w0.cell? ⟨w.heap.size, 2, none⟩ = some (.slice Ag c.gs.length cg) := HK0.out.cell 2
    have xa3 : w0.cell? ⟨w.heap.size, 3, none⟩ = some (.slice Aq c.outs.length cq) := HK0.out.cell 3
    have xb0 : w0.cell? ⟨w.heap.size + 1, 0, none⟩ = some (.slice A g.rows.length c9) := HK1.out.cell 0
    have xb1 : w0.cell? ⟨w.heap.size + 1, 1, none⟩ = some (.slice A1 g.ones.length c1) := HK1.out.cell 1
    have xb2 : w0.cell? ⟨w.heap.size + 1, 2, none⟩ = some (.slice A2 g.cols.length c2) := HK1.out.cell 2
    have xr0 : w0.cell? ⟨w.heap.size + 1 + 1, 0, none⟩ = some (.slice none 0 0) := HK2.out.cell 0
    have xrf0 : w0.frozen? ⟨w.heap.size + 1 + 1, 0, none⟩ = false := HK2.out.free 0
    have xr1 : w0.cell? ⟨w.heap.size + 1 + 1, 1, none⟩ = some (.slice none 0 0) := HK2.out.cell 1
    have xrf1 : w0.frozen? ⟨w.heap.size + 1 + 1, 1, none⟩ = false := HK2.out.free 1
    have xr2 : w0.cell? ⟨w.heap.size + 1 + 1, 2, none⟩ = some (.slice none 0 0) := HK2.out.cell 2
    have xrf2 : w0.frozen? ⟨w.heap.size + 1 + 1, 2, none⟩ = false := HK2.out.free 2
    go_enter Try.func49, Try.ntmps49
    go_wp2_with fail
    clear hw0
    refine (c_impl_IsCircuit (HC.out.below HB.out)).mono ?_
    rintro e u0 ⟨rfl, hb⟩
    clear xa0 xa1 xa2 xa3 xb0 xb1 xb2 xr0 xr1 xr2 xrf0 xrf1 xrf2
    replace HK0 := Lib.hid (HK0.out.step hb)
    replace HK1 := Lib.hid (HK1.out.step hb)
    replace HK2 := Lib.hid (HK2.out.step hb)
    replace HB := Lib.hid (below_step HB.out hb)
    clear hb
    have xa0 : u0.cell? ⟨w.heap.size, 0, none⟩ = some (.int .i64 c.i0) := HK0.out.cell 0
    have xa1 : u0.cell? ⟨w.heap.size, 1, none⟩ = some (.int .i64 c.i1) := HK0.out.cell 1
    have xa2 : u0.cell? ⟨w.heap.size, 2, none⟩ = some (.slice Ag c.gs.length cg) := HK0.out.cell 2
    have xa3 : u0.cell? ⟨w.heap.size, 3, none⟩ = some (.slice Aq c.outs.length cq) := HK0.out.cell 3
    have xb0 : u0.cell? ⟨w.heap.size + 1, 0, none⟩ = some (.slice A g.rows.length c9) := HK1.out.cell 0
    have xb1 : u0.cell? ⟨w.heap.size + 1, 1, none⟩ = some (.slice A1 g.ones.length c1) := HK1.out.cell 1
    have xb2 : u0.cell? ⟨w.heap.size + 1, 2, none⟩ = some (.slice A2 g.cols.length c2) := HK1.out.cell 2
    have xr0 : u0.cell? ⟨w.heap.size + 1 + 1, 0, none⟩ = some (.slice none 0 0) := HK2.out.cell 0
    have xrf0 : u0.frozen? ⟨w.heap.size + 1 + 1, 0, none⟩ = false := HK2.out.free 0
    have xr1 : u0.cell? ⟨w.heap.size + 1 + 1, 1, none⟩ = some (.slice none 0 0) := HK2.out.cell 1
    have xrf1 : u0.frozen? ⟨w.heap.size + 1 + 1, 1, none⟩ = false := HK2.out.free 1
    have xr2 : u0.cell? ⟨w.heap.size + 1 + 1, 2, none⟩ = some (.slice none 0 0) := HK2.out.cell 2
    have xrf2 : u0.frozen? ⟨w.heap.size + 1 + 1, 2, none⟩ = false := HK2.out.free 2
    go_wp2_with fail
    refine (c_impl_areTables (HC.out.below HB.out) k1 (H.out.below HB.out) HS.out).mono ?_
    rintro e wz ⟨rfl, hb⟩
    clear xa0 xa1 xa2 xa3 xb0 xb1 xb2 xr0 xr1 xr2 xrf0 xrf1 xrf2
    replace HK0 := Lib.hid (HK0.out.step hb)
    replace HK1 := Lib.hid (HK1.out.step hb)
    replace HK2 := Lib.hid (HK2.out.step hb)
    replace HB := Lib.hid (below_step HB.out hb)
    clear hb
    have xa0 : wz.cell? ⟨w.heap.size, 0, none⟩ = some (.int .i64 c.i0) := HK0.out.cell 0
    have xa1 : wz.cell? ⟨w.heap.size, 1, none⟩ = some (.int .i64 c.i1) := HK0.out.cell 1
    have xa2 : wz.cell? ⟨w.heap.size, 2, none⟩ = some (.slice Ag c.gs.length cg) := HK0.out.cell 2
    have xa3 : wz.cell? ⟨w.heap.size, 3, none⟩ = some (.slice Aq c.outs.length cq) := HK0.out.cell 3
    have xb0 : wz.cell? ⟨w.heap.size + 1, 0, none⟩ = some (.slice A g.rows.length c9) := HK1.out.cell 0
    have xb1 : wz.cell? ⟨w.heap.size + 1, 1, none⟩ = some (.slice A1 g.ones.length c1) := HK1.out.cell 1
    have xb2 : wz.cell? ⟨w.heap.size + 1, 2, none⟩ = some (.slice A2 g.cols.length c2) := HK1.out.cell 2
    have xr0 : wz.cell? ⟨w.heap.size + 1 + 1, 0, none⟩ = some (.slice none 0 0) := HK2.out.cell 0
    have xrf0 : wz.frozen? ⟨w.heap.size + 1 + 1, 0, none⟩ = false := HK2.out.free 0
    have xr1 : wz.cell? ⟨w.heap.size + 1 + 1, 1, none⟩ = some (.slice none 0 0) := HK2.out.cell 1
    have xrf1 : wz.frozen? ⟨w.heap.size + 1 + 1, 1, none⟩ = false := HK2.out.free 1
    have xr2 : wz.cell? ⟨w.heap.size + 1 + 1, 2, none⟩ = some (.slice none 0 0) := HK2.out.cell 2
    have xrf2 : wz.frozen? ⟨w.heap.size + 1 + 1, 2, none⟩ = false := HK2.out.free 2
    go_wp2_with fail
    refine (c_impl_within).mono ?_
    rintro e w' ⟨rfl, rfl⟩
    go_wp2_with fail
    refine (c_impl_within).mono ?_
    rintro e w' ⟨rfl, rfl⟩
    go_wp2
    refine bodyPost_ret (v := .tuple #[gbV (.slice none 0 0) (.slice none 0 0) (.slice none 0 0), .bool false]) (by simp [results, Try.results49, go_sem, gbV, xr0, xr1, xr2]) rfl ?_
    rw [HM.out]
    exact RetGbB.no (((HB.out.setCell (p := ⟨w.heap.size + 1 + 1, 0, none⟩) (by simp; omega) _).setCell (p := ⟨w.heap.size + 1 + 1, 1, none⟩) (by simp; omega) _).setCell (p := ⟨w.heap.size + 1 + 1, 2, none⟩) (by simp; omega) _)
  rcases k5 : inB m 0 65535 with _ | _
  · skip
    have HM := Lib.hid (show bendM 3 1 3 c g k row m = none by unfold bendM; simp [k1, k2, k3, k4, k5])
    have xa0 : w0.cell? ⟨w.heap.size, 0, none⟩ = some (.int .i64 c.i0) := HK0.out.cell 0
    have xa1 : w0.cell? ⟨w.heap.size, 1, none⟩ = some (.int .i64 c.i1) := HK0.out.cell 1
    have xa2 : w0.cell? ⟨w.heap.size, 2, none⟩ = some (.slice Ag c.gs.length cg) := HK0.out.cell 2
    have xa3 : w0.cell? ⟨w.heap.size, 3, none⟩ = some (.slice Aq c.outs.length cq) := HK0.out.cell 3
    have xb0 : w0.cell? ⟨w.heap.size + 1, 0, none⟩ = some (.slice A g.rows.length c9) := HK1.out.cell 0
    have xb1 : w0.cell? ⟨w.heap.size + 1, 1, none⟩ = some (.slice A1 g.ones.length c1) := HK1.out.cell 1
    have xb2 : w0.cell? ⟨w.heap.size + 1, 2, none⟩ = some (.slice A2 g.cols.length c2) := HK1.out.cell 2
    have xr0 : w0.cell? ⟨w.heap.size + 1 + 1, 0, none⟩ = some (.slice none 0 0) := HK2.out.cell 0
    have xrf0 : w0.frozen? ⟨w.heap.size + 1 + 1, 0, none⟩ = false := HK2.out.free 0
    have xr1 : w0.cell? ⟨w.heap.size + 1 + 1, 1, none⟩ = some (.slice none 0 0) := HK2.out.cell 1
    have xrf1 : w0.frozen? ⟨w.heap.size + 1 + 1, 1, none⟩ = false := HK2.out.free 1
    have xr2 : w0.cell? ⟨w.heap.size + 1 + 1, 2, none⟩ = some (.slice none 0 0) := HK2.out.cell 2
    have xrf2 : w0.frozen? ⟨w.heap.size + 1 + 1, 2, none⟩ = false := HK2.out.free 2
    go_enter Try.func49, Try.ntmps49
    go_wp2_with fail
    clear hw0
    refine (c_impl_IsCircuit (HC.out.below HB.out)).mono ?_
    rintro e u0 ⟨rfl, hb⟩
    clear xa0 xa1 xa2 xa3 xb0 xb1 xb2 xr0 xr1 xr2 xrf0 xrf1 xrf2
    replace HK0 := Lib.hid (HK0.out.step hb)
    replace HK1 := Lib.hid (HK1.out.step hb)
    replace HK2 := Lib.hid (HK2.out.step hb)
    replace HB := Lib.hid (below_step HB.out hb)
    clear hb
    have xa0 : u0.cell? ⟨w.heap.size, 0, none⟩ = some (.int .i64 c.i0) := HK0.out.cell 0
    have xa1 : u0.cell? ⟨w.heap.size, 1, none⟩ = some (.int .i64 c.i1) := HK0.out.cell 1
    have xa2 : u0.cell? ⟨w.heap.size, 2, none⟩ = some (.slice Ag c.gs.length cg) := HK0.out.cell 2
    have xa3 : u0.cell? ⟨w.heap.size, 3, none⟩ = some (.slice Aq c.outs.length cq) := HK0.out.cell 3
    have xb0 : u0.cell? ⟨w.heap.size + 1, 0, none⟩ = some (.slice A g.rows.length c9) := HK1.out.cell 0
    have xb1 : u0.cell? ⟨w.heap.size + 1, 1, none⟩ = some (.slice A1 g.ones.length c1) := HK1.out.cell 1
    have xb2 : u0.cell? ⟨w.heap.size + 1, 2, none⟩ = some (.slice A2 g.cols.length c2) := HK1.out.cell 2
    have xr0 : u0.cell? ⟨w.heap.size + 1 + 1, 0, none⟩ = some (.slice none 0 0) := HK2.out.cell 0
    have xrf0 : u0.frozen? ⟨w.heap.size + 1 + 1, 0, none⟩ = false := HK2.out.free 0
    have xr1 : u0.cell? ⟨w.heap.size + 1 + 1, 1, none⟩ = some (.slice none 0 0) := HK2.out.cell 1
    have xrf1 : u0.frozen? ⟨w.heap.size + 1 + 1, 1, none⟩ = false := HK2.out.free 1
    have xr2 : u0.cell? ⟨w.heap.size + 1 + 1, 2, none⟩ = some (.slice none 0 0) := HK2.out.cell 2
    have xrf2 : u0.frozen? ⟨w.heap.size + 1 + 1, 2, none⟩ = false := HK2.out.free 2
    go_wp2_with fail
    refine (c_impl_areTables (HC.out.below HB.out) k1 (H.out.below HB.out) HS.out).mono ?_
    rintro e wz ⟨rfl, hb⟩
    clear xa0 xa1 xa2 xa3 xb0 xb1 xb2 xr0 xr1 xr2 xrf0 xrf1 xrf2
    replace HK0 := Lib.hid (HK0.out.step hb)
    replace HK1 := Lib.hid (HK1.out.step hb)
    replace HK2 := Lib.hid (HK2.out.step hb)
    replace HB := Lib.hid (below_step HB.out hb)
    clear hb
    have xa0 : wz.cell? ⟨w.heap.size, 0, none⟩ = some (.int .i64 c.i0) := HK0.out.cell 0
    have xa1 : wz.cell? ⟨w.heap.size, 1, none⟩ = some (.int .i64 c.i1) := HK0.out.cell 1
    have xa2 : wz.cell? ⟨w.heap.size, 2, none⟩ = some (.slice Ag c.gs.length cg) := HK0.out.cell 2
    have xa3 : wz.cell? ⟨w.heap.size, 3, none⟩ = some (.slice Aq c.outs.length cq) := HK0.out.cell 3
    have xb0 : wz.cell? ⟨w.heap.size + 1, 0, none⟩ = some (.slice A g.rows.length c9) := HK1.out.cell 0
    have xb1 : wz.cell? ⟨w.heap.size + 1, 1, none⟩ = some (.slice A1 g.ones.length c1) := HK1.out.cell 1
    have xb2 : wz.cell? ⟨w.heap.size + 1, 2, none⟩ = some (.slice A2 g.cols.length c2) := HK1.out.cell 2
    have xr0 : wz.cell? ⟨w.heap.size + 1 + 1, 0, none⟩ = some (.slice none 0 0) := HK2.out.cell 0
    have xrf0 : wz.frozen? ⟨w.heap.size + 1 + 1, 0, none⟩ = false := HK2.out.free 0
    have xr1 : wz.cell? ⟨w.heap.size + 1 + 1, 1, none⟩ = some (.slice none 0 0) := HK2.out.cell 1
    have xrf1 : wz.frozen? ⟨w.heap.size + 1 + 1, 1, none⟩ = false := HK2.out.free 1
    have xr2 : wz.cell? ⟨w.heap.size + 1 + 1, 2, none⟩ = some (.slice none 0 0) := HK2.out.cell 2
    have xrf2 : wz.frozen? ⟨w.heap.size + 1 + 1, 2, none⟩ = false := HK2.out.free 2
    go_wp2_with fail
    refine (c_impl_within).mono ?_
    rintro e w' ⟨rfl, rfl⟩
    go_wp2_with fail
    refine (c_impl_within).mono ?_
    rintro e w' ⟨rfl, rfl⟩
    go_wp2_with fail
    refine (c_impl_isLabel).mono ?_
    rintro e w' ⟨rfl, rfl⟩
    go_wp2
    refine bodyPost_ret (v := .tuple #[gbV (.slice none 0 0) (.slice none 0 0) (.slice none 0 0), .bool false]) (by simp [results, Try.results49, go_sem, gbV, xr0, xr1, xr2]) rfl ?_
    rw [HM.out]
    exact RetGbB.no (((HB.out.setCell (p := ⟨w.heap.size + 1 + 1, 0, none⟩) (by simp; omega) _).setCell (p := ⟨w.heap.size + 1 + 1, 1, none⟩) (by simp; omega) _).setCell (p := ⟨w.heap.size + 1 + 1, 2, none⟩) (by simp; omega) _)
  obtain ⟨kn, rfl⟩ : ∃ n : Nat, k = (n : Int) := ⟨k.toNat, by have := inB_bd k3; omega⟩
  obtain ⟨rn, rfl⟩ : ∃ n : Nat, row = (n : Int) + 1 := ⟨(row - 1).toNat, by have := inB_bd k4; omega⟩
  have hkl : kn < g.rows.length := by have := inB_bd k3; omega
  have hrn : rn < 3 := by have := inB_bd k4; omega
  have hmb := inB_bd k5
  have hro := bend_row k2 hkl
  have HM := Lib.hid (show bendM 3 1 3 c g kn (rn + 1) m = some (bendG g kn rn m) by unfold bendM; rw [k1, k2, k3, k4, k5]; simp)
  have xa0 : w0.cell? ⟨w.heap.size, 0, none⟩ = some (.int .i64 c.i0) := HK0.out.cell 0
  have xa1 : w0.cell? ⟨w.heap.size, 1, none⟩ = some (.int .i64 c.i1) := HK0.out.cell 1
  have xa2 : w0.cell? ⟨w.heap.size, 2, none⟩ = some (.slice Ag c.gs.length cg) := HK0.out.cell 2
  have xa3 : w0.cell? ⟨w.heap.size, 3, none⟩ = some (.slice Aq c.outs.length cq) := HK0.out.cell 3
  have xb0 : w0.cell? ⟨w.heap.size + 1, 0, none⟩ = some (.slice A g.rows.length c9) := HK1.out.cell 0
  have xb1 : w0.cell? ⟨w.heap.size + 1, 1, none⟩ = some (.slice A1 g.ones.length c1) := HK1.out.cell 1
  have xb2 : w0.cell? ⟨w.heap.size + 1, 2, none⟩ = some (.slice A2 g.cols.length c2) := HK1.out.cell 2
  have xr0 : w0.cell? ⟨w.heap.size + 1 + 1, 0, none⟩ = some (.slice none 0 0) := HK2.out.cell 0
  have xrf0 : w0.frozen? ⟨w.heap.size + 1 + 1, 0, none⟩ = false := HK2.out.free 0
  have xr1 : w0.cell? ⟨w.heap.size + 1 + 1, 1, none⟩ = some (.slice none 0 0) := HK2.out.cell 1
  have xrf1 : w0.frozen? ⟨w.heap.size + 1 + 1, 1, none⟩ = false := HK2.out.free 1
  have xr2 : w0.cell? ⟨w.heap.size + 1 + 1, 2, none⟩ = some (.slice none 0 0) := HK2.out.cell 2
  have xrf2 : w0.frozen? ⟨w.heap.size + 1 + 1, 2, none⟩ = false := HK2.out.free 2
  go_enter Try.func49, Try.ntmps49
  go_wp2_with fail
  clear hw0
  refine (c_impl_IsCircuit (HC.out.below HB.out)).mono ?_
  rintro e u0 ⟨rfl, hb⟩
  clear xa0 xa1 xa2 xa3 xb0 xb1 xb2 xr0 xr1 xr2 xrf0 xrf1 xrf2
  replace HK0 := Lib.hid (HK0.out.step hb)
  replace HK1 := Lib.hid (HK1.out.step hb)
  replace HK2 := Lib.hid (HK2.out.step hb)
  replace HB := Lib.hid (below_step HB.out hb)
  clear hb
  have xa0 : u0.cell? ⟨w.heap.size, 0, none⟩ = some (.int .i64 c.i0) := HK0.out.cell 0
  have xa1 : u0.cell? ⟨w.heap.size, 1, none⟩ = some (.int .i64 c.i1) := HK0.out.cell 1
  have xa2 : u0.cell? ⟨w.heap.size, 2, none⟩ = some (.slice Ag c.gs.length cg) := HK0.out.cell 2
  have xa3 : u0.cell? ⟨w.heap.size, 3, none⟩ = some (.slice Aq c.outs.length cq) := HK0.out.cell 3
  have xb0 : u0.cell? ⟨w.heap.size + 1, 0, none⟩ = some (.slice A g.rows.length c9) := HK1.out.cell 0
  have xb1 : u0.cell? ⟨w.heap.size + 1, 1, none⟩ = some (.slice A1 g.ones.length c1) := HK1.out.cell 1
  have xb2 : u0.cell? ⟨w.heap.size + 1, 2, none⟩ = some (.slice A2 g.cols.length c2) := HK1.out.cell 2
  have xr0 : u0.cell? ⟨w.heap.size + 1 + 1, 0, none⟩ = some (.slice none 0 0) := HK2.out.cell 0
  have xrf0 : u0.frozen? ⟨w.heap.size + 1 + 1, 0, none⟩ = false := HK2.out.free 0
  have xr1 : u0.cell? ⟨w.heap.size + 1 + 1, 1, none⟩ = some (.slice none 0 0) := HK2.out.cell 1
  have xrf1 : u0.frozen? ⟨w.heap.size + 1 + 1, 1, none⟩ = false := HK2.out.free 1
  have xr2 : u0.cell? ⟨w.heap.size + 1 + 1, 2, none⟩ = some (.slice none 0 0) := HK2.out.cell 2
  have xrf2 : u0.frozen? ⟨w.heap.size + 1 + 1, 2, none⟩ = false := HK2.out.free 2
  go_wp2_with fail
  refine (c_impl_areTables (HC.out.below HB.out) k1 (H.out.below HB.out) HS.out).mono ?_
  rintro e w0 ⟨rfl, hb⟩
  clear xa0 xa1 xa2 xa3 xb0 xb1 xb2 xr0 xr1 xr2 xrf0 xrf1 xrf2
  replace HK0 := Lib.hid (HK0.out.step hb)
  replace HK1 := Lib.hid (HK1.out.step hb)
  replace HK2 := Lib.hid (HK2.out.step hb)
  replace HB := Lib.hid (below_step HB.out hb)
  clear hb
  have xa0 : w0.cell? ⟨w.heap.size, 0, none⟩ = some (.int .i64 c.i0) := HK0.out.cell 0
  have xa1 : w0.cell? ⟨w.heap.size, 1, none⟩ = some (.int .i64 c.i1) := HK0.out.cell 1
  have xa2 : w0.cell? ⟨w.heap.size, 2, none⟩ = some (.slice Ag c.gs.length cg) := HK0.out.cell 2
  have xa3 : w0.cell? ⟨w.heap.size, 3, none⟩ = some (.slice Aq c.outs.length cq) := HK0.out.cell 3
  have xb0 : w0.cell? ⟨w.heap.size + 1, 0, none⟩ = some (.slice A g.rows.length c9) := HK1.out.cell 0
  have xb1 : w0.cell? ⟨w.heap.size + 1, 1, none⟩ = some (.slice A1 g.ones.length c1) := HK1.out.cell 1
  have xb2 : w0.cell? ⟨w.heap.size + 1, 2, none⟩ = some (.slice A2 g.cols.length c2) := HK1.out.cell 2
  have xr0 : w0.cell? ⟨w.heap.size + 1 + 1, 0, none⟩ = some (.slice none 0 0) := HK2.out.cell 0
  have xrf0 : w0.frozen? ⟨w.heap.size + 1 + 1, 0, none⟩ = false := HK2.out.free 0
  have xr1 : w0.cell? ⟨w.heap.size + 1 + 1, 1, none⟩ = some (.slice none 0 0) := HK2.out.cell 1
  have xrf1 : w0.frozen? ⟨w.heap.size + 1 + 1, 1, none⟩ = false := HK2.out.free 1
  have xr2 : w0.cell? ⟨w.heap.size + 1 + 1, 2, none⟩ = some (.slice none 0 0) := HK2.out.cell 2
  have xrf2 : w0.frozen? ⟨w.heap.size + 1 + 1, 2, none⟩ = false := HK2.out.free 2
  go_wp2_with fail
  refine (c_impl_within).mono ?_
  rintro e w' ⟨rfl, rfl⟩
  go_wp2_with fail
  refine (c_impl_within).mono ?_
  rintro e w' ⟨rfl, rfl⟩
  go_wp2_with fail
  refine (c_impl_isLabel).mono ?_
  rintro e w' ⟨rfl, rfl⟩
  have hrl9 : rn < (g.rows.getD kn []).length := by have := hro.1; omega
  go_wp2_with fail
  refine (c_impl_bent (H.out.below HB.out) HS.out hkl hrl9 hro.2 hmb).mono ?_
  rintro e w9 ⟨rv9, ov9, cv9, vs, rfl, O, hb⟩
  unfold gbV
  obtain ⟨Ar, cr, rfl, -⟩ := O.rows.rowsIn.form
  obtain ⟨Ao, co, rfl, -⟩ := O.ones.ints
  obtain ⟨Ac, cc, rfl, -⟩ := O.cols.ints
  have hlow := HK2.out.lt
  replace O := Lib.hid O
  have hsz := HB.out.size
  clear xa0 xa1 xa2 xa3 xb0 xb1 xb2 xr0 xr1 xr2 xrf0 xrf1 xrf2
  replace HK0 := Lib.hid (HK0.out.step hb)
  replace HK1 := Lib.hid (HK1.out.step hb)
  replace HK2 := Lib.hid (HK2.out.step hb)
  replace HB := Lib.hid (below_step HB.out hb)
  clear hb
  have xa0 : w9.cell? ⟨w.heap.size, 0, none⟩ = some (.int .i64 c.i0) := HK0.out.cell 0
  have xa1 : w9.cell? ⟨w.heap.size, 1, none⟩ = some (.int .i64 c.i1) := HK0.out.cell 1
  have xa2 : w9.cell? ⟨w.heap.size, 2, none⟩ = some (.slice Ag c.gs.length cg) := HK0.out.cell 2
  have xa3 : w9.cell? ⟨w.heap.size, 3, none⟩ = some (.slice Aq c.outs.length cq) := HK0.out.cell 3
  have xb0 : w9.cell? ⟨w.heap.size + 1, 0, none⟩ = some (.slice A g.rows.length c9) := HK1.out.cell 0
  have xb1 : w9.cell? ⟨w.heap.size + 1, 1, none⟩ = some (.slice A1 g.ones.length c1) := HK1.out.cell 1
  have xb2 : w9.cell? ⟨w.heap.size + 1, 2, none⟩ = some (.slice A2 g.cols.length c2) := HK1.out.cell 2
  have xr0 : w9.cell? ⟨w.heap.size + 1 + 1, 0, none⟩ = some (.slice none 0 0) := HK2.out.cell 0
  have xrf0 : w9.frozen? ⟨w.heap.size + 1 + 1, 0, none⟩ = false := HK2.out.free 0
  have xr1 : w9.cell? ⟨w.heap.size + 1 + 1, 1, none⟩ = some (.slice none 0 0) := HK2.out.cell 1
  have xrf1 : w9.frozen? ⟨w.heap.size + 1 + 1, 1, none⟩ = false := HK2.out.free 1
  have xr2 : w9.cell? ⟨w.heap.size + 1 + 1, 2, none⟩ = some (.slice none 0 0) := HK2.out.cell 2
  have xrf2 : w9.frozen? ⟨w.heap.size + 1 + 1, 2, none⟩ = false := HK2.out.free 2
  go_wp2
  refine bodyPost_ret (v := .tuple #[gbV (.slice Ar (bendG g kn rn m).rows.length cr) (.slice Ao (bendG g kn rn m).ones.length co) (.slice Ac (bendG g kn rn m).cols.length cc), .bool true]) (by simp [results, Try.results49, go_sem, gbV, xr0, xr1, xr2]) rfl ⟨_, _, _, vs, by rw [HM.out]; rfl, ?_, ?_⟩
  · rw [HM.out]; exact (((O.out.setLow hlow 0 _).setLow hlow 1 _).setLow hlow 2 _).mono hsz
  · exact ((HB.out.setCell (p := ⟨w.heap.size + 1 + 1, 0, none⟩) (by simp; omega) _).setCell (p := ⟨w.heap.size + 1 + 1, 1, none⟩) (by simp; omega) _).setCell (p := ⟨w.heap.size + 1 + 1, 2, none⟩) (by simp; omega) _
end Go.Proofs.Ytamngnenpapogaa
