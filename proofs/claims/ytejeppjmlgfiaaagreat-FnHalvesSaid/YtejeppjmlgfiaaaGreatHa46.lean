/- The call returns tables and whether it could. Plain definitions. -/
import Derived.Test.YtejeppjmlgfiaaaGreatHa18
import Derived.Test.YtejeppjmlgfiaaaGreatHa44
import Derived.Test.YtejeppjmlgfiaaaGreatHa45
import Derived.Test.YtejeppjmlgfiaaaGreatHa10
namespace Go.Proofs.YtejeppjmlgfiaaaGreat
open Go.RowKit
set_option linter.unusedVariables false

def Gb.none : Gb := ⟨[], [], []⟩
def RetGbB (w : World) (o : Option Gb) (e : Ending) (w' : World) : Prop := ∃ rv ov cv vs, e = .returned (.tuple #[gbV rv ov cv, .bool o.isSome]) ∧ OwnGb w' w.heap.size rv ov cv vs (o.getD Gb.none) ∧ Below w.heap.size w w'
theorem OwnGb.empty (w : World) (B : Nat) : OwnGb w B (.slice none 0 0) (.slice none 0 0) (.slice none 0 0) [] Gb.none :=
  ⟨OwnRs.nil w B, World.ownsRow_nil w B _ 1, World.ownsRow_nil w B _ 1, by
    refine List.pairwise_cons.2 ⟨fun u hu => ?_, List.pairwise_cons.2 ⟨fun u hu => ?_, by simp⟩⟩ <;> (intro g e; cases e)⟩
theorem RetGbB.no {w w' : World} (h : Below w.heap.size w w') : RetGbB w none (.returned (.tuple #[gbV (.slice none 0 0) (.slice none 0 0) (.slice none 0 0), .bool false])) w' := ⟨_, _, _, [], rfl, OwnGb.empty w' _, h⟩
end Go.Proofs.YtejeppjmlgfiaaaGreat

/- Contracts of the exported zero labels and tables. No condition. -/
namespace Go.Proofs.YtejeppjmlgfiaaaGreat
open Go.RowKit
set_option linter.unusedVariables false

def keyB (c : Cir) (key off : Int) : Bool := cirB c && inB key 0 1000000000 && offB off
def zerosM (F : Int → Int → Int → Int → Int) (R : Int → Int → Int → Int → List Int) (c : Cir) (key off : Int) : Option (List Int) := if keyB c key off then some (zrM (F off) (R off) key off c.ins.toNat c.gs).zs else none
def tablesM (F : Int → Int → Int → Int → Int) (R : Int → Int → Int → Int → List Int) (c : Cir) (key off : Int) : Option Gb := if keyB c key off then some (tabM (F off) (R off) key off c) else none
theorem keyB_of {c : Cir} {key off : Int} (h : keyB c key off = true) : cirB c = true ∧ (0 ≤ key ∧ key ≤ 1000000000) ∧ (0 ≤ off ∧ off ≤ 65535) ∧ off % 2 = 1 := by
  simp only [keyB, Bool.and_eq_true] at h
  have h2 := inB_bd h.1.2
  have h3 := offB_bd h.2
  exact ⟨h.1.1, h2, ⟨h3.1, h3.2.1⟩, h3.2.2⟩
theorem c_impl_isKeyed {c : Cir} {gv ov : Value} {key off : Int} {w : World} (h : CirIn w gv ov c) :
    Calls Tryz.prog 70 #[cirV c gv ov, .int .i64 key, .int .i64 off] w fun e w' => e = .returned (.bool (keyB c key off)) ∧ Below w.heap.size w w' := by
  have H := Lib.hid h
  obtain ⟨hg, hoo⟩ := h
  obtain ⟨A, cg, rfl, -⟩ := hg
  obtain ⟨A', co, rfl, -⟩ := hoo
  have HB := Lib.hid ((Below.refl w.heap.size w).alloc (Nat.le_refl _) (.cells #[.int .i64 c.i0, .int .i64 c.i1, .slice A c.gs.length cg, .slice A' c.outs.length co] 26))
  unfold cirV
  rcases h1 : cirB c with _ | _ <;> rcases h2 : inB key 0 1000000000 with _ | _ <;> rcases h3 : offB off with _ | _
  all_goals
    have HM := Lib.hid (show keyB c key off = _ from by unfold keyB; rw [h1, h2, h3])
    go_enter Tryz.func70, Tryz.ntmps70
    go_wp2_with (first | (go_at_call 74; refine (c_impl_IsCircuit (H.out.below HB.out)).mono ?_; rintro e w1 ⟨rfl, hb1⟩) | (go_at_call 79; refine (c_impl_isKey).mono ?_; rintro e w' ⟨rfl, rfl⟩) | (go_at_call 81; refine (c_impl_isOffset).mono ?_; rintro e w' ⟨rfl, rfl⟩))
    go_ret
    exact ⟨by rw [HM.out]; rfl, below_step HB.out hb1⟩
theorem c_spec_gbKeys {c : Cir} {gv ov : Value} {key off : Int} {w : World} (h : CirIn w gv ov c) :
    Calls Tryz.prog 100 #[cirV c gv ov, .int .i64 key, .int .i64 off] w fun e w' => e = .returned (.bool (keyB c key off)) ∧ Below w.heap.size w w' := by
  have H := Lib.hid h
  obtain ⟨hg, hoo⟩ := h
  obtain ⟨A, cg, rfl, -⟩ := hg
  obtain ⟨A', co, rfl, -⟩ := hoo
  have HB := Lib.hid ((Below.refl w.heap.size w).alloc (Nat.le_refl _) (.cells #[.int .i64 c.i0, .int .i64 c.i1, .slice A c.gs.length cg, .slice A' c.outs.length co] 26))
  unfold cirV
  rcases h1 : cirB c with _ | _ <;> rcases h2 : inB key 0 1000000000 with _ | _ <;> rcases h3 : offB off with _ | _
  all_goals
    have HM := Lib.hid (show keyB c key off = _ from by unfold keyB; rw [h1, h2, h3])
    go_enter Tryz.func100, Tryz.ntmps100
    go_wp2_with (first | (go_at_call 107; refine (c_spec_ciGood (H.out.below HB.out)).mono ?_; rintro e w1 ⟨rfl, hb1⟩) | (go_at_call 91; refine (c_spec_shKey).mono ?_; rintro e w' ⟨rfl, rfl⟩) | (go_at_call 134; refine (c_spec_lbOffset).mono ?_; rintro e w' ⟨rfl, rfl⟩))
    go_ret
    exact ⟨by rw [HM.out]; rfl, below_step HB.out hb1⟩
theorem c_spec_hgAsked {c : Cir} {gv ov : Value} {key off : Int} {w : World} (h : CirIn w gv ov c) :
    Calls Tryz.prog 71 #[cirV c gv ov, .int .i64 key, .int .i64 off] w fun e w' => e = .returned (.bool (keyB c key off)) ∧ Below w.heap.size w w' := by
  have H := Lib.hid h
  obtain ⟨hg, hoo⟩ := h
  obtain ⟨A, cg, rfl, -⟩ := hg
  obtain ⟨A', co, rfl, -⟩ := hoo
  have HB := Lib.hid ((Below.refl w.heap.size w).alloc (Nat.le_refl _) (.cells #[.int .i64 c.i0, .int .i64 c.i1, .slice A c.gs.length cg, .slice A' c.outs.length co] 26))
  unfold cirV
  rcases h1 : cirB c with _ | _ <;> rcases h2 : inB key 0 1000000000 with _ | _ <;> rcases h3 : offB off with _ | _
  all_goals
    have HM := Lib.hid (show keyB c key off = _ from by unfold keyB; rw [h1, h2, h3])
    go_enter Tryz.func71, Tryz.ntmps71
    go_wp2_with (first | (go_at_call 107; refine (c_spec_ciGood (H.out.below HB.out)).mono ?_; rintro e w1 ⟨rfl, hb1⟩) | (go_at_call 61; refine (c_spec_otKey).mono ?_; rintro e w' ⟨rfl, rfl⟩) | (go_at_call 134; refine (c_spec_lbOffset).mono ?_; rintro e w' ⟨rfl, rfl⟩))
    go_ret
    exact ⟨by rw [HM.out]; rfl, below_step HB.out hb1⟩
theorem three_far {w : World} {p : Nat} {v0 v1 v2 v3 : Value} (h : w.cell? ⟨p, 0, none⟩ = some v0 ∧ w.cell? ⟨p, 1, none⟩ = some v1 ∧ w.cell? ⟨p, 2, none⟩ = some v2 ∧ w.cell? ⟨p, 3, none⟩ = some v3) (n : Nat) (hn : n + 1 ≠ p) (a b d : Value) :
    (((w.setCell ⟨n + 1, 0, none⟩ a).setCell ⟨n + 1, 1, none⟩ b).setCell ⟨n + 1, 2, none⟩ d).cell? ⟨p, 0, none⟩ = some v0 ∧ (((w.setCell ⟨n + 1, 0, none⟩ a).setCell ⟨n + 1, 1, none⟩ b).setCell ⟨n + 1, 2, none⟩ d).cell? ⟨p, 1, none⟩ = some v1 ∧ (((w.setCell ⟨n + 1, 0, none⟩ a).setCell ⟨n + 1, 1, none⟩ b).setCell ⟨n + 1, 2, none⟩ d).cell? ⟨p, 2, none⟩ = some v2 ∧ (((w.setCell ⟨n + 1, 0, none⟩ a).setCell ⟨n + 1, 1, none⟩ b).setCell ⟨n + 1, 2, none⟩ d).cell? ⟨p, 3, none⟩ = some v3 := by
  have far : ∀ (W : World) (i j : Nat) (v : Value), (W.setCell ⟨n + 1, i, none⟩ v).cell? ⟨p, j, none⟩ = W.cell? ⟨p, j, none⟩ := fun W i j v => World.cell?_setCell_far W ⟨n + 1, i, none⟩ ⟨p, j, none⟩ v hn
  refine ⟨?_, ?_, ?_, ?_⟩ <;> rw [far, far, far] <;> simp only [h]
set_option maxRecDepth 100000 in
set_option maxHeartbeats 2000000 in
theorem c_impl_ZeroLabels {c : Cir} {gv ov : Value} {key off : Int} {w : World} (h : CirIn w gv ov c) : Calls Tryz.prog 33 #[cirV c gv ov, .int .i64 key, .int .i64 off] w (RetIB w (zerosM gbZ gbR c key off)) := by
  have H := Lib.hid h
  obtain ⟨hg, hoo⟩ := h
  obtain ⟨A, cg, rfl, -⟩ := hg
  obtain ⟨A', co, rfl, -⟩ := hoo
  unfold cirV
  obtain ⟨w0, hw0⟩ : ∃ W, w.alloc (.cells #[.int .i64 c.i0, .int .i64 c.i1, .slice A c.gs.length cg, .slice A' c.outs.length co] 26) = W := ⟨_, rfl⟩
  have HKC : Hid (Blk w0 w.heap.size 26 #[.int .i64 c.i0, .int .i64 c.i1, .slice A c.gs.length cg, .slice A' c.outs.length co]) := by rw [← hw0]; exact Blk.new _ _ _
  have HB : Hid (Below w.heap.size w w0) := by rw [← hw0]; exact (Below.refl _ _).alloc (Nat.le_refl _) _
  have x0 : w0.cell? ⟨w.heap.size, 0, none⟩ = some (.int .i64 c.i0) := HKC.out.cell 0
  have x1 : w0.cell? ⟨w.heap.size, 1, none⟩ = some (.int .i64 c.i1) := HKC.out.cell 1
  have x2 : w0.cell? ⟨w.heap.size, 2, none⟩ = some (.slice A c.gs.length cg) := HKC.out.cell 2
  have x3 : w0.cell? ⟨w.heap.size, 3, none⟩ = some (.slice A' c.outs.length co) := HKC.out.cell 3
  rcases hk : keyB c key off with _ | _
  · have HM := Lib.hid (show zerosM gbZ gbR c key off = none by unfold zerosM; rw [hk]; rfl)
    go_enter Tryz.func33, Tryz.ntmps33
    go_wp2_with fail
    refine (c_impl_isKeyed (H.out.below HB.out)).mono ?_
    rintro e w1 ⟨rfl, hb1⟩
    go_wp2
    go_ret2
    rw [HM.out]
    exact RetIB.no_below (below_step HB.out hb1)
  · have HM := Lib.hid (show zerosM gbZ gbR c key off = some (zrM (gbZ off) (gbR off) key off c.ins.toNat c.gs).zs by unfold zerosM; rw [hk]; rfl)
    have HV := Lib.hid (keyB_of hk)
    go_enter Tryz.func33, Tryz.ntmps33
    go_wp2_with fail
    refine (c_impl_isKeyed (H.out.below HB.out)).mono ?_
    rintro e w1 ⟨rfl, hb1⟩
    have HB1 := Lib.hid (below_step HB.out hb1)
    replace HKC := Lib.hid (HKC.out.step hb1)
    have hl1 : w.heap.size < w1.heap.size := HKC.out.lt
    have Q0 : Hid (∀ W, Below w1.heap.size w1 W → W.cell? ⟨w.heap.size, 0, none⟩ = some (.int .i64 c.i0)) := Lib.hid (belowCell (HKC.out.cell 0))
    have Q1 : Hid (∀ W, Below w1.heap.size w1 W → W.cell? ⟨w.heap.size, 1, none⟩ = some (.int .i64 c.i1)) := Lib.hid (belowCell (HKC.out.cell 1))
    have Q2 : Hid (∀ W, Below w1.heap.size w1 W → W.cell? ⟨w.heap.size, 2, none⟩ = some (.slice A c.gs.length cg)) := Lib.hid (belowCell (HKC.out.cell 2))
    have Q3 : Hid (∀ W, Below w1.heap.size w1 W → W.cell? ⟨w.heap.size, 3, none⟩ = some (.slice A' c.outs.length co)) := Lib.hid (belowCell (HKC.out.cell 3))
    have x0 := Q0.out _ (Below.refl _ _)
    have x1 := Q1.out _ (Below.refl _ _)
    have x2 := Q2.out _ (Below.refl _ _)
    have x3 := Q3.out _ (Below.refl _ _)
    clear hw0 hb1
    go_wp2_with fail
    go_region_held3 (fun W => W.cell? ⟨w.heap.size, 0, none⟩ = some (.int .i64 c.i0) ∧ W.cell? ⟨w.heap.size, 1, none⟩ = some (.int .i64 c.i1) ∧ W.cell? ⟨w.heap.size, 2, none⟩ = some (.slice A c.gs.length cg) ∧ W.cell? ⟨w.heap.size, 3, none⟩ = some (.slice A' c.outs.length co))
      (first | exact KB.out | exact KA.out | exact ⟨Q0.out _ (Below.refl _ _).drew, Q1.out _ (Below.refl _ _).drew, Q2.out _ (Below.refl _ _).drew, Q3.out _ (Below.refl _ _).drew⟩)
      (first
        | (go_at_call 90; refine (c_impl_garbledAnd).mono ?_; rintro e w2 ⟨rfl, rfl⟩; have hbA := ((Below.refl w1.heap.size w1).drew).alloc (Nat.le_refl _) (.cells #[.int .i64 off] 3); have KA := Lib.hid (And.intro (Q0.out _ hbA) (And.intro (Q1.out _ hbA) (And.intro (Q2.out _ hbA) (Q3.out _ hbA)))); have HBA := Lib.hid hbA)
        | (go_at_call 72; refine (c_zeros_garbledAnd (q := w1.heap.size) ((H.out.below HB1.out).below HBA.out) HV.out.1 HV.out.2.1 HV.out.2.2.1 (cell_new _ _ _)).mono ?_; rintro e w3 ⟨u, rv, vs, rfl, hz, hb3⟩; have hbB := below_step HBA.out hb3; have KB := Lib.hid (And.intro (Q0.out _ hbB) (And.intro (Q1.out _ hbB) (And.intro (Q2.out _ hbB) (Q3.out _ hbB)))); have HBB := Lib.hid hbB; replace hz := Lib.hid hz))
    all_goals
      go_wp2
      go_ret2
      rw [HM.out]
      exact RetIB.yes (hz.out.own.mono (Nat.le_trans (Nat.le_of_lt hl1) HBA.out.size)) (below_step HB1.out HBB.out)
set_option maxRecDepth 100000 in
set_option maxHeartbeats 2000000 in
theorem c_impl_HalfZeros {c : Cir} {gv ov : Value} {key off : Int} {w : World} (h : CirIn w gv ov c) : Calls Tryz.prog 12 #[cirV c gv ov, .int .i64 key, .int .i64 off] w (RetIB w (zerosM hgZ hgR c key off)) := by
  have H := Lib.hid h
  obtain ⟨hg, hoo⟩ := h
  obtain ⟨A, cg, rfl, -⟩ := hg
  obtain ⟨A', co, rfl, -⟩ := hoo
  unfold cirV
  obtain ⟨w0, hw0⟩ : ∃ W, w.alloc (.cells #[.int .i64 c.i0, .int .i64 c.i1, .slice A c.gs.length cg, .slice A' c.outs.length co] 26) = W := ⟨_, rfl⟩
  have HKC : Hid (Blk w0 w.heap.size 26 #[.int .i64 c.i0, .int .i64 c.i1, .slice A c.gs.length cg, .slice A' c.outs.length co]) := by rw [← hw0]; exact Blk.new _ _ _
  have HB : Hid (Below w.heap.size w w0) := by rw [← hw0]; exact (Below.refl _ _).alloc (Nat.le_refl _) _
  have x0 : w0.cell? ⟨w.heap.size, 0, none⟩ = some (.int .i64 c.i0) := HKC.out.cell 0
  have x1 : w0.cell? ⟨w.heap.size, 1, none⟩ = some (.int .i64 c.i1) := HKC.out.cell 1
  have x2 : w0.cell? ⟨w.heap.size, 2, none⟩ = some (.slice A c.gs.length cg) := HKC.out.cell 2
  have x3 : w0.cell? ⟨w.heap.size, 3, none⟩ = some (.slice A' c.outs.length co) := HKC.out.cell 3
  rcases hk : keyB c key off with _ | _
  · have HM := Lib.hid (show zerosM hgZ hgR c key off = none by unfold zerosM; rw [hk]; rfl)
    go_enter Tryz.func12, Tryz.ntmps12
    go_wp2_with fail
    refine (c_impl_isKeyed (H.out.below HB.out)).mono ?_
    rintro e w1 ⟨rfl, hb1⟩
    go_wp2
    go_ret2
    rw [HM.out]
    exact RetIB.no_below (below_step HB.out hb1)
  · have HM := Lib.hid (show zerosM hgZ hgR c key off = some (zrM (hgZ off) (hgR off) key off c.ins.toNat c.gs).zs by unfold zerosM; rw [hk]; rfl)
    have HV := Lib.hid (keyB_of hk)
    go_enter Tryz.func12, Tryz.ntmps12
    go_wp2_with fail
    refine (c_impl_isKeyed (H.out.below HB.out)).mono ?_
    rintro e w1 ⟨rfl, hb1⟩
    have HB1 := Lib.hid (below_step HB.out hb1)
    replace HKC := Lib.hid (HKC.out.step hb1)
    have hl1 : w.heap.size < w1.heap.size := HKC.out.lt
    have Q0 : Hid (∀ W, Below w1.heap.size w1 W → W.cell? ⟨w.heap.size, 0, none⟩ = some (.int .i64 c.i0)) := Lib.hid (belowCell (HKC.out.cell 0))
    have Q1 : Hid (∀ W, Below w1.heap.size w1 W → W.cell? ⟨w.heap.size, 1, none⟩ = some (.int .i64 c.i1)) := Lib.hid (belowCell (HKC.out.cell 1))
    have Q2 : Hid (∀ W, Below w1.heap.size w1 W → W.cell? ⟨w.heap.size, 2, none⟩ = some (.slice A c.gs.length cg)) := Lib.hid (belowCell (HKC.out.cell 2))
    have Q3 : Hid (∀ W, Below w1.heap.size w1 W → W.cell? ⟨w.heap.size, 3, none⟩ = some (.slice A' c.outs.length co)) := Lib.hid (belowCell (HKC.out.cell 3))
    have x0 := Q0.out _ (Below.refl _ _)
    have x1 := Q1.out _ (Below.refl _ _)
    have x2 := Q2.out _ (Below.refl _ _)
    have x3 := Q3.out _ (Below.refl _ _)
    clear hw0 hb1
    go_wp2_with fail
    go_region_held3 (fun W => W.cell? ⟨w.heap.size, 0, none⟩ = some (.int .i64 c.i0) ∧ W.cell? ⟨w.heap.size, 1, none⟩ = some (.int .i64 c.i1) ∧ W.cell? ⟨w.heap.size, 2, none⟩ = some (.slice A c.gs.length cg) ∧ W.cell? ⟨w.heap.size, 3, none⟩ = some (.slice A' c.outs.length co))
      (first | exact KB.out | exact KA.out | exact ⟨Q0.out _ (Below.refl _ _).drew, Q1.out _ (Below.refl _ _).drew, Q2.out _ (Below.refl _ _).drew, Q3.out _ (Below.refl _ _).drew⟩)
      (first
        | (go_at_call 58; refine (c_impl_halvedAnd).mono ?_; rintro e w2 ⟨rfl, rfl⟩; have hbA := ((Below.refl w1.heap.size w1).drew).alloc (Nat.le_refl _) (.cells #[.int .i64 off] 3); have KA := Lib.hid (And.intro (Q0.out _ hbA) (And.intro (Q1.out _ hbA) (And.intro (Q2.out _ hbA) (Q3.out _ hbA)))); have HBA := Lib.hid hbA)
        | (go_at_call 72; refine (c_zeros_halvedAnd (q := w1.heap.size) ((H.out.below HB1.out).below HBA.out) HV.out.1 HV.out.2.1 HV.out.2.2.1 (cell_new _ _ _)).mono ?_; rintro e w3 ⟨u, rv, vs, rfl, hz, hb3⟩; have hbB := below_step HBA.out hb3; have KB := Lib.hid (And.intro (Q0.out _ hbB) (And.intro (Q1.out _ hbB) (And.intro (Q2.out _ hbB) (Q3.out _ hbB)))); have HBB := Lib.hid hbB; replace hz := Lib.hid hz))
    all_goals
      go_wp2
      go_ret2
      rw [HM.out]
      exact RetIB.yes (hz.out.own.mono (Nat.le_trans (Nat.le_of_lt hl1) HBA.out.size)) (below_step HB1.out HBB.out)
set_option maxRecDepth 100000 in
set_option maxHeartbeats 2000000 in
theorem c_impl_GarbleCircuit {c : Cir} {gv ov : Value} {key off : Int} {w : World} (h : CirIn w gv ov c) : Calls Tryz.prog 27 #[cirV c gv ov, .int .i64 key, .int .i64 off] w (RetGbB w (tablesM gbZ gbR c key off)) := by
  have H := Lib.hid h
  obtain ⟨hg, hoo⟩ := h
  obtain ⟨A, cg, rfl, -⟩ := hg
  obtain ⟨A', co, rfl, -⟩ := hoo
  unfold cirV
  obtain ⟨w0, hw0⟩ : ∃ W, (w.alloc (.cells #[.int .i64 c.i0, .int .i64 c.i1, .slice A c.gs.length cg, .slice A' c.outs.length co] 26)).alloc (.cells #[.slice none 0 0, .slice none 0 0, .slice none 0 0] 50) = W := ⟨_, rfl⟩
  have HKC : Hid (Blk w0 w.heap.size 26 #[.int .i64 c.i0, .int .i64 c.i1, .slice A c.gs.length cg, .slice A' c.outs.length co]) := by rw [← hw0]; exact (Blk.new _ _ _).alloc _
  have HR : Hid (Blk w0 (w.heap.size + 1) 50 #[.slice none 0 0, .slice none 0 0, .slice none 0 0]) := by rw [← hw0]; have := Blk.new (w.alloc (.cells #[.int .i64 c.i0, .int .i64 c.i1, .slice A c.gs.length cg, .slice A' c.outs.length co] 26)) 50 #[.slice none 0 0, .slice none 0 0, .slice none 0 0]; simp only [World.size_alloc] at this; exact this
  have HB : Hid (Below w.heap.size w w0) := by rw [← hw0]; exact ((Below.refl _ _).alloc (Nat.le_refl _) _).alloc (by simp) _
  have x0 : w0.cell? ⟨w.heap.size, 0, none⟩ = some (.int .i64 c.i0) := HKC.out.cell 0
  have x1 : w0.cell? ⟨w.heap.size, 1, none⟩ = some (.int .i64 c.i1) := HKC.out.cell 1
  have x2 : w0.cell? ⟨w.heap.size, 2, none⟩ = some (.slice A c.gs.length cg) := HKC.out.cell 2
  have x3 : w0.cell? ⟨w.heap.size, 3, none⟩ = some (.slice A' c.outs.length co) := HKC.out.cell 3
  rcases hk : keyB c key off with _ | _
  · have HM := Lib.hid (show tablesM gbZ gbR c key off = none by unfold tablesM; rw [hk]; rfl)
    go_enter Tryz.func27, Tryz.ntmps27
    go_wp2_with fail
    refine (c_impl_isKeyed (H.out.below HB.out)).mono ?_
    rintro e w1 ⟨rfl, hb1⟩
    have hR := HR.out.step hb1
    have r0 : w1.cell? ⟨w.heap.size + 1, 0, none⟩ = some (.slice none 0 0) := hR.cell 0
    have r1 : w1.cell? ⟨w.heap.size + 1, 1, none⟩ = some (.slice none 0 0) := hR.cell 1
    have r2 : w1.cell? ⟨w.heap.size + 1, 2, none⟩ = some (.slice none 0 0) := hR.cell 2
    have rf0 := hR.free 0
    have rf1 := hR.free 1
    have rf2 := hR.free 2
    have hRl := hR.lt
    clear hR
    go_wp2
    refine bodyPost_ret (v := .tuple #[gbV (.slice none 0 0) (.slice none 0 0) (.slice none 0 0), .bool false]) (by simp [results, Tryz.results27, go_sem, gbV, r0, r1, r2]) rfl ?_
    rw [HM.out]
    exact RetGbB.no ((((below_step HB.out hb1).setCell (p := ⟨w.heap.size + 1, 0, none⟩) (by simp) _).setCell (p := ⟨w.heap.size + 1, 1, none⟩) (by simp) _).setCell (p := ⟨w.heap.size + 1, 2, none⟩) (by simp) _)
  · have HM := Lib.hid (show tablesM gbZ gbR c key off = some (tabM (gbZ off) (gbR off) key off c) by unfold tablesM; rw [hk]; rfl)
    have HV := Lib.hid (keyB_of hk)
    go_enter Tryz.func27, Tryz.ntmps27
    go_wp2_with fail
    refine (c_impl_isKeyed (H.out.below HB.out)).mono ?_
    rintro e w1 ⟨rfl, hb1⟩
    have HB1 := Lib.hid (below_step HB.out hb1)
    replace HKC := Lib.hid (HKC.out.step hb1)
    have hl1 : w.heap.size < w1.heap.size := HKC.out.lt
    have Q0 : Hid (∀ W, Below w1.heap.size w1 W → W.cell? ⟨w.heap.size, 0, none⟩ = some (.int .i64 c.i0)) := Lib.hid (belowCell (HKC.out.cell 0))
    have Q1 : Hid (∀ W, Below w1.heap.size w1 W → W.cell? ⟨w.heap.size, 1, none⟩ = some (.int .i64 c.i1)) := Lib.hid (belowCell (HKC.out.cell 1))
    have Q2 : Hid (∀ W, Below w1.heap.size w1 W → W.cell? ⟨w.heap.size, 2, none⟩ = some (.slice A c.gs.length cg)) := Lib.hid (belowCell (HKC.out.cell 2))
    have Q3 : Hid (∀ W, Below w1.heap.size w1 W → W.cell? ⟨w.heap.size, 3, none⟩ = some (.slice A' c.outs.length co)) := Lib.hid (belowCell (HKC.out.cell 3))
    have x0 := Q0.out _ (Below.refl _ _)
    have x1 := Q1.out _ (Below.refl _ _)
    have x2 := Q2.out _ (Below.refl _ _)
    have x3 := Q3.out _ (Below.refl _ _)
    have hR := HR.out.step hb1
    clear hw0 hb1
    have HR1 := Lib.hid hR
    have hlow := HR1.out.lt
    clear hR
    go_wp2_with fail
    go_region_held3 (fun W => W.cell? ⟨w.heap.size, 0, none⟩ = some (.int .i64 c.i0) ∧ W.cell? ⟨w.heap.size, 1, none⟩ = some (.int .i64 c.i1) ∧ W.cell? ⟨w.heap.size, 2, none⟩ = some (.slice A c.gs.length cg) ∧ W.cell? ⟨w.heap.size, 3, none⟩ = some (.slice A' c.outs.length co))
      (first | exact KS.out _ _ _ | exact KB.out | exact KA.out | exact ⟨Q0.out _ (Below.refl _ _).drew, Q1.out _ (Below.refl _ _).drew, Q2.out _ (Below.refl _ _).drew, Q3.out _ (Below.refl _ _).drew⟩)
      (first
        | (go_at_call 90; refine (c_impl_garbledAnd).mono ?_; rintro e w2 ⟨rfl, rfl⟩; have hbA := ((Below.refl w1.heap.size w1).drew).alloc (Nat.le_refl _) (.cells #[.int .i64 off] 3); have KA := Lib.hid (And.intro (Q0.out _ hbA) (And.intro (Q1.out _ hbA) (And.intro (Q2.out _ hbA) (Q3.out _ hbA)))); have HBA := Lib.hid hbA)
        | (go_at_call 57; refine (c_tables_garbledAnd (q := w1.heap.size) ((H.out.below HB1.out).below HBA.out) HV.out.1 HV.out.2.1 HV.out.2.2.1 (cell_new _ _ _)).mono ?_; rintro e w3 ⟨rv, nv, cv, vs, rfl, hz, hb3⟩; obtain ⟨Ar, cr, rfl, -⟩ := hz.rows.rowsIn.form; obtain ⟨Ao, co', rfl, -⟩ := hz.ones.ints; obtain ⟨Ac, cc, rfl, -⟩ := hz.cols.ints; have hbB := below_step HBA.out hb3; have KB := Lib.hid (And.intro (Q0.out _ hbB) (And.intro (Q1.out _ hbB) (And.intro (Q2.out _ hbB) (Q3.out _ hbB)))); have HBB := Lib.hid hbB; replace hz := Lib.hid hz; have hR := HR1.out.step hbB; have r0 : w3.cell? ⟨w.heap.size + 1, 0, none⟩ = some (.slice none 0 0) := hR.cell 0; have r1 : w3.cell? ⟨w.heap.size + 1, 1, none⟩ = some (.slice none 0 0) := hR.cell 1; have r2 : w3.cell? ⟨w.heap.size + 1, 2, none⟩ = some (.slice none 0 0) := hR.cell 2; have rf0 := hR.free 0; have rf1 := hR.free 1; have rf2 := hR.free 2; have hRl := hR.lt; clear hR; have KS := Lib.hid (fun (a b d : Value) => three_far KB.out w.heap.size (by omega) a b d); unfold gbV))
    all_goals
      go_wp2
      refine bodyPost_ret (v := .tuple #[gbV (.slice Ar (tabM (gbZ off) (gbR off) key off c).rows.length cr) (.slice Ao (tabM (gbZ off) (gbR off) key off c).ones.length co') (.slice Ac (tabM (gbZ off) (gbR off) key off c).cols.length cc), .bool true]) (by simp [results, Tryz.results27, go_sem, gbV, r0, r1, r2]) rfl ⟨_, _, _, vs, by rw [HM.out]; rfl, ?_, ?_⟩
      · rw [HM.out]
        exact (((hz.out.setLow (by have := HBA.out.size; omega) 0 _).setLow (by have := HBA.out.size; omega) 1 _).setLow (by have := HBA.out.size; omega) 2 _).mono (by have := HBA.out.size; omega)
      · exact (((below_step HB1.out HBB.out).setCell (p := ⟨w.heap.size + 1, 0, none⟩) (by simp) _).setCell (p := ⟨w.heap.size + 1, 1, none⟩) (by simp) _).setCell (p := ⟨w.heap.size + 1, 2, none⟩) (by simp) _
set_option maxRecDepth 100000 in
set_option maxHeartbeats 2000000 in
theorem c_impl_HalveCircuit {c : Cir} {gv ov : Value} {key off : Int} {w : World} (h : CirIn w gv ov c) : Calls Tryz.prog 10 #[cirV c gv ov, .int .i64 key, .int .i64 off] w (RetGbB w (tablesM hgZ hgR c key off)) := by
  have H := Lib.hid h
  obtain ⟨hg, hoo⟩ := h
  obtain ⟨A, cg, rfl, -⟩ := hg
  obtain ⟨A', co, rfl, -⟩ := hoo
  unfold cirV
  obtain ⟨w0, hw0⟩ : ∃ W, (w.alloc (.cells #[.int .i64 c.i0, .int .i64 c.i1, .slice A c.gs.length cg, .slice A' c.outs.length co] 26)).alloc (.cells #[.slice none 0 0, .slice none 0 0, .slice none 0 0] 35) = W := ⟨_, rfl⟩
  have HKC : Hid (Blk w0 w.heap.size 26 #[.int .i64 c.i0, .int .i64 c.i1, .slice A c.gs.length cg, .slice A' c.outs.length co]) := by rw [← hw0]; exact (Blk.new _ _ _).alloc _
  have HR : Hid (Blk w0 (w.heap.size + 1) 35 #[.slice none 0 0, .slice none 0 0, .slice none 0 0]) := by rw [← hw0]; have := Blk.new (w.alloc (.cells #[.int .i64 c.i0, .int .i64 c.i1, .slice A c.gs.length cg, .slice A' c.outs.length co] 26)) 35 #[.slice none 0 0, .slice none 0 0, .slice none 0 0]; simp only [World.size_alloc] at this; exact this
  have HB : Hid (Below w.heap.size w w0) := by rw [← hw0]; exact ((Below.refl _ _).alloc (Nat.le_refl _) _).alloc (by simp) _
  have x0 : w0.cell? ⟨w.heap.size, 0, none⟩ = some (.int .i64 c.i0) := HKC.out.cell 0
  have x1 : w0.cell? ⟨w.heap.size, 1, none⟩ = some (.int .i64 c.i1) := HKC.out.cell 1
  have x2 : w0.cell? ⟨w.heap.size, 2, none⟩ = some (.slice A c.gs.length cg) := HKC.out.cell 2
  have x3 : w0.cell? ⟨w.heap.size, 3, none⟩ = some (.slice A' c.outs.length co) := HKC.out.cell 3
  rcases hk : keyB c key off with _ | _
  · have HM := Lib.hid (show tablesM hgZ hgR c key off = none by unfold tablesM; rw [hk]; rfl)
    go_enter Tryz.func10, Tryz.ntmps10
    go_wp2_with fail
    refine (c_impl_isKeyed (H.out.below HB.out)).mono ?_
    rintro e w1 ⟨rfl, hb1⟩
    have hR := HR.out.step hb1
    have r0 : w1.cell? ⟨w.heap.size + 1, 0, none⟩ = some (.slice none 0 0) := hR.cell 0
    have r1 : w1.cell? ⟨w.heap.size + 1, 1, none⟩ = some (.slice none 0 0) := hR.cell 1
    have r2 : w1.cell? ⟨w.heap.size + 1, 2, none⟩ = some (.slice none 0 0) := hR.cell 2
    have rf0 := hR.free 0
    have rf1 := hR.free 1
    have rf2 := hR.free 2
    have hRl := hR.lt
    clear hR
    go_wp2
    refine bodyPost_ret (v := .tuple #[gbV (.slice none 0 0) (.slice none 0 0) (.slice none 0 0), .bool false]) (by simp [results, Tryz.results10, go_sem, gbV, r0, r1, r2]) rfl ?_
    rw [HM.out]
    exact RetGbB.no ((((below_step HB.out hb1).setCell (p := ⟨w.heap.size + 1, 0, none⟩) (by simp) _).setCell (p := ⟨w.heap.size + 1, 1, none⟩) (by simp) _).setCell (p := ⟨w.heap.size + 1, 2, none⟩) (by simp) _)
  · have HM := Lib.hid (show tablesM hgZ hgR c key off = some (tabM (hgZ off) (hgR off) key off c) by unfold tablesM; rw [hk]; rfl)
    have HV := Lib.hid (keyB_of hk)
    go_enter Tryz.func10, Tryz.ntmps10
    go_wp2_with fail
    refine (c_impl_isKeyed (H.out.below HB.out)).mono ?_
    rintro e w1 ⟨rfl, hb1⟩
    have HB1 := Lib.hid (below_step HB.out hb1)
    replace HKC := Lib.hid (HKC.out.step hb1)
    have hl1 : w.heap.size < w1.heap.size := HKC.out.lt
    have Q0 : Hid (∀ W, Below w1.heap.size w1 W → W.cell? ⟨w.heap.size, 0, none⟩ = some (.int .i64 c.i0)) := Lib.hid (belowCell (HKC.out.cell 0))
    have Q1 : Hid (∀ W, Below w1.heap.size w1 W → W.cell? ⟨w.heap.size, 1, none⟩ = some (.int .i64 c.i1)) := Lib.hid (belowCell (HKC.out.cell 1))
    have Q2 : Hid (∀ W, Below w1.heap.size w1 W → W.cell? ⟨w.heap.size, 2, none⟩ = some (.slice A c.gs.length cg)) := Lib.hid (belowCell (HKC.out.cell 2))
    have Q3 : Hid (∀ W, Below w1.heap.size w1 W → W.cell? ⟨w.heap.size, 3, none⟩ = some (.slice A' c.outs.length co)) := Lib.hid (belowCell (HKC.out.cell 3))
    have x0 := Q0.out _ (Below.refl _ _)
    have x1 := Q1.out _ (Below.refl _ _)
    have x2 := Q2.out _ (Below.refl _ _)
    have x3 := Q3.out _ (Below.refl _ _)
    have hR := HR.out.step hb1
    clear hw0 hb1
    have HR1 := Lib.hid hR
    have hlow := HR1.out.lt
    clear hR
    go_wp2_with fail
    go_region_held3 (fun W => W.cell? ⟨w.heap.size, 0, none⟩ = some (.int .i64 c.i0) ∧ W.cell? ⟨w.heap.size, 1, none⟩ = some (.int .i64 c.i1) ∧ W.cell? ⟨w.heap.size, 2, none⟩ = some (.slice A c.gs.length cg) ∧ W.cell? ⟨w.heap.size, 3, none⟩ = some (.slice A' c.outs.length co))
      (first | exact KS.out _ _ _ | exact KB.out | exact KA.out | exact ⟨Q0.out _ (Below.refl _ _).drew, Q1.out _ (Below.refl _ _).drew, Q2.out _ (Below.refl _ _).drew, Q3.out _ (Below.refl _ _).drew⟩)
      (first
        | (go_at_call 58; refine (c_impl_halvedAnd).mono ?_; rintro e w2 ⟨rfl, rfl⟩; have hbA := ((Below.refl w1.heap.size w1).drew).alloc (Nat.le_refl _) (.cells #[.int .i64 off] 3); have KA := Lib.hid (And.intro (Q0.out _ hbA) (And.intro (Q1.out _ hbA) (And.intro (Q2.out _ hbA) (Q3.out _ hbA)))); have HBA := Lib.hid hbA)
        | (go_at_call 57; refine (c_tables_halvedAnd (q := w1.heap.size) ((H.out.below HB1.out).below HBA.out) HV.out.1 HV.out.2.1 HV.out.2.2.1 (cell_new _ _ _)).mono ?_; rintro e w3 ⟨rv, nv, cv, vs, rfl, hz, hb3⟩; obtain ⟨Ar, cr, rfl, -⟩ := hz.rows.rowsIn.form; obtain ⟨Ao, co', rfl, -⟩ := hz.ones.ints; obtain ⟨Ac, cc, rfl, -⟩ := hz.cols.ints; have hbB := below_step HBA.out hb3; have KB := Lib.hid (And.intro (Q0.out _ hbB) (And.intro (Q1.out _ hbB) (And.intro (Q2.out _ hbB) (Q3.out _ hbB)))); have HBB := Lib.hid hbB; replace hz := Lib.hid hz; have hR := HR1.out.step hbB; have r0 : w3.cell? ⟨w.heap.size + 1, 0, none⟩ = some (.slice none 0 0) := hR.cell 0; have r1 : w3.cell? ⟨w.heap.size + 1, 1, none⟩ = some (.slice none 0 0) := hR.cell 1; have r2 : w3.cell? ⟨w.heap.size + 1, 2, none⟩ = some (.slice none 0 0) := hR.cell 2; have rf0 := hR.free 0; have rf1 := hR.free 1; have rf2 := hR.free 2; have hRl := hR.lt; clear hR; have KS := Lib.hid (fun (a b d : Value) => three_far KB.out w.heap.size (by omega) a b d); unfold gbV))
    all_goals
      go_wp2
      refine bodyPost_ret (v := .tuple #[gbV (.slice Ar (tabM (hgZ off) (hgR off) key off c).rows.length cr) (.slice Ao (tabM (hgZ off) (hgR off) key off c).ones.length co') (.slice Ac (tabM (hgZ off) (hgR off) key off c).cols.length cc), .bool true]) (by simp [results, Tryz.results10, go_sem, gbV, r0, r1, r2]) rfl ⟨_, _, _, vs, by rw [HM.out]; rfl, ?_, ?_⟩
      · rw [HM.out]
        exact (((hz.out.setLow (by have := HBA.out.size; omega) 0 _).setLow (by have := HBA.out.size; omega) 1 _).setLow (by have := HBA.out.size; omega) 2 _).mono (by have := HBA.out.size; omega)
      · exact (((below_step HB1.out HBB.out).setCell (p := ⟨w.heap.size + 1, 0, none⟩) (by simp) _).setCell (p := ⟨w.heap.size + 1, 1, none⟩) (by simp) _).setCell (p := ⟨w.heap.size + 1, 2, none⟩) (by simp) _
end Go.Proofs.YtejeppjmlgfiaaaGreat
