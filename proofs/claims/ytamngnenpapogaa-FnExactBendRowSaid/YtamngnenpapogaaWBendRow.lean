/- The walk of the law FnExactBendRow: its Go text returns true for every input. No condition. -/
import Derived.Test.YtamngnenpapogaaLawK
import Derived.Test.YtamngnenpapogaaBendX
import Derived.Test.YtamngnenpapogaaBendY
import Derived.Test.YtamngnenpapogaaBendZ
namespace Go.Proofs.Ytamngnenpapogaa
open Go.RowKit
set_option linter.unusedVariables false

set_option maxRecDepth 100000 in
set_option maxHeartbeats 4000000 in
theorem w_FnExactBendRow (w : World) {c0 : Cir} {gv0 ov0 : Value} (h0 : CirIn w gv0 ov0 c0) {g1 : Gb} {rv1 nv1 cv1 : Value} (h1 : GbIn w rv1 nv1 cv1 g1) {a2 : Int} (h2 : -9223372036854775808 ≤ a2 ∧ a2 ≤ 9223372036854775807) {a3 : Int} (h3 : -9223372036854775808 ≤ a3 ∧ a3 ≤ 9223372036854775807) {a4 : Int} (h4 : -9223372036854775808 ≤ a4 ∧ a4 ≤ 9223372036854775807) : Calls Try.prog 11 #[cirV c0 gv0 ov0, gbV rv1 nv1 cv1, .int .i64 a2, .int .i64 a3, .int .i64 a4] w fun e w' => e = .returned (.bool true) ∧ Below w.heap.size w w' := by
  have H0 := Lib.hid h0
  obtain ⟨A0a, n0a, rfl, -⟩ := h0.gates
  obtain ⟨A0b, n0b, rfl, -⟩ := h0.outs
  clear h0
  have H1 := Lib.hid h1
  obtain ⟨A1a, n1a, rfl, -⟩ := h1.rows.form
  obtain ⟨A1b, n1b, rfl, -⟩ := h1.ones
  obtain ⟨A1c, n1c, rfl, -⟩ := h1.cols
  clear h1
  unfold cirV
  unfold gbV
  obtain ⟨w1, hw1⟩ : ∃ W, (w.alloc (.cells #[.int .i64 c0.i0, .int .i64 c0.i1, .slice A0a c0.gs.length n0a, .slice A0b c0.outs.length n0b] 25)).alloc (.cells #[.slice A1a g1.rows.length n1a, .slice A1b g1.ones.length n1b, .slice A1c g1.cols.length n1c] 43) = W := ⟨_, rfl⟩
  have HK0 := Lib.hid ((Blk.new w 25 #[.int .i64 c0.i0, .int .i64 c0.i1, .slice A0a c0.gs.length n0a, .slice A0b c0.outs.length n0b]).alloc (.cells #[.slice A1a g1.rows.length n1a, .slice A1b g1.ones.length n1b, .slice A1c g1.cols.length n1c] 43))
  rw [hw1] at HK0
  have HK1 := Lib.hid (Blk.new (w.alloc (.cells #[.int .i64 c0.i0, .int .i64 c0.i1, .slice A0a c0.gs.length n0a, .slice A0b c0.outs.length n0b] 25)) 43 #[.slice A1a g1.rows.length n1a, .slice A1b g1.ones.length n1b, .slice A1c g1.cols.length n1c])
  simp only [World.size_alloc, hw1] at HK1
  have HB : Hid (Below w.heap.size w w1) := by rw [← hw1]; exact ((Below.refl w.heap.size w).alloc (Nat.le_refl _) (.cells #[.int .i64 c0.i0, .int .i64 c0.i1, .slice A0a c0.gs.length n0a, .slice A0b c0.outs.length n0b] 25)).alloc (by simp) (.cells #[.slice A1a g1.rows.length n1a, .slice A1b g1.ones.length n1b, .slice A1c g1.cols.length n1c] 43)
  go_enter Try.func11, Try.ntmps11
  have x_HK0_0 : w1.cell? ⟨w.heap.size, 0, none⟩ = some (.int .i64 c0.i0) := HK0.out.cell 0
  have x_HK0_1 : w1.cell? ⟨w.heap.size, 1, none⟩ = some (.int .i64 c0.i1) := HK0.out.cell 1
  have x_HK0_2 : w1.cell? ⟨w.heap.size, 2, none⟩ = some (.slice A0a c0.gs.length n0a) := HK0.out.cell 2
  have x_HK0_3 : w1.cell? ⟨w.heap.size, 3, none⟩ = some (.slice A0b c0.outs.length n0b) := HK0.out.cell 3
  go_wp2_with fail
  clear hw1
  refine (c_laws_szCircuit (H0.out.below HB.out) (by omega)).mono ?_
  rintro e w2 ⟨rfl, hb⟩
  clear x_HK0_0 x_HK0_1 x_HK0_2 x_HK0_3
  replace HB := Lib.hid (below_step HB.out hb)
  replace HK0 := Lib.hid (HK0.out.step hb)
  replace HK1 := Lib.hid (HK1.out.step hb)
  clear hb
  by_cases hz0 : szCM 1048576 c0 < 0
  · go_wp2
    go_ret
    exact ⟨rfl, HB.out⟩
  have Z0 := Lib.hid (szCM_ok (by omega) hz0)
  have x_HK1_0 : w2.cell? ⟨w.heap.size + 1, 0, none⟩ = some (.slice A1a g1.rows.length n1a) := HK1.out.cell 0
  have x_HK1_1 : w2.cell? ⟨w.heap.size + 1, 1, none⟩ = some (.slice A1b g1.ones.length n1b) := HK1.out.cell 1
  have x_HK1_2 : w2.cell? ⟨w.heap.size + 1, 2, none⟩ = some (.slice A1c g1.cols.length n1c) := HK1.out.cell 2
  go_wp2_with fail
  refine (c_laws_szGarbled (H1.out.below HB.out) Z0.out.1).mono ?_
  rintro e w3 ⟨rfl, hb⟩
  clear x_HK1_0 x_HK1_1 x_HK1_2
  replace HB := Lib.hid (below_step HB.out hb)
  replace HK0 := Lib.hid (HK0.out.step hb)
  replace HK1 := Lib.hid (HK1.out.step hb)
  clear hb
  by_cases hz1 : szGM (szCM 1048576 c0) g1 < 0
  · go_wp2
    go_ret
    exact ⟨rfl, HB.out⟩
  have Z1 := Lib.hid (szGM_ok Z0.out.1 hz1)
  have hM : ((bendM 3 1 3 c0 g1 a2 a3 a4).getD Gb.none).sz ≤ 2097152 := Nat.le_trans (bendM_sz 3 1 3 c0 g1 a2 a3 a4) (by have := Z1.out; omega)
  go_upto_region 8 with fail
  go_cut [12, 13] (fun s0 s1 wx => ∃ b rv nv cv, s0 = .pointer (some ⟨b, 0, none⟩) ∧ s1 = .bool (bendM 3 1 3 c0 g1 a2 a3 a4).isSome ∧ Hid (Blk wx b 47 #[rv, nv, cv]) ∧ Hid (GbIn wx rv nv cv ((bendM 3 1 3 c0 g1 a2 a3 a4).getD Gb.none)) ∧ Hid (Below w3.heap.size w3 wx))
  case first =>
    have q0 : ∀ w', Below w3.heap.size w3 w' → w'.cell? ⟨w.heap.size, 0, none⟩ = some (.int .i64 c0.i0) := fun w' h => (h.cell (p := ⟨w.heap.size, 0, none⟩) HK0.out.lt).trans (HK0.out.cell 0)
    have q1 : ∀ w', Below w3.heap.size w3 w' → w'.cell? ⟨w.heap.size, 1, none⟩ = some (.int .i64 c0.i1) := fun w' h => (h.cell (p := ⟨w.heap.size, 1, none⟩) HK0.out.lt).trans (HK0.out.cell 1)
    have q2 : ∀ w', Below w3.heap.size w3 w' → w'.cell? ⟨w.heap.size, 2, none⟩ = some (.slice A0a c0.gs.length n0a) := fun w' h => (h.cell (p := ⟨w.heap.size, 2, none⟩) HK0.out.lt).trans (HK0.out.cell 2)
    have q3 : ∀ w', Below w3.heap.size w3 w' → w'.cell? ⟨w.heap.size, 3, none⟩ = some (.slice A0b c0.outs.length n0b) := fun w' h => (h.cell (p := ⟨w.heap.size, 3, none⟩) HK0.out.lt).trans (HK0.out.cell 3)
    have q4 : ∀ w', Below w3.heap.size w3 w' → w'.cell? ⟨w.heap.size + 1, 0, none⟩ = some (.slice A1a g1.rows.length n1a) := fun w' h => (h.cell (p := ⟨w.heap.size + 1, 0, none⟩) HK1.out.lt).trans (HK1.out.cell 0)
    have q5 : ∀ w', Below w3.heap.size w3 w' → w'.cell? ⟨w.heap.size + 1, 1, none⟩ = some (.slice A1b g1.ones.length n1b) := fun w' h => (h.cell (p := ⟨w.heap.size + 1, 1, none⟩) HK1.out.lt).trans (HK1.out.cell 1)
    have q6 : ∀ w', Below w3.heap.size w3 w' → w'.cell? ⟨w.heap.size + 1, 2, none⟩ = some (.slice A1c g1.cols.length n1c) := fun w' h => (h.cell (p := ⟨w.heap.size + 1, 2, none⟩) HK1.out.lt).trans (HK1.out.cell 2)
    go_region_held3 (fun w' => Below w3.heap.size w3 w')
      (first | (refine below_step ?_ HD.out; assumption) | (exact (Below.refl _ _).drew) | (exact Below.refl _ _) | (exact Below.alloc (by assumption) (Below.size (B := w3.heap.size) (w := w3) (by assumption)) _) | (exact Below.alloc (Below.refl _ _) (Nat.le_refl _) _) | (exact below_refill (by assumption) (by first | exact Nat.le_refl _ | assumption | simp)) | (refine Below.setCell (Below.setCell (Below.setCell (by assumption) (p := ⟨_, 0, none⟩) ?_ _) (p := ⟨_, 1, none⟩) ?_ _) (p := ⟨_, 2, none⟩) ?_ _ <;> (first | exact Nat.le_refl _ | assumption)))
      (first
        | (go_at_call 17; refine (c_laws_toCircuit ((H0.out.below HB.out).below (by first | assumption | (refine Below.alloc ?_ (Below.size ?_) _ <;> assumption))) Z0.out.2.1 Z0.out.2.2).mono ?_; rintro e wa0 ⟨gvu0, ovu0, mu0, rfl, Ou0, hb⟩; (try (have X1 : Hid (Below wa1.heap.size wa1 wa0) := (by first | exact below_step X1.out hb | exact below_step (X1.out.alloc X1.out.size _) hb))); (try have hka := KZ.out.lt); have hs0 : w3.heap.size ≤ wa0.heap.size := Nat.le_trans (by first | exact Nat.le_refl _ | assumption | exact Nat.le_succ_of_le (by assumption) | (simp; done) | (simp; omega)) hb.size; (first | (replace KZ := Lib.hid (KZ.out.step hb)) | (have hka : w3.heap.size < (w3.drew.alloc (.cells #[.slice none 0 0, .slice none 0 0, .slice none 0 0] 47)).heap.size := by simp) | skip); (first | (have KZ0 := KZ) | (have KZ : Hid (Blk _ w3.heap.size _ _) := Lib.hid ((Blk.new w3.drew _ _).step hb)) | (have KZ := Lib.hid ((Blk.new _ _ _).step hb)) | skip); (try (have y0 := KZ.out.cell 0; have y1 := KZ.out.cell 1; have y2 := KZ.out.cell 2; have yf0 := KZ.out.free 0; have yf1 := KZ.out.free 1; have yf2 := KZ.out.free 2; simp only [List.getElem?_toArray, List.getElem?_cons_zero, List.getElem?_cons_succ] at y0 y1 y2)); have X0 := Lib.hid (Below.refl wa0.heap.size wa0); replace Ou0 := Lib.hid Ou0; have HD := Lib.hid hb)
        | (go_at_call 30; refine (c_laws_toGarbled ((H1.out.below HB.out).below (by first | assumption | (refine Below.alloc ?_ (Below.size ?_) _ <;> assumption))) Z1.out.2).mono ?_; rintro e wa1 ⟨rvu1, nvu1, cvu1, vsu1, rfl, Ou1, hb⟩; (try (have X0 : Hid (Below wa0.heap.size wa0 wa1) := (by first | exact below_step X0.out hb | exact below_step (X0.out.alloc X0.out.size _) hb))); (try have hka := KZ.out.lt); have hs1 : w3.heap.size ≤ wa1.heap.size := Nat.le_trans (by first | exact Nat.le_refl _ | assumption | exact Nat.le_succ_of_le (by assumption) | (simp; done) | (simp; omega)) hb.size; (first | (replace KZ := Lib.hid (KZ.out.step hb)) | (have hka : w3.heap.size < (w3.drew.alloc (.cells #[.slice none 0 0, .slice none 0 0, .slice none 0 0] 47)).heap.size := by simp) | skip); (first | (have KZ0 := KZ) | (have KZ : Hid (Blk _ w3.heap.size _ _) := Lib.hid ((Blk.new w3.drew _ _).step hb)) | (have KZ := Lib.hid ((Blk.new _ _ _).step hb)) | skip); (try (have y0 := KZ.out.cell 0; have y1 := KZ.out.cell 1; have y2 := KZ.out.cell 2; have yf0 := KZ.out.free 0; have yf1 := KZ.out.free 1; have yf2 := KZ.out.free 2; simp only [List.getElem?_toArray, List.getElem?_cons_zero, List.getElem?_cons_succ] at y0 y1 y2)); have X1 := Lib.hid (Below.refl wa1.heap.size wa1); replace Ou1 := Lib.hid Ou1; have HD := Lib.hid hb)
        | (go_at_call 48; refine (c_spec_BendRow (((Ou0.out.cir).below (by first | exact X0.out | exact X0.out.alloc X0.out.size _))) (((Ou1.out.gbIn).below (by first | exact X1.out | exact X1.out.alloc X1.out.size _))) Z1.out.2).mono ?_; rintro e wz ⟨rv, nv, cv, vs, rfl, Q, hb⟩; (try (have X0 : Hid (Below wa0.heap.size wa0 wz) := (by first | exact below_step X0.out hb | exact below_step (X0.out.alloc X0.out.size _) hb))); (try (have X1 : Hid (Below wa1.heap.size wa1 wz) := (by first | exact below_step X1.out hb | exact below_step (X1.out.alloc X1.out.size _) hb))); (try have hka := KZ.out.lt); have hsz : w3.heap.size ≤ wz.heap.size := Nat.le_trans (by first | exact Nat.le_refl _ | assumption | exact Nat.le_succ_of_le (by assumption) | (simp; done) | (simp; omega)) hb.size; (first | (replace KZ := Lib.hid (KZ.out.step hb)) | (have hka : w3.heap.size < (w3.drew.alloc (.cells #[.slice none 0 0, .slice none 0 0, .slice none 0 0] 47)).heap.size := by simp) | skip); (first | (have KZ0 := KZ) | (have KZ : Hid (Blk _ w3.heap.size _ _) := Lib.hid ((Blk.new w3.drew _ _).step hb)) | (have KZ := Lib.hid ((Blk.new _ _ _).step hb)) | skip); (try (have y0 := KZ.out.cell 0; have y1 := KZ.out.cell 1; have y2 := KZ.out.cell 2; have yf0 := KZ.out.free 0; have yf1 := KZ.out.free 1; have yf2 := KZ.out.free 2; simp only [List.getElem?_toArray, List.getElem?_cons_zero, List.getElem?_cons_succ] at y0 y1 y2));  obtain ⟨Za, za, rfl, -⟩ := Q.rows.rowsIn.form; obtain ⟨Zb, zb, rfl, -⟩ := Q.ones.ints; obtain ⟨Zc, zc, rfl, -⟩ := Q.cols.ints; replace Q := Lib.hid Q; unfold gbV;  have HD := Lib.hid hb))
    all_goals
      go_wp2_with fail
      go_meet
      first
        | exact ⟨_, _, _, _, rfl, rfl, Lib.hid (Blk.new _ _ _), Lib.hid (Q.out.gbIn.alloc _), Lib.hid (by assumption)⟩
        | exact ⟨_, _, _, _, rfl, rfl, Lib.hid (blk3 KZ.out _ _ _), Lib.hid (((Q.out.setLow (by first | exact hka | (simp; done) | (simp; omega)) 0 _).setLow (by first | exact hka | (simp; done) | (simp; omega)) 1 _).setLow (by first | exact hka | (simp; done) | (simp; omega)) 2 _).gbIn, Lib.hid (by assumption)⟩
  case rest =>
    obtain ⟨bu, ruu, nuu, cuu, rfl, rfl, KBu, Qu, HX⟩ := hcut
    revert HX Qu KBu
    generalize wc = w4
    intro KBu Qu HX
    replace HB := Lib.hid (below_step HB.out HX.out)
    replace HK0 := Lib.hid (HK0.out.step HX.out)
    replace HK1 := Lib.hid (HK1.out.step HX.out)
    clear HX
    obtain ⟨Uua, nua, rfl, -⟩ := Qu.out.rows.form
    obtain ⟨Uub, nub, rfl, -⟩ := Qu.out.ones
    obtain ⟨Uuc, nuc, rfl, -⟩ := Qu.out.cols
    have HU := Lib.hid (Below.refl w4.heap.size w4)
    have la_0_HB : w.heap.size ≤ w4.heap.size := HB.out.size
    have lo_0_HK0 : w.heap.size < w4.heap.size := HK0.out.lt
    have lo_0_HK1 : w.heap.size + 1 < w4.heap.size := HK1.out.lt
    have lo_0_KBu : bu < w4.heap.size := KBu.out.lt
    have la_0_HU : w4.heap.size ≤ w4.heap.size := HU.out.size
    have x_HK0_0 : w4.cell? ⟨w.heap.size, 0, none⟩ = some (.int .i64 c0.i0) := HK0.out.cell 0
    have x_HK0_1 : w4.cell? ⟨w.heap.size, 1, none⟩ = some (.int .i64 c0.i1) := HK0.out.cell 1
    have x_HK0_2 : w4.cell? ⟨w.heap.size, 2, none⟩ = some (.slice A0a c0.gs.length n0a) := HK0.out.cell 2
    have x_HK0_3 : w4.cell? ⟨w.heap.size, 3, none⟩ = some (.slice A0b c0.outs.length n0b) := HK0.out.cell 3
    go_wp2_with fail
    refine (c_laws_toCircuit (H0.out.below HB.out) Z0.out.2.1 Z0.out.2.2).mono ?_
    rintro e w5 ⟨gvx0, ovx0, mx0, rfl, Ox0, hb⟩
    clear x_HK0_0 x_HK0_1 x_HK0_2 x_HK0_3
    replace HB := Lib.hid (below_step HB.out hb)
    replace HK0 := Lib.hid (HK0.out.step hb)
    replace HK1 := Lib.hid (HK1.out.step hb)
    replace KBu := Lib.hid (KBu.out.step hb)
    replace HU := Lib.hid (below_step HU.out hb)
    clear hb
    obtain ⟨Dx0a, dx0a, rfl, -⟩ := Ox0.cir.gates
    obtain ⟨Dx0b, dx0b, rfl, -⟩ := Ox0.cir.outs
    replace Ox0 := Lib.hid Ox0
    have R0 := Lib.hid Ox0.out.bd
    have HX0 := Lib.hid (Below.refl w5.heap.size w5)
    unfold cirV
    have hi_0_KX0 : w5.heap.size ≤ w5.heap.size := HX0.out.size
    obtain ⟨w6, hw6⟩ : ∃ W, w5.alloc (.cells #[.int .i64 c0.i0, .int .i64 c0.i1, .slice Dx0a c0.gs.length dx0a, .slice Dx0b c0.outs.length dx0b] 31) = W := ⟨_, rfl⟩
    have KX0 : Hid (Blk w6 w5.heap.size 31 #[.int .i64 c0.i0, .int .i64 c0.i1, .slice Dx0a c0.gs.length dx0a, .slice Dx0b c0.outs.length dx0b]) := by rw [← hw6]; exact Blk.new _ _ _
    have hb : Below w5.heap.size w5 w6 := by rw [← hw6]; exact (Below.refl _ _).alloc (Nat.le_refl _) _
    replace HB := Lib.hid (below_step HB.out hb)
    replace HK0 := Lib.hid (HK0.out.step hb)
    replace HK1 := Lib.hid (HK1.out.step hb)
    replace KBu := Lib.hid (KBu.out.step hb)
    replace HU := Lib.hid (below_step HU.out hb)
    replace Ox0 := Lib.hid (Ox0.out.below hb)
    replace HX0 := Lib.hid (below_step HX0.out hb)
    clear hb
    have la_1_HB : w.heap.size ≤ w6.heap.size := HB.out.size
    have lo_1_HK0 : w.heap.size < w6.heap.size := HK0.out.lt
    have lo_1_HK1 : w.heap.size + 1 < w6.heap.size := HK1.out.lt
    have lo_1_KBu : bu < w6.heap.size := KBu.out.lt
    have la_1_HU : w4.heap.size ≤ w6.heap.size := HU.out.size
    have la_1_HX0 : w5.heap.size ≤ w6.heap.size := HX0.out.size
    have lo_1_KX0 : w5.heap.size < w6.heap.size := KX0.out.lt
    have gx0_1 : w5.heap.size ≤ w6.heap.size := HX0.out.size
    have x_HK1_0 : w6.cell? ⟨w.heap.size + 1, 0, none⟩ = some (.slice A1a g1.rows.length n1a) := HK1.out.cell 0
    have x_HK1_1 : w6.cell? ⟨w.heap.size + 1, 1, none⟩ = some (.slice A1b g1.ones.length n1b) := HK1.out.cell 1
    have x_HK1_2 : w6.cell? ⟨w.heap.size + 1, 2, none⟩ = some (.slice A1c g1.cols.length n1c) := HK1.out.cell 2
    go_wp2_with fail
    clear hw6
    refine (c_laws_toGarbled (H1.out.below HB.out) Z1.out.2).mono ?_
    rintro e w7 ⟨rvx1, nvx1, cvx1, vsx1, rfl, Ox1, hb⟩
    clear x_HK1_0 x_HK1_1 x_HK1_2
    replace HB := Lib.hid (below_step HB.out hb)
    replace HK0 := Lib.hid (HK0.out.step hb)
    replace HK1 := Lib.hid (HK1.out.step hb)
    replace KBu := Lib.hid (KBu.out.step hb)
    replace HU := Lib.hid (below_step HU.out hb)
    replace Ox0 := Lib.hid (Ox0.out.below hb)
    replace HX0 := Lib.hid (below_step HX0.out hb)
    replace KX0 := Lib.hid (KX0.out.step hb)
    clear hb
    obtain ⟨Dx1a, dx1a, rfl, -⟩ := Ox1.rows.rowsIn.form
    obtain ⟨Dx1b, dx1b, rfl, -⟩ := Ox1.ones.ints
    obtain ⟨Dx1c, dx1c, rfl, -⟩ := Ox1.cols.ints
    replace Ox1 := Lib.hid Ox1
    have R1 := Lib.hid Ox1.out.bd
    have HX1 := Lib.hid (Below.refl w7.heap.size w7)
    unfold gbV
    have hi_0_KX1 : w5.heap.size ≤ w7.heap.size := HX0.out.size
    have hi_1_KX1 : w7.heap.size ≤ w7.heap.size := HX1.out.size
    obtain ⟨w8, hw8⟩ : ∃ W, w7.alloc (.cells #[.slice Dx1a g1.rows.length dx1a, .slice Dx1b g1.ones.length dx1b, .slice Dx1c g1.cols.length dx1c] 47) = W := ⟨_, rfl⟩
    have KX1 : Hid (Blk w8 w7.heap.size 47 #[.slice Dx1a g1.rows.length dx1a, .slice Dx1b g1.ones.length dx1b, .slice Dx1c g1.cols.length dx1c]) := by rw [← hw8]; exact Blk.new _ _ _
    have hb : Below w7.heap.size w7 w8 := by rw [← hw8]; exact (Below.refl _ _).alloc (Nat.le_refl _) _
    replace HB := Lib.hid (below_step HB.out hb)
    replace HK0 := Lib.hid (HK0.out.step hb)
    replace HK1 := Lib.hid (HK1.out.step hb)
    replace KBu := Lib.hid (KBu.out.step hb)
    replace HU := Lib.hid (below_step HU.out hb)
    replace Ox0 := Lib.hid (Ox0.out.below hb)
    replace HX0 := Lib.hid (below_step HX0.out hb)
    replace KX0 := Lib.hid (KX0.out.step hb)
    replace Ox1 := Lib.hid (Ox1.out.below hb)
    replace HX1 := Lib.hid (below_step HX1.out hb)
    clear hb
    have la_g_HB : w.heap.size ≤ w8.heap.size := HB.out.size
    have lo_g_HK0 : w.heap.size < w8.heap.size := HK0.out.lt
    have lo_g_HK1 : w.heap.size + 1 < w8.heap.size := HK1.out.lt
    have lo_g_KBu : bu < w8.heap.size := KBu.out.lt
    have la_g_HU : w4.heap.size ≤ w8.heap.size := HU.out.size
    have lo_g_KX0 : w5.heap.size < w8.heap.size := KX0.out.lt
    have lo_g_KX1 : w7.heap.size < w8.heap.size := KX1.out.lt
    have gx0 : w5.heap.size ≤ w8.heap.size := HX0.out.size
    have gx1 : w7.heap.size ≤ w8.heap.size := HX1.out.size
    have x_KX0_0 : w8.cell? ⟨w5.heap.size, 0, none⟩ = some (.int .i64 c0.i0) := KX0.out.cell 0
    have x_KX0_1 : w8.cell? ⟨w5.heap.size, 1, none⟩ = some (.int .i64 c0.i1) := KX0.out.cell 1
    have x_KX0_2 : w8.cell? ⟨w5.heap.size, 2, none⟩ = some (.slice Dx0a c0.gs.length dx0a) := KX0.out.cell 2
    have x_KX0_3 : w8.cell? ⟨w5.heap.size, 3, none⟩ = some (.slice Dx0b c0.outs.length dx0b) := KX0.out.cell 3
    have x_KX1_0 : w8.cell? ⟨w7.heap.size, 0, none⟩ = some (.slice Dx1a g1.rows.length dx1a) := KX1.out.cell 0
    have x_KX1_1 : w8.cell? ⟨w7.heap.size, 1, none⟩ = some (.slice Dx1b g1.ones.length dx1b) := KX1.out.cell 1
    have x_KX1_2 : w8.cell? ⟨w7.heap.size, 2, none⟩ = some (.slice Dx1c g1.cols.length dx1c) := KX1.out.cell 2
    go_wp2_with fail
    clear hw8
    refine (c_impl_BendRow (Ox0.out.cir) (Ox1.out.gbIn) Z1.out.2).mono ?_
    rintro e w9 ⟨rug, nug, cug, vug, rfl, Qg, hb⟩
    clear x_KX0_0 x_KX0_1 x_KX0_2 x_KX0_3 x_KX1_0 x_KX1_1 x_KX1_2
    replace HB := Lib.hid (below_step HB.out hb)
    replace HK0 := Lib.hid (HK0.out.step hb)
    replace HK1 := Lib.hid (HK1.out.step hb)
    replace KBu := Lib.hid (KBu.out.step hb)
    replace HU := Lib.hid (below_step HU.out hb)
    replace Ox0 := Lib.hid (Ox0.out.below hb)
    replace HX0 := Lib.hid (below_step HX0.out hb)
    replace KX0 := Lib.hid (KX0.out.step hb)
    replace Ox1 := Lib.hid (Ox1.out.below hb)
    replace HX1 := Lib.hid (below_step HX1.out hb)
    replace KX1 := Lib.hid (KX1.out.step hb)
    clear hb
    obtain ⟨Uga, nga, rfl, -⟩ := Qg.rows.rowsIn.form
    obtain ⟨Ugb, ngb, rfl, -⟩ := Qg.ones.ints
    obtain ⟨Ugc, ngc, rfl, -⟩ := Qg.cols.ints
    replace Qg := Lib.hid Qg
    have Rg := Lib.hid Qg.out.bd
    unfold gbV
    have hi_0_KBg : w5.heap.size ≤ w9.heap.size := HX0.out.size
    have hi_1_KBg : w7.heap.size ≤ w9.heap.size := HX1.out.size
    obtain ⟨w10, hw10⟩ : ∃ W, w9.alloc (.cells #[.slice Uga ((bendM 3 1 3 c0 g1 a2 a3 a4).getD Gb.none).rows.length nga, .slice Ugb ((bendM 3 1 3 c0 g1 a2 a3 a4).getD Gb.none).ones.length ngb, .slice Ugc ((bendM 3 1 3 c0 g1 a2 a3 a4).getD Gb.none).cols.length ngc] 47) = W := ⟨_, rfl⟩
    have KBg : Hid (Blk w10 w9.heap.size 47 #[.slice Uga ((bendM 3 1 3 c0 g1 a2 a3 a4).getD Gb.none).rows.length nga, .slice Ugb ((bendM 3 1 3 c0 g1 a2 a3 a4).getD Gb.none).ones.length ngb, .slice Ugc ((bendM 3 1 3 c0 g1 a2 a3 a4).getD Gb.none).cols.length ngc]) := by rw [← hw10]; exact Blk.new _ _ _
    have hb : Below w9.heap.size w9 w10 := by rw [← hw10]; exact (Below.refl _ _).alloc (Nat.le_refl _) _
    replace HB := Lib.hid (below_step HB.out hb)
    replace HK0 := Lib.hid (HK0.out.step hb)
    replace HK1 := Lib.hid (HK1.out.step hb)
    replace KBu := Lib.hid (KBu.out.step hb)
    replace HU := Lib.hid (below_step HU.out hb)
    replace Ox0 := Lib.hid (Ox0.out.below hb)
    replace HX0 := Lib.hid (below_step HX0.out hb)
    replace KX0 := Lib.hid (KX0.out.step hb)
    replace Ox1 := Lib.hid (Ox1.out.below hb)
    replace HX1 := Lib.hid (below_step HX1.out hb)
    replace KX1 := Lib.hid (KX1.out.step hb)
    replace Qg := Lib.hid (Qg.out.below hb)
    clear hb
    have hi_g_KBg : w9.heap.size ≤ w9.heap.size := Nat.le_refl _
    have x_KBg_0 : w10.cell? ⟨w9.heap.size, 0, none⟩ = some (.slice Uga ((bendM 3 1 3 c0 g1 a2 a3 a4).getD Gb.none).rows.length nga) := KBg.out.cell 0
    have x_KBg_1 : w10.cell? ⟨w9.heap.size, 1, none⟩ = some (.slice Ugb ((bendM 3 1 3 c0 g1 a2 a3 a4).getD Gb.none).ones.length ngb) := KBg.out.cell 1
    have x_KBg_2 : w10.cell? ⟨w9.heap.size, 2, none⟩ = some (.slice Ugc ((bendM 3 1 3 c0 g1 a2 a3 a4).getD Gb.none).cols.length ngc) := KBg.out.cell 2
    have x_KBu_0 : w10.cell? ⟨bu, 0, none⟩ = some (.slice Uua ((bendM 3 1 3 c0 g1 a2 a3 a4).getD Gb.none).rows.length nua) := KBu.out.cell 0
    have x_KBu_1 : w10.cell? ⟨bu, 1, none⟩ = some (.slice Uub ((bendM 3 1 3 c0 g1 a2 a3 a4).getD Gb.none).ones.length nub) := KBu.out.cell 1
    have x_KBu_2 : w10.cell? ⟨bu, 2, none⟩ = some (.slice Uuc ((bendM 3 1 3 c0 g1 a2 a3 a4).getD Gb.none).cols.length nuc) := KBu.out.cell 2
    go_wp2_with fail
    clear hw10
    refine (c_laws_eqGarbled Qg.out.gbIn (Qu.out.below HU.out) hM).mono ?_
    rintro e w11 ⟨rfl, hb⟩
    clear x_KBg_0 x_KBg_1 x_KBg_2 x_KBu_0 x_KBu_1 x_KBu_2
    replace HB := Lib.hid (below_step HB.out hb)
    replace HK0 := Lib.hid (HK0.out.step hb)
    replace HK1 := Lib.hid (HK1.out.step hb)
    replace KBu := Lib.hid (KBu.out.step hb)
    replace HU := Lib.hid (below_step HU.out hb)
    replace Ox0 := Lib.hid (Ox0.out.below hb)
    replace HX0 := Lib.hid (below_step HX0.out hb)
    replace KX0 := Lib.hid (KX0.out.step hb)
    replace Ox1 := Lib.hid (Ox1.out.below hb)
    replace HX1 := Lib.hid (below_step HX1.out hb)
    replace KX1 := Lib.hid (KX1.out.step hb)
    replace Qg := Lib.hid (Qg.out.below hb)
    replace KBg := Lib.hid (KBg.out.step hb)
    clear hb
    go_wp2_with fail
    have q0 : ∀ w', Below w11.heap.size w11 w' → w'.cell? ⟨w.heap.size, 0, none⟩ = some (.int .i64 c0.i0) := fun w' h => (h.cell (p := ⟨w.heap.size, 0, none⟩) HK0.out.lt).trans (HK0.out.cell 0)
    have q1 : ∀ w', Below w11.heap.size w11 w' → w'.cell? ⟨w.heap.size, 1, none⟩ = some (.int .i64 c0.i1) := fun w' h => (h.cell (p := ⟨w.heap.size, 1, none⟩) HK0.out.lt).trans (HK0.out.cell 1)
    have q2 : ∀ w', Below w11.heap.size w11 w' → w'.cell? ⟨w.heap.size, 2, none⟩ = some (.slice A0a c0.gs.length n0a) := fun w' h => (h.cell (p := ⟨w.heap.size, 2, none⟩) HK0.out.lt).trans (HK0.out.cell 2)
    have q3 : ∀ w', Below w11.heap.size w11 w' → w'.cell? ⟨w.heap.size, 3, none⟩ = some (.slice A0b c0.outs.length n0b) := fun w' h => (h.cell (p := ⟨w.heap.size, 3, none⟩) HK0.out.lt).trans (HK0.out.cell 3)
    have q4 : ∀ w', Below w11.heap.size w11 w' → w'.cell? ⟨w5.heap.size, 0, none⟩ = some (.int .i64 c0.i0) := fun w' h => (h.cell (p := ⟨w5.heap.size, 0, none⟩) KX0.out.lt).trans (KX0.out.cell 0)
    have q5 : ∀ w', Below w11.heap.size w11 w' → w'.cell? ⟨w5.heap.size, 1, none⟩ = some (.int .i64 c0.i1) := fun w' h => (h.cell (p := ⟨w5.heap.size, 1, none⟩) KX0.out.lt).trans (KX0.out.cell 1)
    have q6 : ∀ w', Below w11.heap.size w11 w' → w'.cell? ⟨w5.heap.size, 2, none⟩ = some (.slice Dx0a c0.gs.length dx0a) := fun w' h => (h.cell (p := ⟨w5.heap.size, 2, none⟩) KX0.out.lt).trans (KX0.out.cell 2)
    have q7 : ∀ w', Below w11.heap.size w11 w' → w'.cell? ⟨w5.heap.size, 3, none⟩ = some (.slice Dx0b c0.outs.length dx0b) := fun w' h => (h.cell (p := ⟨w5.heap.size, 3, none⟩) KX0.out.lt).trans (KX0.out.cell 3)
    go_region_held3 (fun w' => Below w11.heap.size w11 w')
      (first | (refine below_step ?_ HD.out; assumption) | (exact (Below.refl _ _).drew))
      (first
        | (go_at_call 17; refine (c_laws_toCircuit ((H0.out.below HB.out).below (by assumption)) Z0.out.2.1 Z0.out.2.2).mono ?_; rintro e wa ⟨gvy, ovy, my, rfl, Oy, hb⟩; replace Oy := Lib.hid Oy; have HD := Lib.hid hb)
        | (go_at_call 19; refine (c_laws_eqCircuit ((Ox0.out.cir).below (by assumption)) Oy.out.cir (by have := Z0.out; omega) (by have := Z0.out; omega)).mono ?_; rintro e wb ⟨rfl, hb⟩; have HD := Lib.hid hb))
    have hE : Below w11.heap.size w11 wb := by assumption
    clear q0 q1 q2 q3 q4 q5 q6 q7
    generalize wb = w12 at *
    replace HB := Lib.hid (below_step HB.out hE)
    replace HK0 := Lib.hid (HK0.out.step hE)
    replace HK1 := Lib.hid (HK1.out.step hE)
    replace KBu := Lib.hid (KBu.out.step hE)
    replace HU := Lib.hid (below_step HU.out hE)
    replace Ox0 := Lib.hid (Ox0.out.below hE)
    replace HX0 := Lib.hid (below_step HX0.out hE)
    replace KX0 := Lib.hid (KX0.out.step hE)
    replace Ox1 := Lib.hid (Ox1.out.below hE)
    replace HX1 := Lib.hid (below_step HX1.out hE)
    replace KX1 := Lib.hid (KX1.out.step hE)
    replace Qg := Lib.hid (Qg.out.below hE)
    replace KBg := Lib.hid (KBg.out.step hE)
    clear hE
    go_wp2_with fail
    have q0 : ∀ w', Below w12.heap.size w12 w' → w'.cell? ⟨w.heap.size + 1, 0, none⟩ = some (.slice A1a g1.rows.length n1a) := fun w' h => (h.cell (p := ⟨w.heap.size + 1, 0, none⟩) HK1.out.lt).trans (HK1.out.cell 0)
    have q1 : ∀ w', Below w12.heap.size w12 w' → w'.cell? ⟨w.heap.size + 1, 1, none⟩ = some (.slice A1b g1.ones.length n1b) := fun w' h => (h.cell (p := ⟨w.heap.size + 1, 1, none⟩) HK1.out.lt).trans (HK1.out.cell 1)
    have q2 : ∀ w', Below w12.heap.size w12 w' → w'.cell? ⟨w.heap.size + 1, 2, none⟩ = some (.slice A1c g1.cols.length n1c) := fun w' h => (h.cell (p := ⟨w.heap.size + 1, 2, none⟩) HK1.out.lt).trans (HK1.out.cell 2)
    have q3 : ∀ w', Below w12.heap.size w12 w' → w'.cell? ⟨w7.heap.size, 0, none⟩ = some (.slice Dx1a g1.rows.length dx1a) := fun w' h => (h.cell (p := ⟨w7.heap.size, 0, none⟩) KX1.out.lt).trans (KX1.out.cell 0)
    have q4 : ∀ w', Below w12.heap.size w12 w' → w'.cell? ⟨w7.heap.size, 1, none⟩ = some (.slice Dx1b g1.ones.length dx1b) := fun w' h => (h.cell (p := ⟨w7.heap.size, 1, none⟩) KX1.out.lt).trans (KX1.out.cell 1)
    have q5 : ∀ w', Below w12.heap.size w12 w' → w'.cell? ⟨w7.heap.size, 2, none⟩ = some (.slice Dx1c g1.cols.length dx1c) := fun w' h => (h.cell (p := ⟨w7.heap.size, 2, none⟩) KX1.out.lt).trans (KX1.out.cell 2)
    go_region_held3 (fun w' => Below w12.heap.size w12 w')
      (first | (refine below_step ?_ HD.out; assumption) | (exact (Below.refl _ _).drew))
      (first
        | (go_at_call 30; refine (c_laws_toGarbled ((H1.out.below HB.out).below (by assumption)) Z1.out.2).mono ?_; rintro e wa ⟨rvy, nvy, cvy, vsy, rfl, Oy, hb⟩; replace Oy := Lib.hid Oy; have HD := Lib.hid hb)
        | (go_at_call 32; refine (c_laws_eqGarbled ((Ox1.out.gbIn).below (by assumption)) Oy.out.gbIn (by have := Z1.out; omega)).mono ?_; rintro e wb ⟨rfl, hb⟩; have HD := Lib.hid hb))
    have hE : Below w12.heap.size w12 wb := by assumption
    clear q0 q1 q2 q3 q4 q5
    generalize wb = w13 at *
    replace HB := Lib.hid (below_step HB.out hE)
    replace HK0 := Lib.hid (HK0.out.step hE)
    replace HK1 := Lib.hid (HK1.out.step hE)
    replace KBu := Lib.hid (KBu.out.step hE)
    replace HU := Lib.hid (below_step HU.out hE)
    replace Ox0 := Lib.hid (Ox0.out.below hE)
    replace HX0 := Lib.hid (below_step HX0.out hE)
    replace KX0 := Lib.hid (KX0.out.step hE)
    replace Ox1 := Lib.hid (Ox1.out.below hE)
    replace HX1 := Lib.hid (below_step HX1.out hE)
    replace KX1 := Lib.hid (KX1.out.step hE)
    replace Qg := Lib.hid (Qg.out.below hE)
    replace KBg := Lib.hid (KBg.out.step hE)
    clear hE
    clear HX0 HX1
    have x_KX0_0 : w13.cell? ⟨w5.heap.size, 0, none⟩ = some (.int .i64 c0.i0) := KX0.out.cell 0
    have x_KX0_1 : w13.cell? ⟨w5.heap.size, 1, none⟩ = some (.int .i64 c0.i1) := KX0.out.cell 1
    have x_KX0_2 : w13.cell? ⟨w5.heap.size, 2, none⟩ = some (.slice Dx0a c0.gs.length dx0a) := KX0.out.cell 2
    have x_KX0_3 : w13.cell? ⟨w5.heap.size, 3, none⟩ = some (.slice Dx0b c0.outs.length dx0b) := KX0.out.cell 3
    go_wp2_with fail
    refine (c_laws_markCircuitO Ox0.out (by have z0 := Z0.out; have z1 := Z1.out; have y1 := Gb.cnt_le g1; omega) (by have z0 := Z0.out; have z1 := Z1.out; have y1 := Gb.cnt_le g1; omega) (by have z0 := Z0.out; have z1 := Z1.out; have y1 := Gb.cnt_le g1; omega)).mono ?_
    rintro e w14 ⟨rfl, ho⟩
    clear x_KX0_0 x_KX0_1 x_KX0_2 x_KX0_3
    clear Ox0
    replace HB := Lib.hid (anchor_only HB.out ho R0.out la_0_HB)
    replace HK0 := Lib.hid (HK0.out.apart ho (ne_lo R0.out lo_0_HK0))
    replace HK1 := Lib.hid (HK1.out.apart ho (ne_lo R0.out lo_0_HK1))
    replace KBu := Lib.hid (KBu.out.apart ho (ne_lo R0.out lo_0_KBu))
    replace HU := Lib.hid (anchor_only HU.out ho R0.out la_0_HU)
    replace KX0 := Lib.hid (KX0.out.apart ho (ne_hi R0.out hi_0_KX0))
    replace Ox1 := Lib.hid (Ox1.out.apartFrom ho (lt_hi R0.out gx0_1))
    replace KX1 := Lib.hid (KX1.out.apart ho (ne_hi R0.out hi_0_KX1))
    replace Qg := Lib.hid (Qg.out.apartFrom ho (lt_hi R0.out gx0))
    replace KBg := Lib.hid (KBg.out.apart ho (ne_hi R0.out hi_0_KBg))
    clear ho
    have x_KX1_0 : w14.cell? ⟨w7.heap.size, 0, none⟩ = some (.slice Dx1a g1.rows.length dx1a) := KX1.out.cell 0
    have x_KX1_1 : w14.cell? ⟨w7.heap.size, 1, none⟩ = some (.slice Dx1b g1.ones.length dx1b) := KX1.out.cell 1
    have x_KX1_2 : w14.cell? ⟨w7.heap.size, 2, none⟩ = some (.slice Dx1c g1.cols.length dx1c) := KX1.out.cell 2
    go_wp2_with fail
    refine (c_laws_markGarbled Ox1.out (by have z0 := Z0.out; have z1 := Z1.out; have y1 := Gb.cnt_le g1; omega) (by have z0 := Z0.out; have z1 := Z1.out; have y1 := Gb.cnt_le g1; omega)).mono ?_
    rintro e w15 ⟨rfl, -, ho⟩
    clear x_KX1_0 x_KX1_1 x_KX1_2
    clear Ox1
    replace HB := Lib.hid (anchor_only HB.out ho R1.out la_1_HB)
    replace HK0 := Lib.hid (HK0.out.apart ho (ne_lo R1.out lo_1_HK0))
    replace HK1 := Lib.hid (HK1.out.apart ho (ne_lo R1.out lo_1_HK1))
    replace KBu := Lib.hid (KBu.out.apart ho (ne_lo R1.out lo_1_KBu))
    replace HU := Lib.hid (anchor_only HU.out ho R1.out la_1_HU)
    replace KX0 := Lib.hid (KX0.out.apart ho (ne_lo R1.out lo_1_KX0))
    replace KX1 := Lib.hid (KX1.out.apart ho (ne_hi R1.out hi_1_KX1))
    replace Qg := Lib.hid (Qg.out.apartFrom ho (lt_hi R1.out gx1))
    replace KBg := Lib.hid (KBg.out.apart ho (ne_hi R1.out hi_1_KBg))
    clear ho
    have x_KBg_0 : w15.cell? ⟨w9.heap.size, 0, none⟩ = some (.slice Uga ((bendM 3 1 3 c0 g1 a2 a3 a4).getD Gb.none).rows.length nga) := KBg.out.cell 0
    have x_KBg_1 : w15.cell? ⟨w9.heap.size, 1, none⟩ = some (.slice Ugb ((bendM 3 1 3 c0 g1 a2 a3 a4).getD Gb.none).ones.length ngb) := KBg.out.cell 1
    have x_KBg_2 : w15.cell? ⟨w9.heap.size, 2, none⟩ = some (.slice Ugc ((bendM 3 1 3 c0 g1 a2 a3 a4).getD Gb.none).cols.length ngc) := KBg.out.cell 2
    have x_KBu_0 : w15.cell? ⟨bu, 0, none⟩ = some (.slice Uua ((bendM 3 1 3 c0 g1 a2 a3 a4).getD Gb.none).rows.length nua) := KBu.out.cell 0
    have x_KBu_1 : w15.cell? ⟨bu, 1, none⟩ = some (.slice Uub ((bendM 3 1 3 c0 g1 a2 a3 a4).getD Gb.none).ones.length nub) := KBu.out.cell 1
    have x_KBu_2 : w15.cell? ⟨bu, 2, none⟩ = some (.slice Uuc ((bendM 3 1 3 c0 g1 a2 a3 a4).getD Gb.none).cols.length nuc) := KBu.out.cell 2
    go_wp2_with fail
    refine (c_laws_eqGarbled Qg.out.gbIn (Qu.out.below HU.out) hM).mono ?_
    rintro e w16 ⟨rfl, hb⟩
    clear x_KBg_0 x_KBg_1 x_KBg_2 x_KBu_0 x_KBu_1 x_KBu_2
    replace HB := Lib.hid (below_step HB.out hb)
    replace HK0 := Lib.hid (HK0.out.step hb)
    replace HK1 := Lib.hid (HK1.out.step hb)
    replace KBu := Lib.hid (KBu.out.step hb)
    replace HU := Lib.hid (below_step HU.out hb)
    replace KX0 := Lib.hid (KX0.out.step hb)
    replace KX1 := Lib.hid (KX1.out.step hb)
    replace Qg := Lib.hid (Qg.out.below hb)
    replace KBg := Lib.hid (KBg.out.step hb)
    clear hb
    have x_KBg_0 : w16.cell? ⟨w9.heap.size, 0, none⟩ = some (.slice Uga ((bendM 3 1 3 c0 g1 a2 a3 a4).getD Gb.none).rows.length nga) := KBg.out.cell 0
    have x_KBg_1 : w16.cell? ⟨w9.heap.size, 1, none⟩ = some (.slice Ugb ((bendM 3 1 3 c0 g1 a2 a3 a4).getD Gb.none).ones.length ngb) := KBg.out.cell 1
    have x_KBg_2 : w16.cell? ⟨w9.heap.size, 2, none⟩ = some (.slice Ugc ((bendM 3 1 3 c0 g1 a2 a3 a4).getD Gb.none).cols.length ngc) := KBg.out.cell 2
    go_wp2_with fail
    refine (c_laws_markGarbled Qg.out hM (by omega)).mono ?_
    rintro e w17 ⟨rfl, om, ho⟩
    clear x_KBg_0 x_KBg_1 x_KBg_2
    replace HB := Lib.hid (anchor_only HB.out ho Rg.out la_g_HB)
    replace HK0 := Lib.hid (HK0.out.apart ho (ne_lo Rg.out lo_g_HK0))
    replace HK1 := Lib.hid (HK1.out.apart ho (ne_lo Rg.out lo_g_HK1))
    replace KBu := Lib.hid (KBu.out.apart ho (ne_lo Rg.out lo_g_KBu))
    replace HU := Lib.hid (anchor_only HU.out ho Rg.out la_g_HU)
    replace KX0 := Lib.hid (KX0.out.apart ho (ne_lo Rg.out lo_g_KX0))
    replace KX1 := Lib.hid (KX1.out.apart ho (ne_lo Rg.out lo_g_KX1))
    replace KBg := Lib.hid (KBg.out.apart ho (ne_hi Rg.out hi_g_KBg))
    replace Qg := Lib.hid om
    clear ho om
    have x_KBg_0 : w17.cell? ⟨w9.heap.size, 0, none⟩ = some (.slice Uga ((bendM 3 1 3 c0 g1 a2 a3 a4).getD Gb.none).rows.length nga) := KBg.out.cell 0
    have x_KBg_1 : w17.cell? ⟨w9.heap.size, 1, none⟩ = some (.slice Ugb ((bendM 3 1 3 c0 g1 a2 a3 a4).getD Gb.none).ones.length ngb) := KBg.out.cell 1
    have x_KBg_2 : w17.cell? ⟨w9.heap.size, 2, none⟩ = some (.slice Ugc ((bendM 3 1 3 c0 g1 a2 a3 a4).getD Gb.none).cols.length ngc) := KBg.out.cell 2
    go_wp2_with fail
    refine (c_laws_heldGarbled (g := (bendM 3 1 3 c0 g1 a2 a3 a4).getD Gb.none) Qg.out.gbIn hM (by omega)).mono ?_
    rintro e w18 ⟨rfl, hb⟩
    clear x_KBg_0 x_KBg_1 x_KBg_2
    replace HB := Lib.hid (below_step HB.out hb)
    replace HK0 := Lib.hid (HK0.out.step hb)
    replace HK1 := Lib.hid (HK1.out.step hb)
    replace KBu := Lib.hid (KBu.out.step hb)
    replace HU := Lib.hid (below_step HU.out hb)
    replace KX0 := Lib.hid (KX0.out.step hb)
    replace KX1 := Lib.hid (KX1.out.step hb)
    replace Qg := Lib.hid (Qg.out.below hb)
    replace KBg := Lib.hid (KBg.out.step hb)
    clear hb
    go_upto_region 31 with fail
    go_cut [21, 22] (fun s0 s1 wx => ∃ b rv nv cv, s0 = .pointer (some ⟨b, 0, none⟩) ∧ s1 = .bool (bendM 3 1 3 c0 g1 a2 a3 a4).isSome ∧ Hid (Blk wx b 47 #[rv, nv, cv]) ∧ Hid (GbIn wx rv nv cv ((bendM 3 1 3 c0 g1 a2 a3 a4).getD Gb.none)) ∧ Hid (Below w18.heap.size w18 wx))
    case first =>
      have q0 : ∀ w', Below w18.heap.size w18 w' → w'.cell? ⟨w.heap.size, 0, none⟩ = some (.int .i64 c0.i0) := fun w' h => (h.cell (p := ⟨w.heap.size, 0, none⟩) HK0.out.lt).trans (HK0.out.cell 0)
      have q1 : ∀ w', Below w18.heap.size w18 w' → w'.cell? ⟨w.heap.size, 1, none⟩ = some (.int .i64 c0.i1) := fun w' h => (h.cell (p := ⟨w.heap.size, 1, none⟩) HK0.out.lt).trans (HK0.out.cell 1)
      have q2 : ∀ w', Below w18.heap.size w18 w' → w'.cell? ⟨w.heap.size, 2, none⟩ = some (.slice A0a c0.gs.length n0a) := fun w' h => (h.cell (p := ⟨w.heap.size, 2, none⟩) HK0.out.lt).trans (HK0.out.cell 2)
      have q3 : ∀ w', Below w18.heap.size w18 w' → w'.cell? ⟨w.heap.size, 3, none⟩ = some (.slice A0b c0.outs.length n0b) := fun w' h => (h.cell (p := ⟨w.heap.size, 3, none⟩) HK0.out.lt).trans (HK0.out.cell 3)
      have q4 : ∀ w', Below w18.heap.size w18 w' → w'.cell? ⟨w.heap.size + 1, 0, none⟩ = some (.slice A1a g1.rows.length n1a) := fun w' h => (h.cell (p := ⟨w.heap.size + 1, 0, none⟩) HK1.out.lt).trans (HK1.out.cell 0)
      have q5 : ∀ w', Below w18.heap.size w18 w' → w'.cell? ⟨w.heap.size + 1, 1, none⟩ = some (.slice A1b g1.ones.length n1b) := fun w' h => (h.cell (p := ⟨w.heap.size + 1, 1, none⟩) HK1.out.lt).trans (HK1.out.cell 1)
      have q6 : ∀ w', Below w18.heap.size w18 w' → w'.cell? ⟨w.heap.size + 1, 2, none⟩ = some (.slice A1c g1.cols.length n1c) := fun w' h => (h.cell (p := ⟨w.heap.size + 1, 2, none⟩) HK1.out.lt).trans (HK1.out.cell 2)
      go_region_held3 (fun w' => Below w18.heap.size w18 w')
        (first | (refine below_step ?_ HD.out; assumption) | (exact (Below.refl _ _).drew) | (exact Below.refl _ _) | (exact Below.alloc (by assumption) (Below.size (B := w18.heap.size) (w := w18) (by assumption)) _) | (exact Below.alloc (Below.refl _ _) (Nat.le_refl _) _) | (exact below_refill (by assumption) (by first | exact Nat.le_refl _ | assumption | simp)) | (refine Below.setCell (Below.setCell (Below.setCell (by assumption) (p := ⟨_, 0, none⟩) ?_ _) (p := ⟨_, 1, none⟩) ?_ _) (p := ⟨_, 2, none⟩) ?_ _ <;> (first | exact Nat.le_refl _ | assumption)))
        (first
          | (go_at_call 17; refine (c_laws_toCircuit ((H0.out.below HB.out).below (by first | assumption | (refine Below.alloc ?_ (Below.size ?_) _ <;> assumption))) Z0.out.2.1 Z0.out.2.2).mono ?_; rintro e wa0 ⟨gvh0, ovh0, mh0, rfl, Oh0, hb⟩; (try (have X1 : Hid (Below wa1.heap.size wa1 wa0) := (by first | exact below_step X1.out hb | exact below_step (X1.out.alloc X1.out.size _) hb))); (try have hka := KZ.out.lt); have hs0 : w18.heap.size ≤ wa0.heap.size := Nat.le_trans (by first | exact Nat.le_refl _ | assumption | exact Nat.le_succ_of_le (by assumption) | (simp; done) | (simp; omega)) hb.size; (first | (replace KZ := Lib.hid (KZ.out.step hb)) | (have hka : w18.heap.size < (w18.drew.alloc (.cells #[.slice none 0 0, .slice none 0 0, .slice none 0 0] 47)).heap.size := by simp) | skip); (first | (have KZ0 := KZ) | (have KZ : Hid (Blk _ w18.heap.size _ _) := Lib.hid ((Blk.new w18.drew _ _).step hb)) | (have KZ := Lib.hid ((Blk.new _ _ _).step hb)) | skip); (try (have y0 := KZ.out.cell 0; have y1 := KZ.out.cell 1; have y2 := KZ.out.cell 2; have yf0 := KZ.out.free 0; have yf1 := KZ.out.free 1; have yf2 := KZ.out.free 2; simp only [List.getElem?_toArray, List.getElem?_cons_zero, List.getElem?_cons_succ] at y0 y1 y2)); have X0 := Lib.hid (Below.refl wa0.heap.size wa0); replace Oh0 := Lib.hid Oh0; have HD := Lib.hid hb)
          | (go_at_call 30; refine (c_laws_toGarbled ((H1.out.below HB.out).below (by first | assumption | (refine Below.alloc ?_ (Below.size ?_) _ <;> assumption))) Z1.out.2).mono ?_; rintro e wa1 ⟨rvh1, nvh1, cvh1, vsh1, rfl, Oh1, hb⟩; (try (have X0 : Hid (Below wa0.heap.size wa0 wa1) := (by first | exact below_step X0.out hb | exact below_step (X0.out.alloc X0.out.size _) hb))); (try have hka := KZ.out.lt); have hs1 : w18.heap.size ≤ wa1.heap.size := Nat.le_trans (by first | exact Nat.le_refl _ | assumption | exact Nat.le_succ_of_le (by assumption) | (simp; done) | (simp; omega)) hb.size; (first | (replace KZ := Lib.hid (KZ.out.step hb)) | (have hka : w18.heap.size < (w18.drew.alloc (.cells #[.slice none 0 0, .slice none 0 0, .slice none 0 0] 47)).heap.size := by simp) | skip); (first | (have KZ0 := KZ) | (have KZ : Hid (Blk _ w18.heap.size _ _) := Lib.hid ((Blk.new w18.drew _ _).step hb)) | (have KZ := Lib.hid ((Blk.new _ _ _).step hb)) | skip); (try (have y0 := KZ.out.cell 0; have y1 := KZ.out.cell 1; have y2 := KZ.out.cell 2; have yf0 := KZ.out.free 0; have yf1 := KZ.out.free 1; have yf2 := KZ.out.free 2; simp only [List.getElem?_toArray, List.getElem?_cons_zero, List.getElem?_cons_succ] at y0 y1 y2)); have X1 := Lib.hid (Below.refl wa1.heap.size wa1); replace Oh1 := Lib.hid Oh1; have HD := Lib.hid hb)
          | (go_at_call 49; refine (c_impl_BendRow (((Oh0.out.cir).below (by first | exact X0.out | exact X0.out.alloc X0.out.size _))) (((Oh1.out.gbIn).below (by first | exact X1.out | exact X1.out.alloc X1.out.size _))) Z1.out.2).mono ?_; rintro e wz ⟨rv, nv, cv, vs, rfl, Q, hb⟩; (try (have X0 : Hid (Below wa0.heap.size wa0 wz) := (by first | exact below_step X0.out hb | exact below_step (X0.out.alloc X0.out.size _) hb))); (try (have X1 : Hid (Below wa1.heap.size wa1 wz) := (by first | exact below_step X1.out hb | exact below_step (X1.out.alloc X1.out.size _) hb))); (try have hka := KZ.out.lt); have hsz : w18.heap.size ≤ wz.heap.size := Nat.le_trans (by first | exact Nat.le_refl _ | assumption | exact Nat.le_succ_of_le (by assumption) | (simp; done) | (simp; omega)) hb.size; (first | (replace KZ := Lib.hid (KZ.out.step hb)) | (have hka : w18.heap.size < (w18.drew.alloc (.cells #[.slice none 0 0, .slice none 0 0, .slice none 0 0] 47)).heap.size := by simp) | skip); (first | (have KZ0 := KZ) | (have KZ : Hid (Blk _ w18.heap.size _ _) := Lib.hid ((Blk.new w18.drew _ _).step hb)) | (have KZ := Lib.hid ((Blk.new _ _ _).step hb)) | skip); (try (have y0 := KZ.out.cell 0; have y1 := KZ.out.cell 1; have y2 := KZ.out.cell 2; have yf0 := KZ.out.free 0; have yf1 := KZ.out.free 1; have yf2 := KZ.out.free 2; simp only [List.getElem?_toArray, List.getElem?_cons_zero, List.getElem?_cons_succ] at y0 y1 y2));  obtain ⟨Za, za, rfl, -⟩ := Q.rows.rowsIn.form; obtain ⟨Zb, zb, rfl, -⟩ := Q.ones.ints; obtain ⟨Zc, zc, rfl, -⟩ := Q.cols.ints; replace Q := Lib.hid Q; unfold gbV;  have HD := Lib.hid hb))
      all_goals
        go_wp2_with fail
        go_meet
        first
          | exact ⟨_, _, _, _, rfl, rfl, Lib.hid (Blk.new _ _ _), Lib.hid (Q.out.gbIn.alloc _), Lib.hid (by assumption)⟩
          | exact ⟨_, _, _, _, rfl, rfl, Lib.hid (blk3 KZ.out _ _ _), Lib.hid (((Q.out.setLow (by first | exact hka | (simp; done) | (simp; omega)) 0 _).setLow (by first | exact hka | (simp; done) | (simp; omega)) 1 _).setLow (by first | exact hka | (simp; done) | (simp; omega)) 2 _).gbIn, Lib.hid (by assumption)⟩
    case rest =>
      obtain ⟨bh, ruh, nuh, cuh, rfl, rfl, KBh, Qh, HX⟩ := hcut
      revert HX Qh KBh
      generalize wc = w19
      intro KBh Qh HX
      replace HB := Lib.hid (below_step HB.out HX.out)
      replace HK0 := Lib.hid (HK0.out.step HX.out)
      replace HK1 := Lib.hid (HK1.out.step HX.out)
      replace KBu := Lib.hid (KBu.out.step HX.out)
      replace HU := Lib.hid (below_step HU.out HX.out)
      replace KX0 := Lib.hid (KX0.out.step HX.out)
      replace KX1 := Lib.hid (KX1.out.step HX.out)
      replace Qg := Lib.hid (Qg.out.below HX.out)
      replace KBg := Lib.hid (KBg.out.step HX.out)
      clear HX
      obtain ⟨Uha, nha, rfl, -⟩ := Qh.out.rows.form
      obtain ⟨Uhb, nhb, rfl, -⟩ := Qh.out.ones
      obtain ⟨Uhc, nhc, rfl, -⟩ := Qh.out.cols
      have x_KBh_0 : w19.cell? ⟨bh, 0, none⟩ = some (.slice Uha ((bendM 3 1 3 c0 g1 a2 a3 a4).getD Gb.none).rows.length nha) := KBh.out.cell 0
      have x_KBh_1 : w19.cell? ⟨bh, 1, none⟩ = some (.slice Uhb ((bendM 3 1 3 c0 g1 a2 a3 a4).getD Gb.none).ones.length nhb) := KBh.out.cell 1
      have x_KBh_2 : w19.cell? ⟨bh, 2, none⟩ = some (.slice Uhc ((bendM 3 1 3 c0 g1 a2 a3 a4).getD Gb.none).cols.length nhc) := KBh.out.cell 2
      have x_KBu_0 : w19.cell? ⟨bu, 0, none⟩ = some (.slice Uua ((bendM 3 1 3 c0 g1 a2 a3 a4).getD Gb.none).rows.length nua) := KBu.out.cell 0
      have x_KBu_1 : w19.cell? ⟨bu, 1, none⟩ = some (.slice Uub ((bendM 3 1 3 c0 g1 a2 a3 a4).getD Gb.none).ones.length nub) := KBu.out.cell 1
      have x_KBu_2 : w19.cell? ⟨bu, 2, none⟩ = some (.slice Uuc ((bendM 3 1 3 c0 g1 a2 a3 a4).getD Gb.none).cols.length nuc) := KBu.out.cell 2
      go_wp2_with fail
      refine (c_laws_eqGarbled Qh.out (Qu.out.below HU.out) hM).mono ?_
      rintro e w20 ⟨rfl, hb⟩
      clear x_KBh_0 x_KBh_1 x_KBh_2 x_KBu_0 x_KBu_1 x_KBu_2
      replace HB := Lib.hid (below_step HB.out hb)
      replace HK0 := Lib.hid (HK0.out.step hb)
      replace HK1 := Lib.hid (HK1.out.step hb)
      replace KBu := Lib.hid (KBu.out.step hb)
      replace HU := Lib.hid (below_step HU.out hb)
      replace KX0 := Lib.hid (KX0.out.step hb)
      replace KX1 := Lib.hid (KX1.out.step hb)
      replace Qg := Lib.hid (Qg.out.below hb)
      replace KBg := Lib.hid (KBg.out.step hb)
      replace KBh := Lib.hid (KBh.out.step hb)
      replace Qh := Lib.hid (Qh.out.below hb)
      clear hb
      have x_KBg_0 : w20.cell? ⟨w9.heap.size, 0, none⟩ = some (.slice Uga ((bendM 3 1 3 c0 g1 a2 a3 a4).getD Gb.none).rows.length nga) := KBg.out.cell 0
      have x_KBg_1 : w20.cell? ⟨w9.heap.size, 1, none⟩ = some (.slice Ugb ((bendM 3 1 3 c0 g1 a2 a3 a4).getD Gb.none).ones.length ngb) := KBg.out.cell 1
      have x_KBg_2 : w20.cell? ⟨w9.heap.size, 2, none⟩ = some (.slice Ugc ((bendM 3 1 3 c0 g1 a2 a3 a4).getD Gb.none).cols.length ngc) := KBg.out.cell 2
      go_wp2_with fail
      refine (c_laws_heldGarbled (g := (bendM 3 1 3 c0 g1 a2 a3 a4).getD Gb.none) Qg.out.gbIn hM (by omega)).mono ?_
      rintro e w21 ⟨rfl, hb⟩
      clear x_KBg_0 x_KBg_1 x_KBg_2
      replace HB := Lib.hid (below_step HB.out hb)
      replace HK0 := Lib.hid (HK0.out.step hb)
      replace HK1 := Lib.hid (HK1.out.step hb)
      replace KBu := Lib.hid (KBu.out.step hb)
      replace HU := Lib.hid (below_step HU.out hb)
      replace KX0 := Lib.hid (KX0.out.step hb)
      replace KX1 := Lib.hid (KX1.out.step hb)
      replace Qg := Lib.hid (Qg.out.below hb)
      replace KBg := Lib.hid (KBg.out.step hb)
      replace KBh := Lib.hid (KBh.out.step hb)
      replace Qh := Lib.hid (Qh.out.below hb)
      clear hb
      go_wp2
      go_ret
      exact ⟨rfl, HB.out⟩

end Go.Proofs.Ytamngnenpapogaa
