/- Contracts of the evaluation and the decoding of garbled and halved circuits. Conditions: the lists are short. -/
import Derived.Test.YtejeppjmlgfiaaaGreatWirL
import Derived.Test.YtejeppjmlgfiaaaGreatTabS
import Derived.Test.YtejeppjmlgfiaaaGreatXor
namespace Go.Proofs.YtejeppjmlgfiaaaGreat
open Go.RowKit
set_option linter.unusedVariables false

def evalM (n : Int) (F : Int → Int → Int → List Int → Int) (c : Cir) (g : Gb) (inp : List Int) : Option (List Int) :=
  if cirB c && tabB n c g && allB inp 0 65535 && decide ((inp.length : Int) = c.ins) then some (pickM (wiresM F g inp c.gs).1 c.outs) else none
def decodeM (n : Int) (c : Cir) (g : Gb) (l : List Int) : Option (List Int) :=
  if cirB c && tabB n c g && allB l 0 65535 && decide ((l.length : Int) = (c.outs.length : Int)) then some (xorsM (coloursM l) g.cols) else none
theorem evalM_len (n : Int) (F : Int → Int → Int → List Int → Int) (c : Cir) (g : Gb) (inp : List Int) : ((evalM n F c g inp).getD []).length ≤ c.outs.length := by
  unfold evalM; split
  · simp [pickM_length]
  · simp
theorem decodeM_len (n : Int) (c : Cir) (g : Gb) (l : List Int) : ((decodeM n c g l).getD []).length ≤ l.length := by
  unfold decodeM; split
  · simp [xorsM, coloursM_length]; omega
  · simp
/-- The outs are wires. -/
theorem outs_bd {F : Int → Int → Int → List Int → Int} {c : Cir} {g : Gb} {inp : List Int} (hc : cirB c = true) (hi : (inp.length : Int) = c.ins) : ∀ k ∈ c.outs, 0 ≤ k ∧ k < ((wiresM F g inp c.gs).1.length : Int) := by
  intro k hk
  have h1 := allB_bd (cirB_outs hc) k hk
  have h2 := (wires_inv (F := F) (T := g) (inp := inp) (cirB_kinds hc) c.gs.length (Nat.le_refl _)).1
  rw [List.take_of_length_le (Nat.le_refl _)] at h2
  unfold Cir.wires at h1
  omega
theorem wires_len {F : Int → Int → Int → List Int → Int} {c : Cir} {g : Gb} {inp : List Int} (hc : cirB c = true) (hi : (inp.length : Int) = c.ins) : (wiresM F g inp c.gs).1.length ≤ 340 := by
  have h2 := (wires_inv (F := F) (T := g) (inp := inp) (cirB_kinds hc) c.gs.length (Nat.le_refl _)).1
  rw [List.take_of_length_le (Nat.le_refl _)] at h2
  have hb := cirB_bd hc
  unfold Cir.ins at hi
  omega
theorem cntR_le {m : Nat} : ∀ rows : List (List Int), (∀ r ∈ rows, r.length ≤ m) → cntR rows ≤ m * rows.length
  | [], _ => by simp [cntR]
  | r :: rows, h => by
    have h1 := h r (by simp)
    have h2 := cntR_le rows fun x hx => h x (by simp [hx])
    have e : cntR (r :: rows) = r.length + cntR rows := by simp [cntR]
    rw [e, List.length_cons, Nat.mul_add, Nat.mul_one]
    omega
theorem tab_sz {n : Int} {c : Cir} {g : Gb} (hc : cirB c = true) (h : tabB n c g = true) (hn : 0 ≤ n ∧ n ≤ 3) : g.sz ≤ 2000 := by
  have ht := tabB_of h
  have hb := cirB_bd hc
  have h1 := cnt_bd 1 c.gs
  have h3 := cnt_bd 3 c.gs
  have hr := cntR_le (m := 3) g.rows (fun r hr => by have := (ht.2.1 r hr).1; omega)
  unfold Gb.sz
  omega
theorem cols_i64 {n : Int} {c : Cir} {g : Gb} (h : tabB n c g = true) : ∀ x ∈ g.cols, 0 ≤ x ∧ x ≤ 9223372036854775807 := allB_i64 (tabB_of h).2.2.2.2.2 (by omega)

set_option maxRecDepth 100000 in
set_option maxHeartbeats 2000000 in
theorem c_impl_EvalGarbled {c : Cir} {g : Gb} {gv ov rv nv cv vi : Value} {l : List Int} {w : World} (h : CirIn w gv ov c) (h2 : GbIn w rv nv cv g) (hs : g.sz ≤ 1048576) (hi : Ints w vi l) (hl : l.length ≤ 1048576) :
    Calls Tryz.prog 28 #[cirV c gv ov, gbV rv nv cv, vi] w (RetIB w (evalM 3 openM c g l)) := by
  have H := Lib.hid h
  have H2 := Lib.hid h2
  have HI := Lib.hid hi
  obtain ⟨hg, ho⟩ := h
  obtain ⟨A, cg, rfl, -⟩ := hg
  obtain ⟨A', co, rfl, -⟩ := ho
  obtain ⟨hr, ho, hcc⟩ := h2
  obtain ⟨A1, c1, rfl, -⟩ := hr.form
  obtain ⟨A2, c2, rfl, -⟩ := ho
  obtain ⟨A3, c3, rfl, -⟩ := hcc
  obtain ⟨AI, cI, rfl, -⟩ := hi
  clear hr
  unfold cirV gbV
  obtain ⟨w0, hw0⟩ : ∃ W, (w.alloc (.cells #[.int .i64 c.i0, .int .i64 c.i1, .slice A c.gs.length cg, .slice A' c.outs.length co] 26)).alloc (.cells #[.slice A1 g.rows.length c1, .slice A2 g.ones.length c2, .slice A3 g.cols.length c3] 50) = W := ⟨_, rfl⟩
  have HKC := Lib.hid ((Blk.new w 26 #[.int .i64 c.i0, .int .i64 c.i1, .slice A c.gs.length cg, .slice A' c.outs.length co]).alloc (.cells #[.slice A1 g.rows.length c1, .slice A2 g.ones.length c2, .slice A3 g.cols.length c3] 50))
  rw [hw0] at HKC
  have HKG := Lib.hid (Blk.new (w.alloc (.cells #[.int .i64 c.i0, .int .i64 c.i1, .slice A c.gs.length cg, .slice A' c.outs.length co] 26)) 50 #[.slice A1 g.rows.length c1, .slice A2 g.ones.length c2, .slice A3 g.cols.length c3])
  simp only [World.size_alloc, hw0] at HKG
  have HB : Hid (Below w.heap.size w w0) := by rw [← hw0]; exact ((Below.refl w.heap.size w).alloc (Nat.le_refl _) _).alloc (by simp) _
  have x0 : w0.cell? ⟨w.heap.size, 0, none⟩ = some (.int .i64 c.i0) := HKC.out.cell 0
  have x1 : w0.cell? ⟨w.heap.size, 1, none⟩ = some (.int .i64 c.i1) := HKC.out.cell 1
  have x2 : w0.cell? ⟨w.heap.size, 2, none⟩ = some (.slice A c.gs.length cg) := HKC.out.cell 2
  have x3 : w0.cell? ⟨w.heap.size, 3, none⟩ = some (.slice A' c.outs.length co) := HKC.out.cell 3
  have y0 : w0.cell? ⟨w.heap.size + 1, 0, none⟩ = some (.slice A1 g.rows.length c1) := HKG.out.cell 0
  have y1 : w0.cell? ⟨w.heap.size + 1, 1, none⟩ = some (.slice A2 g.ones.length c2) := HKG.out.cell 1
  have y2 : w0.cell? ⟨w.heap.size + 1, 2, none⟩ = some (.slice A3 g.cols.length c3) := HKG.out.cell 2
  go_enter Tryz.func28, Tryz.ntmps28
  go_wp2_with fail
  clear hw0 x0 x1 x2 x3 y0 y1 y2
  refine (c_impl_IsCircuit (H.out.below HB.out)).mono ?_
  rintro e w1 ⟨rfl, hb⟩
  replace HB := Lib.hid (below_step HB.out hb)
  replace HKC := Lib.hid (HKC.out.step hb)
  replace HKG := Lib.hid (HKG.out.step hb)
  clear hb
  rcases hc : cirB c with _ | _
  · have HM := Lib.hid (show evalM 3 openM c g l = none by simp [evalM, hc])
    go_wp2
    go_ret2; rw [HM.out]; exact RetIB.no_below HB.out
  have x0 : w1.cell? ⟨w.heap.size, 0, none⟩ = some (.int .i64 c.i0) := HKC.out.cell 0
  have x1 : w1.cell? ⟨w.heap.size, 1, none⟩ = some (.int .i64 c.i1) := HKC.out.cell 1
  have x2 : w1.cell? ⟨w.heap.size, 2, none⟩ = some (.slice A c.gs.length cg) := HKC.out.cell 2
  have x3 : w1.cell? ⟨w.heap.size, 3, none⟩ = some (.slice A' c.outs.length co) := HKC.out.cell 3
  have y0 : w1.cell? ⟨w.heap.size + 1, 0, none⟩ = some (.slice A1 g.rows.length c1) := HKG.out.cell 0
  have y1 : w1.cell? ⟨w.heap.size + 1, 1, none⟩ = some (.slice A2 g.ones.length c2) := HKG.out.cell 1
  have y2 : w1.cell? ⟨w.heap.size + 1, 2, none⟩ = some (.slice A3 g.cols.length c3) := HKG.out.cell 2
  have HC := Lib.hid hc
  clear hc
  go_wp2_with fail
  clear x0 x1 x2 x3 y0 y1 y2
  refine (c_impl_areTables (H.out.below HB.out) HC.out (H2.out.below HB.out) hs).mono ?_
  rintro e w2 ⟨rfl, hb⟩
  replace HB := Lib.hid (below_step HB.out hb)
  replace HKC := Lib.hid (HKC.out.step hb)
  replace HKG := Lib.hid (HKG.out.step hb)
  clear hb
  rcases ht : tabB 3 c g with _ | _
  · have HM := Lib.hid (show evalM 3 openM c g l = none by simp [evalM, ht])
    go_wp2
    go_ret2; rw [HM.out]; exact RetIB.no_below HB.out
  have HT := Lib.hid ht
  clear ht
  go_wp2_with fail
  refine (c_impl_areLabels (HI.out.below HB.out) (by omega)).mono ?_
  rintro e w3 ⟨rfl, hb⟩
  replace HB := Lib.hid (below_step HB.out hb)
  replace HKC := Lib.hid (HKC.out.step hb)
  replace HKG := Lib.hid (HKG.out.step hb)
  clear hb
  rcases ha : allB l 0 65535 with _ | _
  · have HM := Lib.hid (show evalM 3 openM c g l = none by simp [evalM, ha])
    go_wp2
    go_ret2; rw [HM.out]; exact RetIB.no_below HB.out
  have x0 : w3.cell? ⟨w.heap.size, 0, none⟩ = some (.int .i64 c.i0) := HKC.out.cell 0
  have x1 : w3.cell? ⟨w.heap.size, 1, none⟩ = some (.int .i64 c.i1) := HKC.out.cell 1
  have x2 : w3.cell? ⟨w.heap.size, 2, none⟩ = some (.slice A c.gs.length cg) := HKC.out.cell 2
  have x3 : w3.cell? ⟨w.heap.size, 3, none⟩ = some (.slice A' c.outs.length co) := HKC.out.cell 3
  have y0 : w3.cell? ⟨w.heap.size + 1, 0, none⟩ = some (.slice A1 g.rows.length c1) := HKG.out.cell 0
  have y1 : w3.cell? ⟨w.heap.size + 1, 1, none⟩ = some (.slice A2 g.ones.length c2) := HKG.out.cell 1
  have y2 : w3.cell? ⟨w.heap.size + 1, 2, none⟩ = some (.slice A3 g.cols.length c3) := HKG.out.cell 2
  have HA := Lib.hid ha
  have hbd := cirB_bd HC.out
  clear ha
  go_wp2_with fail
  clear x0 x1 x2 x3 y0 y1 y2
  refine (c_C_inputs (H.out.below HB.out) ⟨hbd.1, hbd.2.1, hbd.2.2.1, hbd.2.2.2.1⟩).mono ?_
  rintro e w4 ⟨rfl, hb⟩
  replace HB := Lib.hid (below_step HB.out hb)
  replace HKC := Lib.hid (HKC.out.step hb)
  replace HKG := Lib.hid (HKG.out.step hb)
  clear hb
  rcases hn : ((l.length : Int) != c.ins) with _ | _
  rotate_left
  · have HM := Lib.hid (show evalM 3 openM c g l = none by (have : ¬ (l.length : Int) = c.ins := (by simpa using hn)); simp [evalM, this])
    go_wp2
    go_ret2; rw [HM.out]; exact RetIB.no_below HB.out
  have HN := Lib.hid (show (l.length : Int) = c.ins by simpa using hn)
  have HM := Lib.hid (show evalM 3 openM c g l = some (pickM (wiresM openM g l c.gs).1 c.outs) by unfold evalM; rw [HC.out, HT.out, HA.out, HN.out]; simp)
  have hol : c.outs.length ≤ 40 := hbd.2.2.2.2.2
  have x0 : w4.cell? ⟨w.heap.size, 0, none⟩ = some (.int .i64 c.i0) := HKC.out.cell 0
  have x1 : w4.cell? ⟨w.heap.size, 1, none⟩ = some (.int .i64 c.i1) := HKC.out.cell 1
  have x2 : w4.cell? ⟨w.heap.size, 2, none⟩ = some (.slice A c.gs.length cg) := HKC.out.cell 2
  have x3 : w4.cell? ⟨w.heap.size, 3, none⟩ = some (.slice A' c.outs.length co) := HKC.out.cell 3
  have y0 : w4.cell? ⟨w.heap.size + 1, 0, none⟩ = some (.slice A1 g.rows.length c1) := HKG.out.cell 0
  have y1 : w4.cell? ⟨w.heap.size + 1, 1, none⟩ = some (.slice A2 g.ones.length c2) := HKG.out.cell 1
  have y2 : w4.cell? ⟨w.heap.size + 1, 2, none⟩ = some (.slice A3 g.cols.length c3) := HKG.out.cell 2
  have q0 := belowCell x0
  have q1 := belowCell x1
  have q2 := belowCell x2
  have q3 := belowCell x3
  have r0 := belowCell y0
  have r1 := belowCell y1
  have r2 := belowCell y2
  clear hbd x0 x1 x2 x3 y0 y1 y2
  go_wp2_with fail
  go_region_held3 (fun w' => Below w4.heap.size w4 w')
    (first | (refine below_step ?_ HD.out; assumption) | (exact (Below.refl _ _).drew))
    (first
      | (go_at_call 87; refine (c_labels_openedAnd ((H.out.below HB.out).below (by assumption)) HC.out ((H2.out.below HB.out).below (by assumption)) HT.out ((HI.out.below HB.out).below (by assumption)) HN.out (allB_bd HA.out)).mono ?_; rintro e wa ⟨u, rfl, hu, hb⟩; have HU := Lib.hid hu.ints; have HF := Lib.hid (show Below w4.heap.size w4 wa from below_step (by assumption) hb); have HD := Lib.hid hb)
      | (go_at_call 78; refine (c_impl_at HU.out ((H.out.below HB.out).below (by assumption)).outs (Nat.le_trans (wires_len HC.out HN.out) (by omega)) (by omega) (outs_bd HC.out HN.out)).mono ?_; rintro e wb ⟨u2, rfl, hu2, hb⟩; have HD := Lib.hid hb; have HV := Lib.hid hu2; have hsz := hb.size))
  have hE : Below w4.heap.size w4 wb := by assumption
  go_wp2
  go_ret2; rw [HM.out]
  exact RetIB.yes (HV.out.mono (Nat.le_trans HB.out.size HF.out.size)) (below_step HB.out hE)
set_option maxRecDepth 100000 in
set_option maxHeartbeats 2000000 in
theorem c_impl_DecodeOuts {c : Cir} {g : Gb} {gv ov rv nv cv vi : Value} {l : List Int} {w : World} (h : CirIn w gv ov c) (h2 : GbIn w rv nv cv g) (hs : g.sz ≤ 1048576) (hi : Ints w vi l) (hl : l.length ≤ 1048576) :
    Calls Tryz.prog 30 #[cirV c gv ov, gbV rv nv cv, vi] w (RetIB w (decodeM 3 c g l)) := by
  have H := Lib.hid h
  have H2 := Lib.hid h2
  have HI := Lib.hid hi
  obtain ⟨hg, ho⟩ := h
  obtain ⟨A, cg, rfl, -⟩ := hg
  obtain ⟨A', co, rfl, -⟩ := ho
  obtain ⟨hr, ho, hcc⟩ := h2
  obtain ⟨A1, c1, rfl, -⟩ := hr.form
  obtain ⟨A2, c2, rfl, -⟩ := ho
  obtain ⟨A3, c3, rfl, -⟩ := hcc
  obtain ⟨AI, cI, rfl, -⟩ := hi
  clear hr
  unfold cirV gbV
  obtain ⟨w0, hw0⟩ : ∃ W, (w.alloc (.cells #[.int .i64 c.i0, .int .i64 c.i1, .slice A c.gs.length cg, .slice A' c.outs.length co] 26)).alloc (.cells #[.slice A1 g.rows.length c1, .slice A2 g.ones.length c2, .slice A3 g.cols.length c3] 50) = W := ⟨_, rfl⟩
  have HKC := Lib.hid ((Blk.new w 26 #[.int .i64 c.i0, .int .i64 c.i1, .slice A c.gs.length cg, .slice A' c.outs.length co]).alloc (.cells #[.slice A1 g.rows.length c1, .slice A2 g.ones.length c2, .slice A3 g.cols.length c3] 50))
  rw [hw0] at HKC
  have HKG := Lib.hid (Blk.new (w.alloc (.cells #[.int .i64 c.i0, .int .i64 c.i1, .slice A c.gs.length cg, .slice A' c.outs.length co] 26)) 50 #[.slice A1 g.rows.length c1, .slice A2 g.ones.length c2, .slice A3 g.cols.length c3])
  simp only [World.size_alloc, hw0] at HKG
  have HB : Hid (Below w.heap.size w w0) := by rw [← hw0]; exact ((Below.refl w.heap.size w).alloc (Nat.le_refl _) _).alloc (by simp) _
  have x0 : w0.cell? ⟨w.heap.size, 0, none⟩ = some (.int .i64 c.i0) := HKC.out.cell 0
  have x1 : w0.cell? ⟨w.heap.size, 1, none⟩ = some (.int .i64 c.i1) := HKC.out.cell 1
  have x2 : w0.cell? ⟨w.heap.size, 2, none⟩ = some (.slice A c.gs.length cg) := HKC.out.cell 2
  have x3 : w0.cell? ⟨w.heap.size, 3, none⟩ = some (.slice A' c.outs.length co) := HKC.out.cell 3
  have y0 : w0.cell? ⟨w.heap.size + 1, 0, none⟩ = some (.slice A1 g.rows.length c1) := HKG.out.cell 0
  have y1 : w0.cell? ⟨w.heap.size + 1, 1, none⟩ = some (.slice A2 g.ones.length c2) := HKG.out.cell 1
  have y2 : w0.cell? ⟨w.heap.size + 1, 2, none⟩ = some (.slice A3 g.cols.length c3) := HKG.out.cell 2
  go_enter Tryz.func30, Tryz.ntmps30
  go_wp2_with fail
  clear hw0 x0 x1 x2 x3 y0 y1 y2
  refine (c_impl_IsCircuit (H.out.below HB.out)).mono ?_
  rintro e w1 ⟨rfl, hb⟩
  replace HB := Lib.hid (below_step HB.out hb)
  replace HKC := Lib.hid (HKC.out.step hb)
  replace HKG := Lib.hid (HKG.out.step hb)
  clear hb
  rcases hc : cirB c with _ | _
  · have HM := Lib.hid (show decodeM 3 c g l = none by simp [decodeM, hc])
    go_wp2
    go_ret2; rw [HM.out]; exact RetIB.no_below HB.out
  have x0 : w1.cell? ⟨w.heap.size, 0, none⟩ = some (.int .i64 c.i0) := HKC.out.cell 0
  have x1 : w1.cell? ⟨w.heap.size, 1, none⟩ = some (.int .i64 c.i1) := HKC.out.cell 1
  have x2 : w1.cell? ⟨w.heap.size, 2, none⟩ = some (.slice A c.gs.length cg) := HKC.out.cell 2
  have x3 : w1.cell? ⟨w.heap.size, 3, none⟩ = some (.slice A' c.outs.length co) := HKC.out.cell 3
  have y0 : w1.cell? ⟨w.heap.size + 1, 0, none⟩ = some (.slice A1 g.rows.length c1) := HKG.out.cell 0
  have y1 : w1.cell? ⟨w.heap.size + 1, 1, none⟩ = some (.slice A2 g.ones.length c2) := HKG.out.cell 1
  have y2 : w1.cell? ⟨w.heap.size + 1, 2, none⟩ = some (.slice A3 g.cols.length c3) := HKG.out.cell 2
  have HC := Lib.hid hc
  clear hc
  go_wp2_with fail
  clear x0 x1 x2 x3 y0 y1 y2
  refine (c_impl_areTables (H.out.below HB.out) HC.out (H2.out.below HB.out) hs).mono ?_
  rintro e w2 ⟨rfl, hb⟩
  replace HB := Lib.hid (below_step HB.out hb)
  replace HKC := Lib.hid (HKC.out.step hb)
  replace HKG := Lib.hid (HKG.out.step hb)
  clear hb
  rcases ht : tabB 3 c g with _ | _
  · have HM := Lib.hid (show decodeM 3 c g l = none by simp [decodeM, ht])
    go_wp2
    go_ret2; rw [HM.out]; exact RetIB.no_below HB.out
  have HT := Lib.hid ht
  clear ht
  go_wp2_with fail
  refine (c_impl_areLabels (HI.out.below HB.out) (by omega)).mono ?_
  rintro e w3 ⟨rfl, hb⟩
  replace HB := Lib.hid (below_step HB.out hb)
  replace HKC := Lib.hid (HKC.out.step hb)
  replace HKG := Lib.hid (HKG.out.step hb)
  clear hb
  rcases ha : allB l 0 65535 with _ | _
  · have HM := Lib.hid (show decodeM 3 c g l = none by simp [decodeM, ha])
    go_wp2
    go_ret2; rw [HM.out]; exact RetIB.no_below HB.out
  have x0 : w3.cell? ⟨w.heap.size, 0, none⟩ = some (.int .i64 c.i0) := HKC.out.cell 0
  have x1 : w3.cell? ⟨w.heap.size, 1, none⟩ = some (.int .i64 c.i1) := HKC.out.cell 1
  have x2 : w3.cell? ⟨w.heap.size, 2, none⟩ = some (.slice A c.gs.length cg) := HKC.out.cell 2
  have x3 : w3.cell? ⟨w.heap.size, 3, none⟩ = some (.slice A' c.outs.length co) := HKC.out.cell 3
  have y0 : w3.cell? ⟨w.heap.size + 1, 0, none⟩ = some (.slice A1 g.rows.length c1) := HKG.out.cell 0
  have y1 : w3.cell? ⟨w.heap.size + 1, 1, none⟩ = some (.slice A2 g.ones.length c2) := HKG.out.cell 1
  have y2 : w3.cell? ⟨w.heap.size + 1, 2, none⟩ = some (.slice A3 g.cols.length c3) := HKG.out.cell 2
  have HA := Lib.hid ha
  clear ha
  rcases hn : ((l.length : Int) != (c.outs.length : Int)) with _ | _
  rotate_left
  · have HM := Lib.hid (show decodeM 3 c g l = none by (have : ¬ (l.length : Int) = (c.outs.length : Int) := (by simpa using hn)); simp only [decodeM, this, decide_false, Bool.and_false]; rfl)
    go_wp2
    go_ret2; rw [HM.out]; exact RetIB.no_below HB.out
  have HN := Lib.hid (show (l.length : Int) = (c.outs.length : Int) by simpa using hn)
  have HM := Lib.hid (show decodeM 3 c g l = some (xorsM (coloursM l) g.cols) by unfold decodeM; rw [HC.out, HT.out, HA.out, HN.out]; simp)
  have HL := Lib.hid (show (coloursM l).length = g.cols.length by have h1 := (tabB_of HT.out).2.2.2.2.1; have h2 := HN.out; rw [coloursM_length]; omega)
  have q0 := belowCell x0
  have q1 := belowCell x1
  have q2 := belowCell x2
  have q3 := belowCell x3
  have r0 := belowCell y0
  have r1 := belowCell y1
  have r2 := belowCell y2
  go_wp2_with fail
  clear x0 x1 x2 x3 y0 y1 y2
  go_region_held3 (fun w' => Below w3.heap.size w3 w')
    (first | (refine below_step ?_ HD.out; assumption) | (exact (Below.refl _ _).drew))
    (first
      | (go_at_call 98; refine (c_impl_colours ((HI.out.below HB.out).below (by assumption)) (by omega) (allB_i64 HA.out (by omega))).mono ?_; rintro e wa ⟨u, rfl, hu, hb⟩; have HU := Lib.hid hu.ints; have HF := Lib.hid (show Below w3.heap.size w3 wa from below_step (by assumption) hb); have HD := Lib.hid hb)
      | (go_at_call 97; refine (c_impl_xored HU.out ((H2.out.below HB.out).below (by assumption)).cols (by rw [coloursM_length]; omega) HL.out (coloursM_i64 l) (cols_i64 HT.out)).mono ?_; rintro e wb ⟨u2, rfl, hu2, hb⟩; have HD := Lib.hid hb; have HV := Lib.hid hu2; have hsz := hb.size))
  have hE : Below w3.heap.size w3 wb := by assumption
  go_wp2
  go_ret2; rw [HM.out]
  exact RetIB.yes (HV.out.mono (Nat.le_trans HB.out.size HF.out.size)) (below_step HB.out hE)
set_option maxRecDepth 100000 in
set_option maxHeartbeats 2000000 in
theorem c_spec_DecodeOuts {c : Cir} {g : Gb} {gv ov rv nv cv vi : Value} {l : List Int} {w : World} (h : CirIn w gv ov c) (h2 : GbIn w rv nv cv g) (hs : g.sz ≤ 1048576) (hi : Ints w vi l) (hl : l.length ≤ 1048576) :
    Calls Tryz.prog 47 #[cirV c gv ov, gbV rv nv cv, vi] w (RetIB w (decodeM 3 c g l)) := by
  have H := Lib.hid h
  have H2 := Lib.hid h2
  have HI := Lib.hid hi
  obtain ⟨hg, ho⟩ := h
  obtain ⟨A, cg, rfl, -⟩ := hg
  obtain ⟨A', co, rfl, -⟩ := ho
  obtain ⟨hr, ho, hcc⟩ := h2
  obtain ⟨A1, c1, rfl, -⟩ := hr.form
  obtain ⟨A2, c2, rfl, -⟩ := ho
  obtain ⟨A3, c3, rfl, -⟩ := hcc
  obtain ⟨AI, cI, rfl, -⟩ := hi
  clear hr
  unfold cirV gbV
  obtain ⟨w0, hw0⟩ : ∃ W, (w.alloc (.cells #[.int .i64 c.i0, .int .i64 c.i1, .slice A c.gs.length cg, .slice A' c.outs.length co] 26)).alloc (.cells #[.slice A1 g.rows.length c1, .slice A2 g.ones.length c2, .slice A3 g.cols.length c3] 50) = W := ⟨_, rfl⟩
  have HKC := Lib.hid ((Blk.new w 26 #[.int .i64 c.i0, .int .i64 c.i1, .slice A c.gs.length cg, .slice A' c.outs.length co]).alloc (.cells #[.slice A1 g.rows.length c1, .slice A2 g.ones.length c2, .slice A3 g.cols.length c3] 50))
  rw [hw0] at HKC
  have HKG := Lib.hid (Blk.new (w.alloc (.cells #[.int .i64 c.i0, .int .i64 c.i1, .slice A c.gs.length cg, .slice A' c.outs.length co] 26)) 50 #[.slice A1 g.rows.length c1, .slice A2 g.ones.length c2, .slice A3 g.cols.length c3])
  simp only [World.size_alloc, hw0] at HKG
  have HB : Hid (Below w.heap.size w w0) := by rw [← hw0]; exact ((Below.refl w.heap.size w).alloc (Nat.le_refl _) _).alloc (by simp) _
  have x0 : w0.cell? ⟨w.heap.size, 0, none⟩ = some (.int .i64 c.i0) := HKC.out.cell 0
  have x1 : w0.cell? ⟨w.heap.size, 1, none⟩ = some (.int .i64 c.i1) := HKC.out.cell 1
  have x2 : w0.cell? ⟨w.heap.size, 2, none⟩ = some (.slice A c.gs.length cg) := HKC.out.cell 2
  have x3 : w0.cell? ⟨w.heap.size, 3, none⟩ = some (.slice A' c.outs.length co) := HKC.out.cell 3
  have y0 : w0.cell? ⟨w.heap.size + 1, 0, none⟩ = some (.slice A1 g.rows.length c1) := HKG.out.cell 0
  have y1 : w0.cell? ⟨w.heap.size + 1, 1, none⟩ = some (.slice A2 g.ones.length c2) := HKG.out.cell 1
  have y2 : w0.cell? ⟨w.heap.size + 1, 2, none⟩ = some (.slice A3 g.cols.length c3) := HKG.out.cell 2
  go_enter Tryz.func47, Tryz.ntmps47
  go_wp2_with fail
  clear hw0 x0 x1 x2 x3 y0 y1 y2
  refine (c_spec_ciGood (H.out.below HB.out)).mono ?_
  rintro e w1 ⟨rfl, hb⟩
  replace HB := Lib.hid (below_step HB.out hb)
  replace HKC := Lib.hid (HKC.out.step hb)
  replace HKG := Lib.hid (HKG.out.step hb)
  clear hb
  rcases hc : cirB c with _ | _
  · have HM := Lib.hid (show decodeM 3 c g l = none by simp [decodeM, hc])
    go_wp2
    go_ret2; rw [HM.out]; exact RetIB.no_below HB.out
  have x0 : w1.cell? ⟨w.heap.size, 0, none⟩ = some (.int .i64 c.i0) := HKC.out.cell 0
  have x1 : w1.cell? ⟨w.heap.size, 1, none⟩ = some (.int .i64 c.i1) := HKC.out.cell 1
  have x2 : w1.cell? ⟨w.heap.size, 2, none⟩ = some (.slice A c.gs.length cg) := HKC.out.cell 2
  have x3 : w1.cell? ⟨w.heap.size, 3, none⟩ = some (.slice A' c.outs.length co) := HKC.out.cell 3
  have y0 : w1.cell? ⟨w.heap.size + 1, 0, none⟩ = some (.slice A1 g.rows.length c1) := HKG.out.cell 0
  have y1 : w1.cell? ⟨w.heap.size + 1, 1, none⟩ = some (.slice A2 g.ones.length c2) := HKG.out.cell 1
  have y2 : w1.cell? ⟨w.heap.size + 1, 2, none⟩ = some (.slice A3 g.cols.length c3) := HKG.out.cell 2
  have HC := Lib.hid hc
  clear hc
  go_wp2_with fail
  clear x0 x1 x2 x3 y0 y1 y2
  refine (c_spec_gbGood (H.out.below HB.out) HC.out (H2.out.below HB.out) hs).mono ?_
  rintro e w2 ⟨rfl, hb⟩
  replace HB := Lib.hid (below_step HB.out hb)
  replace HKC := Lib.hid (HKC.out.step hb)
  replace HKG := Lib.hid (HKG.out.step hb)
  clear hb
  rcases ht : tabB 3 c g with _ | _
  · have HM := Lib.hid (show decodeM 3 c g l = none by simp [decodeM, ht])
    go_wp2
    go_ret2; rw [HM.out]; exact RetIB.no_below HB.out
  have HT := Lib.hid ht
  clear ht
  have x0 : w2.cell? ⟨w.heap.size, 0, none⟩ = some (.int .i64 c.i0) := HKC.out.cell 0
  have x1 : w2.cell? ⟨w.heap.size, 1, none⟩ = some (.int .i64 c.i1) := HKC.out.cell 1
  have x2 : w2.cell? ⟨w.heap.size, 2, none⟩ = some (.slice A c.gs.length cg) := HKC.out.cell 2
  have x3 : w2.cell? ⟨w.heap.size, 3, none⟩ = some (.slice A' c.outs.length co) := HKC.out.cell 3
  have y0 : w2.cell? ⟨w.heap.size + 1, 0, none⟩ = some (.slice A1 g.rows.length c1) := HKG.out.cell 0
  have y1 : w2.cell? ⟨w.heap.size + 1, 1, none⟩ = some (.slice A2 g.ones.length c2) := HKG.out.cell 1
  have y2 : w2.cell? ⟨w.heap.size + 1, 2, none⟩ = some (.slice A3 g.cols.length c3) := HKG.out.cell 2
  rcases hn : ((l.length : Int) != (c.outs.length : Int)) with _ | _
  rotate_left
  · have HM := Lib.hid (show decodeM 3 c g l = none by (have : ¬ (l.length : Int) = (c.outs.length : Int) := (by simpa using hn)); simp only [decodeM, this, decide_false, Bool.and_false]; rfl)
    go_wp2
    go_ret2; rw [HM.out]; exact RetIB.no_below HB.out
  have HN := Lib.hid (show (l.length : Int) = (c.outs.length : Int) by simpa using hn)
  have hbd := cirB_bd HC.out
  have hol : c.outs.length ≤ 40 := hbd.2.2.2.2.2
  have HLB := Lib.hid (show labsB l = allB l 0 65535 by have h2 := HN.out; simp [labsB]; intro _; omega)
  clear hbd
  go_wp2_with fail
  refine (c_spec_lbAll (HI.out.below HB.out) (by omega)).mono ?_
  rw [HLB.out]
  rintro e w' ⟨rfl, rfl⟩
  rcases ha : allB l 0 65535 with _ | _
  · have HM := Lib.hid (show decodeM 3 c g l = none by simp [decodeM, ha])
    go_wp2
    go_ret2; rw [HM.out]; exact RetIB.no_below HB.out
  have HA := Lib.hid ha
  have HM := Lib.hid (show decodeM 3 c g l = some (xorsM (coloursM l) g.cols) by unfold decodeM; rw [HC.out, HT.out, HA.out, HN.out]; simp)
  have HL := Lib.hid (show (coloursM l).length = g.cols.length by have h1 := (tabB_of HT.out).2.2.2.2.1; have h2 := HN.out; rw [coloursM_length]; omega)
  have q0 := belowCell x0
  have q1 := belowCell x1
  have q2 := belowCell x2
  have q3 := belowCell x3
  have r0 := belowCell y0
  have r1 := belowCell y1
  have r2 := belowCell y2
  clear ha x0 x1 x2 x3 y0 y1 y2
  go_wp2_with fail
  go_region_held3 (fun w' => Below w2.heap.size w2 w')
    (first | (refine below_step ?_ HD.out; assumption) | (exact (Below.refl _ _).drew))
    (first
      | (go_at_call 68; refine (c_spec_lbColours ((HI.out.below HB.out).below (by assumption)) (by omega) (allB_i64 HA.out (by omega))).mono ?_; rintro e wa ⟨u, rfl, hu, hb⟩; have HU := Lib.hid hu.ints; have HF := Lib.hid (show Below w2.heap.size w2 wa from below_step (by assumption) hb); have HD := Lib.hid hb)
      | (go_at_call 67; refine (c_spec_btXor HU.out ((H2.out.below HB.out).below (by assumption)).cols (by rw [coloursM_length]; omega) HL.out (coloursM_i64 l) (cols_i64 HT.out)).mono ?_; rintro e wb ⟨u2, rfl, hu2, hb⟩; have HD := Lib.hid hb; have HV := Lib.hid hu2; have hsz := hb.size))
  have hE : Below w2.heap.size w2 wb := by assumption
  go_wp2
  go_ret2; rw [HM.out]
  exact RetIB.yes (HV.out.mono (Nat.le_trans HB.out.size HF.out.size)) (below_step HB.out hE)
set_option maxRecDepth 100000 in
set_option maxHeartbeats 2000000 in
theorem c_impl_EvalHalved {c : Cir} {g : Gb} {gv ov rv nv cv vi : Value} {l : List Int} {w : World} (h : CirIn w gv ov c) (h2 : GbIn w rv nv cv g) (hs : g.sz ≤ 1048576) (hi : Ints w vi l) (hl : l.length ≤ 1048576) :
    Calls Tryz.prog 21 #[cirV c gv ov, gbV rv nv cv, vi] w (RetIB w (evalM 2 joinM c g l)) := by
  have H := Lib.hid h
  have H2 := Lib.hid h2
  have HI := Lib.hid hi
  obtain ⟨hg, ho⟩ := h
  obtain ⟨A, cg, rfl, -⟩ := hg
  obtain ⟨A', co, rfl, -⟩ := ho
  obtain ⟨hr, ho, hcc⟩ := h2
  obtain ⟨A1, c1, rfl, -⟩ := hr.form
  obtain ⟨A2, c2, rfl, -⟩ := ho
  obtain ⟨A3, c3, rfl, -⟩ := hcc
  obtain ⟨AI, cI, rfl, -⟩ := hi
  clear hr
  unfold cirV gbV
  obtain ⟨w0, hw0⟩ : ∃ W, (w.alloc (.cells #[.int .i64 c.i0, .int .i64 c.i1, .slice A c.gs.length cg, .slice A' c.outs.length co] 26)).alloc (.cells #[.slice A1 g.rows.length c1, .slice A2 g.ones.length c2, .slice A3 g.cols.length c3] 35) = W := ⟨_, rfl⟩
  have HKC := Lib.hid ((Blk.new w 26 #[.int .i64 c.i0, .int .i64 c.i1, .slice A c.gs.length cg, .slice A' c.outs.length co]).alloc (.cells #[.slice A1 g.rows.length c1, .slice A2 g.ones.length c2, .slice A3 g.cols.length c3] 35))
  rw [hw0] at HKC
  have HKG := Lib.hid (Blk.new (w.alloc (.cells #[.int .i64 c.i0, .int .i64 c.i1, .slice A c.gs.length cg, .slice A' c.outs.length co] 26)) 35 #[.slice A1 g.rows.length c1, .slice A2 g.ones.length c2, .slice A3 g.cols.length c3])
  simp only [World.size_alloc, hw0] at HKG
  have HB : Hid (Below w.heap.size w w0) := by rw [← hw0]; exact ((Below.refl w.heap.size w).alloc (Nat.le_refl _) _).alloc (by simp) _
  have x0 : w0.cell? ⟨w.heap.size, 0, none⟩ = some (.int .i64 c.i0) := HKC.out.cell 0
  have x1 : w0.cell? ⟨w.heap.size, 1, none⟩ = some (.int .i64 c.i1) := HKC.out.cell 1
  have x2 : w0.cell? ⟨w.heap.size, 2, none⟩ = some (.slice A c.gs.length cg) := HKC.out.cell 2
  have x3 : w0.cell? ⟨w.heap.size, 3, none⟩ = some (.slice A' c.outs.length co) := HKC.out.cell 3
  have y0 : w0.cell? ⟨w.heap.size + 1, 0, none⟩ = some (.slice A1 g.rows.length c1) := HKG.out.cell 0
  have y1 : w0.cell? ⟨w.heap.size + 1, 1, none⟩ = some (.slice A2 g.ones.length c2) := HKG.out.cell 1
  have y2 : w0.cell? ⟨w.heap.size + 1, 2, none⟩ = some (.slice A3 g.cols.length c3) := HKG.out.cell 2
  go_enter Tryz.func21, Tryz.ntmps21
  go_wp2_with fail
  clear hw0 x0 x1 x2 x3 y0 y1 y2
  refine (c_impl_IsCircuit (H.out.below HB.out)).mono ?_
  rintro e w1 ⟨rfl, hb⟩
  replace HB := Lib.hid (below_step HB.out hb)
  replace HKC := Lib.hid (HKC.out.step hb)
  replace HKG := Lib.hid (HKG.out.step hb)
  clear hb
  rcases hc : cirB c with _ | _
  · have HM := Lib.hid (show evalM 2 joinM c g l = none by simp [evalM, hc])
    go_wp2
    go_ret2; rw [HM.out]; exact RetIB.no_below HB.out
  have x0 : w1.cell? ⟨w.heap.size, 0, none⟩ = some (.int .i64 c.i0) := HKC.out.cell 0
  have x1 : w1.cell? ⟨w.heap.size, 1, none⟩ = some (.int .i64 c.i1) := HKC.out.cell 1
  have x2 : w1.cell? ⟨w.heap.size, 2, none⟩ = some (.slice A c.gs.length cg) := HKC.out.cell 2
  have x3 : w1.cell? ⟨w.heap.size, 3, none⟩ = some (.slice A' c.outs.length co) := HKC.out.cell 3
  have y0 : w1.cell? ⟨w.heap.size + 1, 0, none⟩ = some (.slice A1 g.rows.length c1) := HKG.out.cell 0
  have y1 : w1.cell? ⟨w.heap.size + 1, 1, none⟩ = some (.slice A2 g.ones.length c2) := HKG.out.cell 1
  have y2 : w1.cell? ⟨w.heap.size + 1, 2, none⟩ = some (.slice A3 g.cols.length c3) := HKG.out.cell 2
  have HC := Lib.hid hc
  clear hc
  go_wp2_with fail
  clear x0 x1 x2 x3 y0 y1 y2
  refine (c_impl_areTables (H.out.below HB.out) HC.out (H2.out.below HB.out) hs).mono ?_
  rintro e w2 ⟨rfl, hb⟩
  replace HB := Lib.hid (below_step HB.out hb)
  replace HKC := Lib.hid (HKC.out.step hb)
  replace HKG := Lib.hid (HKG.out.step hb)
  clear hb
  rcases ht : tabB 2 c g with _ | _
  · have HM := Lib.hid (show evalM 2 joinM c g l = none by simp [evalM, ht])
    go_wp2
    go_ret2; rw [HM.out]; exact RetIB.no_below HB.out
  have HT := Lib.hid ht
  clear ht
  go_wp2_with fail
  refine (c_impl_areLabels (HI.out.below HB.out) (by omega)).mono ?_
  rintro e w3 ⟨rfl, hb⟩
  replace HB := Lib.hid (below_step HB.out hb)
  replace HKC := Lib.hid (HKC.out.step hb)
  replace HKG := Lib.hid (HKG.out.step hb)
  clear hb
  rcases ha : allB l 0 65535 with _ | _
  · have HM := Lib.hid (show evalM 2 joinM c g l = none by simp [evalM, ha])
    go_wp2
    go_ret2; rw [HM.out]; exact RetIB.no_below HB.out
  have x0 : w3.cell? ⟨w.heap.size, 0, none⟩ = some (.int .i64 c.i0) := HKC.out.cell 0
  have x1 : w3.cell? ⟨w.heap.size, 1, none⟩ = some (.int .i64 c.i1) := HKC.out.cell 1
  have x2 : w3.cell? ⟨w.heap.size, 2, none⟩ = some (.slice A c.gs.length cg) := HKC.out.cell 2
  have x3 : w3.cell? ⟨w.heap.size, 3, none⟩ = some (.slice A' c.outs.length co) := HKC.out.cell 3
  have y0 : w3.cell? ⟨w.heap.size + 1, 0, none⟩ = some (.slice A1 g.rows.length c1) := HKG.out.cell 0
  have y1 : w3.cell? ⟨w.heap.size + 1, 1, none⟩ = some (.slice A2 g.ones.length c2) := HKG.out.cell 1
  have y2 : w3.cell? ⟨w.heap.size + 1, 2, none⟩ = some (.slice A3 g.cols.length c3) := HKG.out.cell 2
  have HA := Lib.hid ha
  have hbd := cirB_bd HC.out
  clear ha
  go_wp2_with fail
  clear x0 x1 x2 x3 y0 y1 y2
  refine (c_C_inputs (H.out.below HB.out) ⟨hbd.1, hbd.2.1, hbd.2.2.1, hbd.2.2.2.1⟩).mono ?_
  rintro e w4 ⟨rfl, hb⟩
  replace HB := Lib.hid (below_step HB.out hb)
  replace HKC := Lib.hid (HKC.out.step hb)
  replace HKG := Lib.hid (HKG.out.step hb)
  clear hb
  rcases hn : ((l.length : Int) != c.ins) with _ | _
  rotate_left
  · have HM := Lib.hid (show evalM 2 joinM c g l = none by (have : ¬ (l.length : Int) = c.ins := (by simpa using hn)); simp [evalM, this])
    go_wp2
    go_ret2; rw [HM.out]; exact RetIB.no_below HB.out
  have HN := Lib.hid (show (l.length : Int) = c.ins by simpa using hn)
  have HM := Lib.hid (show evalM 2 joinM c g l = some (pickM (wiresM joinM g l c.gs).1 c.outs) by unfold evalM; rw [HC.out, HT.out, HA.out, HN.out]; simp)
  have hol : c.outs.length ≤ 40 := hbd.2.2.2.2.2
  have x0 : w4.cell? ⟨w.heap.size, 0, none⟩ = some (.int .i64 c.i0) := HKC.out.cell 0
  have x1 : w4.cell? ⟨w.heap.size, 1, none⟩ = some (.int .i64 c.i1) := HKC.out.cell 1
  have x2 : w4.cell? ⟨w.heap.size, 2, none⟩ = some (.slice A c.gs.length cg) := HKC.out.cell 2
  have x3 : w4.cell? ⟨w.heap.size, 3, none⟩ = some (.slice A' c.outs.length co) := HKC.out.cell 3
  have y0 : w4.cell? ⟨w.heap.size + 1, 0, none⟩ = some (.slice A1 g.rows.length c1) := HKG.out.cell 0
  have y1 : w4.cell? ⟨w.heap.size + 1, 1, none⟩ = some (.slice A2 g.ones.length c2) := HKG.out.cell 1
  have y2 : w4.cell? ⟨w.heap.size + 1, 2, none⟩ = some (.slice A3 g.cols.length c3) := HKG.out.cell 2
  have q0 := belowCell x0
  have q1 := belowCell x1
  have q2 := belowCell x2
  have q3 := belowCell x3
  have r0 := belowCell y0
  have r1 := belowCell y1
  have r2 := belowCell y2
  clear hbd x0 x1 x2 x3 y0 y1 y2
  go_wp2_with fail
  go_region_held3 (fun w' => Below w4.heap.size w4 w')
    (first | (refine below_step ?_ HD.out; assumption) | (exact (Below.refl _ _).drew))
    (first
      | (go_at_call 87; refine (c_labels_joinedAnd ((H.out.below HB.out).below (by assumption)) HC.out ((H2.out.below HB.out).below (by assumption)) HT.out ((HI.out.below HB.out).below (by assumption)) HN.out (allB_bd HA.out)).mono ?_; rintro e wa ⟨u, rfl, hu, hb⟩; have HU := Lib.hid hu.ints; have HF := Lib.hid (show Below w4.heap.size w4 wa from below_step (by assumption) hb); have HD := Lib.hid hb)
      | (go_at_call 78; refine (c_impl_at HU.out ((H.out.below HB.out).below (by assumption)).outs (Nat.le_trans (wires_len HC.out HN.out) (by omega)) (by omega) (outs_bd HC.out HN.out)).mono ?_; rintro e wb ⟨u2, rfl, hu2, hb⟩; have HD := Lib.hid hb; have HV := Lib.hid hu2; have hsz := hb.size))
  have hE : Below w4.heap.size w4 wb := by assumption
  go_wp2
  go_ret2; rw [HM.out]
  exact RetIB.yes (HV.out.mono (Nat.le_trans HB.out.size HF.out.size)) (below_step HB.out hE)
set_option maxRecDepth 100000 in
set_option maxHeartbeats 2000000 in
theorem c_impl_DecodeHalved {c : Cir} {g : Gb} {gv ov rv nv cv vi : Value} {l : List Int} {w : World} (h : CirIn w gv ov c) (h2 : GbIn w rv nv cv g) (hs : g.sz ≤ 1048576) (hi : Ints w vi l) (hl : l.length ≤ 1048576) :
    Calls Tryz.prog 59 #[cirV c gv ov, gbV rv nv cv, vi] w (RetIB w (decodeM 2 c g l)) := by
  have H := Lib.hid h
  have H2 := Lib.hid h2
  have HI := Lib.hid hi
  obtain ⟨hg, ho⟩ := h
  obtain ⟨A, cg, rfl, -⟩ := hg
  obtain ⟨A', co, rfl, -⟩ := ho
  obtain ⟨hr, ho, hcc⟩ := h2
  obtain ⟨A1, c1, rfl, -⟩ := hr.form
  obtain ⟨A2, c2, rfl, -⟩ := ho
  obtain ⟨A3, c3, rfl, -⟩ := hcc
  obtain ⟨AI, cI, rfl, -⟩ := hi
  clear hr
  unfold cirV gbV
  obtain ⟨w0, hw0⟩ : ∃ W, (w.alloc (.cells #[.int .i64 c.i0, .int .i64 c.i1, .slice A c.gs.length cg, .slice A' c.outs.length co] 26)).alloc (.cells #[.slice A1 g.rows.length c1, .slice A2 g.ones.length c2, .slice A3 g.cols.length c3] 35) = W := ⟨_, rfl⟩
  have HKC := Lib.hid ((Blk.new w 26 #[.int .i64 c.i0, .int .i64 c.i1, .slice A c.gs.length cg, .slice A' c.outs.length co]).alloc (.cells #[.slice A1 g.rows.length c1, .slice A2 g.ones.length c2, .slice A3 g.cols.length c3] 35))
  rw [hw0] at HKC
  have HKG := Lib.hid (Blk.new (w.alloc (.cells #[.int .i64 c.i0, .int .i64 c.i1, .slice A c.gs.length cg, .slice A' c.outs.length co] 26)) 35 #[.slice A1 g.rows.length c1, .slice A2 g.ones.length c2, .slice A3 g.cols.length c3])
  simp only [World.size_alloc, hw0] at HKG
  have HB : Hid (Below w.heap.size w w0) := by rw [← hw0]; exact ((Below.refl w.heap.size w).alloc (Nat.le_refl _) _).alloc (by simp) _
  have x0 : w0.cell? ⟨w.heap.size, 0, none⟩ = some (.int .i64 c.i0) := HKC.out.cell 0
  have x1 : w0.cell? ⟨w.heap.size, 1, none⟩ = some (.int .i64 c.i1) := HKC.out.cell 1
  have x2 : w0.cell? ⟨w.heap.size, 2, none⟩ = some (.slice A c.gs.length cg) := HKC.out.cell 2
  have x3 : w0.cell? ⟨w.heap.size, 3, none⟩ = some (.slice A' c.outs.length co) := HKC.out.cell 3
  have y0 : w0.cell? ⟨w.heap.size + 1, 0, none⟩ = some (.slice A1 g.rows.length c1) := HKG.out.cell 0
  have y1 : w0.cell? ⟨w.heap.size + 1, 1, none⟩ = some (.slice A2 g.ones.length c2) := HKG.out.cell 1
  have y2 : w0.cell? ⟨w.heap.size + 1, 2, none⟩ = some (.slice A3 g.cols.length c3) := HKG.out.cell 2
  go_enter Tryz.func59, Tryz.ntmps59
  go_wp2_with fail
  clear hw0 x0 x1 x2 x3 y0 y1 y2
  refine (c_impl_IsCircuit (H.out.below HB.out)).mono ?_
  rintro e w1 ⟨rfl, hb⟩
  replace HB := Lib.hid (below_step HB.out hb)
  replace HKC := Lib.hid (HKC.out.step hb)
  replace HKG := Lib.hid (HKG.out.step hb)
  clear hb
  rcases hc : cirB c with _ | _
  · have HM := Lib.hid (show decodeM 2 c g l = none by simp [decodeM, hc])
    go_wp2
    go_ret2; rw [HM.out]; exact RetIB.no_below HB.out
  have x0 : w1.cell? ⟨w.heap.size, 0, none⟩ = some (.int .i64 c.i0) := HKC.out.cell 0
  have x1 : w1.cell? ⟨w.heap.size, 1, none⟩ = some (.int .i64 c.i1) := HKC.out.cell 1
  have x2 : w1.cell? ⟨w.heap.size, 2, none⟩ = some (.slice A c.gs.length cg) := HKC.out.cell 2
  have x3 : w1.cell? ⟨w.heap.size, 3, none⟩ = some (.slice A' c.outs.length co) := HKC.out.cell 3
  have y0 : w1.cell? ⟨w.heap.size + 1, 0, none⟩ = some (.slice A1 g.rows.length c1) := HKG.out.cell 0
  have y1 : w1.cell? ⟨w.heap.size + 1, 1, none⟩ = some (.slice A2 g.ones.length c2) := HKG.out.cell 1
  have y2 : w1.cell? ⟨w.heap.size + 1, 2, none⟩ = some (.slice A3 g.cols.length c3) := HKG.out.cell 2
  have HC := Lib.hid hc
  clear hc
  go_wp2_with fail
  clear x0 x1 x2 x3 y0 y1 y2
  refine (c_impl_areTables (H.out.below HB.out) HC.out (H2.out.below HB.out) hs).mono ?_
  rintro e w2 ⟨rfl, hb⟩
  replace HB := Lib.hid (below_step HB.out hb)
  replace HKC := Lib.hid (HKC.out.step hb)
  replace HKG := Lib.hid (HKG.out.step hb)
  clear hb
  rcases ht : tabB 2 c g with _ | _
  · have HM := Lib.hid (show decodeM 2 c g l = none by simp [decodeM, ht])
    go_wp2
    go_ret2; rw [HM.out]; exact RetIB.no_below HB.out
  have HT := Lib.hid ht
  clear ht
  go_wp2_with fail
  refine (c_impl_areLabels (HI.out.below HB.out) (by omega)).mono ?_
  rintro e w3 ⟨rfl, hb⟩
  replace HB := Lib.hid (below_step HB.out hb)
  replace HKC := Lib.hid (HKC.out.step hb)
  replace HKG := Lib.hid (HKG.out.step hb)
  clear hb
  rcases ha : allB l 0 65535 with _ | _
  · have HM := Lib.hid (show decodeM 2 c g l = none by simp [decodeM, ha])
    go_wp2
    go_ret2; rw [HM.out]; exact RetIB.no_below HB.out
  have x0 : w3.cell? ⟨w.heap.size, 0, none⟩ = some (.int .i64 c.i0) := HKC.out.cell 0
  have x1 : w3.cell? ⟨w.heap.size, 1, none⟩ = some (.int .i64 c.i1) := HKC.out.cell 1
  have x2 : w3.cell? ⟨w.heap.size, 2, none⟩ = some (.slice A c.gs.length cg) := HKC.out.cell 2
  have x3 : w3.cell? ⟨w.heap.size, 3, none⟩ = some (.slice A' c.outs.length co) := HKC.out.cell 3
  have y0 : w3.cell? ⟨w.heap.size + 1, 0, none⟩ = some (.slice A1 g.rows.length c1) := HKG.out.cell 0
  have y1 : w3.cell? ⟨w.heap.size + 1, 1, none⟩ = some (.slice A2 g.ones.length c2) := HKG.out.cell 1
  have y2 : w3.cell? ⟨w.heap.size + 1, 2, none⟩ = some (.slice A3 g.cols.length c3) := HKG.out.cell 2
  have HA := Lib.hid ha
  clear ha
  rcases hn : ((l.length : Int) != (c.outs.length : Int)) with _ | _
  rotate_left
  · have HM := Lib.hid (show decodeM 2 c g l = none by (have : ¬ (l.length : Int) = (c.outs.length : Int) := (by simpa using hn)); simp only [decodeM, this, decide_false, Bool.and_false]; rfl)
    go_wp2
    go_ret2; rw [HM.out]; exact RetIB.no_below HB.out
  have HN := Lib.hid (show (l.length : Int) = (c.outs.length : Int) by simpa using hn)
  have HM := Lib.hid (show decodeM 2 c g l = some (xorsM (coloursM l) g.cols) by unfold decodeM; rw [HC.out, HT.out, HA.out, HN.out]; simp)
  have HL := Lib.hid (show (coloursM l).length = g.cols.length by have h1 := (tabB_of HT.out).2.2.2.2.1; have h2 := HN.out; rw [coloursM_length]; omega)
  have q0 := belowCell x0
  have q1 := belowCell x1
  have q2 := belowCell x2
  have q3 := belowCell x3
  have r0 := belowCell y0
  have r1 := belowCell y1
  have r2 := belowCell y2
  go_wp2_with fail
  clear x0 x1 x2 x3 y0 y1 y2
  go_region_held3 (fun w' => Below w3.heap.size w3 w')
    (first | (refine below_step ?_ HD.out; assumption) | (exact (Below.refl _ _).drew))
    (first
      | (go_at_call 98; refine (c_impl_colours ((HI.out.below HB.out).below (by assumption)) (by omega) (allB_i64 HA.out (by omega))).mono ?_; rintro e wa ⟨u, rfl, hu, hb⟩; have HU := Lib.hid hu.ints; have HF := Lib.hid (show Below w3.heap.size w3 wa from below_step (by assumption) hb); have HD := Lib.hid hb)
      | (go_at_call 97; refine (c_impl_xored HU.out ((H2.out.below HB.out).below (by assumption)).cols (by rw [coloursM_length]; omega) HL.out (coloursM_i64 l) (cols_i64 HT.out)).mono ?_; rintro e wb ⟨u2, rfl, hu2, hb⟩; have HD := Lib.hid hb; have HV := Lib.hid hu2; have hsz := hb.size))
  have hE : Below w3.heap.size w3 wb := by assumption
  go_wp2
  go_ret2; rw [HM.out]
  exact RetIB.yes (HV.out.mono (Nat.le_trans HB.out.size HF.out.size)) (below_step HB.out hE)
end Go.Proofs.YtejeppjmlgfiaaaGreat
