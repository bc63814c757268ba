/- Contracts of the validity of circuits, the reference's. Conditions: none but the bounds named. -/
import Derived.Test.YtejeppjmlgfiaaaGreatAll
import Derived.Test.YtejeppjmlgfiaaaGreatCirM
import Derived.Deep.RegionHeld3
import Derived.Laws.StructEq
namespace Go.Proofs.YtejeppjmlgfiaaaGreat
open Go.RowKit
set_option linter.unusedVariables false

theorem c_spec_ciGate {k a b own : Int} {w : World} (ho : -1000000000 ≤ own ∧ own ≤ 1000000000) : Calls Tryz.prog 151 #[.agg #[.int .i64 k, .int .i64 a, .int .i64 b], .int .i64 own] w fun e w' => e = .returned (.bool (gateB ⟨k, a, b⟩ own)) ∧ Below w.heap.size w w' := by
  by_cases h0 : k = 0
  · subst h0
    go_enter Tryz.func151, Tryz.ntmps151
    go_wp2_with (go_at_call 117; refine (c_spec_l1In).mono ?_; rintro e w' ⟨rfl, rfl⟩)
    all_goals (go_ret; exact ⟨by simp [gateB, *], (Below.refl _ _).alloc (Nat.le_refl _) _⟩)
  · have b0 : (k == 0) = false := by simpa using h0
    by_cases h1 : k = 1
    · subst h1
      go_enter Tryz.func151, Tryz.ntmps151
      go_wp2_with (go_at_call 117; refine (c_spec_l1In).mono ?_; rintro e w' ⟨rfl, rfl⟩)
      all_goals (go_ret; exact ⟨by simp [gateB, *], (Below.refl _ _).alloc (Nat.le_refl _) _⟩)
    · have b1 : (k == 1) = false := by simpa using h1
      by_cases h2 : k = 2
      · subst h2
        go_enter Tryz.func151, Tryz.ntmps151
        go_wp2_with (go_at_call 117; refine (c_spec_l1In).mono ?_; rintro e w' ⟨rfl, rfl⟩)
        all_goals (go_ret; exact ⟨by simp [gateB, *], (Below.refl _ _).alloc (Nat.le_refl _) _⟩)
      · have b2 : (k == 2) = false := by simpa using h2
        have HM := Lib.hid (show gateB ⟨k, a, b⟩ own = ((k == 3) && (a == 0) && (b == 0)) by
          simp only [gateB, h0, h1, h2, or_self, if_false]
          by_cases h3 : k = 3 <;> simp [h3])
        clear h0 h1 h2
        go_enter Tryz.func151, Tryz.ntmps151
        go_wp2
        all_goals (go_ret; exact ⟨by rw [HM.out]; simp [*], (Below.refl _ _).alloc (Nat.le_refl _) _⟩)
theorem c_spec_ciInputs {c : Cir} {gv ov : Value} {w : World} (h : CirIn w gv ov c) (hi : 0 ≤ c.i0 ∧ c.i0 ≤ 20 ∧ 0 ≤ c.i1 ∧ c.i1 ≤ 20) : Calls Tryz.prog 109 #[cirV c gv ov] w fun e w' => e = .returned (.int .i64 c.ins) ∧ Below w.heap.size w w' := by
  obtain ⟨hg, ho⟩ := h
  obtain ⟨A, cg, rfl, _, _, _⟩ := hg
  obtain ⟨A', co, rfl, _, _, _⟩ := ho
  unfold cirV
  go_enter Tryz.func109, Tryz.ntmps109
  go_wp2
  go_ret; exact ⟨rfl, (Below.refl _ _).alloc (Nat.le_refl _) _⟩

theorem c_spec_ciWires {c : Cir} {gv ov : Value} {w : World} (h : CirIn w gv ov c) (hi : 0 ≤ c.i0 ∧ c.i0 ≤ 20 ∧ 0 ≤ c.i1 ∧ c.i1 ≤ 20) (hg : c.gs.length ≤ 300) : Calls Tryz.prog 121 #[cirV c gv ov] w fun e w' => e = .returned (.int .i64 c.wires) ∧ Below w.heap.size w w' := by
  have H := Lib.hid h
  obtain ⟨hg, ho⟩ := h
  obtain ⟨A, cg, rfl, _, _, _⟩ := hg
  obtain ⟨A', co, rfl, _, _, _⟩ := ho
  have hins : 0 ≤ c.ins ∧ c.ins ≤ 40 := by unfold Cir.ins; omega
  have hw : c.wires = c.ins + (c.gs.length : Int) := rfl
  have HW := Lib.hid hw
  have HX := Lib.hid (Blk.new w 26 #[.int .i64 c.i0, .int .i64 c.i1, .slice A c.gs.length cg, .slice A' c.outs.length co])
  have HBX := Lib.hid (((Below.refl w.heap.size w).alloc (Nat.le_refl _) (.cells #[.int .i64 c.i0, .int .i64 c.i1, .slice A c.gs.length cg, .slice A' c.outs.length co] 26)).drew)
  clear hw
  unfold cirV
  go_enter Tryz.func121, Tryz.ntmps121
  go_wp2_with fail
  have hwr : IntKind.i64.wrap (c.ins + (c.gs.length : Int)) = c.ins + (c.gs.length : Int) := IntWalk.i64_in _ (by omega)
  go_region_held3 (fun w' => w'.cell? ⟨w.heap.size, 0, none⟩ = some (.int .i64 c.i0) ∧ w'.cell? ⟨w.heap.size, 1, none⟩ = some (.int .i64 c.i1) ∧ w'.cell? ⟨w.heap.size, 2, none⟩ = some (.slice A c.gs.length cg) ∧ w'.cell? ⟨w.heap.size, 3, none⟩ = some (.slice A' c.outs.length co))
    (first | go_keep | exact ⟨HX2.out.cell 0, HX2.out.cell 1, HX2.out.cell 2, HX2.out.cell 3⟩)
    ((go_at_call 109; refine (c_spec_ciInputs (H.out.below HBX.out) hi).mono ?_; rintro e w2 ⟨rfl, hb2⟩; have HX2 := Lib.hid (HX.out.drew.step hb2); have HB2 := Lib.hid (below_step HBX.out hb2); clear hb2))
  go_wp2
  go_ret
  exact ⟨by rw [HW.out]; rfl, HB2.out⟩
set_option maxRecDepth 100000 in
set_option maxHeartbeats 1000000 in
theorem c_spec_ciGood {c : Cir} {gv ov : Value} {w : World} (h : CirIn w gv ov c) : Calls Tryz.prog 107 #[cirV c gv ov] w fun e w' => e = .returned (.bool (cirB c)) ∧ Below w.heap.size w w' := by
  have H := Lib.hid h
  obtain ⟨hg, ho⟩ := h
  obtain ⟨A, cg, rfl, hlc, hcm, hrd⟩ := hg
  obtain ⟨A', co, rfl, hlc', hcm', hrd'⟩ := ho
  unfold maxLen at hcm hcm'
  rcases hh : headB c with _ | _
  · have HM := Lib.hid (show cirB c = false by simp [cirB, hh])
    unfold headB at hh
    have HH := Lib.hid hh
    clear hh
    rcases h1 : inB c.i0 0 20 with _ | _
    · unfold cirV
      go_enter Tryz.func107, Tryz.ntmps107
      go_wp2_with (go_at_call 117; refine (c_spec_l1In).mono ?_; rintro e w' ⟨rfl, rfl⟩)
      go_ret; exact ⟨by rw [HM.out]; rfl, (Below.refl _ _).alloc (Nat.le_refl _) _⟩
    · rcases h2 : inB c.i1 0 20 with _ | _
      · unfold cirV
        go_enter Tryz.func107, Tryz.ntmps107
        go_wp2_with (go_at_call 117; refine (c_spec_l1In).mono ?_; rintro e w' ⟨rfl, rfl⟩)
        go_ret; exact ⟨by rw [HM.out]; rfl, (Below.refl _ _).alloc (Nat.le_refl _) _⟩
      · by_cases h3 : c.gs.length ≤ 300
        · by_cases h4 : c.outs.length ≤ 40
          · have := HH.out
            simp [h1, h2, h3, h4] at this
          · unfold cirV
            go_enter Tryz.func107, Tryz.ntmps107
            go_wp2_with (go_at_call 117; refine (c_spec_l1In).mono ?_; rintro e w' ⟨rfl, rfl⟩)
            go_ret; exact ⟨by rw [HM.out]; rfl, (Below.refl _ _).alloc (Nat.le_refl _) _⟩
        · unfold cirV
          go_enter Tryz.func107, Tryz.ntmps107
          go_wp2_with (go_at_call 117; refine (c_spec_l1In).mono ?_; rintro e w' ⟨rfl, rfl⟩)
          go_ret; exact ⟨by rw [HM.out]; rfl, (Below.refl _ _).alloc (Nat.le_refl _) _⟩
  · have hb := headB_bd hh
    have h1 : inB c.i0 0 20 = true := inB_mk hb.1 hb.2.1
    have h2 : inB c.i1 0 20 = true := inB_mk hb.2.2.1 hb.2.2.2.1
    have h3 : c.gs.length ≤ 300 := hb.2.2.2.2.1
    have h4 : c.outs.length ≤ 40 := hb.2.2.2.2.2
    have hd1 : decide ((300 : Int) < (c.gs.length : Int)) = false := by simp; omega
    have hd2 : decide ((40 : Int) < (c.outs.length : Int)) = false := by simp; omega
    have HH := Lib.hid hh
    have hbox : Hid (Blk (w.alloc (.cells #[.int .i64 c.i0, .int .i64 c.i1, .slice A c.gs.length cg, .slice A' c.outs.length co] 26)) w.heap.size 26 #[.int .i64 c.i0, .int .i64 c.i1, .slice A c.gs.length cg, .slice A' c.outs.length co]) := Blk.new w _ _
    have hB0 : Hid (Below w.heap.size w (w.alloc (.cells #[.int .i64 c.i0, .int .i64 c.i1, .slice A c.gs.length cg, .slice A' c.outs.length co] 26))) := (Below.refl _ _).alloc (Nat.le_refl _) _
    clear hh
    unfold cirV
    go_enter Tryz.func107, Tryz.ntmps107
    go_wp2_with (go_at_call 117; refine (c_spec_l1In).mono ?_; rintro e w' ⟨rfl, rfl⟩)
    go_loopw [30] (fun i wr => ∃ k : Nat, k ≤ c.gs.length ∧ i = .int .i64 k ∧ Hid (gatesB (c.gs.take k) c.ins = true) ∧ Hid (Blk wr w.heap.size 26 #[.int .i64 c.i0, .int .i64 c.i1, .slice A c.gs.length cg, .slice A' c.outs.length co]) ∧ Hid (Below w.heap.size w wr)) (fun i _ => c.gs.length - (intOf i).toNat)
    case atStart => exact ⟨0, Nat.zero_le _, rfl, show gatesB _ _ = true by simp [gatesB], hbox, hB0⟩
    case round =>
      obtain ⟨k, hk, rfl, HG, HK, HB⟩ := hrel
      clear hbox hB0
      by_cases hlt : k < c.gs.length
      · obtain ⟨b, o, g, rfl, hbl, hgk, c0, c1, c2⟩ := (hrd.below HB.out).gate_at hlt
        have HGk := Lib.hid hgk
        have hszw : w.heap.size < wr.heap.size := HK.out.lt
        have hins : 0 ≤ c.ins ∧ c.ins ≤ 40 := by unfold Cir.ins; omega
        have k0 : wr.cell? ⟨w.heap.size, 0, none⟩ = some (.int .i64 c.i0) := HK.out.cell 0
        have k1 : wr.cell? ⟨w.heap.size, 1, none⟩ = some (.int .i64 c.i1) := HK.out.cell 1
        have k2 : wr.cell? ⟨w.heap.size, 2, none⟩ = some (.slice (some ⟨b, o, none⟩) c.gs.length cg) := HK.out.cell 2
        have k3 : wr.cell? ⟨w.heap.size, 3, none⟩ = some (.slice A' c.outs.length co) := HK.out.cell 3
        have HX := Lib.hid (Blk.new wr 117 #[.int .i64 g.k, .int .i64 g.a, .int .i64 g.b])
        have HKX := Lib.hid (HK.out.alloc (.cells #[.int .i64 g.k, .int .i64 g.a, .int .i64 g.b] 117))
        have HBX := Lib.hid ((HB.out.alloc HB.out.size (.cells #[.int .i64 g.k, .int .i64 g.a, .int .i64 g.b] 117)).drew)
        have hown : -1000000000 ≤ c.ins + (k : Int) ∧ c.ins + (k : Int) ≤ 1000000000 := by omega
        clear hgk hrd hrd'
        go_wp2_with fail
        have hwr : IntKind.i64.wrap (c.ins + (k : Int)) = c.ins + (k : Int) := IntWalk.i64_in _ (by omega)
        go_region_held3 (fun w' => w'.cell? ⟨wr.heap.size, 0, none⟩ = some (.int .i64 g.k) ∧ w'.cell? ⟨wr.heap.size, 1, none⟩ = some (.int .i64 g.a) ∧ w'.cell? ⟨wr.heap.size, 2, none⟩ = some (.int .i64 g.b) ∧
            w'.cell? ⟨w.heap.size, 0, none⟩ = some (.int .i64 c.i0) ∧ w'.cell? ⟨w.heap.size, 1, none⟩ = some (.int .i64 c.i1) ∧ w'.cell? ⟨w.heap.size, 2, none⟩ = some (.slice (some ⟨b, o, none⟩) c.gs.length cg) ∧ w'.cell? ⟨w.heap.size, 3, none⟩ = some (.slice A' c.outs.length co))
          (first | go_keep | exact ⟨HX3.out.cell 0, HX3.out.cell 1, HX3.out.cell 2, HK3.out.cell 0, HK3.out.cell 1, HK3.out.cell 2, HK3.out.cell 3⟩ | exact ⟨HX2.out.cell 0, HX2.out.cell 1, HX2.out.cell 2, HK2.out.cell 0, HK2.out.cell 1, HK2.out.cell 2, HK2.out.cell 3⟩)
          (first
            | (go_at_call 109; refine (c_spec_ciInputs (H.out.below HBX.out) ⟨hb.1, hb.2.1, hb.2.2.1, hb.2.2.2.1⟩).mono ?_; rintro e w2 ⟨rfl, hb2⟩; have HX2 := Lib.hid (HX.out.drew.step hb2); have HK2 := Lib.hid (HKX.out.drew.step hb2); have HB2 := Lib.hid (below_step HBX.out hb2); clear hb2)
            | (go_at_call 151; refine (c_spec_ciGate hown).mono ?_; rintro e w3 ⟨rfl, hb3⟩; have HX3 := Lib.hid (HX2.out.step hb3); have HK3 := Lib.hid (HK2.out.step hb3); have HB3 := Lib.hid (below_step HB2.out hb3); clear hb3))
        clear hwr
        rcases hgb : gateB ⟨g.k, g.a, g.b⟩ (c.ins + (k : Int)) with _ | _
        · have HE := Lib.hid (show cirB c = false by
            have h5 := take_snoc HGk.out
            have h6 : gatesB c.gs c.ins = false := by
              rw [← List.take_append_drop (k + 1) c.gs, h5, gatesB_append, gatesB_snoc]
              have : (c.gs.take k).length = k := by simp; omega
              rw [this, show gateB g (c.ins + (k : Int)) = false from hgb]; simp
            simp [cirB, h6])
          go_wp2
          go_ret
          exact ⟨by rw [HE.out]; rfl, HB3.out⟩
        · have HN : Hid (gatesB (c.gs.take (k + 1)) c.ins = true) := by
            show gatesB _ _ = true
            rw [take_snoc HGk.out, gatesB_snoc, HG.out]
            have : (c.gs.take k).length = k := by simp; omega
            rw [this]; exact hgb
          go_wp2
          go_roundw
          case rel => exact ⟨k + 1, by omega, by go_num, HN, HK3, HB3⟩
          case measure => simp [intOf]; omega
      · have hins : 0 ≤ c.ins ∧ c.ins ≤ 40 := by unfold Cir.ins; omega
        have k0 : wr.cell? ⟨w.heap.size, 0, none⟩ = some (.int .i64 c.i0) := HK.out.cell 0
        have k1 : wr.cell? ⟨w.heap.size, 1, none⟩ = some (.int .i64 c.i1) := HK.out.cell 1
        have k2 : wr.cell? ⟨w.heap.size, 2, none⟩ = some (.slice A c.gs.length cg) := HK.out.cell 2
        have k3 : wr.cell? ⟨w.heap.size, 3, none⟩ = some (.slice A' c.outs.length co) := HK.out.cell 3
        go_wp2_with fail
        have hwr : IntKind.i64.wrap (c.wires - 1) = c.wires - 1 := IntWalk.i64_in _ (by unfold Cir.wires; omega)
        go_region_held3 (fun w' => w'.cell? ⟨w.heap.size, 0, none⟩ = some (.int .i64 c.i0) ∧ w'.cell? ⟨w.heap.size, 1, none⟩ = some (.int .i64 c.i1) ∧ w'.cell? ⟨w.heap.size, 2, none⟩ = some (.slice A c.gs.length cg) ∧ w'.cell? ⟨w.heap.size, 3, none⟩ = some (.slice A' c.outs.length co))
          (first | go_keep | exact ⟨HK2.out.cell 0, HK2.out.cell 1, HK2.out.cell 2, HK2.out.cell 3⟩)
          (first
            | (go_at_call 121; refine (c_spec_ciWires (H.out.below HB.out.drew) ⟨hb.1, hb.2.1, hb.2.2.1, hb.2.2.2.1⟩ h3).mono ?_; rintro e w2 ⟨rfl, hb2⟩; have HK2 := Lib.hid (HK.out.drew.step hb2); have HB2 := Lib.hid (below_step HB.out.drew hb2); clear hb2)
            | (go_at_call 104; refine (c_spec_l1All (H.out.below HB2.out).outs (by omega)).mono ?_; rintro e w3 ⟨rfl, rfl⟩))
        have HE := Lib.hid (show cirB c = allB c.outs 0 (c.wires - 1) by
          have := HG.out
          rw [List.take_of_length_le (by omega)] at this
          simp [cirB, HH.out, this])
        go_wp2
        go_ret
        exact ⟨by rw [HE.out]; rfl, HB2.out⟩
end Go.Proofs.YtejeppjmlgfiaaaGreat
