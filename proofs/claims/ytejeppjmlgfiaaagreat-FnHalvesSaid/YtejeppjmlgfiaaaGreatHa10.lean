/- Contracts of the validity of circuits, the reference's. Conditions: none but the bounds named. -/
import Derived.Test.YtejeppjmlgfiaaaGreatHa7
import Derived.Test.YtejeppjmlgfiaaaGreatHa3
import Derived.Deep.RegionHeld3
import Derived.Laws.StructEq
import Derived.Test.YtejeppjmlgfiaaaGreatHa8
namespace Go.Proofs.YtejeppjmlgfiaaaGreat
open Go.RowKit
set_option linter.unusedVariables false

theorem c_spec_ciGate {k a b own : Int} {w : World} (ho : -1000000000 ≤ own ∧ own ≤ 1000000000) : Calls Tryz.prog 151 #[.agg #[.int .i64 k, .int .i64 a, .int .i64 b], .int .i64 own] w fun e w' => e = .returned (.bool (gateB ⟨k, a, b⟩ own)) ∧ Below w.heap.size w w' := by
  by_cases h0 : k = 0
  · subst h0
    go_enter Tryz.func151, Tryz.ntmps151
    go_wp2_with (go_at_call 117; refine (c_spec_l1In).mono ?_; rintro e w' ⟨rfl, rfl⟩)
    all_goals (go_ret; exact ⟨by simp [gateB, *], (Below.refl _ _).alloc (Nat.le_refl _) _⟩)
  · have b0 : (k == 0) = false := by simpa using h0
    by_cases h1 : k = 1
    · subst h1
      go_enter Tryz.func151, Tryz.ntmps151
      go_wp2_with (go_at_call 117; refine (c_spec_l1In).mono ?_; rintro e w' ⟨rfl, rfl⟩)
      all_goals (go_ret; exact ⟨by simp [gateB, *], (Below.refl _ _).alloc (Nat.le_refl _) _⟩)
    · have b1 : (k == 1) = false := by simpa using h1
      by_cases h2 : k = 2
      · subst h2
        go_enter Tryz.func151, Tryz.ntmps151
        go_wp2_with (go_at_call 117; refine (c_spec_l1In).mono ?_; rintro e w' ⟨rfl, rfl⟩)
        all_goals (go_ret; exact ⟨by simp [gateB, *], (Below.refl _ _).alloc (Nat.le_refl _) _⟩)
      · have b2 : (k == 2) = false := by simpa using h2
        have HM := Lib.hid (show gateB ⟨k, a, b⟩ own = ((k == 3) && (a == 0) && (b == 0)) by
          simp only [gateB, h0, h1, h2, or_self, if_false]
          by_cases h3 : k = 3 <;> simp [h3])
        clear h0 h1 h2
        go_enter Tryz.func151, Tryz.ntmps151
        go_wp2
        all_goals (go_ret; exact ⟨by rw [HM.out]; simp [*], (Below.refl _ _).alloc (Nat.le_refl _) _⟩)
theorem c_spec_ciInputs {c : Cir} {gv ov : Value} {w : World} (h : CirIn w gv ov c) (hi : 0 ≤ c.i0 ∧ c.i0 ≤ 20 ∧ 0 ≤ c.i1 ∧ c.i1 ≤ 20) : Calls Tryz.prog 109 #[cirV c gv ov] w fun e w' => e = .returned (.int .i64 c.ins) ∧ Below w.heap.size w w' := by
  obtain ⟨hg, ho⟩ := h
  obtain ⟨A, cg, rfl, _, _, _⟩ := hg
  obtain ⟨A', co, rfl, _, _, _⟩ := ho
  unfold cirV
  go_enter Tryz.func109, Tryz.ntmps109
  go_wp2
  go_ret; exact ⟨rfl, (Below.refl _ _).alloc (Nat.le_refl _) _⟩

theorem c_spec_ciWires {c : Cir} {gv ov : Value} {w : World} (h : CirIn w gv ov c) (hi : 0 ≤ c.i0 ∧ c.i0 ≤ 20 ∧ 0 ≤ c.i1 ∧ c.i1 ≤ 20) (hg : c.gs.length ≤ 300) : Calls Tryz.prog 121 #[cirV c gv ov] w fun e w' => e = .returned (.int .i64 c.wires) ∧ Below w.heap.size w w' := by
  have H := Lib.hid h
  obtain ⟨hg, ho⟩ := h
  obtain ⟨A, cg, rfl, _, _, _⟩ := hg
  obtain ⟨A', co, rfl, _, _, _⟩ := ho
  have hins : 0 ≤ c.ins ∧ c.ins ≤ 40 := by unfold Cir.ins; omega
  have hw : c.wires = c.ins + (c.gs.length : Int) := rfl
  have HW := Lib.hid hw
  have HX := Lib.hid (Blk.new w 26 #[.int .i64 c.i0, .int .i64 c.i1, .slice A c.gs.length cg, .slice A' c.outs.length co])
  have HBX := Lib.hid (((Below.refl w.heap.size w).alloc (Nat.le_refl _) (.cells #[.int .i64 c.i0, .int .i64 c.i1, .slice A c.gs.length cg, .slice A' c.outs.length co] 26)).drew)
  clear hw
  unfold cirV
  go_enter Tryz.func121, Tryz.ntmps121
  go_wp2_with fail
  have hwr : IntKind.i64.wrap (c.ins + (c.gs.length : Int)) = c.ins + (c.gs.length : Int) := IntWalk.i64_in _ (by omega)
  go_region_held3 (fun w' => w'.cell? ⟨w.heap.size, 0, none⟩ = some (.int .i64 c.i0) ∧ w'.cell? ⟨w.heap.size, 1, none⟩ = some (.int .i64 c.i1) ∧ w'.cell? ⟨w.heap.size, 2, none⟩ = some (.slice A c.gs.length cg) ∧ w'.cell? ⟨w.heap.size, 3, none⟩ = some (.slice A' c.outs.length co))
    (first | go_keep | exact ⟨HX2.out.cell 0, HX2.out.cell 1, HX2.out.cell 2, HX2.out.cell 3⟩)
    ((go_at_call 109; refine (c_spec_ciInputs (H.out.below HBX.out) hi).mono ?_; rintro e w2 ⟨rfl, hb2⟩; have HX2 := Lib.hid (HX.out.drew.step hb2); have HB2 := Lib.hid (below_step HBX.out hb2); clear hb2))
  go_wp2
  go_ret
  exact ⟨by rw [HW.out]; rfl, HB2.out⟩
set_option maxRecDepth 100000 in
set_option maxHeartbeats 1000000 in
theorem c_spec_ciGood {c : Cir} {gv ov : Value} {w : World} (h : CirIn w gv ov c) : Calls Tryz.prog 107 #[cirV c gv ov] w fun e w' => e = .returned (.bool (cirB c)) ∧ Below w.heap.size w w' := by
  have H := Lib.hid h
  obtain ⟨hg, ho⟩ := h
  obtain ⟨A, cg, rfl, hlc, hcm, hrd⟩ := hg
  obtain ⟨A', co, rfl, hlc', hcm', hrd'⟩ := ho
  unfold maxLen at hcm hcm'
  rcases hh : headB c with _ | _
  · have HM := Lib.hid (show cirB c = false by simp [cirB, hh])
    unfold headB at hh
    have HH := Lib.hid hh
    clear hh
    rcases h1 : inB c.i0 0 20 with _ | _
    · unfold cirV
      go_enter Tryz.func107, Tryz.ntmps107
      go_wp2_with (go_at_call 117; refine (c_spec_l1In).mono ?_; rintro e w' ⟨rfl, rfl⟩)
      go_ret; exact ⟨by rw [HM.out]; rfl, (Below.refl _ _).alloc (Nat.le_refl _) _⟩
    · rcases h2 : inB c.i1 0 20 with _ | _
      · unfold cirV
        go_enter Tryz.func107, Tryz.ntmps107
        go_wp2_with (go_at_call 117; refine (c_spec_l1In).mono ?_; rintro e w' ⟨rfl, rfl⟩)
        go_ret; exact ⟨by rw [HM.out]; rfl, (Below.refl _ _).alloc (Nat.le_refl _) _⟩
      · by_cases h3 : c.gs.length ≤ 300
        · by_cases h4 : c.outs.length ≤ 40
          · have := HH.out
            simp [h1, h2, h3, h4] at this
          · unfold cirV
            go_enter Tryz.func107, Tryz.ntmps107
            go_wp2_with (go_at_call 117; refine (c_spec_l1In).mono ?_; rintro e w' ⟨rfl, rfl⟩)
            go_ret; exact ⟨by rw [HM.out]; rfl, (Below.refl _ _).alloc (Nat.le_refl _) _⟩
        · unfold cirV
          go_enter Tryz.func107, Tryz.ntmps107
          go_wp2_with (go_at_call 117; refine (c_spec_l1In).mono ?_; rintro e w' ⟨rfl, rfl⟩)
          go_ret; exact ⟨by rw [HM.out]; rfl, (Below.refl _ _).alloc (Nat.le_refl _) _⟩
  · have hb := headB_bd hh
    have h1 : inB c.i0 0 20 = true := inB_mk hb.1 hb.2.1
    have h2 : inB c.i1 0 20 = true := inB_mk hb.2.2.1 hb.2.2.2.1
    have h3 : c.gs.length ≤ 300 := hb.2.2.2.2.1
    have h4 : c.outs.length ≤ 40 := hb.2.2.2.2.2
    have hd1 : decide ((300 : Int) < (c.gs.length : Int)) = false := by simp; omega
    have hd2 : decide ((40 : Int) < (c.outs.length : Int)) = false := by simp; omega
    have HH := Lib.hid hh
    have hbox : Hid (Blk (w.alloc (.cells #[.int .i64 c.i0, .int .i64 c.i1, .slice A c.gs.length cg, .slice A' c.outs.length co] 26)) w.heap.size 26 #[.int .i64 c.i0, .int .i64 c.i1, .slice A c.gs.length cg, .slice A' c.outs.length co]) := Blk.new w _ _
    have hB0 : Hid (Below w.heap.size w (w.alloc (.cells #[.int .i64 c.i0, .int .i64 c.i1, .slice A c.gs.length cg, .slice A' c.outs.length co] 26))) := (Below.refl _ _).alloc (Nat.le_refl _) _
    clear hh
    unfold cirV
    go_enter Tryz.func107, Tryz.ntmps107
    go_wp2_with (go_at_call 117; refine (c_spec_l1In).mono ?_; rintro e w' ⟨rfl, rfl⟩)
    go_loopw [30] (fun i wr => ∃ k : Nat, k ≤ c.gs.length ∧ i = .int .i64 k ∧ Hid (gatesB (c.gs.take k) c.ins = true) ∧ Hid (Blk wr w.heap.size 26 #[.int .i64 c.i0, .int .i64 c.i1, .slice A c.gs.length cg, .slice A' c.outs.length co]) ∧ Hid (Below w.heap.size w wr)) (fun i _ => c.gs.length - (intOf i).toNat)
    case atStart => exact ⟨0, Nat.zero_le _, rfl, show gatesB _ _ = true by simp [gatesB], hbox, hB0⟩
    case round =>
      obtain ⟨k, hk, rfl, HG, HK, HB⟩ := hrel
      clear hbox hB0
      by_cases hlt : k < c.gs.length
      · obtain ⟨b, o, g, rfl, hbl, hgk, c0, c1, c2⟩ := (hrd.below HB.out).gate_at hlt
        have HGk := Lib.hid hgk
        have hszw : w.heap.size < wr.heap.size := HK.out.lt
        have hins : 0 ≤ c.ins ∧ c.ins ≤ 40 := by unfold Cir.ins; omega
        have k0 : wr.cell? ⟨w.heap.size, 0, none⟩ = some (.int .i64 c.i0) := HK.out.cell 0
        have k1 : wr.cell? ⟨w.heap.size, 1, none⟩ = some (.int .i64 c.i1) := HK.out.cell 1
        have k2 : wr.cell? ⟨w.heap.size, 2, none⟩ = some (.slice (some ⟨b, o, none⟩) c.gs.length cg) := HK.out.cell 2
        have k3 : wr.cell? ⟨w.heap.size, 3, none⟩ = some (.slice A' c.outs.length co) := HK.out.cell 3
        have HX := Lib.hid (Blk.new wr 117 #[.int .i64 g.k, .int .i64 g.a, .int .i64 g.b])
        have HKX := Lib.hid (HK.out.alloc (.cells #[.int .i64 g.k, .int .i64 g.a, .int .i64 g.b] 117))
        have HBX := Lib.hid ((HB.out.alloc HB.out.size (.cells #[.int .i64 g.k, .int .i64 g.a, .int .i64 g.b] 117)).drew)
        have hown : -1000000000 ≤ c.ins + (k : Int) ∧ c.ins + (k : Int) ≤ 1000000000 := by omega
        clear hgk hrd hrd'
        go_wp2_with fail
        have hwr : IntKind.i64.wrap (c.ins + (k : Int)) = c.ins + (k : Int) := IntWalk.i64_in _ (by omega)
        go_region_held3 (fun w' => w'.cell? ⟨wr.heap.size, 0, none⟩ = some (.int .i64 g.k) ∧ w'.cell? ⟨wr.heap.size, 1, none⟩ = some (.int .i64 g.a) ∧ w'.cell? ⟨wr.heap.size, 2, none⟩ = some (.int .i64 g.b) ∧
            w'.cell? ⟨w.heap.size, 0, none⟩ = some (.int .i64 c.i0) ∧ w'.cell? ⟨w.heap.size, 1, none⟩ = some (.int .i64 c.i1) ∧ w'.cell? ⟨w.heap.size, 2, none⟩ = some (.slice (some ⟨b, o, none⟩) c.gs.length cg) ∧ w'.cell? ⟨w.heap.size, 3, none⟩ = some (.slice A' c.outs.length co))
          (first | go_keep | exact ⟨HX3.out.cell 0, HX3.out.cell 1, HX3.out.cell 2, HK3.out.cell 0, HK3.out.cell 1, HK3.out.cell 2, HK3.out.cell 3⟩ | exact ⟨HX2.out.cell 0, HX2.out.cell 1, HX2.out.cell 2, HK2.out.cell 0, HK2.out.cell 1, HK2.out.cell 2, HK2.out.cell 3⟩)
          (first
            | (go_at_call 109; refine (c_spec_ciInputs (H.out.below HBX.out) ⟨hb.1, hb.2.1, hb.2.2.1, hb.2.2.2.1⟩).mono ?_; rintro e w2 ⟨rfl, hb2⟩; have HX2 := Lib.hid (HX.out.drew.step hb2); have HK2 := Lib.hid (HKX.out.drew.step hb2); have HB2 := Lib.hid (below_step HBX.out hb2); clear hb2)
            | (go_at_call 151; refine (c_spec_ciGate hown).mono ?_; rintro e w3 ⟨rfl, hb3⟩; have HX3 := Lib.hid (HX2.out.step hb3); have HK3 := Lib.hid (HK2.out.step hb3); have HB3 := Lib.hid (below_step HB2.out hb3); clear hb3))
        clear hwr
        rcases hgb : gateB ⟨g.k, g.a, g.b⟩ (c.ins + (k : Int)) with _ | _
        · have HE := Lib.hid (show cirB c = false by
            have h5 := take_snoc HGk.out
            have h6 : gatesB c.gs c.ins = false := by
              rw [← List.take_append_drop (k + 1) c.gs, h5, gatesB_append, gatesB_snoc]
              have : (c.gs.take k).length = k := by simp; omega
              rw [this, show gateB g (c.ins + (k : Int)) = false from hgb]; simp
            simp [cirB, h6])
          go_wp2
          go_ret
          exact ⟨by rw [HE.out]; rfl, HB3.out⟩
        · have HN : Hid (gatesB (c.gs.take (k + 1)) c.ins = true) := by
            show gatesB _ _ = true
            rw [take_snoc HGk.out, gatesB_snoc, HG.out]
            have : (c.gs.take k).length = k := by simp; omega
            rw [this]; exact hgb
          go_wp2
          go_roundw
          case rel => exact ⟨k + 1, by omega, by go_num, HN, HK3, HB3⟩
          case measure => simp [intOf]; omega
      · have hins : 0 ≤ c.ins ∧ c.ins ≤ 40 := by unfold Cir.ins; omega
        have k0 : wr.cell? ⟨w.heap.size, 0, none⟩ = some (.int .i64 c.i0) := HK.out.cell 0
        have k1 : wr.cell? ⟨w.heap.size, 1, none⟩ = some (.int .i64 c.i1) := HK.out.cell 1
        have k2 : wr.cell? ⟨w.heap.size, 2, none⟩ = some (.slice A c.gs.length cg) := HK.out.cell 2
        have k3 : wr.cell? ⟨w.heap.size, 3, none⟩ = some (.slice A' c.outs.length co) := HK.out.cell 3
        go_wp2_with fail
        have hwr : IntKind.i64.wrap (c.wires - 1) = c.wires - 1 := IntWalk.i64_in _ (by unfold Cir.wires; omega)
        go_region_held3 (fun w' => w'.cell? ⟨w.heap.size, 0, none⟩ = some (.int .i64 c.i0) ∧ w'.cell? ⟨w.heap.size, 1, none⟩ = some (.int .i64 c.i1) ∧ w'.cell? ⟨w.heap.size, 2, none⟩ = some (.slice A c.gs.length cg) ∧ w'.cell? ⟨w.heap.size, 3, none⟩ = some (.slice A' c.outs.length co))
          (first | go_keep | exact ⟨HK2.out.cell 0, HK2.out.cell 1, HK2.out.cell 2, HK2.out.cell 3⟩)
          (first
            | (go_at_call 121; refine (c_spec_ciWires (H.out.below HB.out.drew) ⟨hb.1, hb.2.1, hb.2.2.1, hb.2.2.2.1⟩ h3).mono ?_; rintro e w2 ⟨rfl, hb2⟩; have HK2 := Lib.hid (HK.out.drew.step hb2); have HB2 := Lib.hid (below_step HB.out.drew hb2); clear hb2)
            | (go_at_call 104; refine (c_spec_l1All (H.out.below HB2.out).outs (by omega)).mono ?_; rintro e w3 ⟨rfl, rfl⟩))
        have HE := Lib.hid (show cirB c = allB c.outs 0 (c.wires - 1) by
          have := HG.out
          rw [List.take_of_length_le (by omega)] at this
          simp [cirB, HH.out, this])
        go_wp2
        go_ret
        exact ⟨by rw [HE.out]; rfl, HB2.out⟩
end Go.Proofs.YtejeppjmlgfiaaaGreat

/- The append of one element, and that what the slice held stays readable where it was. Plain lemmas; no condition but those that each names. -/
namespace Go.Proofs.YtejeppjmlgfiaaaGreat
open Go.RowKit
set_option linter.unusedVariables false

section
variable {P : Program} {ops : Array Oper} {rest : List Oper} {o : Oper} {a : Act} {Q : Exit → Act → World → Prop}
/-- What the old slice held is there still. -/
def OldKept (v : Value) (n : Nat) (w w' : World) : Prop := ∀ g j, v.ownBlock = some g → j < n → w'.cell? ⟨g, j, none⟩ = w.cell? ⟨g, j, none⟩

theorem run_app1_keep {w : World} {t ty E : TypeId} {B by_ n c : Nat} {z0 v u : Value} {xs : List Value} {ad : Addr} (ht : P.underlying t = some (.slice E)) (hinfo : (P.info? E).map (fun i => (i.zero, i.size, i.bytes)) = some (some z0, 1, by_)) (hz : z0.cells.size = 1)
    (hown : w.ownsRow B E 1 v n xs) (hcell : w.cell? ad = some u) (hu : u.oneCell' = true) (h63 : n + 1 ≤ maxLen) (hn : (n + 1) * by_ ≤ 140737488355328) (hB : B ≤ w.heap.size) :
    ∃ v' w', (Builtin.append_ #[t, t] ty #[v, .slice (some ad) 1 c]).run P w = .ok v' w' ∧ w'.ownsRow B E 1 v' (n + 1) (xs ++ [u]) ∧ w.grownBy w' v.ownBlock ∧ (∀ g, v'.ownBlock = some g → v.ownBlock = some g ∨ w.heap.size ≤ g) ∧ OldKept v n w w' := by
  obtain ⟨i, hi, hz0, hz1, hz2⟩ := info_parts hinfo
  have hnews : ∀ j u', [u][j]? = some u' → w.cell? (ad.add j) = some u' := by
    intro j u' hj; match j, hj with | 0, hj => simp at hj; subst hj; simpa [Addr.add] using hcell
  have hone : ∀ u' ∈ [u], u'.oneCell' = true := by intro u' hu'; simp at hu'; subst hu'; exact hu
  obtain ⟨v', w', hrun, h1, h2, _, h4⟩ := run_append_own_at (P := P) w B t ty E i z0 1 by_ ht hi hz0 hz1 hz2 hz (by omega) v n xs hown ad 1 c [u] rfl hnews hone h63 hn hB
  refine ⟨v', w', hrun, h1, h2, fun g hg' => ?_, fun g j hg hj => ?_⟩
  · rcases h4 with h4 | h4
    · exact .inl (h4.symm.trans hg')
    · rw [h4] at hg'; simp at hg'; right; omega
  · rcases hown.2 with ⟨rfl, _⟩ | ⟨g0, cap, cur, rfl, hbg, hgg, hnc, hcm, hcs, htake⟩
    · cases hg
    · simp [Value.ownBlock] at hg
      subst hg
      by_cases hroom : n + 1 ≤ cap
      · have hr := run_append_room (P := P) w t ty E i ht hi g0 n cap cur hgg ad 1 c [u] (by rw [hz1]; rfl) hnews hone hroom (by simp [hz1]; omega)
        rw [hrun] at hr
        injection hr with e1 e2
        subst e1
        have hc := h1.cellAt j (by omega)
        rw [hc, hown.cellAt j (by omega), List.getElem?_append_left (by rw [hown.1]; omega)]
      · have hr := run_append_grow (P := P) w t ty E i z0 ht hi hz0 ⟨g0, 0, none⟩ n cap xs (by rw [hown.1, hz1]) (hown.cells (g := g0) rfl) ad 1 c [u] (by rw [hz1]; rfl) hnews (by omega) (by simp only [maxLen] at h63; omega) (growslice_fits (by omega) (by rw [hz2]; exact hn))
        rw [hrun] at hr
        injection hr with e1 e2
        subst e2
        exact World.cell?_of_block (a := ⟨g0, j, none⟩) (heap_alloc_old w.drew _ (Array.getElem?_eq_some_iff.1 hgg).1)

/-- The append of one element at a step of a region that draws its order: the slice is also read there. -/
theorem step_app1K {W : World} {K : Act → World → Prop} {Z : Prop} (hg : o.guard = none) {s x : Operand} {t : TypeId} (hop : o.op = Op.call { callee := Callee.builtin Builtin.append, args := #[s, x], argTypes := #[t, t] })
    {B : Nat} {E : TypeId} {z0 : Value} {by_ : Nat} (ht : P.underlying t = some (.slice E)) (hinfo : (P.info? E).map (fun i => (i.zero, i.size, i.bytes)) = some (some z0, 1, by_)) (hz : z0.cells.size = 1)
    {v : Value} {n : Nat} {xs : List Value} {u : Value} {ad : Addr} {c : Nat} (hown : W.ownsRow B E 1 v n xs) (hcell : W.cell? ad = some u) (hs : a.eval s = v) (hx : a.eval x = .slice (some ad) 1 c) (hu : u.oneCell' = true)
    (h63 : n + 1 ≤ maxLen) (hn : (n + 1) * by_ ≤ 140737488355328) (hB : B ≤ W.heap.size)
    (hK : ∀ v' w', w'.ownsRow B E 1 v' (n + 1) (xs ++ [u]) → W.grownBy w' v.ownBlock → (∀ g, v'.ownBlock = some g → v.ownBlock = some g ∨ W.heap.size ≤ g) → OldKept v n W w' → K (a.put o.dst v') w') :
    if Region.wanted o (yielded ops a.tmps) = true then Oper.wp P o a W K Q else Z := by
  have hw : Region.wanted o (yielded ops a.tmps) = true := by simp [Region.wanted, hg]
  rw [if_pos hw]
  obtain ⟨v', w', hrun, h1, h2, h3, h4⟩ := run_app1_keep (P := P) (w := W) (ty := o.type) (c := c) ht hinfo hz hown hcell hu h63 hn hB
  unfold Oper.wp
  simp [execOp, hop, resolve, invoke, builtin, hs, hx, hrun, Result.andThen]
  exact hK v' w' h1 h2 h3 h4
end
end Go.Proofs.YtejeppjmlgfiaaaGreat
