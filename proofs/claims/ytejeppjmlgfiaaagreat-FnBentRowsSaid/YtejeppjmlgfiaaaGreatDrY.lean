/- The contract of the draw of any circuit: some small circuit in new memory comes back, valid or not. Condition: the cursor's bound. -/
import Derived.Test.YtejeppjmlgfiaaaGreatDrX
import Derived.Test.YtejeppjmlgfiaaaGreatOwnK
import Derived.Deep.LoopGhost
import Derived.Deep.RegionHeld3
import Derived.Test.YtejeppjmlgfiaaaGreatDrW
namespace Go.Proofs.YtejeppjmlgfiaaaGreat
open Go.RowKit
set_option linter.unusedVariables false
set_option maxHeartbeats 2000000
section
variable {w : World} {g n : Nat} {cd : Value}
def AnC (c : Cir) : Prop := (-1 ≤ c.i0 ∧ c.i0 ≤ 21 ∧ -1 ≤ c.i1 ∧ c.i1 ≤ 21) ∧ c.gs.length ≤ 301 ∧ c.outs.length ≤ 41
/-- Some circuit in the making, valid or not. -/
def MkD (w : World) (g : Nat) (cd : Value) (n x : Nat) (wr : World) : Prop := ∃ c gv ov, AnC c ∧ MkT w g cd n x 26 c gv ov wr
theorem MkT.bent {x : Nat} {wr : World} {c : Cir} {ov : Value} {bg m cg i n' : Nat} {v : Int} {gs : List Gt} (h : MkT w g cd n x 26 c (.slice (some ⟨bg, 0, none⟩) m cg) ov wr) (h0 : CodeIn w cd g) (hgl : g < w.heap.size) (ha : AnC c) (hs : (gcells c.gs).set i (.int .i64 v) = gcells gs) (hl : gs.length = c.gs.length) (hn : n ≤ n') :
    MkD w g cd n' x (wr.setCell ⟨bg, i, none⟩ (.int .i64 v)) :=
  ⟨{ c with gs := gs }, _, _, ⟨ha.1, by show gs.length ≤ 301; have := ha.2.1; omega, ha.2.2⟩, (h.putG h0 hgl hs hl).more hn⟩
theorem MkT.longer {x : Nat} {wr : World} {c : Cir} {gv ov : Value} {n' : Nat} {y : Int} (h : MkT w g cd n x 26 { c with outs := c.outs ++ [y] } gv ov wr) (ha : AnC c) (hl : c.outs.length ≤ 40) (hn : n ≤ n') : MkD w g cd n' x wr :=
  ⟨{ c with outs := c.outs ++ [y] }, _, _, ⟨ha.1, ha.2.1, by show (c.outs ++ [y]).length ≤ 41; simp; omega⟩, h.more hn⟩
set_option maxRecDepth 100000 in
theorem c_anyCircuit (h : Cur w g cd n) (hn : n ≤ 1000000) : Calls Tryz.prog 52 #[.pointer (some ⟨g, 0, none⟩)] w (DrewC w g cd (n + 250) AnC) := by
  have hgl := h.lt
  have HCD := Lib.hid h.1
  obtain ⟨i9, hi9, hz0, hz1, hz2⟩ := info_parts info_int
  have HR := Lib.hid (Blk.new w 26 #[.int .i64 0, .int .i64 0, .slice none 0 0, .slice none 0 0])
  have h1 := h.below ((Below.refl _ _).alloc (Nat.le_refl _) (.cells #[.int .i64 0, .int .i64 0, .slice none 0 0, .slice none 0 0] 26))
  have HG0 := Lib.hid (only_below ((Below.refl w.heap.size w).alloc (Nat.le_refl _) (.cells #[.int .i64 0, .int .i64 0, .slice none 0 0, .slice none 0 0] 26)) (some g))
  have HII := Lib.hid (And.intro hi9 (And.intro hz0 (And.intro hz1 hz2)))
  clear h hi9 hz0 hz1 hz2
  go_enter Tryz.func52, Tryz.ntmps52
  go_wp2_with fail
  refine (c_circuit h1 (by omega)).mono ?_
  rintro e w1 ⟨c, gv, ov, rfl, hs, hog, hoo, hap, hc1, hg1⟩
  have HG1 := Lib.hid (only_trans HG0.out hg1)
  have HR1 := Lib.hid (HR.out.grown hg1 (by simp; omega))
  have hz1 : w.heap.size + 1 ≤ w1.heap.size := by have := hg1.size; simpa using this
  have hcl : c.gs.length ≤ 8 ∧ c.outs.length ≤ 3 := hs.2
  have hib := hs.1
  have HO := Lib.hid (And.intro hog (And.intro hoo hap))
  obtain ⟨Ag, cg, eg, hcg, -, -⟩ := own_form hog
  obtain ⟨Ao, co, eo, -⟩ := own_form hoo
  subst eg eo
  have HS := Lib.hid hs
  have HC1 := Lib.hid hc1
  clear h1 HG0 HR hg1 hs hog hoo hap hc1
  unfold cirV
  go_wp2_with fail
  obtain ⟨w2, hw2⟩ : ∃ W, w1.alloc (.cells #[.int .i64 c.i0, .int .i64 c.i1, .slice Ag c.gs.length cg, .slice Ao c.outs.length co] 26) = W := ⟨_, rfl⟩
  have hB2 : Below w1.heap.size w1 w2 := by rw [← hw2]; exact (Below.refl _ _).alloc (Nat.le_refl _) _
  have hK2 : Blk w2 w1.heap.size 26 #[.int .i64 c.i0, .int .i64 c.i1, .slice Ag c.gs.length cg, .slice Ao c.outs.length co] := by
    rw [← hw2]; exact Blk.new _ _ _
  have HM := Lib.hid (show MkT w g cd (n + 200) w1.heap.size 26 c (.slice Ag c.gs.length cg) (.slice Ao c.outs.length co) w2 from ⟨⟨hK2, hz1, own_mono (HO.out.1.below hB2) (by simp), (HO.out.2.1.below hB2).mono (by simp), (fun b hb => by have := HO.out.1.lt b hb; omega), (fun b hb => by have := HO.out.2.1.lt b hb; omega), HO.out.2.2⟩, HC1.out.below hB2, Nat.le_trans hz1 hB2.size, only_trans HG1.out (only_below hB2 _), HR1.out.step hB2⟩)
  rw [hw2]
  generalize w1.heap.size = x at *
  clear hw2 hB2 hK2 HC1 HG1 HR1 hz1 HO
  refine (c_pick HM.out.cur (by omega) (by omega)).mono ?_
  rintro e w3 ⟨v, rfl, ⟨q, rfl, hq0, -, hq1⟩, hc3, hg3⟩
  have HM3 := Lib.hid (HM.out.draw hgl hg3 hc3)
  have HAN := Lib.hid (show AnC c from ⟨⟨by omega, by omega, by omega, by omega⟩, by omega, by omega⟩)
  clear HM hc3 hg3
  go_upto_block 0 with fail
  go_cut [] (fun wx => Hid (MkD w g cd (n + 250) x wx))
  case first =>
    by_cases hq0 : q = 0
    · subst hq0
      have HBA := Lib.hid ((Below.refl w3.heap.size w3).alloc (Nat.le_refl _) (.cells #[.int .i64 (-1), .int .i64 20, .int .i64 21] 3))
      have hgl3 : g < w3.heap.size := HM3.out.cur.lt
      go_wp2_with fail
      refine (c_among (l := [-1, 20, 21]) (HM3.out.cur.below HBA.out) (by omega) (ints_lit _ _ _ rfl (by simp)) (by simp) (by simp) (by rintro b hb; simp [Value.ownBlock] at hb; omega)).mono ?_
      rintro e w4 ⟨v, rfl, ⟨r, rfl, hr⟩, hc4, hg4⟩
      have hr2 : -1 ≤ r ∧ r ≤ 21 := by simp at hr; omega
      have HM4 := Lib.hid ((HM3.out.below HBA.out).draw hgl hg4 hc4)
      have y0 := HM4.out.ms.blk.cell 0
      have f0 := HM4.out.ms.blk.free 0
      have HX := Lib.hid (HM4.out.setI0 HCD.out hgl r)
      clear hr hc4 hg4 HM3 HM4
      go_wp2
      go_meet
      exact Lib.hid ⟨_, _, _, ⟨⟨by show -1 ≤ r; omega, by show r ≤ 21; omega, by show -1 ≤ c.i1; omega, by show c.i1 ≤ 21; omega⟩, by show c.gs.length ≤ 301; omega, by show c.outs.length ≤ 41; omega⟩, HX.out.more (by omega)⟩
    by_cases hq1 : q = 1
    · subst hq1
      have HBA := Lib.hid ((Below.refl w3.heap.size w3).alloc (Nat.le_refl _) (.cells #[.int .i64 (-1), .int .i64 20, .int .i64 21] 3))
      have hgl3 : g < w3.heap.size := HM3.out.cur.lt
      go_wp2_with fail
      refine (c_among (l := [-1, 20, 21]) (HM3.out.cur.below HBA.out) (by omega) (ints_lit _ _ _ rfl (by simp)) (by simp) (by simp) (by rintro b hb; simp [Value.ownBlock] at hb; omega)).mono ?_
      rintro e w4 ⟨v, rfl, ⟨r, rfl, hr⟩, hc4, hg4⟩
      have hr2 : -1 ≤ r ∧ r ≤ 21 := by simp at hr; omega
      have HM4 := Lib.hid ((HM3.out.below HBA.out).draw hgl hg4 hc4)
      have y1 := HM4.out.ms.blk.cell 1
      have f1 := HM4.out.ms.blk.free 1
      have HX := Lib.hid (HM4.out.setI1 HCD.out hgl r)
      clear hr hc4 hg4 HM3 HM4
      go_wp2
      go_meet
      exact Lib.hid ⟨_, _, _, ⟨⟨by show -1 ≤ c.i0; omega, by show c.i0 ≤ 21; omega, by show -1 ≤ r; omega, by show r ≤ 21; omega⟩, by show c.gs.length ≤ 301; omega, by show c.outs.length ≤ 41; omega⟩, HX.out.more (by omega)⟩
    by_cases hq2 : q = 2
    · subst hq2
      have y0 := HM3.out.ms.blk.cell 0
      have y1 := HM3.out.ms.blk.cell 1
      have y2 := HM3.out.ms.blk.cell 2
      have y3 := HM3.out.ms.blk.cell 3
      have hcw := (fun (V : World) (hb : CirIn V (.slice Ag c.gs.length cg) (.slice Ao c.outs.length co) c) => c_spec_ciWires (w := V) hb HS.out.1 (by omega))
      unfold cirV at hcw
      have HCW := Lib.hid hcw
      clear hcw
      have hgl3 : g < w3.heap.size := HM3.out.cur.lt
      have hM3 := HM3.out.drew
      have HA := Lib.hid (And.intro (show c.outs.length + 1 ≤ maxLen by unfold maxLen; omega) (show (c.outs.length + 1) * 8 ≤ 140737488355328 by omega))
      generalize c.wires = W at *
      clear y0 y1 y2 y3
      have y0 : w3.drew.cell? ⟨x, 0, none⟩ = _ := hM3.ms.blk.cell 0
      have y1 : w3.drew.cell? ⟨x, 1, none⟩ = _ := hM3.ms.blk.cell 1
      have y2 : w3.drew.cell? ⟨x, 2, none⟩ = _ := hM3.ms.blk.cell 2
      have y3 : w3.drew.cell? ⟨x, 3, none⟩ = _ := hM3.ms.blk.cell 3
      go_wp2_with fail
      go_region_law (first
        | (refine step_app1 (B := w.heap.size + 1) (by rfl) (by rfl) Tryz.underlying24 info_int rfl (hMa6 _).ms.outs (cell_new w6 _ _) (by rfl) (by rfl) rfl HA.out.1 HA.out.2 (hMa6 _).size ?_; intro v' w9 ho hg hfr; obtain ⟨A9, c9, ev, -⟩ := own_form ho; subst ev; have x3c := ((hMa6 _).far hg).cell 3; have f3c := ((hMa6 _).far hg).free 3; have HX := Lib.hid ((hMa6 _).putO HCD.out hgl hg ho hfr); clear ho hg hfr)
        | (go_simp; go_at_call 121; (with_reducible refine (HCW.out _ (MkT.cir hM3)).mono ?_); rintro e w5 ⟨rfl, hb5⟩; have hM5 := MkT.below hM3 hb5; have hMa5 := (fun o => MkT.alloc hM5 o); have z3 := hM5.ms.blk.cell 3; have z3a := (fun o => (MkT.alloc hM5 o).ms.blk.cell 3); have hgl5 := hM5.size; clear hb5)
        | (go_simp; go_at_call 54; (refine (MkT.c_among (lv := .slice (some ⟨w5.heap.size, 0, none⟩) 2 2) (hMa5 (.cells #[.int .i64 (-1), .int .i64 W] 3)) hgl (by omega) (ints_lit w5 [-1, W] #[.int .i64 (-1), .int .i64 W] rfl (by simp)) (by simp) (by simp) (by rintro b hb; simp [Value.ownBlock] at hb; omega)).mono ?_); rintro e w6 ⟨t2, rfl, -, hM6⟩; have hMa6 := (fun o => MkT.alloc hM6 o); have x3b := (fun o => (MkT.alloc hM6 o).ms.blk.cell 3); have x3d := hM6.ms.blk.cell 3))
      all_goals
        go_wp2
        go_meet
        exact Lib.hid (HX.out.longer HAN.out (by omega) (by omega))
    by_cases hq3 : q = 3
    · subst hq3
      by_cases hn0 : 0 < c.gs.length
      · have hnn : (0 : Int) < (c.gs.length : Int) := by omega
        obtain ⟨bg, cg2, -, eg, -, -, -⟩ := HM3.out.gcell hn0
        injection eg with eg e2 e3
        subst eg e3
        clear e2
        have hbx : bg ≠ x := HM3.out.ms.gx bg rfl
        have hM3 := HM3.out.drew
        have hcw := (fun (V : World) (hb : CirIn V (.slice (some ⟨bg, 0, none⟩) c.gs.length cg) (.slice Ao c.outs.length co) c) => c_spec_ciWires (w := V) hb HS.out.1 (by omega))
        unfold cirV at hcw
        have HCW := Lib.hid hcw
        clear hcw
        have hgl3 : g < w3.heap.size := HM3.out.cur.lt
        generalize c.wires = W at *
        go_wp2_with fail
        go_region_held3 (fun w' => w'.cell? ⟨x, 0, none⟩ = some (.int .i64 c.i0) ∧ w'.cell? ⟨x, 1, none⟩ = some (.int .i64 c.i1) ∧ w'.cell? ⟨x, 2, none⟩ = some (.slice (some ⟨bg, 0, none⟩) c.gs.length cg) ∧ w'.cell? ⟨x, 3, none⟩ = some (.slice Ao c.outs.length co))
          (first | exact MkT.four hM7 | exact MkT.four hM6 | exact MkT.four (hMa6 _) | exact MkT.four hM5 | exact MkT.four (hMa5 _) | exact MkT.four hM3 | go_keep)
          (first
            | (go_at_call 121; (first | (with_reducible refine (HCW.out _ (MkT.cir hM6)).mono ?_) | (with_reducible refine (HCW.out _ (MkT.cir hM3)).mono ?_)); rintro e w5 ⟨rfl, hb5⟩; (first | have hM5 := MkT.below hM6 hb5 | have hM5 := MkT.below hM3 hb5); have hMa5 := (fun o => MkT.alloc hM5 o); have hMb := hM5.size; clear hb5)
            | (go_at_call 55; (first | (with_reducible refine (MkT.c_pick hM7 hgl (by omega) (by omega)).mono ?_) | (with_reducible refine (MkT.c_pick (hMa5 _) hgl (by omega) (by omega)).mono ?_) | (with_reducible refine (MkT.c_pick hM5 hgl (by omega) (by omega)).mono ?_) | (with_reducible refine (MkT.c_pick hM3 hgl (by omega) (by omega)).mono ?_)); rintro e w6 ⟨r6, rfl, hr0, hr1, hM6, hg6⟩; obtain ⟨j, rfl⟩ := Int.eq_ofNat_of_zero_le hr0; have hjl : (j : Int) < (c.gs.length : Int) := (by omega); have hMa6 := (fun o => MkT.alloc hM6 o); have hMb := hM6.size; obtain ⟨bz, cz, qz, ez, hqz, -, -, ⟨u1, hu1⟩, -, hf1⟩ := hM6.gcell (show j < c.gs.length by omega); injection ez with e1 e2 e3; injection e1 with e1; injection e1 with e1; subst e1 e3; clear e2; have HQZ := Lib.hid hqz; clear hqz)
            | (go_at_call 54; (first | (with_reducible refine (MkT.c_among3 (hMa6 _) hgl (by omega) (lit3 w6 (-1) W 1) (by omega)).mono ?_) | (with_reducible refine (MkT.c_among3 hM6 hgl (by omega) ((lit3 w5 (-1) W 1).grown hg6 (by rintro b hb e; simp [Value.ownBlock] at hb e; omega)) (by omega)).mono ?_) | (with_reducible refine (MkT.c_among3 (hMa5 _) hgl (by omega) (lit3 w5 (-1) W 1) (by omega)).mono ?_)); rintro e w7 ⟨r7, rfl, -, hM7⟩; try (obtain ⟨bz, cz, qz, ez, -, -, -, ⟨u1, hu1⟩, -, hf1⟩ := hM7.gcell (show j < c.gs.length by omega); injection ez with e1 e2 e3; injection e1 with e1; injection e1 with e1; subst e1 e3; clear e2)))
        all_goals
          go_wp2
          go_meet
          first
            | exact Lib.hid (hM7.bent HCD.out hgl HAN.out (gcells_set1 _ _ _ _ HQZ.out) (by rw [List.length_set]) (by omega))
            | exact Lib.hid (hM6.bent HCD.out hgl HAN.out (gcells_set1 _ _ _ _ HQZ.out) (by rw [List.length_set]) (by omega))
      · have hnn : ¬ (0 : Int) < (c.gs.length : Int) := by omega
        go_wp2
        go_meet
        exact Lib.hid ⟨_, _, _, HAN.out, HM3.out.more (by omega)⟩
    by_cases hq4 : q = 4
    · subst hq4
      by_cases hn0 : 0 < c.gs.length
      · have hnn : (0 : Int) < (c.gs.length : Int) := by omega
        obtain ⟨bg, cg2, -, eg, -, -, -⟩ := HM3.out.gcell hn0
        injection eg with eg e2 e3
        subst eg e3
        clear e2
        have hbx : bg ≠ x := HM3.out.ms.gx bg rfl
        have hM3 := HM3.out.drew
        have hgl3 : g < w3.heap.size := HM3.out.cur.lt
        go_wp2_with fail
        go_region_held3 (fun w' => w'.cell? ⟨x, 0, none⟩ = some (.int .i64 c.i0) ∧ w'.cell? ⟨x, 1, none⟩ = some (.int .i64 c.i1) ∧ w'.cell? ⟨x, 2, none⟩ = some (.slice (some ⟨bg, 0, none⟩) c.gs.length cg) ∧ w'.cell? ⟨x, 3, none⟩ = some (.slice Ao c.outs.length co))
          (first | exact MkT.four hM7 | exact MkT.four hM6 | exact MkT.four hM3 | go_keep)
          (first
            | (go_at_call_of 55 (Value.int IntKind.i64 6); (first | (with_reducible refine (MkT.c_pick hM6 hgl (by omega) (by omega)).mono ?_) | (with_reducible refine (MkT.c_pick hM3 hgl (by omega) (by omega)).mono ?_)); rintro e w7 ⟨r7, rfl, h70, h71, hM7, hg7⟩; try (obtain ⟨bz, cz, qz, ez, -, -, ⟨u1, hu1⟩, -, hf1, -⟩ := hM7.gcell (show j < c.gs.length by omega); injection ez with e1 e2 e3; injection e1 with e1; injection e1 with e1; subst e1 e3; clear e2))
            | (go_at_call 55; (first | (with_reducible refine (MkT.c_pick hM7 hgl (by omega) (by omega)).mono ?_) | (with_reducible refine (MkT.c_pick hM3 hgl (by omega) (by omega)).mono ?_)); rintro e w6 ⟨r6, rfl, hr0, hr1, hM6, hg6⟩; obtain ⟨j, rfl⟩ := Int.eq_ofNat_of_zero_le hr0; have hjl : (j : Int) < (c.gs.length : Int) := (by omega); obtain ⟨bz, cz, qz, ez, hqz, -, ⟨u1, hu1⟩, -, hf1, -⟩ := hM6.gcell (show j < c.gs.length by omega); injection ez with e1 e2 e3; injection e1 with e1; injection e1 with e1; subst e1 e3; clear e2; have HQZ := Lib.hid hqz; clear hqz))
        all_goals
          go_wp2
          go_meet
          first
            | exact Lib.hid (hM7.bent HCD.out hgl HAN.out (gcells_set0 _ _ _ _ HQZ.out) (by rw [List.length_set]) (by omega))
            | exact Lib.hid (hM6.bent HCD.out hgl HAN.out (gcells_set0 _ _ _ _ HQZ.out) (by rw [List.length_set]) (by omega))
      · have hnn : ¬ (0 : Int) < (c.gs.length : Int) := by omega
        go_wp2
        go_meet
        exact Lib.hid ⟨_, _, _, HAN.out, HM3.out.more (by omega)⟩
    by_cases hq5 : q = 5
    · subst hq5
      go_wp2_with fail
      refine (MkT.c_pick HM3.out hgl (by omega) (by omega)).mono ?_
      rintro e w4 ⟨r, rfl, hr0, hr1, hm4, -⟩
      have HM4 := Lib.hid hm4
      obtain ⟨N, hN⟩ : ∃ N : Nat, 40 + r = (N : Int) := ⟨(40 + r).toNat, by omega⟩
      have hN1 : N ≤ 41 := by omega
      obtain ⟨hi9, hz0, hz1, hz2⟩ := HII.out
      have y3 := hm4.ms.blk.cell 3
      have f3 := hm4.ms.blk.free 3
      have hsz := hm4.size
      clear hm4 HM3
      go_wp2_with (at_make; refine wpList_make_full _ rfl _ _ 24 rfl w4.heap.size 3 i9 (.int .i64 0) 1 Tryz.underlying24 hi9 hz0 hz1 _ _ _ _ N rfl rfl rfl rfl (by rw [hz2]; omega) (by unfold maxLen; omega) (Nat.le_refl _) ?_; intro w5 hown hg; have hbm : Below w4.heap.size w4 w5 := (Below.refl _ _).grown hg (Nat.le_refl _) (by simp); have hM5 := HM4.out.below hbm; have y3b := hM5.ms.blk.cell 3; have f3b := hM5.ms.blk.free 3; have HO5 := Lib.hid (own_made hown); have HB5 := Lib.hid hbm; clear hown hg hbm)
      have HX := Lib.hid (HM4.out.newO HCD.out hgl HB5.out HO5.out)
      clear HM4 hM5
      go_meet
      exact Lib.hid ⟨{ c with outs := List.replicate N 0 }, _, _, ⟨HAN.out.1, HAN.out.2.1, by show (List.replicate N (0 : Int)).length ≤ 41; simpa using hN1⟩, HX.out.more (by omega)⟩
    by_cases hq6 : q = 6
    · subst hq6
      go_wp2_with fail
      refine (MkT.c_pick HM3.out hgl (by omega) (by omega)).mono ?_
      rintro e w4 ⟨r, rfl, hr0, hr1, hm4, -⟩
      have HM4 := Lib.hid hm4
      obtain ⟨N, hN⟩ : ∃ N : Nat, 300 + r = (N : Int) := ⟨(300 + r).toNat, by omega⟩
      have hN1 : N ≤ 301 := by omega
      have hlt0 : c.gs.length ≤ N := by omega
      have HX := Lib.hid (show ∃ c' gv' ov', (AnC c' ∧ N - c.gs.length + c'.gs.length = N) ∧ MkT w g cd (n + 250) x 26 c' gv' ov' w4 from ⟨c, _, _, ⟨HAN.out, by omega⟩, HM4.out.more (by omega)⟩)
      clear hm4 HM3 HM4
      go_wp2_with fail
      go_loopg [] (N - c.gs.length) (fun k wr => Hid (∃ c' gv' ov', (AnC c' ∧ k + c'.gs.length = N) ∧ MkT w g cd (n + 250) x 26 c' gv' ov' wr))
      case atStart => exact HX
      case round =>
        obtain ⟨d, hv, qv, ⟨hda, hdl⟩, hm⟩ := hrel.out
        obtain ⟨wb, rfl⟩ : ∃ W, W = wr := ⟨wr, rfl⟩
        obtain ⟨Ah, ch, eh, hch, -, -⟩ := own_form hm.ms.gates
        subst eh
        have HM5 := Lib.hid hm
        have HDA := Lib.hid hda
        have y2 := hm.ms.blk.cell 2
        have f2 := hm.ms.blk.free 2
        have hz5 := hm.size
        clear hm HX hrel hda
        by_cases hk0 : 0 < gk
        · have hlt : (d.gs.length : Int) < (N : Int) := by omega
          have HA3 := Lib.hid (And.intro (show d.gs.length + 1 ≤ maxLen by unfold maxLen; omega) (show (d.gs.length + 1) * 24 ≤ 140737488355328 by omega))
          have HAD := Lib.hid (show AnC (d.add 3 0 0) from ⟨HDA.out.1, by simp [Cir.add]; omega, HDA.out.2.2⟩)
          have HLN := Lib.hid (show gk - 1 + (d.add 3 0 0).gs.length = N by simp [Cir.add]; omega)
          go_wp2_with (at_builtin; refine wp_app3 (B := w.heap.size + 1) rfl rfl Tryz.underlying23 info_gate rfl HM5.out.ms.gates rfl rfl (by simp [Value.oneCell']) HA3.out.1 HA3.out.2 hz5 ?_; intro v' w9 ho hg hfr; obtain ⟨A9, c9, ev, -⟩ := own_form ho; subst ev; have y2b := (HM5.out.farG hg).cell 2; have f2b := (HM5.out.farG hg).free 2; have HX := Lib.hid (HM5.out.addG HCD.out hgl hg ho hfr); clear ho hg hfr)
          go_roundg (gk - 1)
          case measure => omega
          case rel => exact Lib.hid ⟨_, _, _, ⟨HAD.out, HLN.out⟩, HX.out⟩
        · have hlt : ¬ (d.gs.length : Int) < (N : Int) := by omega
          go_wp2
          go_meet
          exact Lib.hid ⟨_, _, _, HDA.out, HM5.out⟩
    go_wp2
    go_meet
    exact Lib.hid ⟨_, _, _, HAN.out, HM3.out.more (by omega)⟩
  case rest =>
    obtain ⟨wm, hwm⟩ : ∃ W, wc = W := ⟨_, rfl⟩
    rw [hwm] at hcut ⊢
    clear hwm
    obtain ⟨d, hv, qv, hs, hm⟩ := hcut.out
    have HE := Lib.hid hm
    have HSD := Lib.hid hs
    clear hcut hs hm HM3 HAN HS
    obtain ⟨Ag, cga, eg, -⟩ := own_form HE.out.ms.gates
    obtain ⟨Ao, coa, eo, -⟩ := own_form HE.out.ms.outs
    subst eg eo
    have x0 := HE.out.ms.blk.cell 0
    have x1 := HE.out.ms.blk.cell 1
    have x2 := HE.out.ms.blk.cell 2
    have x3 := HE.out.ms.blk.cell 3
    have r0 := HE.out.res.cell 0
    have r1 := HE.out.res.cell 1
    have r2 := HE.out.res.cell 2
    have r3 := HE.out.res.cell 3
    have f0 := HE.out.res.free 0
    have f1 := HE.out.res.free 1
    have f2 := HE.out.res.free 2
    have f3 := HE.out.res.free 3
    go_wp2
    have HF := (((HE.out.res.set_ 0 (.int .i64 d.i0)).set_ 1 (.int .i64 d.i1)).set_ 2 (.slice Ag d.gs.length cga)).set_ 3 (.slice Ao d.outs.length coa)
    have k0 := HF.cell 0
    have k1 := HF.cell 1
    have k2 := HF.cell 2
    have k3 := HF.cell 3
    have HD := HE.out.done HCD.out hgl
    refine bodyPost_ret (v := cirV d (.slice Ag d.gs.length cga) (.slice Ao d.outs.length coa)) (by simp [results, Tryz.results52, go_sem, k0, k1, k2, k3, cirV]) rfl ⟨d, _, _, rfl, HSD.out, HD.1, HD.2.1, HD.2.2.1, HD.2.2.2.1, HD.2.2.2.2⟩
end
end Go.Proofs.YtejeppjmlgfiaaaGreat

/- Contracts of the draws of labels and of inputs: short lists in new memory come back. Conditions: the bounds that each names. -/
namespace Go.Proofs.YtejeppjmlgfiaaaGreat
open Go.RowKit
set_option linter.unusedVariables false
set_option maxHeartbeats 2000000
section
variable {w : World} {g n : Nat} {cd : Value}
/-- At most so many numbers. -/
def Le (k : Nat) (l : List Int) : Prop := l.length ≤ k
theorem DrewL.weak {m k : Nat} {R R' : List Int → Prop} {e : Ending} {w' : World} (h : DrewL w g cd m R e w') (hm : m ≤ k) (hR : ∀ l, R l → R' l) : DrewL w g cd k R' e w' := by
  obtain ⟨u, l, a, b, c, d, f⟩ := h
  exact ⟨u, l, a, hR l b, c, d.mono hm, f⟩
theorem c_bitsI {k : Int} (h : Cur w g cd n) (hn : n ≤ 100000000) (hk : k ≤ 600) : Calls Tryz.prog 122 #[.pointer (some ⟨g, 0, none⟩), .int .i64 k] w (DrewL w g cd (n + 2400) (Le 600)) := by
  by_cases h0 : 0 ≤ k
  · obtain ⟨m, rfl⟩ := Int.eq_ofNat_of_zero_le h0
    exact (c_bits h hn (by omega)).mono fun e w' hd => hd.weak (by omega) (fun l hl => by have := hl.1; unfold Le; omega)
  · have HC := Lib.hid h
    have hpos : ¬ (0 : Int) < k := by omega
    clear h
    go_enter Tryz.func122, Tryz.ntmps122
    go_wp2
    go_loopw [1, 5] (fun i u wr => i = .int .i64 k ∧ u = .slice none 0 0 ∧ w = wr) (fun i _ _ => (intOf i).toNat)
    case atStart => exact ⟨rfl, rfl, rfl⟩
    case round =>
      obtain ⟨rfl, rfl, rfl⟩ := hrel
      go_wp2
      go_ret
      exact ⟨_, [], rfl, Nat.zero_le _, OwnI.nil _ _, HC.out.mono (by omega), only_refl _ _⟩
theorem snoc_le {k : Nat} {l : List Int} {x : Int} (h : l.length ≤ k) : (l ++ [x]).length ≤ k + 1 := by simp; omega
theorem c_labels (h : Cur w g cd n) (hn : n ≤ 10000000) : Calls Tryz.prog 106 #[.pointer (some ⟨g, 0, none⟩)] w (DrewL w g cd (n + 100) (Le 401)) := by
  have hgl := h.lt
  have HCD := Lib.hid h.1
  obtain ⟨i9, hi9, hz0, hz1, hz2⟩ := info_parts info_int
  go_enter Tryz.func106, Tryz.ntmps106
  go_wp2_with fail
  refine (c_pick h (by omega) (by omega)).mono ?_
  rintro e w1 ⟨v, rfl, ⟨r, rfl, hr0, -, hr1⟩, hc1, hg1⟩
  obtain ⟨K, rfl⟩ := Int.eq_ofNat_of_zero_le hr0
  have hK : K ≤ 7 := by omega
  have HC1 := Lib.hid hc1
  have HG1 := Lib.hid hg1
  clear h hc1 hg1
  go_wp2
  go_loopw [3, 4] (fun u i wr => ∃ (k : Nat) (l : List Int), k ≤ K ∧ i = .int .i64 (k : Int) ∧ l.length + k = K ∧ Hid (OwnI wr w.heap.size u l) ∧ Hid (Cur wr g cd (n + 2 + 6 * (K - k))) ∧ Hid (w.grownBy wr (some g))) (fun _ i _ => (intOf i).toNat)
  case atStart => exact ⟨K, [], Nat.le_refl _, rfl, by simp, OwnI.nil _ _, Lib.hid (HC1.out.mono (by omega)), HG1⟩
  case round =>
    obtain ⟨k, l, hk, rfl, hl, HO, HC, HG⟩ := hrel
    have hs := HG.out.size
    by_cases hlt : 0 < k
    · have hpos : (0 : Int) < (k : Int) := by omega
      have HL := Lib.hid hl
      have hlm : l.length ≤ 7 := by omega
      clear hl
      go_wp2_with fail
      refine (c_label HC.out (by omega)).mono ?_
      rintro e w2 ⟨v, rfl, ⟨r2, rfl, hr20, hr21⟩, hc2, hg2⟩
      have HO1 := Lib.hid (own_app HO.out hgl hg2)
      have HC2 := Lib.hid hc2
      have HG2 := Lib.hid (only_trans HG.out hg2)
      have hsz : w.heap.size ≤ w2.heap.size := HG2.out.size
      clear hc2 hg2 HO HC HG
      go_wp2_with (at_builtin; refine wp_app1 (B := w.heap.size) rfl rfl Tryz.underlying24 info_int rfl HO1.out rfl rfl rfl (by unfold maxLen; omega) (by omega) hsz ?_; intro v' w9 ho hg hfr)
      have HA := Lib.hid (Cur.app HCD.out HC2.out HG2.out hg (fun b hb => HO1.out.ge b hb) hgl)
      go_roundw
      case rel => exact ⟨k - 1, _, by omega, by go_num, by have := HL.out; simp; omega, Lib.hid (OwnI.snoc ho), Lib.hid (HA.out.1.mono (by omega)), Lib.hid HA.out.2⟩
      case measure => simp [intOf]; omega
    · obtain rfl : k = 0 := by omega
      have HL := Lib.hid (show Le 401 l by unfold Le; omega)
      clear hl
      go_wp2_with fail
      refine (c_one HC.out (by omega) (by omega)).mono ?_
      rintro e w2 ⟨v, rfl, ⟨b, rfl⟩, hc2, hg2⟩
      have HO1 := Lib.hid (own_app HO.out hgl hg2)
      have HG2 := Lib.hid (only_trans HG.out hg2)
      have hz2' := HG2.out.size
      clear hg2 HO HC HG
      cases b
      · have HC2 := Lib.hid (hc2.mono (show _ ≤ n + 100 by omega))
        clear hc2
        go_wp2
        go_ret
        exact ⟨_, l, rfl, HL.out, HO1.out, HC2.out, HG2.out⟩
      · go_wp2_with fail
        refine (c_pick hc2 (by omega) (by omega)).mono ?_
        rintro e w3 ⟨v, rfl, ⟨q, rfl, hq0, -, hq1⟩, hc3, hg3⟩
        have HG3 := Lib.hid (only_trans HG2.out hg3)
        have HC3 := Lib.hid (hc3.mono (show _ ≤ n + 100 by omega))
        obtain ⟨N, hN⟩ : ∃ N : Nat, 400 + q = (N : Int) := ⟨(400 + q).toNat, by omega⟩
        have hN1 : N ≤ 401 := by omega
        clear hc2 hc3 hg3 HG2 HO1
        go_wp2_with (at_make; refine wpList_make_full _ rfl _ _ 24 rfl w3.heap.size 3 i9 (.int .i64 0) 1 Tryz.underlying24 hi9 hz0 hz1 _ _ _ _ N rfl rfl rfl rfl (by rw [hz2]; omega) (by unfold maxLen; omega) (Nat.le_refl _) ?_; intro w5 hown hg; have hbm : Below w3.heap.size w3 w5 := (Below.refl _ _).grown hg (Nat.le_refl _) (by simp); have HO5 := Lib.hid (own_made hown); have HB5 := Lib.hid hbm; clear hown hg hbm)
        go_ret
        exact ⟨_, List.replicate N 0, rfl, by unfold Le; simpa using hN1, HO5.out.mono HG3.out.size, HC3.out.below HB5.out, only_trans HG3.out (only_below HB5.out _)⟩
end
end Go.Proofs.YtejeppjmlgfiaaaGreat
