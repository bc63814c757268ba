/- Contracts of the test of labels of the outs. Conditions: the lists are short. -/
import Derived.Test.YtejeppjmlgfiaaaGreatGa3
import Derived.Test.YtejeppjmlgfiaaaGreatTabS
namespace Go.Proofs.YtejeppjmlgfiaaaGreat
open Go.RowKit
set_option linter.unusedVariables false

def trueB (zs : List Int) (off : Int) (ws os : List Int) : Bool := (ws.zip os).all fun p => (bitM (elt zs p.1) off p.2).isSome
def trueM (c : Cir) (key off : Int) (os : List Int) : Option Bool :=
  if keyB c key off && allB os 0 65535 && decide (os.length = c.outs.length) then some (trueB (zrM (gbZ off) (gbR off) key off c.ins.toNat c.gs).zs off c.outs os) else none
theorem zip_take {α β : Type} (a : List α) (b : List β) (k : Nat) {x : α} {y : β} (hx : a[k]? = some x) (hy : b[k]? = some y) : (a.zip b).take (k + 1) = (a.zip b).take k ++ [(x, y)] := by
  refine take_snoc ?_
  rw [List.getElem?_zip_eq_some]
  exact ⟨hx, hy⟩
theorem true_step {zs ws os : List Int} {off : Int} {k : Nat} {x y : Int} (hx : ws[k]? = some x) (hy : os[k]? = some y) (ha : ((ws.zip os).take k).all (fun p => (bitM (elt zs p.1) off p.2).isSome) = true) (hb : (bitM (elt zs x) off y).isSome = true) :
    ((ws.zip os).take (k + 1)).all (fun p => (bitM (elt zs p.1) off p.2).isSome) = true := by
  rw [zip_take ws os k hx hy, List.all_append, ha]; simp [hb]
theorem true_no {zs ws os : List Int} {off : Int} {k : Nat} {x y : Int} (hx : ws[k]? = some x) (hy : os[k]? = some y) (hb : (bitM (elt zs x) off y).isSome = false) : trueB zs off ws os = false := by
  have hm : (x, y) ∈ ws.zip os := List.mem_of_getElem? (i := k) (by rw [List.getElem?_zip_eq_some]; exact ⟨hx, hy⟩)
  unfold trueB
  rw [List.all_eq_false]
  exact ⟨(x, y), hm, by simp [hb]⟩
theorem true_all {zs ws os : List Int} {off : Int} (hl : os.length = ws.length) (ha : ((ws.zip os).take ws.length).all (fun p => (bitM (elt zs p.1) off p.2).isSome) = true) : trueB zs off ws os = true := by
  rw [List.take_of_length_le (by rw [List.length_zip, hl]; omega)] at ha
  exact ha
theorem bitM_or {z off o : Int} (hz : 0 ≤ z ∧ z ≤ 65535) (ho : offB off = true) : (bitM z off o).isSome = (decide (o = z) || decide (o = xorI z off)) := by
  unfold bitM
  rw [inB_mk hz.1 hz.2, ho]
  by_cases h1 : o = z
  · simp [h1]
  · by_cases h2 : o = xorI z off
    · simp only [Bool.and_self, if_true, h2, decide_true, Bool.or_true]; split <;> rfl
    · simp [h1, h2]
set_option maxRecDepth 100000 in
set_option maxHeartbeats 2000000 in
theorem c_impl_TrueLabels {c : Cir} {gv ov vo : Value} {key off : Int} {os : List Int} {w : World} (h : CirIn w gv ov c) (hv : Ints w vo os) (hl : os.length ≤ 1048576) :
    Calls Tryz.prog 29 #[cirV c gv ov, .int .i64 key, .int .i64 off, vo] w fun e w' => e = .returned (.tuple #[.bool (bV (trueM c key off os)), .bool (bB (trueM c key off os))]) ∧ Below w.heap.size w w' := by
  have H := Lib.hid h
  have HV := Lib.hid hv
  obtain ⟨hg, hoo⟩ := h
  obtain ⟨A, cg, rfl, -⟩ := hg
  obtain ⟨A', co, rfl, hlc, hmc, hrc⟩ := hoo
  obtain ⟨B, cb, rfl, hlo, hmo, hro⟩ := hv
  have HRC := Lib.hid hrc
  have HRO := Lib.hid hro
  unfold maxLen at hmc hmo
  clear hrc hro
  unfold cirV
  obtain ⟨w0, hw0⟩ : ∃ W, w.alloc (.cells #[.int .i64 c.i0, .int .i64 c.i1, .slice A c.gs.length cg, .slice A' c.outs.length co] 26) = W := ⟨_, rfl⟩
  have HKC : Hid (Blk w0 w.heap.size 26 #[.int .i64 c.i0, .int .i64 c.i1, .slice A c.gs.length cg, .slice A' c.outs.length co]) := by rw [← hw0]; exact Blk.new _ _ _
  have HB : Hid (Below w.heap.size w w0) := by rw [← hw0]; exact (Below.refl _ _).alloc (Nat.le_refl _) _
  have x0 : w0.cell? ⟨w.heap.size, 0, none⟩ = some (.int .i64 c.i0) := HKC.out.cell 0
  have x1 : w0.cell? ⟨w.heap.size, 1, none⟩ = some (.int .i64 c.i1) := HKC.out.cell 1
  have x2 : w0.cell? ⟨w.heap.size, 2, none⟩ = some (.slice A c.gs.length cg) := HKC.out.cell 2
  have x3 : w0.cell? ⟨w.heap.size, 3, none⟩ = some (.slice A' c.outs.length co) := HKC.out.cell 3
  rcases hk : keyB c key off with _ | _
  · have HM := Lib.hid (show trueM c key off os = none by unfold trueM; rw [hk]; rfl)
    have HZ := Lib.hid (show zerosM gbZ gbR c key off = none by unfold zerosM; rw [hk]; rfl)
    go_enter Tryz.func29, Tryz.ntmps29
    go_wp2_with fail
    refine (c_impl_ZeroLabels (H.out.below HB.out)).mono ?_
    rintro e w1 ⟨u, rfl, hu, hb1⟩
    rw [HZ.out]
    clear hw0
    go_wp2
    go_ret2
    exact ⟨by rw [HM.out]; rfl, below_step HB.out hb1⟩
  · have HZ := Lib.hid (show zerosM gbZ gbR c key off = some (zrM (gbZ off) (gbR off) key off c.ins.toNat c.gs).zs by unfold zerosM; rw [hk]; rfl)
    have HKV := Lib.hid (keyB_of hk)
    have hlc40 := (cirB_bd HKV.out.1).2.2.2.2.2
    have hins : 0 ≤ c.ins := by have := cirB_bd HKV.out.1; unfold Cir.ins; omega
    have HOB := Lib.hid (zr_outs (F := gbZ off) (R := gbR off) (key := key) (off := off) HKV.out.1 hins)
    have hzl : (zrM (gbZ off) (gbR off) key off c.ins.toNat c.gs).zs.length ≤ 340 := by
      have h1 := zr_len (F := gbZ off) (R := gbR off) (key := key) (off := off) HKV.out.1
      have := cirB_bd HKV.out.1
      unfold Cir.ins at *; omega
    rcases (Decidable.em (os.length = c.outs.length)).symm with hlen | hlen
    · have HM := Lib.hid (show trueM c key off os = none by unfold trueM; simp [hlen])
      have hne : ¬ (os.length : Int) = (c.outs.length : Int) := by omega
      rcases ha : allB os 0 65535 with _ | _
      all_goals
        go_enter Tryz.func29, Tryz.ntmps29
        go_wp2_with fail
        refine (c_impl_ZeroLabels (H.out.below HB.out)).mono ?_
        rintro e w1 ⟨u, rfl, hu, hb1⟩
        rw [HZ.out]
        clear hw0
        have x3 : w1.cell? ⟨w.heap.size, 3, none⟩ = some (.slice A' c.outs.length co) := (HKC.out.step hb1).cell 3
        have HB1 := Lib.hid (below_step HB.out hb1)
        go_wp2_with fail
        refine (c_impl_areLabels (HV.out.below HB1.out) (by omega)).mono ?_
        rintro e w2 ⟨rfl, hb2⟩
        replace x3 := belowCell x3 _ hb2
        go_wp2
        go_ret2
        exact ⟨by rw [HM.out]; rfl, below_step HB1.out hb2⟩
    rcases ha : allB os 0 65535 with _ | _
    · have HM := Lib.hid (show trueM c key off os = none by unfold trueM; simp [ha])
      clear hlen
      go_enter Tryz.func29, Tryz.ntmps29
      go_wp2_with fail
      refine (c_impl_ZeroLabels (H.out.below HB.out)).mono ?_
      rintro e w1 ⟨u, rfl, hu, hb1⟩
      rw [HZ.out]
      clear hw0
      have HB1 := Lib.hid (below_step HB.out hb1)
      go_wp2_with fail
      refine (c_impl_areLabels (HV.out.below HB1.out) (by omega)).mono ?_
      rintro e w2 ⟨rfl, hb2⟩
      go_wp2
      go_ret2
      exact ⟨by rw [HM.out]; rfl, below_step HB1.out hb2⟩
    · have HM := Lib.hid (show trueM c key off os = some (trueB (zrM (gbZ off) (gbR off) key off c.ins.toNat c.gs).zs off c.outs os) by unfold trueM; simp [hk, ha, hlen])
      have HL := Lib.hid hlen
      obtain ⟨zs, hzs⟩ : ∃ zs, (zrM (gbZ off) (gbR off) key off c.ins.toNat c.gs).zs = zs := ⟨_, rfl⟩
      rw [hzs] at HM HZ HOB hzl
      clear hzs hlen
      have hcond : ((os.length : Int) != (c.outs.length : Int)) = false := by have := HL.out; simp; omega
      have hcond2 : ((os.length : Int) == (c.outs.length : Int)) = true := by have := HL.out; simp; omega
      go_enter Tryz.func29, Tryz.ntmps29
      go_wp2_with fail
      refine (c_impl_ZeroLabels (H.out.below HB.out)).mono ?_
      rintro e w1 ⟨u, rfl, hu, hb1⟩
      rw [HZ.out] at hu ⊢
      clear hw0
      have HU := Lib.hid (show OwnI w1 w0.heap.size u zs from hu)
      have HKC1 := Lib.hid (HKC.out.step hb1)
      have x3 : w1.cell? ⟨w.heap.size, 3, none⟩ = some (.slice A' c.outs.length co) := HKC1.out.cell 3
      have HB1 := Lib.hid (below_step HB.out hb1)
      obtain ⟨Az, cz, rfl, hlz, hmz, -⟩ := own_form hu
      clear hu hb1
      go_wp2_with fail
      refine (c_impl_areLabels (HV.out.below HB1.out) (by omega)).mono ?_
      rintro e w2 ⟨rfl, hb2⟩
      replace x3 := belowCell x3 _ hb2
      replace HU := Lib.hid (HU.out.below hb2)
      replace HB1 := Lib.hid (below_step HB1.out hb2)
      clear hb2
      go_wp2
      clear x3 hcond hcond2
      go_loopw [41] (fun i wr => ∃ k : Nat, k ≤ c.outs.length ∧ i = .int .i64 k ∧ Hid (((c.outs.zip os).take k).all (fun p => (bitM (elt zs p.1) off p.2).isSome) = true) ∧ Hid (Below w2.heap.size w2 wr)) (fun i _ => c.outs.length - (intOf i).toNat)
      case atStart => exact ⟨0, Nat.zero_le _, rfl, Lib.hid rfl, Lib.hid (Below.refl _ _)⟩
      case round =>
        obtain ⟨k, hk2, rfl, HP, HBR⟩ := hrel
        obtain ⟨wa, rfl⟩ : ∃ W, W = wr := ⟨wr, rfl⟩
        have HBA := Lib.hid (below_step HB1.out HBR.out)
        by_cases hlt : k < c.outs.length
        · obtain ⟨b1, o1, wv, rfl, hbl1, hwv, hc1⟩ := (HRC.out.below HBA.out).int_at hlt
          obtain ⟨b2, o2, ov', rfl, hbl2, hov, hc2⟩ := (HRO.out.below HBA.out).int_at (k := k) (by have := HL.out; omega)
          have hwb := HOB.out wv (List.mem_of_getElem? hwv)
          obtain ⟨m, rfl, hm, hme⟩ := elt_at (l := zs) hwb.1 hwb.2
          obtain ⟨gz, cz', ez, -, hgz, hcz⟩ := own_at (HU.out.below HBR.out) (by intro e; rw [e] at hm; simp at hm)
          injection ez with ez1 ez2 ez3
          subst ez1
          have hc3 := hcz m _ hme
          have hkl : (k : Int) < (os.length : Int) := by have := HL.out; omega
          have hm0 : (0 : Int) ≤ (m : Int) := Int.natCast_nonneg _
          have hm1 : (m : Int) < (zs.length : Int) := by omega
          have HW := Lib.hid hwv
          have HO := Lib.hid hov
          have HC := Lib.hid (fun W => c_impl_BitOf (w := W) (z := elt zs (m : Int)) (r := off) (l := ov'))
          have HST := Lib.hid (fun hb => true_step (off := off) HW.out HO.out HP.out hb)
          have HNO := Lib.hid (fun hb => true_no (zs := zs) (off := off) HW.out HO.out hb)
          clear hwv hov hme hcz hwb ez2 ez3
          rcases hbm : bitM (elt zs (m : Int)) off ov' with _ | y
          · rw [hbm] at HC HNO
            have HTF := Lib.hid (HNO.out rfl)
            clear HNO HST hbm
            generalize elt zs (m : Int) = z at *
            go_wp2_with fail
            go_quiet ((go_at_call 96; exact quiet_left (HC.out _)))
            go_wp2
            go_ret2
            exact ⟨by rw [HM.out, HTF.out]; rfl, below_drewN HBA.out _⟩
          · rw [hbm] at HC HST
            have HTF := Lib.hid (HST.out rfl)
            clear HNO HST hbm
            generalize elt zs (m : Int) = z at *
            go_wp2_with fail
            go_quiet ((go_at_call 96; exact quiet_left (HC.out _)))
            go_wp2
            go_roundw
            case rel => exact ⟨k + 1, by omega, by go_num, HTF, Lib.hid (below_drewN HBR.out _)⟩
            case measure => simp [intOf]; omega
        · obtain rfl : k = c.outs.length := by omega
          have HT := Lib.hid (true_all HL.out HP.out)
          go_wp2
          go_ret2
          exact ⟨by rw [HM.out, HT.out]; rfl, HBA.out⟩
set_option maxRecDepth 100000 in
set_option maxHeartbeats 2000000 in
theorem c_spec_TrueLabels {c : Cir} {gv ov vo : Value} {key off : Int} {os : List Int} {w : World} (h : CirIn w gv ov c) (hv : Ints w vo os) (hl : os.length ≤ 1048576) :
    Calls Tryz.prog 49 #[cirV c gv ov, .int .i64 key, .int .i64 off, vo] w fun e w' => e = .returned (.tuple #[.bool (bV (trueM c key off os)), .bool (bB (trueM c key off os))]) ∧ Below w.heap.size w w' := by
  have H := Lib.hid h
  have HV := Lib.hid hv
  obtain ⟨hg, hoo⟩ := h
  obtain ⟨A, cg, rfl, -⟩ := hg
  obtain ⟨A', co, rfl, hlc, hmc, hrc⟩ := hoo
  obtain ⟨B, cb, rfl, hlo, hmo, hro⟩ := hv
  have HRC := Lib.hid hrc
  have HRO := Lib.hid hro
  unfold maxLen at hmc hmo
  clear hrc hro
  unfold cirV
  obtain ⟨w0, hw0⟩ : ∃ W, w.alloc (.cells #[.int .i64 c.i0, .int .i64 c.i1, .slice A c.gs.length cg, .slice A' c.outs.length co] 26) = W := ⟨_, rfl⟩
  have HKC : Hid (Blk w0 w.heap.size 26 #[.int .i64 c.i0, .int .i64 c.i1, .slice A c.gs.length cg, .slice A' c.outs.length co]) := by rw [← hw0]; exact Blk.new _ _ _
  have HB : Hid (Below w.heap.size w w0) := by rw [← hw0]; exact (Below.refl _ _).alloc (Nat.le_refl _) _
  have x0 : w0.cell? ⟨w.heap.size, 0, none⟩ = some (.int .i64 c.i0) := HKC.out.cell 0
  have x1 : w0.cell? ⟨w.heap.size, 1, none⟩ = some (.int .i64 c.i1) := HKC.out.cell 1
  have x2 : w0.cell? ⟨w.heap.size, 2, none⟩ = some (.slice A c.gs.length cg) := HKC.out.cell 2
  have x3 : w0.cell? ⟨w.heap.size, 3, none⟩ = some (.slice A' c.outs.length co) := HKC.out.cell 3
  rcases hk : keyB c key off with _ | _
  · have HM := Lib.hid (show trueM c key off os = none by unfold trueM; rw [hk]; rfl)
    go_enter Tryz.func49, Tryz.ntmps49
    go_wp2_with fail
    refine (c_spec_gbKeys (H.out.below HB.out)).mono ?_
    rintro e w1 ⟨rfl, hb1⟩
    clear hw0
    go_wp2
    go_ret2
    exact ⟨by rw [HM.out]; rfl, below_step HB.out hb1⟩
  · have HKV := Lib.hid (keyB_of hk)
    have HOFF := Lib.hid (show offB off = true by simp only [keyB, Bool.and_eq_true] at hk; exact hk.2)
    have hlc40 := (cirB_bd HKV.out.1).2.2.2.2.2
    have hins : 0 ≤ c.ins := by have := cirB_bd HKV.out.1; unfold Cir.ins; omega
    have HOB := Lib.hid (zr_outs (F := gbZ off) (R := gbR off) (key := key) (off := off) HKV.out.1 hins)
    have hzl : (zrM (gbZ off) (gbR off) key off c.ins.toNat c.gs).zs.length ≤ 340 := by
      have h1 := zr_len (F := gbZ off) (R := gbR off) (key := key) (off := off) HKV.out.1
      have := cirB_bd HKV.out.1
      unfold Cir.ins at *; omega
    have HZB := Lib.hid (zr_bd (m := 3) (F := gbZ off) (R := gbR off) HKV.out.2.2.1 (fun w x y _ _ => gbZ_bd HKV.out.2.2.1 w x y) (fun w x y _ _ => gbR_bd HKV.out.2.2.1 w x y) key c.ins.toNat c.gs).1
    rcases (Decidable.em (os.length = c.outs.length)).symm with hlen | hlen
    · have HM := Lib.hid (show trueM c key off os = none by unfold trueM; simp [hlen])
      have hne : ¬ (os.length : Int) = (c.outs.length : Int) := by omega
      go_enter Tryz.func49, Tryz.ntmps49
      go_wp2_with fail
      refine (c_spec_gbKeys (H.out.below HB.out)).mono ?_
      rintro e w1 ⟨rfl, hb1⟩
      clear hw0
      have x3 : w1.cell? ⟨w.heap.size, 3, none⟩ = some (.slice A' c.outs.length co) := (HKC.out.step hb1).cell 3
      go_wp2
      go_ret2
      exact ⟨by rw [HM.out]; rfl, below_step HB.out hb1⟩
    have hla : labsB os = allB os 0 65535 := by
      unfold labsB
      rw [show decide (os.length ≤ 400) = true by simp; omega, Bool.and_true]
    have HL := Lib.hid hlen
    have hcond : ((os.length : Int) != (c.outs.length : Int)) = false := by have := HL.out; simp; omega
    have hcond2 : ((os.length : Int) == (c.outs.length : Int)) = true := by have := HL.out; simp; omega
    rcases ha : allB os 0 65535 with _ | _
    · have HM := Lib.hid (show trueM c key off os = none by unfold trueM; simp [ha])
      clear hlen
      have HLA := Lib.hid (hla.trans ha)
      clear hla
      go_enter Tryz.func49, Tryz.ntmps49
      go_wp2_with fail
      refine (c_spec_gbKeys (H.out.below HB.out)).mono ?_
      rintro e w1 ⟨rfl, hb1⟩
      clear hw0
      have HB1 := Lib.hid (below_step HB.out hb1)
      have x3 : w1.cell? ⟨w.heap.size, 3, none⟩ = some (.slice A' c.outs.length co) := (HKC.out.step hb1).cell 3
      go_wp2_with fail
      refine (c_spec_lbAll (HV.out.below HB1.out) (by omega)).mono ?_
      rintro e w' ⟨rfl, rfl⟩
      rw [HLA.out]
      go_wp2
      go_ret2
      exact ⟨by rw [HM.out]; rfl, HB1.out⟩
    · have HM := Lib.hid (show trueM c key off os = some (trueB (zrM (gbZ off) (gbR off) key off c.ins.toNat c.gs).zs off c.outs os) by unfold trueM; simp [hk, ha, hlen])
      have HLA := Lib.hid (hla.trans ha)
      clear hla hlen
      obtain ⟨zs, hzs⟩ : ∃ zs, (zrM (gbZ off) (gbR off) key off c.ins.toNat c.gs).zs = zs := ⟨_, rfl⟩
      rw [hzs] at HM HOB hzl HZB
      have HZE := Lib.hid hzs
      clear hzs
      go_enter Tryz.func49, Tryz.ntmps49
      go_wp2_with fail
      refine (c_spec_gbKeys (H.out.below HB.out)).mono ?_
      rintro e w1 ⟨rfl, hb1⟩
      clear hw0
      have HB1 := Lib.hid (below_step HB.out hb1)
      have HKC1 := Lib.hid (HKC.out.step hb1)
      have x0 : w1.cell? ⟨w.heap.size, 0, none⟩ = some (.int .i64 c.i0) := HKC1.out.cell 0
      have x1 : w1.cell? ⟨w.heap.size, 1, none⟩ = some (.int .i64 c.i1) := HKC1.out.cell 1
      have x2 : w1.cell? ⟨w.heap.size, 2, none⟩ = some (.slice A c.gs.length cg) := HKC1.out.cell 2
      have x3 : w1.cell? ⟨w.heap.size, 3, none⟩ = some (.slice A' c.outs.length co) := HKC1.out.cell 3
      have Q0 : Hid (∀ W, Below w1.heap.size w1 W → W.cell? ⟨w.heap.size, 0, none⟩ = some (.int .i64 c.i0)) := Lib.hid (belowCell x0)
      have Q1 : Hid (∀ W, Below w1.heap.size w1 W → W.cell? ⟨w.heap.size, 1, none⟩ = some (.int .i64 c.i1)) := Lib.hid (belowCell x1)
      have Q2 : Hid (∀ W, Below w1.heap.size w1 W → W.cell? ⟨w.heap.size, 2, none⟩ = some (.slice A c.gs.length cg)) := Lib.hid (belowCell x2)
      have Q3 : Hid (∀ W, Below w1.heap.size w1 W → W.cell? ⟨w.heap.size, 3, none⟩ = some (.slice A' c.outs.length co)) := Lib.hid (belowCell x3)
      go_wp2_with fail
      refine (c_spec_lbAll (HV.out.below HB1.out) (by omega)).mono ?_
      rintro e w' ⟨rfl, rfl⟩
      rw [HLA.out]
      go_wp2_with fail
      go_region_held3 (fun W => W.cell? ⟨w.heap.size, 0, none⟩ = some (.int .i64 c.i0) ∧ W.cell? ⟨w.heap.size, 1, none⟩ = some (.int .i64 c.i1) ∧ W.cell? ⟨w.heap.size, 2, none⟩ = some (.slice A c.gs.length cg) ∧ W.cell? ⟨w.heap.size, 3, none⟩ = some (.slice A' c.outs.length co))
        (first | exact KB.out | exact KA.out | exact ⟨Q0.out _ (Below.refl _ _).drew, Q1.out _ (Below.refl _ _).drew, Q2.out _ (Below.refl _ _).drew, Q3.out _ (Below.refl _ _).drew⟩)
        (first
          | (go_at_call 101; refine (c_spec_gbZeros ((H.out.below HB1.out).below ((Below.refl _ _).drew)) HKV.out.1 HKV.out.2.1 HKV.out.2.2.1).mono ?_; rintro e w2 ⟨u, rfl, hu, hb2⟩; rw [HZE.out] at hu; have hbA := below_step ((Below.refl w1.heap.size w1).drew) hb2; have KA := Lib.hid (And.intro (Q0.out _ hbA) (And.intro (Q1.out _ hbA) (And.intro (Q2.out _ hbA) (Q3.out _ hbA)))); have HBA := Lib.hid hbA; replace hu := Lib.hid hu)
          | (go_at_call 94; refine (c_spec_ciPick hu.out.ints ((H.out.below HB1.out).below HBA.out).outs (by omega) (by omega) HOB.out).mono ?_; rintro e w3 ⟨u2, rfl, hu2, hb3⟩; obtain ⟨Ap, cp, rfl, -⟩ := hu2.ints; have hbB := below_step HBA.out hb3; have KB := Lib.hid (And.intro (Q0.out _ hbB) (And.intro (Q1.out _ hbB) (And.intro (Q2.out _ hbB) (Q3.out _ hbB)))); have HBB := Lib.hid hbB; replace hu2 := Lib.hid hu2))
      have HBF := Lib.hid (below_step HB1.out HBB.out)
      have hpl : (pickM zs c.outs).length = c.outs.length := pickM_length _ _
      have HPL := Lib.hid hpl
      obtain ⟨ps, hps⟩ : ∃ ps, pickM zs c.outs = ps := ⟨_, rfl⟩
      have HPE := Lib.hid hps
      rw [hps] at hu2 HPL hpl ⊢
      clear hps KA KB x0 x1 x2 x3 Q0 Q1 Q2 Q3
      have hpl2 : ps.length ≤ 40 := by omega
      clear hpl
      go_wp2
      clear hcond hcond2
      go_loop [38] (fun i => ∃ k : Nat, k ≤ ps.length ∧ i = .int .i64 k ∧ Hid (((c.outs.zip os).take k).all (fun p => (bitM (elt zs p.1) off p.2).isSome) = true)) (fun i => ps.length - (intOf i).toNat)
      case atStart => exact ⟨0, Nat.zero_le _, rfl, Lib.hid rfl⟩
      case round =>
        obtain ⟨k, hk2, rfl, HP⟩ := hrel
        by_cases hlt : k < ps.length
        · have hlt2 : k < c.outs.length := by have := HPL.out; omega
          obtain ⟨b1, o1, wv, e1, hbl1, hwv, -⟩ := (HRC.out.below HBF.out).int_at hlt2
          obtain ⟨b2, o2, ov', rfl, hbl2, hov, hc2⟩ := (HRO.out.below HBF.out).int_at (k := k) (by have := HL.out; omega)
          obtain ⟨gp, cp', ep, -, hgp, hcp⟩ := own_at hu2.out (by intro e; rw [e] at hlt; simp at hlt)
          injection ep with ep1 ep2 ep3
          subst ep1
          have hpk : ps[k]? = some (elt zs wv) := by
            rw [← HPE.out]
            unfold pickM
            rw [List.getElem?_map, hwv]; rfl
          have hc3 := hcp k _ hpk
          have hkl : (k : Int) < (os.length : Int) := by have := HL.out; omega
          have hzb := elt_bd (k := wv) HZB.out
          have HE := Lib.hid (bitM_or (o := ov') hzb HOFF.out)
          have hxor := bits_xor hzb.1 HKV.out.2.2.1.1 (by omega) (by have := HKV.out.2.2.1; omega)
          have HST := Lib.hid (fun hb => true_step (off := off) hwv hov HP.out hb)
          have HNO := Lib.hid (fun hb => true_no (zs := zs) (off := off) hwv hov hb)
          clear hwv hov hpk hcp e1 ep2 ep3
          generalize elt zs wv = z at *
          by_cases h1 : ov' = z
          · have HTF := Lib.hid (HST.out (by rw [HE.out]; simp [h1]))
            clear HNO HST HE hxor
            subst h1
            go_wp2
            go_round
            case rel => exact ⟨k + 1, by omega, by go_num, HTF⟩
            case measure => simp [intOf]; omega
          · by_cases h2 : ov' = xorI z off
            · have HTF := Lib.hid (HST.out (by rw [HE.out]; simp [h2]))
              clear HNO HST HE
              subst h2
              go_wp2
              go_round
              case rel => exact ⟨k + 1, by omega, by go_num, HTF⟩
              case measure => simp [intOf]; omega
            · have HTF := Lib.hid (HNO.out (by rw [HE.out]; simp [h1, h2]))
              have n1 : (ov' != z) = true := by simp [h1]
              have n2 : (ov' != xorI z off) = true := by simp [h2]
              have n3 : (ov' == z) = false := by simp [h1]
              have n4 : (ov' == xorI z off) = false := by simp [h2]
              clear HNO HST HE
              go_wp2
              go_ret2
              exact ⟨by rw [HM.out, HTF.out]; rfl, HBF.out⟩
        · obtain rfl : k = ps.length := by omega
          have HT := Lib.hid (true_all HL.out (by have := HP.out; rw [HPL.out] at this; exact this))
          go_wp2
          go_ret2
          exact ⟨by rw [HM.out, HT.out]; rfl, HBF.out⟩
end Go.Proofs.YtejeppjmlgfiaaaGreat
