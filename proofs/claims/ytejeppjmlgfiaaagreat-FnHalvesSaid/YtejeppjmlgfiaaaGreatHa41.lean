/- Contracts of the values of all wires and of the evaluation of a circuit, the program's. Conditions: the lists are short. -/
import Derived.Test.YtejeppjmlgfiaaaGreatHa31
import Derived.Test.YtejeppjmlgfiaaaGreatHa40
import Derived.Deep.RegionHeld3
namespace Go.Proofs.YtejeppjmlgfiaaaGreat
open Go.RowKit
set_option linter.unusedVariables false

theorem bit_and {x y : Int} (hx : x = 0 ∨ x = 1) (hy : y = 0 ∨ y = 1) : bits .and .i64 x y = x * y := by
  rcases hx with rfl | rfl <;> rcases hy with rfl | rfl <;> decide
theorem bit_xor2 {x y : Int} (hx : x = 0 ∨ x = 1) (hy : y = 0 ∨ y = 1) : bits .xor .i64 x y = xorI x y := by
  rcases hx with rfl | rfl <;> rcases hy with rfl | rfl <;> decide
/-- The values of the outs. -/
def clearM (c : Cir) (a b : List Int) : Option (List Int) := if askedB c a b then some (pickM (valsM (a ++ b) c.gs) c.outs) else none
def wireVM (c : Cir) (a b : List Int) : Option (List Int) := if askedB c a b then some (valsM (a ++ b) c.gs) else none
set_option maxRecDepth 100000 in
set_option maxHeartbeats 2000000 in
theorem c_C_values {c : Cir} {gv ov vi : Value} {inp : List Int} {w : World} (h : CirIn w gv ov c) (hc : cirB c = true) (hi : Ints w vi inp) (hil : (inp.length : Int) = c.ins) (hib : ∀ x ∈ inp, x = 0 ∨ x = 1) :
    Calls Tryz.prog 142 #[cirV c gv ov, vi] w (RetI w (valsM inp c.gs)) := by
  have hbd := cirB_bd hc
  have hgl : c.gs.length ≤ 300 := hbd.2.2.2.2.1
  have hins : 0 ≤ c.ins ∧ c.ins ≤ 40 := by unfold Cir.ins; omega
  have HGB := Lib.hid (cirB_gates hc)
  have HKB := Lib.hid (cirB_kinds hc)
  have HBD := Lib.hid (vals_bit hib)
  have HI := Lib.hid hi
  obtain ⟨hg, ho⟩ := h
  obtain ⟨A, cg, rfl, hlg, hmg, hrg⟩ := hg
  obtain ⟨A', co, rfl, -⟩ := ho
  have HRG := Lib.hid hrg
  unfold maxLen at hmg
  clear hc hbd hrg hib
  unfold cirV
  obtain ⟨w0, hw0⟩ : ∃ W, w.alloc (.cells #[.int .i64 c.i0, .int .i64 c.i1, .slice A c.gs.length cg, .slice A' c.outs.length co] 26) = W := ⟨_, rfl⟩
  have HKC := Lib.hid (Blk.new w 26 #[.int .i64 c.i0, .int .i64 c.i1, .slice A c.gs.length cg, .slice A' c.outs.length co])
  rw [hw0] at HKC
  have hz0 : w.heap.size + 1 ≤ w0.heap.size := by rw [← hw0]; simp
  have HB : Hid (Below w.heap.size w w0) := by rw [← hw0]; exact (Below.refl w.heap.size w).alloc (Nat.le_refl _) _
  go_enter Tryz.func142, Tryz.ntmps142
  go_wp2_with fail
  clear hw0
  refine (c_slices_Clone (HI.out.below HB.out) (by omega)).mono ?_
  rintro e w1 ⟨u, rfl, hu, hb⟩
  have HU := Lib.hid (hu.mono hz0)
  have hz1 : w.heap.size + 1 ≤ w1.heap.size := Nat.le_trans hz0 hb.size
  replace HB := Lib.hid (below_step HB.out hb)
  replace HKC := Lib.hid (HKC.out.step hb)
  have x2 : w1.cell? ⟨w.heap.size, 2, none⟩ = some (.slice A c.gs.length cg) := HKC.out.cell 2
  clear hb hu HKC
  go_wp2
  clear x2
  go_loopw [5, 14] (fun o i wr => ∃ k : Nat, k ≤ c.gs.length ∧ i = .int .i64 k ∧ Hid (OwnI wr (w.heap.size + 1) o (valsM inp (c.gs.take k))) ∧ Hid (Below w.heap.size w wr) ∧ w.heap.size + 1 ≤ wr.heap.size) (fun _ i _ => c.gs.length - (intOf i).toNat)
  case atStart => exact ⟨0, Nat.zero_le _, rfl, HU, HB, hz1⟩
  case round =>
    obtain ⟨k, hk, rfl, HO, HB, hzr⟩ := hrel
    by_cases hlt : k < c.gs.length
    · obtain ⟨b, o, g, rfl, hbl, hgk, c0, c1', c2'⟩ := (HRG.out.below HB.out).gate_at hlt
      have hgb := gate_ab (gatesB_at _ _ k g HGB.out hgk)
      have i1 := vals_len inp (c.gs.take k)
      rw [List.length_take, Nat.min_eq_left (by omega)] at i1
      have HS := Lib.hid (vals_snoc (inp := inp) hgk)
      have hbs := HBD.out (c.gs.take k)
      generalize hs : valsM inp (c.gs.take k) = l at *
      clear hs hgk
      obtain ⟨gk, ga, gb⟩ := g
      simp only at c0 c1' c2' hgb i1 hbs HO
      obtain ⟨Au, cu, rfl, hlu, hmu, hru⟩ := own_form HO.out
      unfold maxLen at hmu
      have hll : (l.length : Int) = c.ins + k := by omega
      have hl340 : l.length ≤ 340 := by omega
      have HLL := Lib.hid hll
      have HBS := Lib.hid hbs
      have HRU := Lib.hid hru
      obtain ⟨wb, hwb⟩ : ∃ W, wr.alloc (.cells #[.int .i64 gk, .int .i64 ga, .int .i64 gb] 117) = W := ⟨_, rfl⟩
      have hbb : Below wr.heap.size wr wb := by rw [← hwb]; exact (Below.refl _ _).alloc (Nat.le_refl _) _
      have HBX : Hid (Blk wb wr.heap.size 117 #[.int .i64 gk, .int .i64 ga, .int .i64 gb]) := by rw [← hwb]; exact Blk.new _ _ _
      have y0 : wb.cell? ⟨wr.heap.size, 0, none⟩ = some (.int .i64 gk) := HBX.out.cell 0
      have y1 : wb.cell? ⟨wr.heap.size, 1, none⟩ = some (.int .i64 ga) := HBX.out.cell 1
      have y2 : wb.cell? ⟨wr.heap.size, 2, none⟩ = some (.int .i64 gb) := HBX.out.cell 2
      have HBB := Lib.hid hbb
      have HB2 := Lib.hid (below_step HB.out hbb)
      have HO2 := Lib.hid (HO.out.below hbb)
      have hsz : w.heap.size + 1 ≤ wb.heap.size := Nat.le_trans hzr HBB.out.size
      clear hbb hll hbs hru HB HO hlu hmu
      have hkk : gk = 0 ∨ gk = 1 ∨ gk = 2 ∨ gk = 3 := by omega
      rcases hkk with rfl | rfl | rfl | rfl
      · have hab := hgb.2.1 (Or.inl rfl)
        obtain ⟨ja, rfl, hja, hea⟩ := elt_at (l := l) hab.1 (by have := HLL.out; omega)
        obtain ⟨jb, rfl, hjb, heb⟩ := elt_at (l := l) hab.2.2.1 (by have := HLL.out; omega)
        obtain ⟨bo, oo, xa, rfl, hbo, hxa, hca⟩ := (HRU.out.below HBB.out).int_at hja
        obtain ⟨bo2, oo2, xb, e2, hbo2, hxb, hcb⟩ := (HRU.out.below HBB.out).int_at hjb
        injection e2 with e2; injection e2 with e2 e2'; subst e2 e2'
        have exa := hea.symm.trans hxa
        have exb := heb.symm.trans hxb
        injection exa with exa
        injection exb with exb
        have ba := elt_bit HBS.out (ja : Int)
        have bb := elt_bit HBS.out (jb : Int)
        rw [exa] at ba
        rw [exb] at bb
        have hxor := bit_xor2 ba bb
        have HW := Lib.hid (show vStep l ⟨0, (ja : Int), (jb : Int)⟩ = l ++ [xorI xa xb] by unfold vStep; simp only [Int.reduceEq, if_false, if_true]; rw [exa, exb])
        clear hgb hea heb hxa hxb exa exb hab i1
        have hja0 : (0 : Int) ≤ (ja : Int) := Int.natCast_nonneg _
        have hja1 : (ja : Int) < (l.length : Int) := by omega
        have hjb0 : (0 : Int) ≤ (jb : Int) := Int.natCast_nonneg _
        have hjb1 : (jb : Int) < (l.length : Int) := by omega
        go_wp2_with fail
        go_region_held3 (fun w' => w'.cell? ⟨wr.heap.size, 1, none⟩ = some (.int .i64 (ja : Int)) ∧ w'.cell? ⟨wr.heap.size, 2, none⟩ = some (.int .i64 (jb : Int)) ∧ w'.cell? ⟨bo, oo + ja, none⟩ = some (.int .i64 xa) ∧ w'.cell? ⟨bo, oo + jb, none⟩ = some (.int .i64 xb)) (exact ⟨y1, y2, hca, hcb⟩) (fail)
        go_wp2_with (at_builtin; refine wp_app1 (B := w.heap.size + 1) rfl rfl Tryz.underlying24 info_int rfl (own_drew HO2.out) rfl rfl rfl (by unfold maxLen; omega) (by omega) hsz ?_; intro v' w9 ho hg hfr)
        have HBn := Lib.hid (below_app HB2.out.drew (own_mono (own_drew HO2.out) (Nat.le_add_right _ 1)) hg (Nat.le_refl _))
        have hzn := Nat.le_trans hsz hg.size
        go_roundw
        case rel => exact ⟨k + 1, by omega, by go_num, by rw [HS.out, HW.out]; exact Lib.hid (OwnI.snoc ho), HBn, hzn⟩
        case measure => simp [intOf]; omega
      · have hab := hgb.2.1 (Or.inr rfl)
        obtain ⟨ja, rfl, hja, hea⟩ := elt_at (l := l) hab.1 (by have := HLL.out; omega)
        obtain ⟨jb, rfl, hjb, heb⟩ := elt_at (l := l) hab.2.2.1 (by have := HLL.out; omega)
        obtain ⟨bo, oo, xa, rfl, hbo, hxa, hca⟩ := (HRU.out.below HBB.out).int_at hja
        obtain ⟨bo2, oo2, xb, e2, hbo2, hxb, hcb⟩ := (HRU.out.below HBB.out).int_at hjb
        injection e2 with e2; injection e2 with e2 e2'; subst e2 e2'
        have exa := hea.symm.trans hxa
        have exb := heb.symm.trans hxb
        injection exa with exa
        injection exb with exb
        have ba := elt_bit HBS.out (ja : Int)
        have bb := elt_bit HBS.out (jb : Int)
        rw [exa] at ba
        rw [exb] at bb
        have hxor := bit_and ba bb
        have HW := Lib.hid (show vStep l ⟨1, (ja : Int), (jb : Int)⟩ = l ++ [xa * xb] by unfold vStep; simp only [Int.reduceEq, if_false, if_true]; rw [exa, exb])
        clear hgb hea heb hxa hxb exa exb hab i1
        have hja0 : (0 : Int) ≤ (ja : Int) := Int.natCast_nonneg _
        have hja1 : (ja : Int) < (l.length : Int) := by omega
        have hjb0 : (0 : Int) ≤ (jb : Int) := Int.natCast_nonneg _
        have hjb1 : (jb : Int) < (l.length : Int) := by omega
        go_wp2_with fail
        go_region_held3 (fun w' => w'.cell? ⟨wr.heap.size, 1, none⟩ = some (.int .i64 (ja : Int)) ∧ w'.cell? ⟨wr.heap.size, 2, none⟩ = some (.int .i64 (jb : Int)) ∧ w'.cell? ⟨bo, oo + ja, none⟩ = some (.int .i64 xa) ∧ w'.cell? ⟨bo, oo + jb, none⟩ = some (.int .i64 xb)) (exact ⟨y1, y2, hca, hcb⟩) (fail)
        go_wp2_with (at_builtin; refine wp_app1 (B := w.heap.size + 1) rfl rfl Tryz.underlying24 info_int rfl (own_drew HO2.out) rfl rfl rfl (by unfold maxLen; omega) (by omega) hsz ?_; intro v' w9 ho hg hfr)
        have HBn := Lib.hid (below_app HB2.out.drew (own_mono (own_drew HO2.out) (Nat.le_add_right _ 1)) hg (Nat.le_refl _))
        have hzn := Nat.le_trans hsz hg.size
        go_roundw
        case rel => exact ⟨k + 1, by omega, by go_num, by rw [HS.out, HW.out]; exact Lib.hid (OwnI.snoc ho), HBn, hzn⟩
        case measure => simp [intOf]; omega
      · have hab := hgb.2.2 rfl
        obtain ⟨ja, rfl, hja, hea⟩ := elt_at (l := l) hab.1 (by have := HLL.out; omega)
        obtain ⟨bo, oo, xa, rfl, hbo, hxa, hca⟩ := (HRU.out.below HBB.out).int_at hja
        have exa := hea.symm.trans hxa
        injection exa with exa
        have ba := elt_bit HBS.out (ja : Int)
        rw [exa] at ba
        have hx1 : -9223372036854775808 ≤ 1 - xa ∧ 1 - xa ≤ 9223372036854775807 := by omega
        have HW := Lib.hid (show vStep l ⟨2, (ja : Int), gb⟩ = l ++ [1 - xa] by unfold vStep; simp only [Int.reduceEq, if_false, if_true]; rw [exa])
        clear hgb hea hxa exa hab i1
        have hja0 : (0 : Int) ≤ (ja : Int) := Int.natCast_nonneg _
        have hja1 : (ja : Int) < (l.length : Int) := by omega
        go_wp2_with (at_builtin; refine wp_app1 (B := w.heap.size + 1) rfl rfl Tryz.underlying24 info_int rfl HO2.out rfl rfl rfl (by unfold maxLen; omega) (by omega) hsz ?_; intro v' w9 ho hg hfr)
        have HBn := Lib.hid (below_app HB2.out (own_mono HO2.out (Nat.le_add_right _ 1)) hg (Nat.le_refl _))
        have hzn := Nat.le_trans hsz hg.size
        go_roundw
        case rel => exact ⟨k + 1, by omega, by go_num, by rw [HS.out, HW.out]; exact Lib.hid (OwnI.snoc ho), HBn, hzn⟩
        case measure => simp [intOf]; omega
      · have HW := Lib.hid (show vStep l ⟨3, ga, gb⟩ = l ++ [1] by unfold vStep; simp only [Int.reduceEq, if_false])
        clear hgb i1
        go_wp2_with (at_builtin; refine wp_app1 (B := w.heap.size + 1) rfl rfl Tryz.underlying24 info_int rfl HO2.out rfl rfl rfl (by unfold maxLen; omega) (by omega) hsz ?_; intro v' w9 ho hg hfr)
        have HBn := Lib.hid (below_app HB2.out (own_mono HO2.out (Nat.le_add_right _ 1)) hg (Nat.le_refl _))
        have hzn := Nat.le_trans hsz hg.size
        go_roundw
        case rel => exact ⟨k + 1, by omega, by go_num, by rw [HS.out, HW.out]; exact Lib.hid (OwnI.snoc ho), HBn, hzn⟩
        case measure => simp [intOf]; omega
    · have HE := Lib.hid (show c.gs.take k = c.gs from List.take_of_length_le (by omega))
      go_wp2
      go_ret
      exact RetI.mk (OwnI.mono (by have := HO.out; rw [HE.out] at this; exact this) (Nat.le_add_right _ _)) HB.out
set_option maxRecDepth 100000 in
set_option maxHeartbeats 2000000 in
theorem c_impl_WireValues {c : Cir} {gv ov va vb : Value} {a b : List Int} {w : World} (h : CirIn w gv ov c) (ha : Ints w va a) (hb : Ints w vb b) (hla : a.length ≤ 1048576) (hlb : b.length ≤ 1048576) :
    Calls Tryz.prog 77 #[cirV c gv ov, va, vb] w (RetIB w (wireVM c a b)) := by
  have H := Lib.hid h
  have HA := Lib.hid ha
  have HV := Lib.hid hb
  obtain ⟨hg, ho⟩ := h
  obtain ⟨A, cg, rfl, -⟩ := hg
  obtain ⟨A', co, rfl, -⟩ := ho
  obtain ⟨Aa, ca, rfl, -⟩ := ha
  obtain ⟨Ab, cb, rfl, -⟩ := hb
  unfold cirV
  obtain ⟨w0, hw0⟩ : ∃ W, w.alloc (.cells #[.int .i64 c.i0, .int .i64 c.i1, .slice A c.gs.length cg, .slice A' c.outs.length co] 26) = W := ⟨_, rfl⟩
  have HKC := Lib.hid (Blk.new w 26 #[.int .i64 c.i0, .int .i64 c.i1, .slice A c.gs.length cg, .slice A' c.outs.length co])
  rw [hw0] at HKC
  have HB : Hid (Below w.heap.size w w0) := by rw [← hw0]; exact (Below.refl w.heap.size w).alloc (Nat.le_refl _) _
  have CA := Lib.hid (c_impl_areInputs (H.out.below HB.out) (HA.out.below HB.out) (HV.out.below HB.out) hla hlb)
  have x0 := HKC.out.cell 0
  have x1 := HKC.out.cell 1
  have x2 := HKC.out.cell 2
  have x3 := HKC.out.cell 3
  unfold cirV at CA
  go_enter Tryz.func77, Tryz.ntmps77
  go_wp2_with fail
  clear hw0 x0 x1 x2 x3
  refine CA.out.mono ?_
  rintro e w1 ⟨rfl, hb1⟩
  replace HKC := Lib.hid (HKC.out.step hb1)
  replace HB := Lib.hid (below_step HB.out hb1)
  clear CA hb1
  rcases h1 : askedB c a b with _ | _
  · have HM := Lib.hid (show wireVM c a b = none by simp [wireVM, h1])
    go_wp2
    go_ret2; rw [HM.out]; exact RetIB.no_below HB.out
  have HM := Lib.hid (show wireVM c a b = some (valsM (a ++ b) c.gs) by simp [wireVM, h1])
  have HC := Lib.hid (askedB_of h1).1
  have HIN := Lib.hid (asked_in h1)
  have HBT := Lib.hid (show ∀ x ∈ a ++ b, x = 0 ∨ x = 1 from fun x hx => bit_cases (asked_in h1).2 hx)
  have y0 := belowCell (HKC.out.cell 0)
  have y1 := belowCell (HKC.out.cell 1)
  have y2 := belowCell (HKC.out.cell 2)
  have y3 := belowCell (HKC.out.cell 3)
  have CV := Lib.hid (fun (W : World) (u : Value) (hB : Below w1.heap.size w1 W) (hu : Ints W u (a ++ b)) => c_C_values (w := W) (H.out.below (below_step HB.out hB)) HC.out hu HIN.out.1 HBT.out)
  unfold cirV at CV
  clear h1
  go_wp2_with fail
  go_region_held3 (fun w' => Below w1.heap.size w1 w')
    (first | (refine below_step ?_ HD.out; assumption) | (exact (Below.refl _ _).drew))
    (first
      | (go_at_call 82; refine (c_impl_with (HA.out.below (below_step HB.out (by assumption))) (HV.out.below (below_step HB.out (by assumption))) hla hlb).mono ?_; rintro e wz ⟨u, rfl, hu, hb⟩; have HD := Lib.hid hb; have HU := Lib.hid hu.ints)
      | (go_at_call 142; refine (CV.out _ _ (by assumption) HU.out).mono ?_; rintro e wy ⟨u2, rfl, hu2, hb⟩; have HD := Lib.hid hb; have HU2 := Lib.hid (hu2.mono (Nat.le_trans HB.out.size (Below.size (B := w1.heap.size) (by assumption))))))
  all_goals
    go_wp2
    go_ret2; rw [HM.out]
    exact RetIB.yes HU2.out (below_step HB.out (by assumption))
set_option maxRecDepth 100000 in
set_option maxHeartbeats 2000000 in
theorem c_impl_EvalCircuit {c : Cir} {gv ov va vb : Value} {a b : List Int} {w : World} (h : CirIn w gv ov c) (ha : Ints w va a) (hb : Ints w vb b) (hla : a.length ≤ 1048576) (hlb : b.length ≤ 1048576) :
    Calls Tryz.prog 18 #[cirV c gv ov, va, vb] w (RetIB w (clearM c a b)) := by
  have H := Lib.hid h
  have HA := Lib.hid ha
  have HV := Lib.hid hb
  obtain ⟨hg, ho⟩ := h
  obtain ⟨A, cg, rfl, -⟩ := hg
  obtain ⟨A', co, rfl, -⟩ := ho
  obtain ⟨Aa, ca, rfl, -⟩ := ha
  obtain ⟨Ab, cb, rfl, -⟩ := hb
  unfold cirV
  obtain ⟨w0, hw0⟩ : ∃ W, w.alloc (.cells #[.int .i64 c.i0, .int .i64 c.i1, .slice A c.gs.length cg, .slice A' c.outs.length co] 26) = W := ⟨_, rfl⟩
  have HKC := Lib.hid (Blk.new w 26 #[.int .i64 c.i0, .int .i64 c.i1, .slice A c.gs.length cg, .slice A' c.outs.length co])
  rw [hw0] at HKC
  have HB : Hid (Below w.heap.size w w0) := by rw [← hw0]; exact (Below.refl w.heap.size w).alloc (Nat.le_refl _) _
  have CA := Lib.hid (c_impl_WireValues (H.out.below HB.out) (HA.out.below HB.out) (HV.out.below HB.out) hla hlb)
  unfold cirV at CA
  have x0 := HKC.out.cell 0
  have x1 := HKC.out.cell 1
  have x2 := HKC.out.cell 2
  have x3 := HKC.out.cell 3
  go_enter Tryz.func18, Tryz.ntmps18
  go_wp2_with fail
  clear hw0 x0 x1 x2 x3
  refine CA.out.mono ?_
  rintro e w1 ⟨u, rfl, hu, hb1⟩
  replace HKC := Lib.hid (HKC.out.step hb1)
  have hsz := HB.out.size
  replace HB := Lib.hid (below_step HB.out hb1)
  clear CA hb1
  rcases h1 : askedB c a b with _ | _
  · have HM := Lib.hid (show clearM c a b = none by simp [clearM, h1])
    have HN := Lib.hid (show wireVM c a b = none by simp [wireVM, h1])
    rw [HN.out]
    go_wp2
    go_ret2; rw [HM.out]; exact RetIB.no_below HB.out
  have HM := Lib.hid (show clearM c a b = some (pickM (valsM (a ++ b) c.gs) c.outs) by simp [clearM, h1])
  have HN := Lib.hid (show wireVM c a b = some (valsM (a ++ b) c.gs) by simp [wireVM, h1])
  rw [HN.out] at hu ⊢
  have hvl := vals_len (a ++ b) c.gs
  have hai := (asked_in h1).1
  have hcb := cirB_bd (askedB_of h1).1
  have hco : ∀ k ∈ c.outs, 0 ≤ k ∧ k < ((valsM (a ++ b) c.gs).length : Int) := by
    intro k hk
    have h2 := allB_bd (cirB_outs (askedB_of h1).1) k hk
    rw [hvl]
    unfold Cir.wires at h2
    omega
  have HU := Lib.hid (show OwnI w1 w0.heap.size u (valsM (a ++ b) c.gs) from hu)
  obtain ⟨Au, cu, eu, -⟩ := HU.out.ints
  subst eu
  have y3 := HKC.out.cell 3
  have hvl2 : (valsM (a ++ b) c.gs).length ≤ 2097152 := by unfold Cir.ins at hai; omega
  have hol : c.outs.length ≤ 2097152 := by omega
  clear hu h1 hvl hai hcb
  go_wp2_with fail
  refine (c_impl_at HU.out.ints (H.out.below HB.out).outs hvl2 hol hco).mono ?_
  rintro e w2 ⟨u2, rfl, hu2, hb2⟩
  go_wp2
  go_ret2; rw [HM.out]
  exact RetIB.yes (hu2.mono HB.out.size) (below_step HB.out hb2)
end Go.Proofs.YtejeppjmlgfiaaaGreat
