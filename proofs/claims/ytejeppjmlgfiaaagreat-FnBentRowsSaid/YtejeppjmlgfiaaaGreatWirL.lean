/- Contracts of the labels of all wires, the program's: the loop over the gates. Conditions: the circuit, the tables and the inputs are valid. -/
import Derived.Test.YtejeppjmlgfiaaaGreatWirI
namespace Go.Proofs.YtejeppjmlgfiaaaGreat
open Go.RowKit
set_option linter.unusedVariables false

theorem getD_at {α : Type} {l : List α} {k : Nat} {x d : α} (h : l[k]? = some x) : l.getD k d = x := by simp [List.getD, h]
set_option maxRecDepth 100000 in
set_option maxHeartbeats 2000000 in
theorem c_labels_openedAnd {c : Cir} {T : Gb} {gv ov rv nv cv vi : Value} {inp : List Int} {w : World} (h : CirIn w gv ov c) (hc : cirB c = true) (h2 : GbIn w rv nv cv T) (ht : tabB 3 c T = true)
    (hi : Ints w vi inp) (hil : (inp.length : Int) = c.ins) (hib : ∀ x ∈ inp, 0 ≤ x ∧ x ≤ 65535) :
    Calls Tryz.prog 87 #[cirV c gv ov, gbV rv nv cv, vi, .func (.func 95) #[] #[]] w (RetI w (wiresM openM T inp c.gs).1) := by
  have hbd := cirB_bd hc
  have hgl : c.gs.length ≤ 300 := hbd.2.2.2.2.1
  have hins : 0 ≤ c.ins ∧ c.ins ≤ 40 := by unfold Cir.ins; omega
  have htt := tabB_of ht
  have HT := Lib.hid htt
  have HGB := Lib.hid (cirB_gates hc)
  have HKB := Lib.hid (cirB_kinds hc)
  have HBD := Lib.hid (wires_bd (F := openM) (n := 0) (T := T) hib htt.2.2.2.1 (fun r hr => (htt.2.1 r hr).2) (fun w x y r hx hr => by first | exact openM_bd hr | exact joinM_bd hx hr))
  have HI := Lib.hid hi
  obtain ⟨hg, ho⟩ := h
  obtain ⟨A, cg, rfl, hlg, hmg, hrg⟩ := hg
  obtain ⟨A', co, rfl, -⟩ := ho
  obtain ⟨hr, ho, hcc⟩ := h2
  obtain ⟨A1, c1, rfl, hl1, hm1, hat⟩ := hr.form
  obtain ⟨A2, c2, rfl, hl2, hm2, hro⟩ := ho
  obtain ⟨A3, c3, rfl, -⟩ := hcc
  have HAT := Lib.hid hat
  have HRG := Lib.hid hrg
  have HRO := Lib.hid hro
  have hrl : (T.rows.length : Int) = cnt 1 c.gs := htt.1
  have hol : (T.ones.length : Int) = cnt 3 c.gs := htt.2.2.1
  have HRL := Lib.hid hrl
  have HOL := Lib.hid hol
  have hcb1 := cnt_bd 1 c.gs
  have hcb3 := cnt_bd 3 c.gs
  have hrn : T.rows.length ≤ 300 := by omega
  have hon : T.ones.length ≤ 300 := by omega
  unfold maxLen at hmg hm1 hm2
  clear hc hr hbd hat hrg htt ht hib hro hrl hol hcb1 hcb3
  unfold cirV gbV
  obtain ⟨w0, hw0⟩ : ∃ W, (w.alloc (.cells #[.int .i64 c.i0, .int .i64 c.i1, .slice A c.gs.length cg, .slice A' c.outs.length co] 26)).alloc (.cells #[.slice A1 T.rows.length c1, .slice A2 T.ones.length c2, .slice A3 T.cols.length c3] 50) = W := ⟨_, rfl⟩
  have HKC := Lib.hid ((Blk.new w 26 #[.int .i64 c.i0, .int .i64 c.i1, .slice A c.gs.length cg, .slice A' c.outs.length co]).alloc (.cells #[.slice A1 T.rows.length c1, .slice A2 T.ones.length c2, .slice A3 T.cols.length c3] 50))
  rw [hw0] at HKC
  have HKG := Lib.hid (Blk.new (w.alloc (.cells #[.int .i64 c.i0, .int .i64 c.i1, .slice A c.gs.length cg, .slice A' c.outs.length co] 26)) 50 #[.slice A1 T.rows.length c1, .slice A2 T.ones.length c2, .slice A3 T.cols.length c3])
  simp only [World.size_alloc, hw0] at HKG
  have hz0 : w.heap.size + 2 ≤ w0.heap.size := by rw [← hw0]; simp
  have HB : Hid (Below w.heap.size w w0) := by rw [← hw0]; exact ((Below.refl w.heap.size w).alloc (Nat.le_refl _) _).alloc (by simp) _
  go_enter Tryz.func87, Tryz.ntmps87
  go_wp2_with fail
  clear hw0
  refine (c_slices_Clone (HI.out.below HB.out) (by omega)).mono ?_
  rintro e w1 ⟨u, rfl, hu, hb⟩
  have HU := Lib.hid (hu.mono hz0)
  have hz1 : w.heap.size + 2 ≤ w1.heap.size := Nat.le_trans hz0 hb.size
  replace HB := Lib.hid (below_step HB.out hb)
  replace HKC := Lib.hid (HKC.out.step hb)
  replace HKG := Lib.hid (HKG.out.step hb)
  have x2 : w1.cell? ⟨w.heap.size, 2, none⟩ = some (.slice A c.gs.length cg) := HKC.out.cell 2
  clear hb hu HKC
  go_wp2
  clear x2
  go_loopw [9, 10, 11, 20] (fun o a n i wr => ∃ k : Nat, k ≤ c.gs.length ∧ i = .int .i64 k ∧ a = .int .i64 ((wiresM openM T inp (c.gs.take k)).2.1 : Nat) ∧ n = .int .i64 ((wiresM openM T inp (c.gs.take k)).2.2 : Nat) ∧ Hid (OwnI wr (w.heap.size + 2) o (wiresM openM T inp (c.gs.take k)).1) ∧ Hid (Below w.heap.size w wr) ∧ w.heap.size + 2 ≤ wr.heap.size ∧ Hid (Blk wr (w.heap.size + 1) 50 #[.slice A1 T.rows.length c1, .slice A2 T.ones.length c2, .slice A3 T.cols.length c3])) (fun _ _ _ i _ => c.gs.length - (intOf i).toNat)
  case atStart => exact ⟨0, Nat.zero_le _, rfl, rfl, rfl, HU, HB, hz1, HKG⟩
  case round =>
    obtain ⟨k, hk, rfl, rfl, rfl, HO, HB, hzr, HKG⟩ := hrel
    by_cases hlt : k < c.gs.length
    · obtain ⟨b, o, g, rfl, hbl, hgk, c0, c1', c2'⟩ := (HRG.out.below HB.out).gate_at hlt
      have hgb := gate_ab (gatesB_at _ _ k g HGB.out hgk)
      obtain ⟨i1, i2, i3⟩ := wires_inv (F := openM) (T := T) (inp := inp) HKB.out k (by omega)
      have HS := Lib.hid (wires_snoc (F := openM) (T := T) (inp := inp) hgk)
      have hbs := HBD.out (c.gs.take k)
      have hlt1 := fun (hj : g.k = 1) => cnt_lt hgk hj
      have hlt3 := fun (hj : g.k = 3) => cnt_lt hgk hj
      generalize hs : wiresM openM T inp (c.gs.take k) = s at *
      clear hs hgk
      obtain ⟨gk, ga, gb⟩ := g
      obtain ⟨l, na, no⟩ := s
      simp only at c0 c1' c2' hgb i1 i2 i3 hbs hlt1 hlt3 HO
      obtain ⟨Au, cu, rfl, hlu, hmu, hru⟩ := own_form HO.out
      unfold maxLen at hmu
      have hll : (l.length : Int) = c.ins + k := by omega
      have hl340 : l.length ≤ 340 := by omega
      have HLL := Lib.hid hll
      have HBS := Lib.hid hbs
      have HRU := Lib.hid hru
      obtain ⟨wb, hwb⟩ : ∃ W, wr.alloc (.cells #[.int .i64 gk, .int .i64 ga, .int .i64 gb] 117) = W := ⟨_, rfl⟩
      have hbb : Below wr.heap.size wr wb := by rw [← hwb]; exact (Below.refl _ _).alloc (Nat.le_refl _) _
      have HBX : Hid (Blk wb wr.heap.size 117 #[.int .i64 gk, .int .i64 ga, .int .i64 gb]) := by rw [← hwb]; exact Blk.new _ _ _
      have y0 : wb.cell? ⟨wr.heap.size, 0, none⟩ = some (.int .i64 gk) := HBX.out.cell 0
      have y1 : wb.cell? ⟨wr.heap.size, 1, none⟩ = some (.int .i64 ga) := HBX.out.cell 1
      have y2 : wb.cell? ⟨wr.heap.size, 2, none⟩ = some (.int .i64 gb) := HBX.out.cell 2
      have HBB := Lib.hid hbb
      have HB2 := Lib.hid (below_step HB.out hbb)
      have HKG2 := Lib.hid (HKG.out.step hbb)
      have HO2 := Lib.hid (HO.out.below hbb)
      have hsz : w.heap.size + 2 ≤ wb.heap.size := Nat.le_trans hzr HBB.out.size
      clear hbb hll hbs hru HB HKG HO hlu hmu
      have hkk : gk = 0 ∨ gk = 1 ∨ gk = 2 ∨ gk = 3 := by omega
      rcases hkk with rfl | rfl | rfl | rfl
      · -- exclusive-or
        have hab := hgb.2.1 (Or.inl rfl)
        obtain ⟨ja, rfl, hja, hea⟩ := elt_at (l := l) hab.1 (by have := HLL.out; omega)
        obtain ⟨jb, rfl, hjb, heb⟩ := elt_at (l := l) hab.2.2.1 (by have := HLL.out; omega)
        obtain ⟨bo, oo, xa, rfl, hbo, hxa, hca⟩ := (HRU.out.below HBB.out).int_at hja
        obtain ⟨bo2, oo2, xb, e2, hbo2, hxb, hcb⟩ := (HRU.out.below HBB.out).int_at hjb
        injection e2 with e2; injection e2 with e2 e2'; subst e2 e2'
        have exa := hea.symm.trans hxa
        have exb := heb.symm.trans hxb
        injection exa with exa
        injection exb with exb
        have ba := elt_bd (k := (ja : Int)) HBS.out
        have bb := elt_bd (k := (jb : Int)) HBS.out
        rw [exa] at ba
        rw [exb] at bb
        have hxor := bits_xor ba.1 bb.1 (by omega) (by omega)
        have HW := Lib.hid (show wireStep openM T (l, na, no) ⟨0, (ja : Int), (jb : Int)⟩ = (l ++ [xorI xa xb], na, no) by unfold wireStep; simp only [if_true]; rw [exa, exb])
        clear hgb hlt1 hlt3 hea heb hxa hxb exa exb hab i1 i2 i3
        have hja0 : (0 : Int) ≤ (ja : Int) := Int.natCast_nonneg _
        have hja1 : (ja : Int) < (l.length : Int) := by omega
        have hjb0 : (0 : Int) ≤ (jb : Int) := Int.natCast_nonneg _
        have hjb1 : (jb : Int) < (l.length : Int) := by omega
        go_wp2_with fail
        go_region_held3 (fun w' => w'.cell? ⟨wr.heap.size, 1, none⟩ = some (.int .i64 (ja : Int)) ∧ w'.cell? ⟨wr.heap.size, 2, none⟩ = some (.int .i64 (jb : Int)) ∧ w'.cell? ⟨bo, oo + ja, none⟩ = some (.int .i64 xa) ∧ w'.cell? ⟨bo, oo + jb, none⟩ = some (.int .i64 xb)) (exact ⟨y1, y2, hca, hcb⟩) (fail)
        go_wp2_with (at_builtin; refine wp_app1 (B := w.heap.size + 2) rfl rfl Tryz.underlying24 info_int rfl (own_drew HO2.out) rfl rfl rfl (by unfold maxLen; omega) (by omega) hsz ?_; intro v' w9 ho hg hfr)
        have HBn := Lib.hid (below_app HB2.out.drew (own_mono (own_drew HO2.out) (Nat.le_add_right _ 2)) hg (Nat.le_refl _))
        have HKn := Lib.hid (HKG2.out.drew.grown hg (fun e => by have := own_ge (own_drew HO2.out) _ e.symm; omega))
        have hzn := Nat.le_trans hsz hg.size
        go_roundw
        case rel => exact ⟨k + 1, by omega, by go_num, by rw [HS.out, HW.out], by rw [HS.out, HW.out], by rw [HS.out, HW.out]; exact Lib.hid (OwnI.snoc ho), HBn, hzn, HKn⟩
        case measure => simp [intOf]; omega
      · -- and
        have hab := hgb.2.1 (Or.inr rfl)
        obtain ⟨ja, rfl, hja, hea⟩ := elt_at (l := l) hab.1 (by have := HLL.out; omega)
        obtain ⟨jb, rfl, hjb, heb⟩ := elt_at (l := l) hab.2.2.1 (by have := HLL.out; omega)
        obtain ⟨bo, oo, xa, rfl, hbo, hxa, hca⟩ := (HRU.out.below HBB.out).int_at hja
        obtain ⟨bo2, oo2, xb, e2, hbo2, hxb, hcb⟩ := (HRU.out.below HBB.out).int_at hjb
        injection e2 with e2; injection e2 with e2 e2'; subst e2 e2'
        have exa := hea.symm.trans hxa
        have exb := heb.symm.trans hxb
        injection exa with exa
        injection exb with exb
        have ba := elt_bd (k := (ja : Int)) HBS.out
        have bb := elt_bd (k := (jb : Int)) HBS.out
        rw [exa] at ba
        rw [exb] at bb
        have hna : na < T.rows.length := by have h1 := hlt1 rfl; have h2 := HRL.out; omega
        obtain ⟨br, or', Ar, r, cr, rfl, hbr, hrr, hcr, hir⟩ := HAT.out na hna
        have hrt := HT.out.2.1 r (List.mem_of_getElem? hrr)
        have HRT := Lib.hid hrt
        have HIR := Lib.hid hir
        have HW := Lib.hid (show wireStep openM T (l, na, no) ⟨1, (ja : Int), (jb : Int)⟩ = (l ++ [openM (l.length : Int) xa xb r], na + 1, no) by unfold wireStep; simp only [Int.reduceEq, if_false]; rw [exa, exb, getD_at hrr])
        have g1 : wb.cell? ⟨w.heap.size + 1, 0, none⟩ = some (.slice (some ⟨br, or', none⟩) T.rows.length c1) := HKG2.out.cell 0
        have hcr2 := (HB2.out.cell (p := ⟨br, or' + na, none⟩) hbr).trans hcr
        have q1 := belowCell y1
        have q2 := belowCell y2
        have q3 := belowCell hca
        have q4 := belowCell hcb
        have q5 := belowCell g1
        have q6 := belowCell hcr2
        clear hgb hlt1 hlt3 hea heb hxa hxb exa exb hab i1 i2 i3 hrr hrt hir hcr y1 y2 hca hcb g1 hcr2
        have hja0 : (0 : Int) ≤ (ja : Int) := Int.natCast_nonneg _
        have hja1 : (ja : Int) < (l.length : Int) := by omega
        have hjb0 : (0 : Int) ≤ (jb : Int) := Int.natCast_nonneg _
        have hjb1 : (jb : Int) < (l.length : Int) := by omega
        have hna0 : (0 : Int) ≤ (na : Int) := Int.natCast_nonneg _
        have hna1 : (na : Int) < (T.rows.length : Int) := by omega
        go_wp2_with fail
        go_region_held3 (fun w' => Below wb.heap.size wb w')
          (first | (refine below_step ?_ HD.out; assumption) | (exact (Below.refl _ _).drew))
          (first
            | (go_at_call 95; refine (c_impl_openedAnd (by omega) ba bb (HIR.out.below (below_step HB2.out (by assumption))) HRT.out.1 HRT.out.2).mono ?_; rintro e wz ⟨rfl, hb⟩; have HD := Lib.hid hb))
        have hE : Below wb.heap.size wb wz := by assumption
        have HEE := Lib.hid hE
        have HB3 := Lib.hid (below_step HB2.out hE)
        have HKG3 := Lib.hid (HKG2.out.step hE)
        have HO3 := Lib.hid (HO2.out.below hE)
        have hsz3 := Nat.le_trans hsz hE.size
        clear hE q1 q2 q3 q4 q5 q6
        go_wp2_with (at_builtin; refine wp_app1 (B := w.heap.size + 2) rfl rfl Tryz.underlying24 info_int rfl HO3.out rfl rfl rfl (by unfold maxLen; omega) (by omega) hsz3 ?_; intro v' w9 ho hg hfr)
        have HBn := Lib.hid (below_app HB3.out (own_mono HO3.out (Nat.le_add_right _ 2)) hg (Nat.le_refl _))
        have HKn := Lib.hid (HKG3.out.grown hg (fun e => by have := own_ge HO3.out _ e.symm; omega))
        have hzn := Nat.le_trans hsz3 hg.size
        go_roundw
        case rel => exact ⟨k + 1, by omega, by go_num, by rw [HS.out, HW.out]; go_num, by rw [HS.out, HW.out], by rw [HS.out, HW.out]; exact Lib.hid (OwnI.snoc ho), HBn, hzn, HKn⟩
        case measure => simp [intOf]; omega
      · -- not
        have hab := hgb.2.2 rfl
        obtain ⟨ja, rfl, hja, hea⟩ := elt_at (l := l) hab.1 (by have := HLL.out; omega)
        obtain ⟨bo, oo, xa, rfl, hbo, hxa, hca⟩ := (HRU.out.below HBB.out).int_at hja
        have exa := hea.symm.trans hxa
        injection exa with exa
        have HW := Lib.hid (show wireStep openM T (l, na, no) ⟨2, (ja : Int), gb⟩ = (l ++ [xa], na, no) by unfold wireStep; simp only [Int.reduceEq, if_false, if_true]; rw [exa])
        clear hgb hlt1 hlt3 hea hxa exa hab i1 i2 i3
        have hja0 : (0 : Int) ≤ (ja : Int) := Int.natCast_nonneg _
        have hja1 : (ja : Int) < (l.length : Int) := by omega
        go_wp2_with (at_builtin; refine wp_app1 (B := w.heap.size + 2) rfl rfl Tryz.underlying24 info_int rfl HO2.out rfl rfl rfl (by unfold maxLen; omega) (by omega) hsz ?_; intro v' w9 ho hg hfr)
        have HBn := Lib.hid (below_app HB2.out (own_mono HO2.out (Nat.le_add_right _ 2)) hg (Nat.le_refl _))
        have HKn := Lib.hid (HKG2.out.grown hg (fun e => by have := own_ge HO2.out _ e.symm; omega))
        have hzn := Nat.le_trans hsz hg.size
        go_roundw
        case rel => exact ⟨k + 1, by omega, by go_num, by rw [HS.out, HW.out], by rw [HS.out, HW.out], by rw [HS.out, HW.out]; exact Lib.hid (OwnI.snoc ho), HBn, hzn, HKn⟩
        case measure => simp [intOf]; omega
      · -- one
        have hno : no < T.ones.length := by have h1 := hlt3 rfl; have h2 := HOL.out; omega
        obtain ⟨br, or', xo, rfl, hbr, hxo, hcr⟩ := HRO.out.int_at hno
        have HW := Lib.hid (show wireStep openM T (l, na, no) ⟨3, ga, gb⟩ = (l ++ [xo], na, no + 1) by unfold wireStep; simp only [Int.reduceEq, if_false, if_true]; rw [getD_at hxo])
        have g1 : wb.cell? ⟨w.heap.size + 1, 1, none⟩ = some (.slice (some ⟨br, or', none⟩) T.ones.length c2) := HKG2.out.cell 1
        have hcr2 := (HB2.out.cell (p := ⟨br, or' + no, none⟩) hbr).trans hcr
        clear hgb hlt1 hlt3 i1 i2 i3 hxo hcr
        have hno0 : (0 : Int) ≤ (no : Int) := Int.natCast_nonneg _
        have hno1 : (no : Int) < (T.ones.length : Int) := by omega
        go_wp2_with (at_builtin; refine wp_app1 (B := w.heap.size + 2) rfl rfl Tryz.underlying24 info_int rfl HO2.out rfl rfl rfl (by unfold maxLen; omega) (by omega) hsz ?_; intro v' w9 ho hg hfr)
        have HBn := Lib.hid (below_app HB2.out (own_mono HO2.out (Nat.le_add_right _ 2)) hg (Nat.le_refl _))
        have HKn := Lib.hid (HKG2.out.grown hg (fun e => by have := own_ge HO2.out _ e.symm; omega))
        have hzn := Nat.le_trans hsz hg.size
        go_roundw
        case rel => exact ⟨k + 1, by omega, by go_num, by rw [HS.out, HW.out], by rw [HS.out, HW.out]; go_num, by rw [HS.out, HW.out]; exact Lib.hid (OwnI.snoc ho), HBn, hzn, HKn⟩
        case measure => simp [intOf]; omega
    · obtain rfl : k = c.gs.length := by omega
      have HE := Lib.hid (show c.gs.take c.gs.length = c.gs from List.take_of_length_le (Nat.le_refl _))
      go_wp2
      go_ret
      exact RetI.mk (by have := HO.out; rw [HE.out] at this; exact this.mono (Nat.le_add_right _ 2)) HB.out
set_option maxRecDepth 100000 in
set_option maxHeartbeats 2000000 in
theorem c_labels_joinedAnd {c : Cir} {T : Gb} {gv ov rv nv cv vi : Value} {inp : List Int} {w : World} (h : CirIn w gv ov c) (hc : cirB c = true) (h2 : GbIn w rv nv cv T) (ht : tabB 2 c T = true)
    (hi : Ints w vi inp) (hil : (inp.length : Int) = c.ins) (hib : ∀ x ∈ inp, 0 ≤ x ∧ x ≤ 65535) :
    Calls Tryz.prog 87 #[cirV c gv ov, gbV rv nv cv, vi, .func (.func 88) #[] #[]] w (RetI w (wiresM joinM T inp c.gs).1) := by
  have hbd := cirB_bd hc
  have hgl : c.gs.length ≤ 300 := hbd.2.2.2.2.1
  have hins : 0 ≤ c.ins ∧ c.ins ≤ 40 := by unfold Cir.ins; omega
  have htt := tabB_of ht
  have HT := Lib.hid htt
  have HGB := Lib.hid (cirB_gates hc)
  have HKB := Lib.hid (cirB_kinds hc)
  have HBD := Lib.hid (wires_bd (F := joinM) (n := 0) (T := T) hib htt.2.2.2.1 (fun r hr => (htt.2.1 r hr).2) (fun w x y r hx hr => by first | exact openM_bd hr | exact joinM_bd hx hr))
  have HI := Lib.hid hi
  obtain ⟨hg, ho⟩ := h
  obtain ⟨A, cg, rfl, hlg, hmg, hrg⟩ := hg
  obtain ⟨A', co, rfl, -⟩ := ho
  obtain ⟨hr, ho, hcc⟩ := h2
  obtain ⟨A1, c1, rfl, hl1, hm1, hat⟩ := hr.form
  obtain ⟨A2, c2, rfl, hl2, hm2, hro⟩ := ho
  obtain ⟨A3, c3, rfl, -⟩ := hcc
  have HAT := Lib.hid hat
  have HRG := Lib.hid hrg
  have HRO := Lib.hid hro
  have hrl : (T.rows.length : Int) = cnt 1 c.gs := htt.1
  have hol : (T.ones.length : Int) = cnt 3 c.gs := htt.2.2.1
  have HRL := Lib.hid hrl
  have HOL := Lib.hid hol
  have hcb1 := cnt_bd 1 c.gs
  have hcb3 := cnt_bd 3 c.gs
  have hrn : T.rows.length ≤ 300 := by omega
  have hon : T.ones.length ≤ 300 := by omega
  unfold maxLen at hmg hm1 hm2
  clear hc hr hbd hat hrg htt ht hib hro hrl hol hcb1 hcb3
  unfold cirV gbV
  obtain ⟨w0, hw0⟩ : ∃ W, (w.alloc (.cells #[.int .i64 c.i0, .int .i64 c.i1, .slice A c.gs.length cg, .slice A' c.outs.length co] 26)).alloc (.cells #[.slice A1 T.rows.length c1, .slice A2 T.ones.length c2, .slice A3 T.cols.length c3] 50) = W := ⟨_, rfl⟩
  have HKC := Lib.hid ((Blk.new w 26 #[.int .i64 c.i0, .int .i64 c.i1, .slice A c.gs.length cg, .slice A' c.outs.length co]).alloc (.cells #[.slice A1 T.rows.length c1, .slice A2 T.ones.length c2, .slice A3 T.cols.length c3] 50))
  rw [hw0] at HKC
  have HKG := Lib.hid (Blk.new (w.alloc (.cells #[.int .i64 c.i0, .int .i64 c.i1, .slice A c.gs.length cg, .slice A' c.outs.length co] 26)) 50 #[.slice A1 T.rows.length c1, .slice A2 T.ones.length c2, .slice A3 T.cols.length c3])
  simp only [World.size_alloc, hw0] at HKG
  have hz0 : w.heap.size + 2 ≤ w0.heap.size := by rw [← hw0]; simp
  have HB : Hid (Below w.heap.size w w0) := by rw [← hw0]; exact ((Below.refl w.heap.size w).alloc (Nat.le_refl _) _).alloc (by simp) _
  go_enter Tryz.func87, Tryz.ntmps87
  go_wp2_with fail
  clear hw0
  refine (c_slices_Clone (HI.out.below HB.out) (by omega)).mono ?_
  rintro e w1 ⟨u, rfl, hu, hb⟩
  have HU := Lib.hid (hu.mono hz0)
  have hz1 : w.heap.size + 2 ≤ w1.heap.size := Nat.le_trans hz0 hb.size
  replace HB := Lib.hid (below_step HB.out hb)
  replace HKC := Lib.hid (HKC.out.step hb)
  replace HKG := Lib.hid (HKG.out.step hb)
  have x2 : w1.cell? ⟨w.heap.size, 2, none⟩ = some (.slice A c.gs.length cg) := HKC.out.cell 2
  clear hb hu HKC
  go_wp2
  clear x2
  go_loopw [9, 10, 11, 20] (fun o a n i wr => ∃ k : Nat, k ≤ c.gs.length ∧ i = .int .i64 k ∧ a = .int .i64 ((wiresM joinM T inp (c.gs.take k)).2.1 : Nat) ∧ n = .int .i64 ((wiresM joinM T inp (c.gs.take k)).2.2 : Nat) ∧ Hid (OwnI wr (w.heap.size + 2) o (wiresM joinM T inp (c.gs.take k)).1) ∧ Hid (Below w.heap.size w wr) ∧ w.heap.size + 2 ≤ wr.heap.size ∧ Hid (Blk wr (w.heap.size + 1) 50 #[.slice A1 T.rows.length c1, .slice A2 T.ones.length c2, .slice A3 T.cols.length c3])) (fun _ _ _ i _ => c.gs.length - (intOf i).toNat)
  case atStart => exact ⟨0, Nat.zero_le _, rfl, rfl, rfl, HU, HB, hz1, HKG⟩
  case round =>
    obtain ⟨k, hk, rfl, rfl, rfl, HO, HB, hzr, HKG⟩ := hrel
    by_cases hlt : k < c.gs.length
    · obtain ⟨b, o, g, rfl, hbl, hgk, c0, c1', c2'⟩ := (HRG.out.below HB.out).gate_at hlt
      have hgb := gate_ab (gatesB_at _ _ k g HGB.out hgk)
      obtain ⟨i1, i2, i3⟩ := wires_inv (F := joinM) (T := T) (inp := inp) HKB.out k (by omega)
      have HS := Lib.hid (wires_snoc (F := joinM) (T := T) (inp := inp) hgk)
      have hbs := HBD.out (c.gs.take k)
      have hlt1 := fun (hj : g.k = 1) => cnt_lt hgk hj
      have hlt3 := fun (hj : g.k = 3) => cnt_lt hgk hj
      generalize hs : wiresM joinM T inp (c.gs.take k) = s at *
      clear hs hgk
      obtain ⟨gk, ga, gb⟩ := g
      obtain ⟨l, na, no⟩ := s
      simp only at c0 c1' c2' hgb i1 i2 i3 hbs hlt1 hlt3 HO
      obtain ⟨Au, cu, rfl, hlu, hmu, hru⟩ := own_form HO.out
      unfold maxLen at hmu
      have hll : (l.length : Int) = c.ins + k := by omega
      have hl340 : l.length ≤ 340 := by omega
      have HLL := Lib.hid hll
      have HBS := Lib.hid hbs
      have HRU := Lib.hid hru
      obtain ⟨wb, hwb⟩ : ∃ W, wr.alloc (.cells #[.int .i64 gk, .int .i64 ga, .int .i64 gb] 117) = W := ⟨_, rfl⟩
      have hbb : Below wr.heap.size wr wb := by rw [← hwb]; exact (Below.refl _ _).alloc (Nat.le_refl _) _
      have HBX : Hid (Blk wb wr.heap.size 117 #[.int .i64 gk, .int .i64 ga, .int .i64 gb]) := by rw [← hwb]; exact Blk.new _ _ _
      have y0 : wb.cell? ⟨wr.heap.size, 0, none⟩ = some (.int .i64 gk) := HBX.out.cell 0
      have y1 : wb.cell? ⟨wr.heap.size, 1, none⟩ = some (.int .i64 ga) := HBX.out.cell 1
      have y2 : wb.cell? ⟨wr.heap.size, 2, none⟩ = some (.int .i64 gb) := HBX.out.cell 2
      have HBB := Lib.hid hbb
      have HB2 := Lib.hid (below_step HB.out hbb)
      have HKG2 := Lib.hid (HKG.out.step hbb)
      have HO2 := Lib.hid (HO.out.below hbb)
      have hsz : w.heap.size + 2 ≤ wb.heap.size := Nat.le_trans hzr HBB.out.size
      clear hbb hll hbs hru HB HKG HO hlu hmu
      have hkk : gk = 0 ∨ gk = 1 ∨ gk = 2 ∨ gk = 3 := by omega
      rcases hkk with rfl | rfl | rfl | rfl
      · -- exclusive-or
        have hab := hgb.2.1 (Or.inl rfl)
        obtain ⟨ja, rfl, hja, hea⟩ := elt_at (l := l) hab.1 (by have := HLL.out; omega)
        obtain ⟨jb, rfl, hjb, heb⟩ := elt_at (l := l) hab.2.2.1 (by have := HLL.out; omega)
        obtain ⟨bo, oo, xa, rfl, hbo, hxa, hca⟩ := (HRU.out.below HBB.out).int_at hja
        obtain ⟨bo2, oo2, xb, e2, hbo2, hxb, hcb⟩ := (HRU.out.below HBB.out).int_at hjb
        injection e2 with e2; injection e2 with e2 e2'; subst e2 e2'
        have exa := hea.symm.trans hxa
        have exb := heb.symm.trans hxb
        injection exa with exa
        injection exb with exb
        have ba := elt_bd (k := (ja : Int)) HBS.out
        have bb := elt_bd (k := (jb : Int)) HBS.out
        rw [exa] at ba
        rw [exb] at bb
        have hxor := bits_xor ba.1 bb.1 (by omega) (by omega)
        have HW := Lib.hid (show wireStep joinM T (l, na, no) ⟨0, (ja : Int), (jb : Int)⟩ = (l ++ [xorI xa xb], na, no) by unfold wireStep; simp only [if_true]; rw [exa, exb])
        clear hgb hlt1 hlt3 hea heb hxa hxb exa exb hab i1 i2 i3
        have hja0 : (0 : Int) ≤ (ja : Int) := Int.natCast_nonneg _
        have hja1 : (ja : Int) < (l.length : Int) := by omega
        have hjb0 : (0 : Int) ≤ (jb : Int) := Int.natCast_nonneg _
        have hjb1 : (jb : Int) < (l.length : Int) := by omega
        go_wp2_with fail
        go_region_held3 (fun w' => w'.cell? ⟨wr.heap.size, 1, none⟩ = some (.int .i64 (ja : Int)) ∧ w'.cell? ⟨wr.heap.size, 2, none⟩ = some (.int .i64 (jb : Int)) ∧ w'.cell? ⟨bo, oo + ja, none⟩ = some (.int .i64 xa) ∧ w'.cell? ⟨bo, oo + jb, none⟩ = some (.int .i64 xb)) (exact ⟨y1, y2, hca, hcb⟩) (fail)
        go_wp2_with (at_builtin; refine wp_app1 (B := w.heap.size + 2) rfl rfl Tryz.underlying24 info_int rfl (own_drew HO2.out) rfl rfl rfl (by unfold maxLen; omega) (by omega) hsz ?_; intro v' w9 ho hg hfr)
        have HBn := Lib.hid (below_app HB2.out.drew (own_mono (own_drew HO2.out) (Nat.le_add_right _ 2)) hg (Nat.le_refl _))
        have HKn := Lib.hid (HKG2.out.drew.grown hg (fun e => by have := own_ge (own_drew HO2.out) _ e.symm; omega))
        have hzn := Nat.le_trans hsz hg.size
        go_roundw
        case rel => exact ⟨k + 1, by omega, by go_num, by rw [HS.out, HW.out], by rw [HS.out, HW.out], by rw [HS.out, HW.out]; exact Lib.hid (OwnI.snoc ho), HBn, hzn, HKn⟩
        case measure => simp [intOf]; omega
      · -- and
        have hab := hgb.2.1 (Or.inr rfl)
        obtain ⟨ja, rfl, hja, hea⟩ := elt_at (l := l) hab.1 (by have := HLL.out; omega)
        obtain ⟨jb, rfl, hjb, heb⟩ := elt_at (l := l) hab.2.2.1 (by have := HLL.out; omega)
        obtain ⟨bo, oo, xa, rfl, hbo, hxa, hca⟩ := (HRU.out.below HBB.out).int_at hja
        obtain ⟨bo2, oo2, xb, e2, hbo2, hxb, hcb⟩ := (HRU.out.below HBB.out).int_at hjb
        injection e2 with e2; injection e2 with e2 e2'; subst e2 e2'
        have exa := hea.symm.trans hxa
        have exb := heb.symm.trans hxb
        injection exa with exa
        injection exb with exb
        have ba := elt_bd (k := (ja : Int)) HBS.out
        have bb := elt_bd (k := (jb : Int)) HBS.out
        rw [exa] at ba
        rw [exb] at bb
        have hna : na < T.rows.length := by have h1 := hlt1 rfl; have h2 := HRL.out; omega
        obtain ⟨br, or', Ar, r, cr, rfl, hbr, hrr, hcr, hir⟩ := HAT.out na hna
        have hrt := HT.out.2.1 r (List.mem_of_getElem? hrr)
        have HRT := Lib.hid hrt
        have HIR := Lib.hid hir
        have HW := Lib.hid (show wireStep joinM T (l, na, no) ⟨1, (ja : Int), (jb : Int)⟩ = (l ++ [joinM (l.length : Int) xa xb r], na + 1, no) by unfold wireStep; simp only [Int.reduceEq, if_false]; rw [exa, exb, getD_at hrr])
        have g1 : wb.cell? ⟨w.heap.size + 1, 0, none⟩ = some (.slice (some ⟨br, or', none⟩) T.rows.length c1) := HKG2.out.cell 0
        have hcr2 := (HB2.out.cell (p := ⟨br, or' + na, none⟩) hbr).trans hcr
        have q1 := belowCell y1
        have q2 := belowCell y2
        have q3 := belowCell hca
        have q4 := belowCell hcb
        have q5 := belowCell g1
        have q6 := belowCell hcr2
        clear hgb hlt1 hlt3 hea heb hxa hxb exa exb hab i1 i2 i3 hrr hrt hir hcr y1 y2 hca hcb g1 hcr2
        have hja0 : (0 : Int) ≤ (ja : Int) := Int.natCast_nonneg _
        have hja1 : (ja : Int) < (l.length : Int) := by omega
        have hjb0 : (0 : Int) ≤ (jb : Int) := Int.natCast_nonneg _
        have hjb1 : (jb : Int) < (l.length : Int) := by omega
        have hna0 : (0 : Int) ≤ (na : Int) := Int.natCast_nonneg _
        have hna1 : (na : Int) < (T.rows.length : Int) := by omega
        go_wp2_with fail
        go_region_held3 (fun w' => Below wb.heap.size wb w')
          (first | (refine below_step ?_ HD.out; assumption) | (exact (Below.refl _ _).drew))
          (first
            | (go_at_call 88; refine (c_impl_joinedAnd (by omega) ba bb (HIR.out.below (below_step HB2.out (by assumption))) HRT.out.1 HRT.out.2).mono ?_; rintro e wz ⟨rfl, hb⟩; have HD := Lib.hid hb))
        have hE : Below wb.heap.size wb wz := by assumption
        have HEE := Lib.hid hE
        have HB3 := Lib.hid (below_step HB2.out hE)
        have HKG3 := Lib.hid (HKG2.out.step hE)
        have HO3 := Lib.hid (HO2.out.below hE)
        have hsz3 := Nat.le_trans hsz hE.size
        clear hE q1 q2 q3 q4 q5 q6
        go_wp2_with (at_builtin; refine wp_app1 (B := w.heap.size + 2) rfl rfl Tryz.underlying24 info_int rfl HO3.out rfl rfl rfl (by unfold maxLen; omega) (by omega) hsz3 ?_; intro v' w9 ho hg hfr)
        have HBn := Lib.hid (below_app HB3.out (own_mono HO3.out (Nat.le_add_right _ 2)) hg (Nat.le_refl _))
        have HKn := Lib.hid (HKG3.out.grown hg (fun e => by have := own_ge HO3.out _ e.symm; omega))
        have hzn := Nat.le_trans hsz3 hg.size
        go_roundw
        case rel => exact ⟨k + 1, by omega, by go_num, by rw [HS.out, HW.out]; go_num, by rw [HS.out, HW.out], by rw [HS.out, HW.out]; exact Lib.hid (OwnI.snoc ho), HBn, hzn, HKn⟩
        case measure => simp [intOf]; omega
      · -- not
        have hab := hgb.2.2 rfl
        obtain ⟨ja, rfl, hja, hea⟩ := elt_at (l := l) hab.1 (by have := HLL.out; omega)
        obtain ⟨bo, oo, xa, rfl, hbo, hxa, hca⟩ := (HRU.out.below HBB.out).int_at hja
        have exa := hea.symm.trans hxa
        injection exa with exa
        have HW := Lib.hid (show wireStep joinM T (l, na, no) ⟨2, (ja : Int), gb⟩ = (l ++ [xa], na, no) by unfold wireStep; simp only [Int.reduceEq, if_false, if_true]; rw [exa])
        clear hgb hlt1 hlt3 hea hxa exa hab i1 i2 i3
        have hja0 : (0 : Int) ≤ (ja : Int) := Int.natCast_nonneg _
        have hja1 : (ja : Int) < (l.length : Int) := by omega
        go_wp2_with (at_builtin; refine wp_app1 (B := w.heap.size + 2) rfl rfl Tryz.underlying24 info_int rfl HO2.out rfl rfl rfl (by unfold maxLen; omega) (by omega) hsz ?_; intro v' w9 ho hg hfr)
        have HBn := Lib.hid (below_app HB2.out (own_mono HO2.out (Nat.le_add_right _ 2)) hg (Nat.le_refl _))
        have HKn := Lib.hid (HKG2.out.grown hg (fun e => by have := own_ge HO2.out _ e.symm; omega))
        have hzn := Nat.le_trans hsz hg.size
        go_roundw
        case rel => exact ⟨k + 1, by omega, by go_num, by rw [HS.out, HW.out], by rw [HS.out, HW.out], by rw [HS.out, HW.out]; exact Lib.hid (OwnI.snoc ho), HBn, hzn, HKn⟩
        case measure => simp [intOf]; omega
      · -- one
        have hno : no < T.ones.length := by have h1 := hlt3 rfl; have h2 := HOL.out; omega
        obtain ⟨br, or', xo, rfl, hbr, hxo, hcr⟩ := HRO.out.int_at hno
        have HW := Lib.hid (show wireStep joinM T (l, na, no) ⟨3, ga, gb⟩ = (l ++ [xo], na, no + 1) by unfold wireStep; simp only [Int.reduceEq, if_false, if_true]; rw [getD_at hxo])
        have g1 : wb.cell? ⟨w.heap.size + 1, 1, none⟩ = some (.slice (some ⟨br, or', none⟩) T.ones.length c2) := HKG2.out.cell 1
        have hcr2 := (HB2.out.cell (p := ⟨br, or' + no, none⟩) hbr).trans hcr
        clear hgb hlt1 hlt3 i1 i2 i3 hxo hcr
        have hno0 : (0 : Int) ≤ (no : Int) := Int.natCast_nonneg _
        have hno1 : (no : Int) < (T.ones.length : Int) := by omega
        go_wp2_with (at_builtin; refine wp_app1 (B := w.heap.size + 2) rfl rfl Tryz.underlying24 info_int rfl HO2.out rfl rfl rfl (by unfold maxLen; omega) (by omega) hsz ?_; intro v' w9 ho hg hfr)
        have HBn := Lib.hid (below_app HB2.out (own_mono HO2.out (Nat.le_add_right _ 2)) hg (Nat.le_refl _))
        have HKn := Lib.hid (HKG2.out.grown hg (fun e => by have := own_ge HO2.out _ e.symm; omega))
        have hzn := Nat.le_trans hsz hg.size
        go_roundw
        case rel => exact ⟨k + 1, by omega, by go_num, by rw [HS.out, HW.out], by rw [HS.out, HW.out]; go_num, by rw [HS.out, HW.out]; exact Lib.hid (OwnI.snoc ho), HBn, hzn, HKn⟩
        case measure => simp [intOf]; omega
    · obtain rfl : k = c.gs.length := by omega
      have HE := Lib.hid (show c.gs.take c.gs.length = c.gs from List.take_of_length_le (Nat.le_refl _))
      go_wp2
      go_ret
      exact RetI.mk (by have := HO.out; rw [HE.out] at this; exact this.mono (Nat.le_add_right _ 2)) HB.out
end Go.Proofs.YtejeppjmlgfiaaaGreat
