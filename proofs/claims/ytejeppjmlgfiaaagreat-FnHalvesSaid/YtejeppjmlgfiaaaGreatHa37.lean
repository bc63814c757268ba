/- Contracts of the tables of garbled and halved circuits, the program's. Conditions: the circuit, the key and the offset are valid. -/
import Derived.Test.YtejeppjmlgfiaaaGreatHa35
import Derived.Test.YtejeppjmlgfiaaaGreatHa36
import Derived.Test.YtejeppjmlgfiaaaGreatHa24
import Derived.Test.YtejeppjmlgfiaaaGreatHa8
import Derived.Deep.RegionLaw
namespace Go.Proofs.YtejeppjmlgfiaaaGreat
open Go.RowKit
set_option linter.unusedVariables false

theorem zr_outs {F : Int → Int → Int → Int} {R : Int → Int → Int → List Int} {key off : Int} {c : Cir} (hc : cirB c = true) (h0 : 0 ≤ c.ins) :
    ∀ k ∈ c.outs, 0 ≤ k ∧ k < ((zrM F R key off c.ins.toNat c.gs).zs.length : Int) := by
  have h := (zr_inv (F := F) (R := R) (key := key) (off := off) (n := c.ins.toNat) (cirB_kinds hc) c.gs.length (Nat.le_refl _)).1
  rw [zr_all] at h
  intro k hk
  have := allB_bd (cirB_outs hc) k hk
  unfold Cir.wires at this
  omega
theorem zr_len {F : Int → Int → Int → Int} {R : Int → Int → Int → List Int} {key off : Int} {c : Cir} (hc : cirB c = true) :
    (zrM F R key off c.ins.toNat c.gs).zs.length = c.ins.toNat + c.gs.length := by
  have h := (zr_inv (F := F) (R := R) (key := key) (off := off) (n := c.ins.toNat) (cirB_kinds hc) c.gs.length (Nat.le_refl _)).1
  rwa [zr_all] at h
/-- Tables begun: rows and colours of the call's own, in a new block. -/
theorem sta_new {t : TypeId} {wx w0 : World} {rv cv : Value} {vs : List Value} {rows : List (List Int)} {cols : List Int} (hr : OwnRs wx w0.heap.size rv vs rows) (hcl : OwnI wx w0.heap.size cv cols) (ha : ∀ y ∈ rv :: vs, Apt cv y) (hb : Below w0.heap.size w0 wx) :
    Sta t (wx.alloc (.cells #[rv, .slice none 0 0, cv] t)) w0 wx.heap.size rv (.slice none 0 0) cv vs ⟨rows, [], cols⟩ := by
  have hx := (Below.refl wx.heap.size wx).alloc (Nat.le_refl _) (.cells #[rv, .slice none 0 0, cv] t)
  refine ⟨Blk.new _ _ _, ⟨hr.below hx, OwnI.nil _ _, hcl.below hx, ?_⟩, fun u hu e => ?_, hb.size, hb.alloc hb.size _⟩
  · refine List.pairwise_cons.2 ⟨fun u _ g e => (by cases e), List.pairwise_cons.2 ⟨ha, hr.apart⟩⟩
  · rcases List.mem_cons.1 hu with rfl | hu
    · cases e
    · rcases List.mem_cons.1 hu with rfl | hu
      · have := hcl.lt _ e; omega
      · have := (hr.bd u hu _ e).2; omega
set_option maxRecDepth 100000 in
set_option maxHeartbeats 4000000 in
theorem c_tables_garbledAnd {c : Cir} {gv ov : Value} {key off : Int} {q : Nat} {w : World} (h : CirIn w gv ov c) (hc : cirB c = true) (hk : 0 ≤ key ∧ key ≤ 1000000000) (ho : 0 ≤ off ∧ off ≤ 65535) (hq : w.cell? ⟨q, 0, none⟩ = some (.int .i64 off)) :
    Calls Tryz.prog 57 #[cirV c gv ov, .int .i64 key, .int .i64 off, .func (.func 144) #[] #[.pointer (some ⟨q, 0, none⟩)]] w (RetGb w (tabM (gbZ off) (gbR off) key off c)) := by
  have hbd := cirB_bd hc
  have hgl : c.gs.length ≤ 300 := hbd.2.2.2.2.1
  have hol : c.outs.length ≤ 40 := hbd.2.2.2.2.2
  have hins : 0 ≤ c.ins ∧ c.ins ≤ 40 := by unfold Cir.ins; omega
  have hi4 : 0 ≤ c.i0 ∧ c.i0 ≤ 20 ∧ 0 ≤ c.i1 ∧ c.i1 ≤ 20 := by omega
  have HOB := Lib.hid (zr_outs (F := gbZ off) (R := gbR off) (key := key) (off := off) hc hins.1)
  have hzl := zr_len (F := gbZ off) (R := gbR off) (key := key) (off := off) hc
  have HKB := Lib.hid (cirB_kinds hc)
  have HC := Lib.hid hc
  have HBD := Lib.hid (zr_bd (m := (gbR off 0 0 0).length) (F := gbZ off) (R := gbR off) ho (by first | exact fun w x y _ _ => gbZ_bd ho w x y | exact fun w x y hx _ => hgZ_bd ho hx w y) (by first | exact fun w x y _ _ => gbR_bd ho w x y | exact fun w x y hx _ => hgR_bd ho hx w y) key c.ins.toNat)
  have H := Lib.hid h
  have hql : q < w.heap.size := World.block_lt_of_cell? _ _ hq
  have QC := Lib.hid hq
  obtain ⟨hg, hoo⟩ := h
  obtain ⟨A, cg, rfl, hlg, hmg, hrg⟩ := hg
  obtain ⟨A', co, rfl, -⟩ := hoo
  have HRG := Lib.hid hrg
  unfold maxLen at hmg
  clear hc hbd hrg hq
  obtain ⟨N, hN⟩ : ∃ N : Nat, c.ins = (N : Int) := ⟨c.ins.toNat, by omega⟩
  have hN2 : c.ins.toNat = N := by omega
  have HT := Lib.hid (show tabM (gbZ off) (gbR off) key off c = ⟨(zrM (gbZ off) (gbR off) key off N c.gs).rows, (zrM (gbZ off) (gbR off) key off N c.gs).ones, coloursM (pickM (zrM (gbZ off) (gbR off) key off N c.gs).zs c.outs)⟩ by unfold tabM; rw [hN2])
  rw [hN2] at HBD HOB hzl
  have HN := Lib.hid hN
  have HN2 := Lib.hid hN2
  obtain ⟨S, hS⟩ : ∃ S, zrM (gbZ off) (gbR off) key off N c.gs = S := ⟨_, rfl⟩
  have HSB := HBD.out c.gs
  rw [hS] at HOB hzl HT HSB
  have HSE := Lib.hid hS
  obtain ⟨zs, rows, ones⟩ := S
  simp only at HOB hzl HT HSB
  have HZB := Lib.hid HSB.1
  have HZL := Lib.hid hzl
  clear hN hN2 hS HSB hzl
  unfold cirV
  obtain ⟨w0, hw0⟩ : ∃ W, ((w.alloc (.cells #[.int .i64 c.i0, .int .i64 c.i1, .slice A c.gs.length cg, .slice A' c.outs.length co] 26)).alloc (.cells #[.slice none 0 0, .slice none 0 0, .slice none 0 0] 50)) = W := ⟨_, rfl⟩
  have HKC : Hid (Blk w0 w.heap.size 26 #[.int .i64 c.i0, .int .i64 c.i1, .slice A c.gs.length cg, .slice A' c.outs.length co]) := by rw [← hw0]; exact (Blk.new _ _ _).alloc _
  have HR : Hid (Blk w0 (w.heap.size + 1) 50 #[.slice none 0 0, .slice none 0 0, .slice none 0 0]) := by rw [← hw0]; have := Blk.new (w.alloc (.cells #[.int .i64 c.i0, .int .i64 c.i1, .slice A c.gs.length cg, .slice A' c.outs.length co] 26)) 50 #[.slice none 0 0, .slice none 0 0, .slice none 0 0]; simp only [World.size_alloc] at this; exact this
  have HB : Hid (Below w.heap.size w w0) := by rw [← hw0]; exact ((Below.refl _ _).alloc (Nat.le_refl _) _).alloc (by simp) _
  have hz0 : w.heap.size + 2 ≤ w0.heap.size := by rw [← hw0]; simp
  have x0 : w0.cell? ⟨w.heap.size, 0, none⟩ = some (.int .i64 c.i0) := HKC.out.cell 0
  have x1 : w0.cell? ⟨w.heap.size, 1, none⟩ = some (.int .i64 c.i1) := HKC.out.cell 1
  have x2 : w0.cell? ⟨w.heap.size, 2, none⟩ = some (.slice A c.gs.length cg) := HKC.out.cell 2
  have x3 : w0.cell? ⟨w.heap.size, 3, none⟩ = some (.slice A' c.outs.length co) := HKC.out.cell 3
  go_enter Tryz.func57, Tryz.ntmps57
  go_wp2_with fail
  clear hw0 x0 x1 x2 x3
  refine (c_zeros_garbledAnd (H.out.below HB.out) HC.out hk ho ((HB.out.cell (p := ⟨q, 0, none⟩) hql).trans QC.out)).mono ?_
  rintro e w1 ⟨u, rv, vs, rfl, hzp, hb1⟩
  rw [HN2.out, HSE.out] at hzp
  simp only at hzp
  have HB01 := Lib.hid hb1
  replace HB := Lib.hid (below_step HB.out hb1)
  replace HKC := Lib.hid (HKC.out.step hb1)
  have HZ := Lib.hid hzp
  have hz1 : w.heap.size + 2 ≤ w1.heap.size := Nat.le_trans hz0 hb1.size
  obtain ⟨Az, cz, rfl, hlz, hmz, -⟩ := own_form HZ.out.own
  obtain ⟨Ar, cr, rfl, -⟩ := HZ.out.rs.rowsIn.form
  unfold maxLen at hmz
  have x3 : w1.cell? ⟨w.heap.size, 3, none⟩ = some (.slice A' c.outs.length co) := HKC.out.cell 3
  have hzl2 : zs.length ≤ 340 := by have := HN.out; have := HZL.out; omega
  clear hb1 hzp
  go_wp2_with fail
  refine (c_impl_at HZ.out.own.ints (H.out.below HB.out).outs (by omega) (by omega) HOB.out).mono ?_
  rintro e w2 ⟨u2, rfl, hu2, hb2⟩
  have HB12 := Lib.hid hb2
  have HU2 := Lib.hid hu2
  obtain ⟨A2, c2, rfl, -⟩ := hu2.ints
  clear hu2 hb2 x3
  go_wp2_with fail
  refine (c_impl_colours HU2.out.ints (by rw [pickM_length]; omega) (fun x hx => by
    simp only [pickM, List.mem_map] at hx
    obtain ⟨k, -, rfl⟩ := hx
    have := elt_bd (k := k) HZB.out
    unfold elt at this; omega)).mono ?_
  rintro e w3 ⟨u3, rfl, hu3, hb3⟩
  obtain ⟨cols, hcols⟩ : ∃ cols, coloursM (pickM zs c.outs) = cols := ⟨_, rfl⟩
  rw [hcols] at hu3 HT
  clear hcols
  have HB13 := Lib.hid (below_step HB12.out hb3)
  have HU3 := Lib.hid (hu3.mono HB12.out.size)
  obtain ⟨A3, c3, rfl, -⟩ := hu3.ints
  have HB03 := Lib.hid (below_step HB01.out HB13.out)
  have HS := Lib.hid (sta_new (t := 50) (HZ.out.rs.below HB13.out) (HU3.out.mono HB01.out.size) (fun y hy => (Apt.ofLt (fun g hg => (HZ.out.rs.bd y hy g hg).2) HU3.out.ge).symm) HB03.out)
  have HB14 := Lib.hid (HB13.out.alloc HB13.out.size (.cells #[.slice Ar rows.length cr, .slice none 0 0, .slice A3 cols.length c3] 50))
  have hb1w : w1.heap.size ≤ w3.heap.size := HB13.out.size
  have x2 : (w3.alloc (.cells #[.slice Ar rows.length cr, .slice none 0 0, .slice A3 cols.length c3] 50)).cell? ⟨w.heap.size, 2, none⟩ = some (.slice A c.gs.length cg) := (HKC.out.step HB14.out).cell 2
  clear hu3 hb3 HB12 HU2
  go_wp2_with fail
  have hlo1 : w1.heap.size ≤ w3.heap.size := hb1w
  clear x2
  go_loopw [32] (fun i wr => ∃ (j : Nat) (ov : Value), j ≤ c.gs.length ∧ i = .int .i64 j ∧ Hid (Sta 50 wr w0 w3.heap.size (.slice Ar rows.length cr) ov (.slice A3 cols.length c3) vs ⟨rows, (zrM (gbZ off) (gbR off) key off N (c.gs.take j)).ones, cols⟩) ∧ Hid (Below w1.heap.size w1 wr) ∧ Hid (∀ g, ov.ownBlock = some g → w1.heap.size ≤ g)) (fun i _ => c.gs.length - (intOf i).toNat)
  case atStart => exact ⟨0, _, Nat.zero_le _, rfl, HS, HB14, Lib.hid (fun g e => by cases e)⟩
  case round =>
    obtain ⟨j, ov, hj, rfl, HS, HB1, HOV⟩ := hrel
    clear HB14
    obtain ⟨wa, rfl⟩ : ∃ W, W = wr := ⟨wr, rfl⟩
    have HBW := Lib.hid (below_step HB.out HB1.out)
    have HKW := Lib.hid (HKC.out.step HB1.out)
    by_cases hjl : j < c.gs.length
    · obtain ⟨b, o, g, rfl, hbl, hgk, c0, c1', c2'⟩ := (HRG.out.below HBW.out).gate_at hjl
      obtain ⟨i1, i2, i3⟩ := zr_inv (F := gbZ off) (R := gbR off) (key := key) (off := off) (n := N) HKB.out j (by omega)
      have HSN := Lib.hid (zr_snoc (F := gbZ off) (R := gbR off) (key := key) (off := off) (n := N) hgk)
      have hcl3 := cnt_le 3 c.gs j
      have hcb3 := cnt_bd 3 c.gs
      have honl : (zrM (gbZ off) (gbR off) key off N (c.gs.take j)).ones.length ≤ 300 := by omega
      obtain ⟨m, hm⟩ : ∃ m : Nat, (N : Int) + (j : Int) = (m : Int) := ⟨N + j, by omega⟩
      have HM := Lib.hid hm
      have hmz' : m < zs.length := by have := HZL.out; omega
      have HMADE := Lib.hid (fun x => zr_made (F := gbZ off) (R := gbR off) (key := key) (off := off) (n := N) (gs := c.gs) (k := j) (x := x))
      rw [HSE.out, i1, show N + j = m by omega] at HMADE
      simp only at HMADE
      have hlsn : (zrM (gbZ off) (gbR off) key off N (c.gs.take j)).zs.length = m := by omega
      have HLS := Lib.hid hlsn
      generalize hs : zrM (gbZ off) (gbR off) key off N (c.gs.take j) = s at *
      clear hs hgk i1 i2 i3 hcl3 hcb3 hlsn
      obtain ⟨gk, ga, gb⟩ := g
      obtain ⟨l, rws, ons⟩ := s
      simp only at c0 c1' c2' honl HS HMADE HLS
      have hN3 : (N : Int) ≤ 40 := by have := HN.out; omega
      obtain ⟨wb, hwb⟩ : ∃ W, wa.alloc (.cells #[.int .i64 gk, .int .i64 ga, .int .i64 gb] 117) = W := ⟨_, rfl⟩
      have hbb : Below wa.heap.size wa wb := by rw [← hwb]; exact (Below.refl _ _).alloc (Nat.le_refl _) _
      have HBX : Hid (Blk wb wa.heap.size 117 #[.int .i64 gk, .int .i64 ga, .int .i64 gb]) := by rw [← hwb]; exact Blk.new _ _ _
      have y0 : wb.cell? ⟨wa.heap.size, 0, none⟩ = some (.int .i64 gk) := HBX.out.cell 0
      have HBB := Lib.hid hbb
      have HS2 := Lib.hid (HS.out.step hbb)
      have HB2 := Lib.hid (below_step HB1.out hbb)
      have HKW2 := Lib.hid (HKW.out.step hbb)
      clear hbb hm
      by_cases h3 : gk = 3
      · subst h3
        have HW := Lib.hid (show zStep (gbZ off) (gbR off) key off ⟨l, rws, ons⟩ ⟨3, ga, gb⟩ = ⟨l ++ [digM [key, (l.length : Int), 13, 0]], rws, ons ++ [xorI (digM [key, (l.length : Int), 13, 0]) off]⟩ by unfold zStep; simp only [Int.reduceEq, if_false, if_true])
        have hel := HMADE.out (digM [key, (l.length : Int), 13, 0]) (by rw [HSN.out, HW.out])
        have hd := digM_bd [key, (l.length : Int), 13, 0]
        generalize digM [key, (l.length : Int), 13, 0] = z at *
        have hxor := bits_xor hd.1 ho.1 (by omega) (by omega)
        have hzat : zs[m]? = some z := by
          rw [List.getElem?_eq_getElem hmz']
          unfold elt at hel
          rw [Int.toNat_natCast] at hel
          simpa [List.getD, List.getElem?_eq_getElem hmz'] using hel
        obtain ⟨gz, cz', ez, -, hgz, hcz⟩ := own_at (HZ.out.own.below HB2.out) (by intro e; rw [e] at hmz'; simp at hmz')
        injection ez with ez1 ez2 ez3
        subst ez1
        have hcm := belowCell (hcz m z hzat)
        have xa := belowCell (HS2.out.blk.cell 1)
        have k0 := HKW2.out.cell 0
        have k1 := HKW2.out.cell 1
        have k2 := HKW2.out.cell 2
        have k3 := HKW2.out.cell 3
        have hI := (fun W (hW : Below wb.heap.size wb W) => c_C_inputs (H.out.below (below_step (below_step HBW.out HBB.out) hW)) hi4)
        rw [HN.out] at hI
        have HI := Lib.hid hI
        simp only [List.getElem?_toArray, List.getElem?_cons_zero, List.getElem?_cons_succ] at xa k0 k1 k2 k3
        have hm := HM.out
        have hm0 : (0 : Int) ≤ (m : Int) := Int.natCast_nonneg _
        have hm1 : (m : Int) < (zs.length : Int) := by omega
        have hwm : IntKind.i64.wrap (m : Int) = (m : Int) := IntWalk.i64_in _ (by omega)
        clear hel hcz hzat hI ez2 ez3
        have xa0 := xa _ (Below.refl _ _)
        go_wp2_with fail
        go_region_law (first
          | (refine step_app1 (B := w0.heap.size) (by rfl) (by rfl) Tryz.underlying24 info_int rfl (HOW.out.alloc _) (cell_new w9 _ _) (by rfl) (by rfl) rfl (by unfold maxLen; omega) (by omega) (by simp; omega) ?_; intro v' w2' ho2 hg hfr; have HON := Lib.hid (OwnI.snoc ho2); have hov2 := Lib.hid (fun g e => (hfr g e).elim (fun h1 => HOV.out g h1) (fun h1 => Nat.le_trans HSZ9.out (by simp at h1; omega))); have HSG := Lib.hid (HS2.out.one (hb9.alloc hb9.size (.cells #[.int .i64 (xorI z off)] 3)) HON.out hg hfr); have hbg := Lib.hid ((below_step HB2.out (hb9.alloc hb9.size (.cells #[.int .i64 (xorI z off)] 3))).grown hg (Nat.le_trans HB2.out.size (by have := hb9.size; simp; omega)) (fun k e => HOV.out k e)); have hk2 := (HS9.out.blk.alloc (.cells #[.int .i64 (xorI z off)] 3)).grown hg (fun e => HS9.out.far ov (by simp) e.symm); have z1 : w2'.cell? ⟨w3.heap.size, 1, none⟩ = some ov := hk2.cell 1; have zf := hk2.free 1; clear hk2; obtain ⟨Av, cv9, ev, -⟩ := HON.out.ints; simp only [List.length_append, List.length_cons, List.length_nil, Nat.zero_add] at ev; subst ev)
          | (go_simp; go_at_call 86; refine (HI.out _ ((Below.refl _ _).drew)).mono ?_; rintro e w9 ⟨rfl, hb9⟩; replace hb9 : Below wb.heap.size wb w9 := below_step ((Below.refl _ _).drew) hb9; have hsz9 := hb9.size; have HS9 := Lib.hid (HS2.out.step hb9); have x1 : w9.cell? ⟨w3.heap.size, 1, none⟩ = some ov := xa _ hb9; have x2 : (w9.alloc (.cells #[.int .i64 (xorI z off)] 3)).cell? ⟨w3.heap.size, 1, none⟩ = some ov := xa _ (hb9.alloc hb9.size _); have HOW : Hid (OwnI w9 w0.heap.size ov ons) := Lib.hid HS9.out.own.ones; have HSZ9 := Lib.hid (Nat.le_trans HB2.out.size hsz9); have hsz0 : w0.heap.size ≤ w9.heap.size := HS9.out.below.size; have hc9 : w9.cell? ⟨gz, m, none⟩ = some (.int .i64 z) := hcm _ hb9))
        all_goals
          go_wp2
          go_roundw
          case rel => exact ⟨j + 1, _, by omega, by go_num, by rw [HSN.out, HW.out]; exact HSG, Lib.hid (hbg.out.setCell (p := ⟨w3.heap.size, 1, none⟩) hlo1 _), hov2⟩
          case measure => simp [intOf]; omega
      · have HW := Lib.hid (show (zStep (gbZ off) (gbR off) key off ⟨l, rws, ons⟩ ⟨gk, ga, gb⟩).ones = ons by
          unfold zStep
          simp only [h3, if_false]
          split
          · rfl
          · split <;> rfl)
        clear hmz' HMADE
        go_wp2
        go_roundw
        case rel => exact ⟨j + 1, ov, by omega, by go_num, by rw [HSN.out, HW.out]; exact HS2, HB2, HOV⟩
        case measure => simp [intOf]; omega
    · obtain rfl : j = c.gs.length := by omega
      have HO2 : Hid (Sta 50 wa w0 w3.heap.size (.slice Ar rows.length cr) ov (.slice A3 cols.length c3) vs ⟨rows, ones, cols⟩) := by have h := HS.out; rw [List.take_of_length_le (Nat.le_refl _), HSE.out] at h; exact h
      clear HS
      obtain ⟨Ao, co', rfl, -⟩ := HO2.out.own.ones.ints
      have z0 : wa.cell? ⟨w3.heap.size, 0, none⟩ = some _ := HO2.out.blk.cell 0
      have z1 : wa.cell? ⟨w3.heap.size, 1, none⟩ = some _ := HO2.out.blk.cell 1
      have z2 : wa.cell? ⟨w3.heap.size, 2, none⟩ = some _ := HO2.out.blk.cell 2
      have hR := HR.out.below HO2.out.below HR.out.lt
      have y0 : wa.cell? ⟨w.heap.size + 1, 0, none⟩ = some (.slice none 0 0) := hR.cell 0
      have y1 : wa.cell? ⟨w.heap.size + 1, 1, none⟩ = some (.slice none 0 0) := hR.cell 1
      have y2 : wa.cell? ⟨w.heap.size + 1, 2, none⟩ = some (.slice none 0 0) := hR.cell 2
      have yf0 := hR.free 0
      have yf1 := hR.free 1
      have yf2 := hR.free 2
      have hlow := HR.out.lt
      have hRl := hR.lt
      have hBf := HBW
      clear hR
      go_wp2
      refine bodyPost_ret (v := gbV (.slice Ar rows.length cr) (.slice Ao ones.length co') (.slice A3 cols.length c3)) (by simp [results, Tryz.results57, go_sem, gbV, y0, y1, y2]) rfl ⟨_, _, _, vs, rfl, ?_, ?_⟩
      · rw [HT.out]
        exact (((HO2.out.own.setLow hlow 0 _).setLow hlow 1 _).setLow hlow 2 _).mono (by omega)
      · exact ((hBf.out.setCell (p := ⟨w.heap.size + 1, 0, none⟩) (by simp) _).setCell (p := ⟨w.heap.size + 1, 1, none⟩) (by simp) _).setCell (p := ⟨w.heap.size + 1, 2, none⟩) (by simp) _
set_option maxRecDepth 100000 in
set_option maxHeartbeats 4000000 in
theorem c_tables_halvedAnd {c : Cir} {gv ov : Value} {key off : Int} {q : Nat} {w : World} (h : CirIn w gv ov c) (hc : cirB c = true) (hk : 0 ≤ key ∧ key ≤ 1000000000) (ho : 0 ≤ off ∧ off ≤ 65535) (hq : w.cell? ⟨q, 0, none⟩ = some (.int .i64 off)) :
    Calls Tryz.prog 57 #[cirV c gv ov, .int .i64 key, .int .i64 off, .func (.func 126) #[] #[.pointer (some ⟨q, 0, none⟩)]] w (RetGb w (tabM (hgZ off) (hgR off) key off c)) := by
  have hbd := cirB_bd hc
  have hgl : c.gs.length ≤ 300 := hbd.2.2.2.2.1
  have hol : c.outs.length ≤ 40 := hbd.2.2.2.2.2
  have hins : 0 ≤ c.ins ∧ c.ins ≤ 40 := by unfold Cir.ins; omega
  have hi4 : 0 ≤ c.i0 ∧ c.i0 ≤ 20 ∧ 0 ≤ c.i1 ∧ c.i1 ≤ 20 := by omega
  have HOB := Lib.hid (zr_outs (F := hgZ off) (R := hgR off) (key := key) (off := off) hc hins.1)
  have hzl := zr_len (F := hgZ off) (R := hgR off) (key := key) (off := off) hc
  have HKB := Lib.hid (cirB_kinds hc)
  have HC := Lib.hid hc
  have HBD := Lib.hid (zr_bd (m := (hgR off 0 0 0).length) (F := hgZ off) (R := hgR off) ho (by first | exact fun w x y _ _ => gbZ_bd ho w x y | exact fun w x y hx _ => hgZ_bd ho hx w y) (by first | exact fun w x y _ _ => gbR_bd ho w x y | exact fun w x y hx _ => hgR_bd ho hx w y) key c.ins.toNat)
  have H := Lib.hid h
  have hql : q < w.heap.size := World.block_lt_of_cell? _ _ hq
  have QC := Lib.hid hq
  obtain ⟨hg, hoo⟩ := h
  obtain ⟨A, cg, rfl, hlg, hmg, hrg⟩ := hg
  obtain ⟨A', co, rfl, -⟩ := hoo
  have HRG := Lib.hid hrg
  unfold maxLen at hmg
  clear hc hbd hrg hq
  obtain ⟨N, hN⟩ : ∃ N : Nat, c.ins = (N : Int) := ⟨c.ins.toNat, by omega⟩
  have hN2 : c.ins.toNat = N := by omega
  have HT := Lib.hid (show tabM (hgZ off) (hgR off) key off c = ⟨(zrM (hgZ off) (hgR off) key off N c.gs).rows, (zrM (hgZ off) (hgR off) key off N c.gs).ones, coloursM (pickM (zrM (hgZ off) (hgR off) key off N c.gs).zs c.outs)⟩ by unfold tabM; rw [hN2])
  rw [hN2] at HBD HOB hzl
  have HN := Lib.hid hN
  have HN2 := Lib.hid hN2
  obtain ⟨S, hS⟩ : ∃ S, zrM (hgZ off) (hgR off) key off N c.gs = S := ⟨_, rfl⟩
  have HSB := HBD.out c.gs
  rw [hS] at HOB hzl HT HSB
  have HSE := Lib.hid hS
  obtain ⟨zs, rows, ones⟩ := S
  simp only at HOB hzl HT HSB
  have HZB := Lib.hid HSB.1
  have HZL := Lib.hid hzl
  clear hN hN2 hS HSB hzl
  unfold cirV
  obtain ⟨w0, hw0⟩ : ∃ W, ((w.alloc (.cells #[.int .i64 c.i0, .int .i64 c.i1, .slice A c.gs.length cg, .slice A' c.outs.length co] 26)).alloc (.cells #[.slice none 0 0, .slice none 0 0, .slice none 0 0] 50)) = W := ⟨_, rfl⟩
  have HKC : Hid (Blk w0 w.heap.size 26 #[.int .i64 c.i0, .int .i64 c.i1, .slice A c.gs.length cg, .slice A' c.outs.length co]) := by rw [← hw0]; exact (Blk.new _ _ _).alloc _
  have HR : Hid (Blk w0 (w.heap.size + 1) 50 #[.slice none 0 0, .slice none 0 0, .slice none 0 0]) := by rw [← hw0]; have := Blk.new (w.alloc (.cells #[.int .i64 c.i0, .int .i64 c.i1, .slice A c.gs.length cg, .slice A' c.outs.length co] 26)) 50 #[.slice none 0 0, .slice none 0 0, .slice none 0 0]; simp only [World.size_alloc] at this; exact this
  have HB : Hid (Below w.heap.size w w0) := by rw [← hw0]; exact ((Below.refl _ _).alloc (Nat.le_refl _) _).alloc (by simp) _
  have hz0 : w.heap.size + 2 ≤ w0.heap.size := by rw [← hw0]; simp
  have x0 : w0.cell? ⟨w.heap.size, 0, none⟩ = some (.int .i64 c.i0) := HKC.out.cell 0
  have x1 : w0.cell? ⟨w.heap.size, 1, none⟩ = some (.int .i64 c.i1) := HKC.out.cell 1
  have x2 : w0.cell? ⟨w.heap.size, 2, none⟩ = some (.slice A c.gs.length cg) := HKC.out.cell 2
  have x3 : w0.cell? ⟨w.heap.size, 3, none⟩ = some (.slice A' c.outs.length co) := HKC.out.cell 3
  go_enter Tryz.func57, Tryz.ntmps57
  go_wp2_with fail
  clear hw0 x0 x1 x2 x3
  refine (c_zeros_halvedAnd (H.out.below HB.out) HC.out hk ho ((HB.out.cell (p := ⟨q, 0, none⟩) hql).trans QC.out)).mono ?_
  rintro e w1 ⟨u, rv, vs, rfl, hzp, hb1⟩
  rw [HN2.out, HSE.out] at hzp
  simp only at hzp
  have HB01 := Lib.hid hb1
  replace HB := Lib.hid (below_step HB.out hb1)
  replace HKC := Lib.hid (HKC.out.step hb1)
  have HZ := Lib.hid hzp
  have hz1 : w.heap.size + 2 ≤ w1.heap.size := Nat.le_trans hz0 hb1.size
  obtain ⟨Az, cz, rfl, hlz, hmz, -⟩ := own_form HZ.out.own
  obtain ⟨Ar, cr, rfl, -⟩ := HZ.out.rs.rowsIn.form
  unfold maxLen at hmz
  have x3 : w1.cell? ⟨w.heap.size, 3, none⟩ = some (.slice A' c.outs.length co) := HKC.out.cell 3
  have hzl2 : zs.length ≤ 340 := by have := HN.out; have := HZL.out; omega
  clear hb1 hzp
  go_wp2_with fail
  refine (c_impl_at HZ.out.own.ints (H.out.below HB.out).outs (by omega) (by omega) HOB.out).mono ?_
  rintro e w2 ⟨u2, rfl, hu2, hb2⟩
  have HB12 := Lib.hid hb2
  have HU2 := Lib.hid hu2
  obtain ⟨A2, c2, rfl, -⟩ := hu2.ints
  clear hu2 hb2 x3
  go_wp2_with fail
  refine (c_impl_colours HU2.out.ints (by rw [pickM_length]; omega) (fun x hx => by
    simp only [pickM, List.mem_map] at hx
    obtain ⟨k, -, rfl⟩ := hx
    have := elt_bd (k := k) HZB.out
    unfold elt at this; omega)).mono ?_
  rintro e w3 ⟨u3, rfl, hu3, hb3⟩
  obtain ⟨cols, hcols⟩ : ∃ cols, coloursM (pickM zs c.outs) = cols := ⟨_, rfl⟩
  rw [hcols] at hu3 HT
  clear hcols
  have HB13 := Lib.hid (below_step HB12.out hb3)
  have HU3 := Lib.hid (hu3.mono HB12.out.size)
  obtain ⟨A3, c3, rfl, -⟩ := hu3.ints
  have HB03 := Lib.hid (below_step HB01.out HB13.out)
  have HS := Lib.hid (sta_new (t := 50) (HZ.out.rs.below HB13.out) (HU3.out.mono HB01.out.size) (fun y hy => (Apt.ofLt (fun g hg => (HZ.out.rs.bd y hy g hg).2) HU3.out.ge).symm) HB03.out)
  have HB14 := Lib.hid (HB13.out.alloc HB13.out.size (.cells #[.slice Ar rows.length cr, .slice none 0 0, .slice A3 cols.length c3] 50))
  have hb1w : w1.heap.size ≤ w3.heap.size := HB13.out.size
  have x2 : (w3.alloc (.cells #[.slice Ar rows.length cr, .slice none 0 0, .slice A3 cols.length c3] 50)).cell? ⟨w.heap.size, 2, none⟩ = some (.slice A c.gs.length cg) := (HKC.out.step HB14.out).cell 2
  clear hu3 hb3 HB12 HU2
  go_wp2_with fail
  have hlo1 : w1.heap.size ≤ w3.heap.size := hb1w
  clear x2
  go_loopw [32] (fun i wr => ∃ (j : Nat) (ov : Value), j ≤ c.gs.length ∧ i = .int .i64 j ∧ Hid (Sta 50 wr w0 w3.heap.size (.slice Ar rows.length cr) ov (.slice A3 cols.length c3) vs ⟨rows, (zrM (hgZ off) (hgR off) key off N (c.gs.take j)).ones, cols⟩) ∧ Hid (Below w1.heap.size w1 wr) ∧ Hid (∀ g, ov.ownBlock = some g → w1.heap.size ≤ g)) (fun i _ => c.gs.length - (intOf i).toNat)
  case atStart => exact ⟨0, _, Nat.zero_le _, rfl, HS, HB14, Lib.hid (fun g e => by cases e)⟩
  case round =>
    obtain ⟨j, ov, hj, rfl, HS, HB1, HOV⟩ := hrel
    clear HB14
    obtain ⟨wa, rfl⟩ : ∃ W, W = wr := ⟨wr, rfl⟩
    have HBW := Lib.hid (below_step HB.out HB1.out)
    have HKW := Lib.hid (HKC.out.step HB1.out)
    by_cases hjl : j < c.gs.length
    · obtain ⟨b, o, g, rfl, hbl, hgk, c0, c1', c2'⟩ := (HRG.out.below HBW.out).gate_at hjl
      obtain ⟨i1, i2, i3⟩ := zr_inv (F := hgZ off) (R := hgR off) (key := key) (off := off) (n := N) HKB.out j (by omega)
      have HSN := Lib.hid (zr_snoc (F := hgZ off) (R := hgR off) (key := key) (off := off) (n := N) hgk)
      have hcl3 := cnt_le 3 c.gs j
      have hcb3 := cnt_bd 3 c.gs
      have honl : (zrM (hgZ off) (hgR off) key off N (c.gs.take j)).ones.length ≤ 300 := by omega
      obtain ⟨m, hm⟩ : ∃ m : Nat, (N : Int) + (j : Int) = (m : Int) := ⟨N + j, by omega⟩
      have HM := Lib.hid hm
      have hmz' : m < zs.length := by have := HZL.out; omega
      have HMADE := Lib.hid (fun x => zr_made (F := hgZ off) (R := hgR off) (key := key) (off := off) (n := N) (gs := c.gs) (k := j) (x := x))
      rw [HSE.out, i1, show N + j = m by omega] at HMADE
      simp only at HMADE
      have hlsn : (zrM (hgZ off) (hgR off) key off N (c.gs.take j)).zs.length = m := by omega
      have HLS := Lib.hid hlsn
      generalize hs : zrM (hgZ off) (hgR off) key off N (c.gs.take j) = s at *
      clear hs hgk i1 i2 i3 hcl3 hcb3 hlsn
      obtain ⟨gk, ga, gb⟩ := g
      obtain ⟨l, rws, ons⟩ := s
      simp only at c0 c1' c2' honl HS HMADE HLS
      have hN3 : (N : Int) ≤ 40 := by have := HN.out; omega
      obtain ⟨wb, hwb⟩ : ∃ W, wa.alloc (.cells #[.int .i64 gk, .int .i64 ga, .int .i64 gb] 117) = W := ⟨_, rfl⟩
      have hbb : Below wa.heap.size wa wb := by rw [← hwb]; exact (Below.refl _ _).alloc (Nat.le_refl _) _
      have HBX : Hid (Blk wb wa.heap.size 117 #[.int .i64 gk, .int .i64 ga, .int .i64 gb]) := by rw [← hwb]; exact Blk.new _ _ _
      have y0 : wb.cell? ⟨wa.heap.size, 0, none⟩ = some (.int .i64 gk) := HBX.out.cell 0
      have HBB := Lib.hid hbb
      have HS2 := Lib.hid (HS.out.step hbb)
      have HB2 := Lib.hid (below_step HB1.out hbb)
      have HKW2 := Lib.hid (HKW.out.step hbb)
      clear hbb hm
      by_cases h3 : gk = 3
      · subst h3
        have HW := Lib.hid (show zStep (hgZ off) (hgR off) key off ⟨l, rws, ons⟩ ⟨3, ga, gb⟩ = ⟨l ++ [digM [key, (l.length : Int), 13, 0]], rws, ons ++ [xorI (digM [key, (l.length : Int), 13, 0]) off]⟩ by unfold zStep; simp only [Int.reduceEq, if_false, if_true])
        have hel := HMADE.out (digM [key, (l.length : Int), 13, 0]) (by rw [HSN.out, HW.out])
        have hd := digM_bd [key, (l.length : Int), 13, 0]
        generalize digM [key, (l.length : Int), 13, 0] = z at *
        have hxor := bits_xor hd.1 ho.1 (by omega) (by omega)
        have hzat : zs[m]? = some z := by
          rw [List.getElem?_eq_getElem hmz']
          unfold elt at hel
          rw [Int.toNat_natCast] at hel
          simpa [List.getD, List.getElem?_eq_getElem hmz'] using hel
        obtain ⟨gz, cz', ez, -, hgz, hcz⟩ := own_at (HZ.out.own.below HB2.out) (by intro e; rw [e] at hmz'; simp at hmz')
        injection ez with ez1 ez2 ez3
        subst ez1
        have hcm := belowCell (hcz m z hzat)
        have xa := belowCell (HS2.out.blk.cell 1)
        have k0 := HKW2.out.cell 0
        have k1 := HKW2.out.cell 1
        have k2 := HKW2.out.cell 2
        have k3 := HKW2.out.cell 3
        have hI := (fun W (hW : Below wb.heap.size wb W) => c_C_inputs (H.out.below (below_step (below_step HBW.out HBB.out) hW)) hi4)
        rw [HN.out] at hI
        have HI := Lib.hid hI
        simp only [List.getElem?_toArray, List.getElem?_cons_zero, List.getElem?_cons_succ] at xa k0 k1 k2 k3
        have hm := HM.out
        have hm0 : (0 : Int) ≤ (m : Int) := Int.natCast_nonneg _
        have hm1 : (m : Int) < (zs.length : Int) := by omega
        have hwm : IntKind.i64.wrap (m : Int) = (m : Int) := IntWalk.i64_in _ (by omega)
        clear hel hcz hzat hI ez2 ez3
        have xa0 := xa _ (Below.refl _ _)
        go_wp2_with fail
        go_region_law (first
          | (refine step_app1 (B := w0.heap.size) (by rfl) (by rfl) Tryz.underlying24 info_int rfl (HOW.out.alloc _) (cell_new w9 _ _) (by rfl) (by rfl) rfl (by unfold maxLen; omega) (by omega) (by simp; omega) ?_; intro v' w2' ho2 hg hfr; have HON := Lib.hid (OwnI.snoc ho2); have hov2 := Lib.hid (fun g e => (hfr g e).elim (fun h1 => HOV.out g h1) (fun h1 => Nat.le_trans HSZ9.out (by simp at h1; omega))); have HSG := Lib.hid (HS2.out.one (hb9.alloc hb9.size (.cells #[.int .i64 (xorI z off)] 3)) HON.out hg hfr); have hbg := Lib.hid ((below_step HB2.out (hb9.alloc hb9.size (.cells #[.int .i64 (xorI z off)] 3))).grown hg (Nat.le_trans HB2.out.size (by have := hb9.size; simp; omega)) (fun k e => HOV.out k e)); have hk2 := (HS9.out.blk.alloc (.cells #[.int .i64 (xorI z off)] 3)).grown hg (fun e => HS9.out.far ov (by simp) e.symm); have z1 : w2'.cell? ⟨w3.heap.size, 1, none⟩ = some ov := hk2.cell 1; have zf := hk2.free 1; clear hk2; obtain ⟨Av, cv9, ev, -⟩ := HON.out.ints; simp only [List.length_append, List.length_cons, List.length_nil, Nat.zero_add] at ev; subst ev)
          | (go_simp; go_at_call 86; refine (HI.out _ ((Below.refl _ _).drew)).mono ?_; rintro e w9 ⟨rfl, hb9⟩; replace hb9 : Below wb.heap.size wb w9 := below_step ((Below.refl _ _).drew) hb9; have hsz9 := hb9.size; have HS9 := Lib.hid (HS2.out.step hb9); have x1 : w9.cell? ⟨w3.heap.size, 1, none⟩ = some ov := xa _ hb9; have x2 : (w9.alloc (.cells #[.int .i64 (xorI z off)] 3)).cell? ⟨w3.heap.size, 1, none⟩ = some ov := xa _ (hb9.alloc hb9.size _); have HOW : Hid (OwnI w9 w0.heap.size ov ons) := Lib.hid HS9.out.own.ones; have HSZ9 := Lib.hid (Nat.le_trans HB2.out.size hsz9); have hsz0 : w0.heap.size ≤ w9.heap.size := HS9.out.below.size; have hc9 : w9.cell? ⟨gz, m, none⟩ = some (.int .i64 z) := hcm _ hb9))
        all_goals
          go_wp2
          go_roundw
          case rel => exact ⟨j + 1, _, by omega, by go_num, by rw [HSN.out, HW.out]; exact HSG, Lib.hid (hbg.out.setCell (p := ⟨w3.heap.size, 1, none⟩) hlo1 _), hov2⟩
          case measure => simp [intOf]; omega
      · have HW := Lib.hid (show (zStep (hgZ off) (hgR off) key off ⟨l, rws, ons⟩ ⟨gk, ga, gb⟩).ones = ons by
          unfold zStep
          simp only [h3, if_false]
          split
          · rfl
          · split <;> rfl)
        clear hmz' HMADE
        go_wp2
        go_roundw
        case rel => exact ⟨j + 1, ov, by omega, by go_num, by rw [HSN.out, HW.out]; exact HS2, HB2, HOV⟩
        case measure => simp [intOf]; omega
    · obtain rfl : j = c.gs.length := by omega
      have HO2 : Hid (Sta 50 wa w0 w3.heap.size (.slice Ar rows.length cr) ov (.slice A3 cols.length c3) vs ⟨rows, ones, cols⟩) := by have h := HS.out; rw [List.take_of_length_le (Nat.le_refl _), HSE.out] at h; exact h
      clear HS
      obtain ⟨Ao, co', rfl, -⟩ := HO2.out.own.ones.ints
      have z0 : wa.cell? ⟨w3.heap.size, 0, none⟩ = some _ := HO2.out.blk.cell 0
      have z1 : wa.cell? ⟨w3.heap.size, 1, none⟩ = some _ := HO2.out.blk.cell 1
      have z2 : wa.cell? ⟨w3.heap.size, 2, none⟩ = some _ := HO2.out.blk.cell 2
      have hR := HR.out.below HO2.out.below HR.out.lt
      have y0 : wa.cell? ⟨w.heap.size + 1, 0, none⟩ = some (.slice none 0 0) := hR.cell 0
      have y1 : wa.cell? ⟨w.heap.size + 1, 1, none⟩ = some (.slice none 0 0) := hR.cell 1
      have y2 : wa.cell? ⟨w.heap.size + 1, 2, none⟩ = some (.slice none 0 0) := hR.cell 2
      have yf0 := hR.free 0
      have yf1 := hR.free 1
      have yf2 := hR.free 2
      have hlow := HR.out.lt
      have hRl := hR.lt
      have hBf := HBW
      clear hR
      go_wp2
      refine bodyPost_ret (v := gbV (.slice Ar rows.length cr) (.slice Ao ones.length co') (.slice A3 cols.length c3)) (by simp [results, Tryz.results57, go_sem, gbV, y0, y1, y2]) rfl ⟨_, _, _, vs, rfl, ?_, ?_⟩
      · rw [HT.out]
        exact (((HO2.out.own.setLow hlow 0 _).setLow hlow 1 _).setLow hlow 2 _).mono (by omega)
      · exact ((hBf.out.setCell (p := ⟨w.heap.size + 1, 0, none⟩) (by simp) _).setCell (p := ⟨w.heap.size + 1, 1, none⟩) (by simp) _).setCell (p := ⟨w.heap.size + 1, 2, none⟩) (by simp) _
end Go.Proofs.YtejeppjmlgfiaaaGreat
