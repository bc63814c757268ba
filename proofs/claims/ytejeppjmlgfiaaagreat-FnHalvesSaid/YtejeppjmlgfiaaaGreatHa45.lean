/- Contract of the reference's tables of a garbled circuit. Conditions: the circuit, the key and the offset are valid. -/
import Derived.Test.YtejeppjmlgfiaaaGreatHa43
import Derived.Test.YtejeppjmlgfiaaaGreatHa37
namespace Go.Proofs.YtejeppjmlgfiaaaGreat
open Go.RowKit
set_option linter.unusedVariables false

set_option maxRecDepth 100000 in
set_option maxHeartbeats 4000000 in
theorem c_spec_gbMake {c : Cir} {gv ov : Value} {key off : Int} {w : World} (h : CirIn w gv ov c) (hc : cirB c = true) (hk : 0 ≤ key ∧ key ≤ 1000000000) (ho : 0 ≤ off ∧ off ≤ 65535) :
    Calls Tryz.prog 92 #[cirV c gv ov, .int .i64 key, .int .i64 off] w (RetGb w (tabM (gbZ off) (gbR off) key off c)) := by
  have hbd := cirB_bd hc
  have hgl : c.gs.length ≤ 300 := hbd.2.2.2.2.1
  have hol : c.outs.length ≤ 40 := hbd.2.2.2.2.2
  have hins : 0 ≤ c.ins ∧ c.ins ≤ 40 := by unfold Cir.ins; omega
  have hi4 : 0 ≤ c.i0 ∧ c.i0 ≤ 20 ∧ 0 ≤ c.i1 ∧ c.i1 ≤ 20 := by omega
  have HOB := Lib.hid (zr_outs (F := gbZ off) (R := gbR off) (key := key) (off := off) hc hins.1)
  have hzl := zr_len (F := gbZ off) (R := gbR off) (key := key) (off := off) hc
  have HKB := Lib.hid (cirB_kinds hc)
  have HGB := Lib.hid (cirB_gates hc)
  have HC := Lib.hid hc
  have HBD := Lib.hid (zr_bd (m := 3) (F := gbZ off) (R := gbR off) ho (fun w x y _ _ => gbZ_bd ho w x y) (fun w x y _ _ => gbR_bd ho w x y) key c.ins.toNat)
  have H := Lib.hid h
  obtain ⟨hg, hoo⟩ := h
  obtain ⟨A, cg, rfl, hlg, hmg, hrg⟩ := hg
  obtain ⟨A', co, rfl, -⟩ := hoo
  have HRG := Lib.hid hrg
  unfold maxLen at hmg
  clear hc hbd hrg
  obtain ⟨N, hN⟩ : ∃ N : Nat, c.ins = (N : Int) := ⟨c.ins.toNat, by omega⟩
  have hN2 : c.ins.toNat = N := by omega
  have HT := Lib.hid (show tabM (gbZ off) (gbR off) key off c = ⟨(zrM (gbZ off) (gbR off) key off N c.gs).rows, (zrM (gbZ off) (gbR off) key off N c.gs).ones, coloursM (pickM (zrM (gbZ off) (gbR off) key off N c.gs).zs c.outs)⟩ by unfold tabM; rw [hN2])
  rw [hN2] at HBD HOB hzl
  have HN := Lib.hid hN
  have HN2 := Lib.hid hN2
  obtain ⟨S, hS⟩ : ∃ S, zrM (gbZ off) (gbR off) key off N c.gs = S := ⟨_, rfl⟩
  have HSB := HBD.out c.gs
  rw [hS] at HOB hzl HT HSB
  have HSE := Lib.hid hS
  obtain ⟨zs, rows, ones⟩ := S
  simp only at HOB hzl HT HSB
  have HZB := Lib.hid HSB.1
  have HZL := Lib.hid hzl
  clear hN hN2 hS HSB hzl
  unfold cirV
  obtain ⟨w0, hw0⟩ : ∃ W, ((w.alloc (.cells #[.int .i64 c.i0, .int .i64 c.i1, .slice A c.gs.length cg, .slice A' c.outs.length co] 26)).alloc (.cells #[.slice none 0 0, .slice none 0 0, .slice none 0 0] 50)) = W := ⟨_, rfl⟩
  have HKC : Hid (Blk w0 w.heap.size 26 #[.int .i64 c.i0, .int .i64 c.i1, .slice A c.gs.length cg, .slice A' c.outs.length co]) := by rw [← hw0]; exact (Blk.new _ _ _).alloc _
  have HR : Hid (Blk w0 (w.heap.size + 1) 50 #[.slice none 0 0, .slice none 0 0, .slice none 0 0]) := by rw [← hw0]; have := Blk.new (w.alloc (.cells #[.int .i64 c.i0, .int .i64 c.i1, .slice A c.gs.length cg, .slice A' c.outs.length co] 26)) 50 #[.slice none 0 0, .slice none 0 0, .slice none 0 0]; simp only [World.size_alloc] at this; exact this
  have HB : Hid (Below w.heap.size w w0) := by rw [← hw0]; exact ((Below.refl _ _).alloc (Nat.le_refl _) _).alloc (by simp) _
  have hz0 : w.heap.size + 2 ≤ w0.heap.size := by rw [← hw0]; simp
  have x0 : w0.cell? ⟨w.heap.size, 0, none⟩ = some (.int .i64 c.i0) := HKC.out.cell 0
  have x1 : w0.cell? ⟨w.heap.size, 1, none⟩ = some (.int .i64 c.i1) := HKC.out.cell 1
  have x2 : w0.cell? ⟨w.heap.size, 2, none⟩ = some (.slice A c.gs.length cg) := HKC.out.cell 2
  have x3 : w0.cell? ⟨w.heap.size, 3, none⟩ = some (.slice A' c.outs.length co) := HKC.out.cell 3
  go_enter Tryz.func92, Tryz.ntmps92
  go_wp2_with fail
  clear hw0 x0 x1 x2 x3
  refine (c_spec_gbZeros (H.out.below HB.out) HC.out hk ho).mono ?_
  rintro e w1 ⟨u, rfl, hzp, hb1⟩
  rw [HN2.out, HSE.out] at hzp
  simp only at hzp
  have HB01 := Lib.hid hb1
  replace HB := Lib.hid (below_step HB.out hb1)
  replace HKC := Lib.hid (HKC.out.step hb1)
  have HZ := Lib.hid hzp
  have hz1 : w.heap.size + 2 ≤ w1.heap.size := Nat.le_trans hz0 hb1.size
  obtain ⟨Az, cz, rfl, hlz, hmz, -⟩ := own_form HZ.out
  unfold maxLen at hmz
  have x3 : w1.cell? ⟨w.heap.size, 3, none⟩ = some (.slice A' c.outs.length co) := HKC.out.cell 3
  have hzl2 : zs.length ≤ 340 := by have := HN.out; have := HZL.out; omega
  clear hb1 hzp
  go_wp2_with fail
  refine (c_spec_ciPick HZ.out.ints (H.out.below HB.out).outs (by omega) (by omega) HOB.out).mono ?_
  rintro e w2 ⟨u2, rfl, hu2, hb2⟩
  have HB12 := Lib.hid hb2
  have HU2 := Lib.hid hu2
  obtain ⟨A2, c2, rfl, -⟩ := hu2.ints
  clear hu2 hb2 x3
  go_wp2_with fail
  refine (c_spec_lbColours HU2.out.ints (by rw [pickM_length]; omega) (fun x hx => by
    simp only [pickM, List.mem_map] at hx
    obtain ⟨k, -, rfl⟩ := hx
    have := elt_bd (k := k) HZB.out
    unfold elt at this; omega)).mono ?_
  rintro e w3 ⟨u3, rfl, hu3, hb3⟩
  obtain ⟨cols, hcols⟩ : ∃ cols, coloursM (pickM zs c.outs) = cols := ⟨_, rfl⟩
  rw [hcols] at hu3 HT
  clear hcols
  have HB13 := Lib.hid (below_step HB12.out hb3)
  have HU3 := Lib.hid (hu3.mono HB12.out.size)
  obtain ⟨A3, c3, rfl, -⟩ := hu3.ints
  have HB03 := Lib.hid (below_step HB01.out HB13.out)
  have HS := Lib.hid (sta_new (t := 50) (OwnRs.nil w3 w0.heap.size) (HU3.out.mono HB01.out.size) (fun y hy g _ e => by simp at hy; subst hy; cases e) HB03.out)
  have HB14 := Lib.hid (HB13.out.alloc HB13.out.size (.cells #[.slice none 0 0, .slice none 0 0, .slice A3 cols.length c3] 50))
  have hb1w : w1.heap.size ≤ w3.heap.size := HB13.out.size
  have x2 : (w3.alloc (.cells #[.slice none 0 0, .slice none 0 0, .slice A3 cols.length c3] 50)).cell? ⟨w.heap.size, 2, none⟩ = some (.slice A c.gs.length cg) := (HKC.out.step HB14.out).cell 2
  clear hu3 hb3 HB12 HU2
  go_wp2_with fail
  have hlo1 : w1.heap.size ≤ w3.heap.size := hb1w
  clear x2
  go_loopw [25] (fun i wr => ∃ (j : Nat) (ov rv : Value) (vs : List Value), j ≤ c.gs.length ∧ i = .int .i64 j ∧ Hid (Sta 50 wr w0 w3.heap.size rv ov (.slice A3 cols.length c3) vs ⟨(zrM (gbZ off) (gbR off) key off N (c.gs.take j)).rows, (zrM (gbZ off) (gbR off) key off N (c.gs.take j)).ones, cols⟩) ∧ Hid (Below w1.heap.size w1 wr) ∧ Hid (∀ g, ov.ownBlock = some g → w1.heap.size ≤ g) ∧ Hid (∀ g, rv.ownBlock = some g → w1.heap.size ≤ g)) (fun i _ => c.gs.length - (intOf i).toNat)
  case atStart => exact ⟨0, _, _, _, Nat.zero_le _, rfl, HS, HB14, Lib.hid (fun g e => by cases e), Lib.hid (fun g e => by cases e)⟩
  case round =>
    obtain ⟨j, ov, rv, vs, hj, rfl, HS, HB1, HOV, HRV⟩ := hrel
    clear HB14
    obtain ⟨wa, rfl⟩ : ∃ W, W = wr := ⟨wr, rfl⟩
    have HBW := Lib.hid (below_step HB.out HB1.out)
    have HKW := Lib.hid (HKC.out.step HB1.out)
    by_cases hjl : j < c.gs.length
    · obtain ⟨b, o, g, rfl, hbl, hgk, c0, c1', c2'⟩ := (HRG.out.below HBW.out).gate_at hjl
      have hgb := gate_ab (gatesB_at _ _ j g HGB.out hgk)
      obtain ⟨i1, i2, i3⟩ := zr_inv (F := gbZ off) (R := gbR off) (key := key) (off := off) (n := N) HKB.out j (by omega)
      have HSN := Lib.hid (zr_snoc (F := gbZ off) (R := gbR off) (key := key) (off := off) (n := N) hgk)
      have hcl3 := cnt_le 3 c.gs j
      have hcb3 := cnt_bd 3 c.gs
      have hcl1 := cnt_le 1 c.gs j
      have hcb1 := cnt_bd 1 c.gs
      have honl : (zrM (gbZ off) (gbR off) key off N (c.gs.take j)).ones.length ≤ 300 := by omega
      have hrwl : (zrM (gbZ off) (gbR off) key off N (c.gs.take j)).rows.length ≤ 300 := by omega
      obtain ⟨m, hm⟩ : ∃ m : Nat, (N : Int) + (j : Int) = (m : Int) := ⟨N + j, by omega⟩
      have HM := Lib.hid hm
      have hmz' : m < zs.length := by have := HZL.out; omega
      have HMADE := Lib.hid (fun x => zr_made (F := gbZ off) (R := gbR off) (key := key) (off := off) (n := N) (gs := c.gs) (k := j) (x := x))
      rw [HSE.out, i1, show N + j = m by omega] at HMADE
      simp only at HMADE
      have HELT := Lib.hid (fun a => zr_elt (F := gbZ off) (R := gbR off) (key := key) (off := off) (n := N) (gs := c.gs) (k := j) (a := a))
      rw [HSE.out, i1, show N + j = m by omega] at HELT
      simp only at HELT
      rw [HN.out, hm] at hgb
      have hlsn : (zrM (gbZ off) (gbR off) key off N (c.gs.take j)).zs.length = m := by omega
      have HLS := Lib.hid hlsn
      generalize hs : zrM (gbZ off) (gbR off) key off N (c.gs.take j) = s at *
      clear hs hgk i1 i2 i3 hcl3 hcb3 hcl1 hcb1 hlsn
      obtain ⟨gk, ga, gb⟩ := g
      obtain ⟨l, rws, ons⟩ := s
      simp only at c0 c1' c2' honl hrwl HS HMADE HELT HLS hgb
      have hN3 : (N : Int) ≤ 40 := by have := HN.out; omega
      obtain ⟨wb, hwb⟩ : ∃ W, wa.alloc (.cells #[.int .i64 gk, .int .i64 ga, .int .i64 gb] 117) = W := ⟨_, rfl⟩
      have hbb : Below wa.heap.size wa wb := by rw [← hwb]; exact (Below.refl _ _).alloc (Nat.le_refl _) _
      have HBX : Hid (Blk wb wa.heap.size 117 #[.int .i64 gk, .int .i64 ga, .int .i64 gb]) := by rw [← hwb]; exact Blk.new _ _ _
      have HBB := Lib.hid hbb
      have HB2 := Lib.hid (below_step HB1.out hbb)
      have HKW2 := Lib.hid (HKW.out.step hbb)
      have k0 : wb.cell? ⟨w.heap.size, 0, none⟩ = some (.int .i64 c.i0) := HKW2.out.cell 0
      have k1 : wb.cell? ⟨w.heap.size, 1, none⟩ = some (.int .i64 c.i1) := HKW2.out.cell 1
      have k2 : wb.cell? ⟨w.heap.size, 2, none⟩ = some (.slice (some ⟨b, o, none⟩) c.gs.length cg) := HKW2.out.cell 2
      have k3 : wb.cell? ⟨w.heap.size, 3, none⟩ = some (.slice A' c.outs.length co) := HKW2.out.cell 3
      have hI := (fun W (hW : Below wb.heap.size wb W) => c_spec_ciInputs (H.out.below (below_step (below_step HBW.out HBB.out) hW)) hi4)
      rw [HN.out] at hI
      have HI := Lib.hid (hI wb (Below.refl _ _))
      have hwm : IntKind.i64.wrap (m : Int) = (m : Int) := IntWalk.i64_in _ (by omega)
      have hkk := hgb.1
      clear hbb hI
      go_wp2_with fail
      refine HI.out.mono ?_
      rintro e w5 ⟨rfl, hb5⟩
      have HS2 := Lib.hid (HS.out.step (below_step HBB.out hb5))
      replace HB2 := Lib.hid (below_step HB2.out hb5)
      replace HBX := Lib.hid (HBX.out.step hb5)
      have y0 : w5.cell? ⟨wa.heap.size, 0, none⟩ = some (.int .i64 gk) := HBX.out.cell 0
      have y1 : w5.cell? ⟨wa.heap.size, 1, none⟩ = some (.int .i64 ga) := HBX.out.cell 1
      have y2 : w5.cell? ⟨wa.heap.size, 2, none⟩ = some (.int .i64 gb) := HBX.out.cell 2
      have hsz05 : w0.heap.size ≤ w5.heap.size := HS2.out.below.size
      clear hb5 k0 k1 k2 k3 c0 c1' c2' HI
      have hm0 : (0 : Int) ≤ (m : Int) := Int.natCast_nonneg _
      have hm1 : (m : Int) < (zs.length : Int) := by omega
      obtain ⟨gz, cz', ez, -, hgz, hcz⟩ := own_at (HZ.out.below HB2.out) (by intro e; rw [e] at hmz'; simp at hmz')
      injection ez with ez1 ez2 ez3
      subst ez1
      have hat : ∀ (k : Nat), k < zs.length → w5.cell? ⟨gz, k, none⟩ = some (.int .i64 (elt zs (k : Int))) := fun k hk => hcz k _ (by
        unfold elt; rw [Int.toNat_natCast, List.getElem?_eq_getElem hk]; simp [List.getD, List.getElem?_eq_getElem hk])
      have HAT := Lib.hid hat
      clear hcz hat ez2 ez3
      have xr : Hid (∀ W, Below w5.heap.size w5 W → W.cell? ⟨w3.heap.size, 0, none⟩ = some rv) := Lib.hid (belowCell (HS2.out.blk.cell 0))
      have xo : Hid (∀ W, Below w5.heap.size w5 W → W.cell? ⟨w3.heap.size, 1, none⟩ = some ov) := Lib.hid (belowCell (HS2.out.blk.cell 1))
      have hcm : w5.cell? ⟨gz, m, none⟩ = some (.int .i64 (elt zs (m : Int))) := HAT.out m hmz'
      have hkk4 : gk = 1 ∨ gk = 3 ∨ (gk ≠ 1 ∧ gk ≠ 3) := by omega
      rcases hkk4 with rfl | rfl | ⟨h1, h3⟩
      · -- and
        have hab := hgb.2.1 (Or.inr rfl)
        obtain ⟨ja, rfl⟩ := Int.eq_ofNat_of_zero_le hab.1
        obtain ⟨jb, rfl⟩ := Int.eq_ofNat_of_zero_le hab.2.2.1
        have hja1 : (ja : Int) < (zs.length : Int) := by omega
        have hjb1 : (jb : Int) < (zs.length : Int) := by omega
        have hja0 : (0 : Int) ≤ (ja : Int) := Int.natCast_nonneg _
        have hjb0 : (0 : Int) ≤ (jb : Int) := Int.natCast_nonneg _
        have hca := HAT.out ja (by omega)
        have hcb := HAT.out jb (by omega)
        have HW := Lib.hid (show zStep (gbZ off) (gbR off) key off ⟨l, rws, ons⟩ ⟨1, (ja : Int), (jb : Int)⟩ = ⟨l ++ [gbZ off (m : Int) (elt zs (ja : Int)) (elt zs (jb : Int))], rws ++ [gbR off (m : Int) (elt zs (ja : Int)) (elt zs (jb : Int))], ons⟩ by
          unfold zStep; simp only [Int.reduceEq, if_false]; rw [HELT.out _ hab.1 hab.2.1, HELT.out _ hab.2.2.1 hab.2.2.2, HLS.out])
        have hel := HMADE.out (gbZ off (m : Int) (elt zs (ja : Int)) (elt zs (jb : Int))) (by rw [HSN.out, HW.out])
        have ba := elt_bd (k := (ja : Int)) HZB.out
        have bb := elt_bd (k := (jb : Int)) HZB.out
        have HC := Lib.hid (fun W => c_spec_gbRows (w := W) hel ho (by omega) ba bb)
        have hvl := HS2.out.own.rows.len
        simp only at hvl
        generalize gbR off (m : Int) (elt zs (ja : Int)) (elt zs (jb : Int)) = rr at *
        generalize gbZ off (m : Int) (elt zs (ja : Int)) (elt zs (jb : Int)) = zz at *
        generalize elt zs (ja : Int) = xa at *
        generalize elt zs (jb : Int) = xb at *
        generalize elt zs (m : Int) = xm at *
        have xr0 := xr.out _ (Below.refl _ _)
        clear hel hab hgb xo
        clear HBD HKB HGB HZB HOB HZL HT
        have Q1 := Lib.hid (belowCell y1)
        have Q2 := Lib.hid (belowCell y2)
        have Q3 := Lib.hid (belowCell hca)
        have Q4 := Lib.hid (belowCell hcb)
        have Q5 := Lib.hid (belowCell hcm)
        have HN1 := Lib.hid (fun (e : some wa.heap.size = rv.ownBlock) => Nat.lt_irrefl _ (HS.out.own.bd rv (by simp) _ e.symm).2)
        have hgz1 : gz < w1.heap.size := HZ.out.lt gz rfl
        have HN2 := Lib.hid (fun (e : some gz = rv.ownBlock) => Nat.lt_irrefl _ (Nat.lt_of_lt_of_le hgz1 (HRV.out _ e.symm)))
        have HN3 := Lib.hid (show w3.heap.size ≠ wa.heap.size from Nat.ne_of_lt HS.out.blk.lt)
        have HN4 := Lib.hid (show w3.heap.size ≠ gz by omega)
        go_wp2_with fail
        refine wp_region_held_drew (S := fun W => W.cell? ⟨wa.heap.size, 1, none⟩ = some (.int .i64 (ja : Int)) ∧ W.cell? ⟨wa.heap.size, 2, none⟩ = some (.int .i64 (jb : Int)) ∧ W.cell? ⟨gz, ja, none⟩ = some (.int .i64 xa) ∧ W.cell? ⟨gz, jb, none⟩ = some (.int .i64 xb) ∧ W.cell? ⟨gz, m, none⟩ = some (.int .i64 xm)) (by kernel_rfl) ⟨y1, y2, hca, hcb, hcm⟩ (fun hHeld => ?_)
        first | (refine wpAnyH_take (i := 0) (oi := ?oi516) (v := ?_) ?hi516 (by kernel_rfl) (by kernel_rfl) (by kernel_rfl) ?hq516 (Or.inl ⟨?hw516, ?hy516⟩) (by assumption) ?rest516; (case hi516 => (simp only [List.getElem?_toArray, List.getElem?_cons_zero]; rfl)); (case hq516 => exact fun _ _ _ h => h); (case hw516 => rfl); (case hy516 => (intro w hSw; (try dsimp only at hSw); go_simp; try (with_reducible rfl))); (try simp only [Act.put, List.setIfInBounds_toArray, List.set_cons_zero, List.set_cons_succ])) | (refine wpAnyH_take (i := 0) (oi := ?oi517) (v := undef) ?hi517 (by kernel_rfl) (by kernel_rfl) (by kernel_rfl) ?hq517 (Or.inr ⟨?hw517, rfl⟩) (by assumption) ?rest517; (case hi517 => (simp only [List.getElem?_toArray, List.getElem?_cons_zero]; rfl)); (case hq517 => exact fun _ _ _ h => h); (case hw517 => rfl); (try simp only [Act.put, List.setIfInBounds_toArray, List.set_cons_zero, List.set_cons_succ]))
        first | (refine wpAnyH_take (i := 2) (oi := ?oi518) (v := ?_) ?hi518 (by kernel_rfl) (by kernel_rfl) (by kernel_rfl) ?hq518 (Or.inl ⟨?hw518, ?hy518⟩) (by assumption) ?rest518; (case hi518 => (simp only [List.getElem?_toArray, List.getElem?_cons_succ, List.getElem?_cons_zero]; rfl)); (case hq518 => exact fun _ _ _ h => h); (case hw518 => rfl); (case hy518 => (intro w hSw; (try dsimp only at hSw); go_simp; try (with_reducible rfl))); (try simp only [Act.put, List.setIfInBounds_toArray, List.set_cons_zero, List.set_cons_succ])) | (refine wpAnyH_take (i := 2) (oi := ?oi519) (v := undef) ?hi519 (by kernel_rfl) (by kernel_rfl) (by kernel_rfl) ?hq519 (Or.inr ⟨?hw519, rfl⟩) (by assumption) ?rest519; (case hi519 => (simp only [List.getElem?_toArray, List.getElem?_cons_succ, List.getElem?_cons_zero]; rfl)); (case hq519 => exact fun _ _ _ h => h); (case hw519 => rfl); (try simp only [Act.put, List.setIfInBounds_toArray, List.set_cons_zero, List.set_cons_succ]))
        first | (refine wpAnyH_take (i := 3) (oi := ?oi520) (v := ?_) ?hi520 (by kernel_rfl) (by kernel_rfl) (by kernel_rfl) ?hq520 (Or.inl ⟨?hw520, ?hy520⟩) (by assumption) ?rest520; (case hi520 => (simp only [List.getElem?_toArray, List.getElem?_cons_succ, List.getElem?_cons_zero]; rfl)); (case hq520 => exact fun _ _ _ h => h); (case hw520 => rfl); (case hy520 => (intro w hSw; (try dsimp only at hSw); go_simp; try (with_reducible rfl))); (try simp only [Act.put, List.setIfInBounds_toArray, List.set_cons_zero, List.set_cons_succ])) | (refine wpAnyH_take (i := 3) (oi := ?oi521) (v := undef) ?hi521 (by kernel_rfl) (by kernel_rfl) (by kernel_rfl) ?hq521 (Or.inr ⟨?hw521, rfl⟩) (by assumption) ?rest521; (case hi521 => (simp only [List.getElem?_toArray, List.getElem?_cons_succ, List.getElem?_cons_zero]; rfl)); (case hq521 => exact fun _ _ _ h => h); (case hw521 => rfl); (try simp only [Act.put, List.setIfInBounds_toArray, List.set_cons_zero, List.set_cons_succ]))
        first | (refine wpAnyH_take (i := 4) (oi := ?oi522) (v := ?_) ?hi522 (by kernel_rfl) (by kernel_rfl) (by kernel_rfl) ?hq522 (Or.inl ⟨?hw522, ?hy522⟩) (by assumption) ?rest522; (case hi522 => (simp only [List.getElem?_toArray, List.getElem?_cons_succ, List.getElem?_cons_zero]; rfl)); (case hq522 => exact fun _ _ _ h => h); (case hw522 => rfl); (case hy522 => (intro w hSw; (try dsimp only at hSw); go_simp; try (with_reducible rfl))); (try simp only [Act.put, List.setIfInBounds_toArray, List.set_cons_zero, List.set_cons_succ])) | (refine wpAnyH_take (i := 4) (oi := ?oi523) (v := undef) ?hi523 (by kernel_rfl) (by kernel_rfl) (by kernel_rfl) ?hq523 (Or.inr ⟨?hw523, rfl⟩) (by assumption) ?rest523; (case hi523 => (simp only [List.getElem?_toArray, List.getElem?_cons_succ, List.getElem?_cons_zero]; rfl)); (case hq523 => exact fun _ _ _ h => h); (case hw523 => rfl); (try simp only [Act.put, List.setIfInBounds_toArray, List.set_cons_zero, List.set_cons_succ]))
        first | (refine wpAnyH_take (i := 5) (oi := ?oi524) (v := ?_) ?hi524 (by kernel_rfl) (by kernel_rfl) (by kernel_rfl) ?hq524 (Or.inl ⟨?hw524, ?hy524⟩) (by assumption) ?rest524; (case hi524 => (simp only [List.getElem?_toArray, List.getElem?_cons_succ, List.getElem?_cons_zero]; rfl)); (case hq524 => exact fun _ _ _ h => h); (case hw524 => rfl); (case hy524 => (intro w hSw; (try dsimp only at hSw); go_simp; try (with_reducible rfl))); (try simp only [Act.put, List.setIfInBounds_toArray, List.set_cons_zero, List.set_cons_succ])) | (refine wpAnyH_take (i := 5) (oi := ?oi525) (v := undef) ?hi525 (by kernel_rfl) (by kernel_rfl) (by kernel_rfl) ?hq525 (Or.inr ⟨?hw525, rfl⟩) (by assumption) ?rest525; (case hi525 => (simp only [List.getElem?_toArray, List.getElem?_cons_succ, List.getElem?_cons_zero]; rfl)); (case hq525 => exact fun _ _ _ h => h); (case hw525 => rfl); (try simp only [Act.put, List.setIfInBounds_toArray, List.set_cons_zero, List.set_cons_succ]))
        first | (refine wpAnyH_take (i := 6) (oi := ?oi526) (v := ?_) ?hi526 (by kernel_rfl) (by kernel_rfl) (by kernel_rfl) ?hq526 (Or.inl ⟨?hw526, ?hy526⟩) (by assumption) ?rest526; (case hi526 => (simp only [List.getElem?_toArray, List.getElem?_cons_succ, List.getElem?_cons_zero]; rfl)); (case hq526 => exact fun _ _ _ h => h); (case hw526 => rfl); (case hy526 => (intro w hSw; (try dsimp only at hSw); go_simp; try (with_reducible rfl))); (try simp only [Act.put, List.setIfInBounds_toArray, List.set_cons_zero, List.set_cons_succ])) | (refine wpAnyH_take (i := 6) (oi := ?oi527) (v := undef) ?hi527 (by kernel_rfl) (by kernel_rfl) (by kernel_rfl) ?hq527 (Or.inr ⟨?hw527, rfl⟩) (by assumption) ?rest527; (case hi527 => (simp only [List.getElem?_toArray, List.getElem?_cons_succ, List.getElem?_cons_zero]; rfl)); (case hq527 => exact fun _ _ _ h => h); (case hw527 => rfl); (try simp only [Act.put, List.setIfInBounds_toArray, List.set_cons_zero, List.set_cons_succ]))
        first | (refine wpAnyH_take (i := 7) (oi := ?oi528) (v := ?_) ?hi528 (by kernel_rfl) (by kernel_rfl) (by kernel_rfl) ?hq528 (Or.inl ⟨?hw528, ?hy528⟩) (by assumption) ?rest528; (case hi528 => (simp only [List.getElem?_toArray, List.getElem?_cons_succ, List.getElem?_cons_zero]; rfl)); (case hq528 => exact fun _ _ _ h => h); (case hw528 => rfl); (case hy528 => (intro w hSw; (try dsimp only at hSw); go_simp; try (with_reducible rfl))); (try simp only [Act.put, List.setIfInBounds_toArray, List.set_cons_zero, List.set_cons_succ])) | (refine wpAnyH_take (i := 7) (oi := ?oi529) (v := undef) ?hi529 (by kernel_rfl) (by kernel_rfl) (by kernel_rfl) ?hq529 (Or.inr ⟨?hw529, rfl⟩) (by assumption) ?rest529; (case hi529 => (simp only [List.getElem?_toArray, List.getElem?_cons_succ, List.getElem?_cons_zero]; rfl)); (case hq529 => exact fun _ _ _ h => h); (case hw529 => rfl); (try simp only [Act.put, List.setIfInBounds_toArray, List.set_cons_zero, List.set_cons_succ]))
        first | (refine wpAnyH_take (i := 8) (oi := ?oi530) (v := ?_) ?hi530 (by kernel_rfl) (by kernel_rfl) (by kernel_rfl) ?hq530 (Or.inl ⟨?hw530, ?hy530⟩) (by assumption) ?rest530; (case hi530 => (simp only [List.getElem?_toArray, List.getElem?_cons_succ, List.getElem?_cons_zero]; rfl)); (case hq530 => exact fun _ _ _ h => h); (case hw530 => rfl); (case hy530 => (intro w hSw; (try dsimp only at hSw); go_simp; try (with_reducible rfl))); (try simp only [Act.put, List.setIfInBounds_toArray, List.set_cons_zero, List.set_cons_succ])) | (refine wpAnyH_take (i := 8) (oi := ?oi531) (v := undef) ?hi531 (by kernel_rfl) (by kernel_rfl) (by kernel_rfl) ?hq531 (Or.inr ⟨?hw531, rfl⟩) (by assumption) ?rest531; (case hi531 => (simp only [List.getElem?_toArray, List.getElem?_cons_succ, List.getElem?_cons_zero]; rfl)); (case hq531 => exact fun _ _ _ h => h); (case hw531 => rfl); (try simp only [Act.put, List.setIfInBounds_toArray, List.set_cons_zero, List.set_cons_succ]))
        first | (refine wpAnyH_take (i := 9) (oi := ?oi532) (v := ?_) ?hi532 (by kernel_rfl) (by kernel_rfl) (by kernel_rfl) ?hq532 (Or.inl ⟨?hw532, ?hy532⟩) (by assumption) ?rest532; (case hi532 => (simp only [List.getElem?_toArray, List.getElem?_cons_succ, List.getElem?_cons_zero]; rfl)); (case hq532 => exact fun _ _ _ h => h); (case hw532 => rfl); (case hy532 => (intro w hSw; (try dsimp only at hSw); go_simp; try (with_reducible rfl))); (try simp only [Act.put, List.setIfInBounds_toArray, List.set_cons_zero, List.set_cons_succ])) | (refine wpAnyH_take (i := 9) (oi := ?oi533) (v := undef) ?hi533 (by kernel_rfl) (by kernel_rfl) (by kernel_rfl) ?hq533 (Or.inr ⟨?hw533, rfl⟩) (by assumption) ?rest533; (case hi533 => (simp only [List.getElem?_toArray, List.getElem?_cons_succ, List.getElem?_cons_zero]; rfl)); (case hq533 => exact fun _ _ _ h => h); (case hw533 => rfl); (try simp only [Act.put, List.setIfInBounds_toArray, List.set_cons_zero, List.set_cons_succ]))
        first | (refine wpAnyH_take (i := 10) (oi := ?oi534) (v := ?_) ?hi534 (by kernel_rfl) (by kernel_rfl) (by kernel_rfl) ?hq534 (Or.inl ⟨?hw534, ?hy534⟩) (by assumption) ?rest534; (case hi534 => (simp only [List.getElem?_toArray, List.getElem?_cons_succ, List.getElem?_cons_zero]; rfl)); (case hq534 => exact fun _ _ _ h => h); (case hw534 => rfl); (case hy534 => (intro w hSw; (try dsimp only at hSw); go_simp; try (with_reducible rfl))); (try simp only [Act.put, List.setIfInBounds_toArray, List.set_cons_zero, List.set_cons_succ])) | (refine wpAnyH_take (i := 10) (oi := ?oi535) (v := undef) ?hi535 (by kernel_rfl) (by kernel_rfl) (by kernel_rfl) ?hq535 (Or.inr ⟨?hw535, rfl⟩) (by assumption) ?rest535; (case hi535 => (simp only [List.getElem?_toArray, List.getElem?_cons_succ, List.getElem?_cons_zero]; rfl)); (case hq535 => exact fun _ _ _ h => h); (case hw535 => rfl); (try simp only [Act.put, List.setIfInBounds_toArray, List.set_cons_zero, List.set_cons_succ]))
        first | (refine wpAnyH_take (i := 11) (oi := ?oi536) (v := ?_) ?hi536 (by kernel_rfl) (by kernel_rfl) (by kernel_rfl) ?hq536 (Or.inl ⟨?hw536, ?hy536⟩) (by assumption) ?rest536; (case hi536 => (simp only [List.getElem?_toArray, List.getElem?_cons_succ, List.getElem?_cons_zero]; rfl)); (case hq536 => exact fun _ _ _ h => h); (case hw536 => rfl); (case hy536 => (intro w hSw; (try dsimp only at hSw); go_simp; try (with_reducible rfl))); (try simp only [Act.put, List.setIfInBounds_toArray, List.set_cons_zero, List.set_cons_succ])) | (refine wpAnyH_take (i := 11) (oi := ?oi537) (v := undef) ?hi537 (by kernel_rfl) (by kernel_rfl) (by kernel_rfl) ?hq537 (Or.inr ⟨?hw537, rfl⟩) (by assumption) ?rest537; (case hi537 => (simp only [List.getElem?_toArray, List.getElem?_cons_succ, List.getElem?_cons_zero]; rfl)); (case hq537 => exact fun _ _ _ h => h); (case hw537 => rfl); (try simp only [Act.put, List.setIfInBounds_toArray, List.set_cons_zero, List.set_cons_succ]))
        first | (refine wpAnyH_take (i := 12) (oi := ?oi538) (v := ?_) ?hi538 (by kernel_rfl) (by kernel_rfl) (by kernel_rfl) ?hq538 (Or.inl ⟨?hw538, ?hy538⟩) (by assumption) ?rest538; (case hi538 => (simp only [List.getElem?_toArray, List.getElem?_cons_succ, List.getElem?_cons_zero]; rfl)); (case hq538 => exact fun _ _ _ h => h); (case hw538 => rfl); (case hy538 => (intro w hSw; (try dsimp only at hSw); go_simp; try (with_reducible rfl))); (try simp only [Act.put, List.setIfInBounds_toArray, List.set_cons_zero, List.set_cons_succ])) | (refine wpAnyH_take (i := 12) (oi := ?oi539) (v := undef) ?hi539 (by kernel_rfl) (by kernel_rfl) (by kernel_rfl) ?hq539 (Or.inr ⟨?hw539, rfl⟩) (by assumption) ?rest539; (case hi539 => (simp only [List.getElem?_toArray, List.getElem?_cons_succ, List.getElem?_cons_zero]; rfl)); (case hq539 => exact fun _ _ _ h => h); (case hw539 => rfl); (try simp only [Act.put, List.setIfInBounds_toArray, List.set_cons_zero, List.set_cons_succ]))
        first | (refine wpAnyH_take (i := 13) (oi := ?oi540) (v := ?_) ?hi540 (by kernel_rfl) (by kernel_rfl) (by kernel_rfl) ?hq540 (Or.inl ⟨?hw540, ?hy540⟩) (by assumption) ?rest540; (case hi540 => (simp only [List.getElem?_toArray, List.getElem?_cons_succ, List.getElem?_cons_zero]; rfl)); (case hq540 => exact fun _ _ _ h => h); (case hw540 => rfl); (case hy540 => (intro w hSw; (try dsimp only at hSw); go_simp; try (with_reducible rfl))); (try simp only [Act.put, List.setIfInBounds_toArray, List.set_cons_zero, List.set_cons_succ])) | (refine wpAnyH_take (i := 13) (oi := ?oi541) (v := undef) ?hi541 (by kernel_rfl) (by kernel_rfl) (by kernel_rfl) ?hq541 (Or.inr ⟨?hw541, rfl⟩) (by assumption) ?rest541; (case hi541 => (simp only [List.getElem?_toArray, List.getElem?_cons_succ, List.getElem?_cons_zero]; rfl)); (case hq541 => exact fun _ _ _ h => h); (case hw541 => rfl); (try simp only [Act.put, List.setIfInBounds_toArray, List.set_cons_zero, List.set_cons_succ]))
        first | (refine wpAnyH_take (i := 14) (oi := ?oi542) (v := ?_) ?hi542 (by kernel_rfl) (by kernel_rfl) (by kernel_rfl) ?hq542 (Or.inl ⟨?hw542, ?hy542⟩) (by assumption) ?rest542; (case hi542 => (simp only [List.getElem?_toArray, List.getElem?_cons_succ, List.getElem?_cons_zero]; rfl)); (case hq542 => exact fun _ _ _ h => h); (case hw542 => rfl); (case hy542 => (intro w hSw; (try dsimp only at hSw); go_simp; try (with_reducible rfl))); (try simp only [Act.put, List.setIfInBounds_toArray, List.set_cons_zero, List.set_cons_succ])) | (refine wpAnyH_take (i := 14) (oi := ?oi543) (v := undef) ?hi543 (by kernel_rfl) (by kernel_rfl) (by kernel_rfl) ?hq543 (Or.inr ⟨?hw543, rfl⟩) (by assumption) ?rest543; (case hi543 => (simp only [List.getElem?_toArray, List.getElem?_cons_succ, List.getElem?_cons_zero]; rfl)); (case hq543 => exact fun _ _ _ h => h); (case hw543 => rfl); (try simp only [Act.put, List.setIfInBounds_toArray, List.set_cons_zero, List.set_cons_succ]))
        first | (refine wpAnyH_take (i := 15) (oi := ?oi544) (v := ?_) ?hi544 (by kernel_rfl) (by kernel_rfl) (by kernel_rfl) ?hq544 (Or.inl ⟨?hw544, ?hy544⟩) (by assumption) ?rest544; (case hi544 => (simp only [List.getElem?_toArray, List.getElem?_cons_succ, List.getElem?_cons_zero]; rfl)); (case hq544 => exact fun _ _ _ h => h); (case hw544 => rfl); (case hy544 => (intro w hSw; (try dsimp only at hSw); go_simp; try (with_reducible rfl))); (try simp only [Act.put, List.setIfInBounds_toArray, List.set_cons_zero, List.set_cons_succ])) | (refine wpAnyH_take (i := 15) (oi := ?oi545) (v := undef) ?hi545 (by kernel_rfl) (by kernel_rfl) (by kernel_rfl) ?hq545 (Or.inr ⟨?hw545, rfl⟩) (by assumption) ?rest545; (case hi545 => (simp only [List.getElem?_toArray, List.getElem?_cons_succ, List.getElem?_cons_zero]; rfl)); (case hq545 => exact fun _ _ _ h => h); (case hw545 => rfl); (try simp only [Act.put, List.setIfInBounds_toArray, List.set_cons_zero, List.set_cons_succ]))
        first | (refine wpAnyH_take (i := 16) (oi := ?oi546) (v := ?_) ?hi546 (by kernel_rfl) (by kernel_rfl) (by kernel_rfl) ?hq546 (Or.inl ⟨?hw546, ?hy546⟩) (by assumption) ?rest546; (case hi546 => (simp only [List.getElem?_toArray, List.getElem?_cons_succ, List.getElem?_cons_zero]; rfl)); (case hq546 => exact fun _ _ _ h => h); (case hw546 => rfl); (case hy546 => (intro w hSw; (try dsimp only at hSw); go_simp; try (with_reducible rfl))); (try simp only [Act.put, List.setIfInBounds_toArray, List.set_cons_zero, List.set_cons_succ])) | (refine wpAnyH_take (i := 16) (oi := ?oi547) (v := undef) ?hi547 (by kernel_rfl) (by kernel_rfl) (by kernel_rfl) ?hq547 (Or.inr ⟨?hw547, rfl⟩) (by assumption) ?rest547; (case hi547 => (simp only [List.getElem?_toArray, List.getElem?_cons_succ, List.getElem?_cons_zero]; rfl)); (case hq547 => exact fun _ _ _ h => h); (case hw547 => rfl); (try simp only [Act.put, List.setIfInBounds_toArray, List.set_cons_zero, List.set_cons_succ]))
        first | (refine wpAnyH_take (i := 17) (oi := ?oi548) (v := ?_) ?hi548 (by kernel_rfl) (by kernel_rfl) (by kernel_rfl) ?hq548 (Or.inl ⟨?hw548, ?hy548⟩) (by assumption) ?rest548; (case hi548 => (simp only [List.getElem?_toArray, List.getElem?_cons_succ, List.getElem?_cons_zero]; rfl)); (case hq548 => exact fun _ _ _ h => h); (case hw548 => rfl); (case hy548 => (intro w hSw; (try dsimp only at hSw); go_simp; try (with_reducible rfl))); (try simp only [Act.put, List.setIfInBounds_toArray, List.set_cons_zero, List.set_cons_succ])) | (refine wpAnyH_take (i := 17) (oi := ?oi549) (v := undef) ?hi549 (by kernel_rfl) (by kernel_rfl) (by kernel_rfl) ?hq549 (Or.inr ⟨?hw549, rfl⟩) (by assumption) ?rest549; (case hi549 => (simp only [List.getElem?_toArray, List.getElem?_cons_succ, List.getElem?_cons_zero]; rfl)); (case hq549 => exact fun _ _ _ h => h); (case hw549 => rfl); (try simp only [Act.put, List.setIfInBounds_toArray, List.set_cons_zero, List.set_cons_succ]))
        refine wpAnyH_ready (rs := [1, 18]) (by kernel_rfl) (by simp) ?_
        refine AllReadyH.cons (o := ?zoc1) ?zhc1 (fun K hK => ?zst1) ?zmo1
        case zhc1 => (simp only [List.getElem?_toArray, List.getElem?_cons_succ, List.getElem?_cons_zero]; rfl)
        case zst1 =>
          go_simp
          refine hK.out _ _ ?_ (fun hHeld => ?_)
          · (first | exact KS.out _ | exact KP.out | exact KB.out | exact KA.out | exact ⟨y1, y2, hca, hcb, hcm⟩)
          clear hK K
          try simp only [Act.put, List.setIfInBounds_toArray, List.set_cons_zero, List.set_cons_succ]
          refine wpAnyH_ready (rs := [18]) (by kernel_rfl) (by simp) ?_
          refine AllReadyH.cons (o := ?zoc2) ?zhc2 (fun K hK => ?zst2) ?zmo2
          case zhc2 => (simp only [List.getElem?_toArray, List.getElem?_cons_succ, List.getElem?_cons_zero]; rfl)
          case zst2 =>
            go_simp
            refine (HC.out _).mono ?_
            rintro e w9 ⟨u9, rfl, hu9, hb9⟩
            obtain ⟨Au, cu, rfl, -⟩ := hu9.ints
            replace hu9 := Lib.hid hu9
            replace hb9 : Below w5.heap.size w5 w9 := below_step ((Below.refl _ _).drew) hb9
            have hsz9 := hb9.size
            have HS9 := Lib.hid (HS2.out.step hb9)
            have x1 : w9.cell? ⟨w3.heap.size, 0, none⟩ = some rv := xr.out _ hb9
            have x2 : (w9.alloc (.cells #[.slice Au rr.length cu] 24)).cell? ⟨w3.heap.size, 0, none⟩ = some rv := xr.out _ (hb9.alloc hb9.size _)
            have KA := Lib.hid (And.intro (Q1.out _ hb9) (And.intro (Q2.out _ hb9) (And.intro (Q3.out _ hb9) (And.intro (Q4.out _ hb9) (Q5.out _ hb9)))))
            have hb8 := hb9.alloc hb9.size (.cells #[.slice Au rr.length cu] 24)
            have KB := Lib.hid (And.intro (Q1.out _ hb8) (And.intro (Q2.out _ hb8) (And.intro (Q3.out _ hb8) (And.intro (Q4.out _ hb8) (Q5.out _ hb8)))))
            clear hb8
            have HOW : Hid (w9.ownsRow w0.heap.size 24 1 rv rws.length vs) := Lib.hid HS9.out.own.rows.outer
            have HSZ9 := Lib.hid (Nat.le_trans HB2.out.size hsz9)
            have hsz0 : w0.heap.size ≤ w9.heap.size := HS9.out.below.size
            go_wp2_with fail
            refine hK.out _ _ ?_ (fun hHeld => ?_)
            · (first | exact KS.out _ | exact KP.out | exact KB.out | exact KA.out | exact ⟨y1, y2, hca, hcb, hcm⟩)
            clear hK K
            try simp only [Act.put, List.setIfInBounds_toArray, List.set_cons_zero, List.set_cons_succ]
            refine wpAnyH_ready (rs := [19]) (by kernel_rfl) (by simp) ?_
            refine AllReadyH.cons (o := ?zoc3) ?zhc3 (fun K hK => ?zst3) ?zmo3
            case zhc3 => (simp only [List.getElem?_toArray, List.getElem?_cons_succ, List.getElem?_cons_zero]; rfl)
            case zst3 =>
              go_simp
              refine hK.out _ _ ?_ (fun hHeld => ?_)
              · (first | exact KS.out _ | exact KP.out | exact KB.out | exact KA.out | exact ⟨y1, y2, hca, hcb, hcm⟩)
              clear hK K
              try simp only [Act.put, List.setIfInBounds_toArray, List.set_cons_zero, List.set_cons_succ]
              refine wpAnyH_ready (rs := [20]) (by kernel_rfl) (by simp) ?_
              refine AllReadyH.cons (o := ?zoc4) ?zhc4 (fun K hK => ?zst4) ?zmo4
              case zhc4 => (simp only [List.getElem?_toArray, List.getElem?_cons_succ, List.getElem?_cons_zero]; rfl)
              case zst4 =>
                refine step_app1 (B := w0.heap.size) (by rfl) (by rfl) Tryz.underlying33 info_ints rfl (HOW.out.alloc _) (cell_new w9 _ _) (by rfl) (by rfl) rfl (by unfold maxLen; omega) (by omega) (by simp; omega) ?_
                intro v' w2' ho2 hg hfr
                have hk2 := (HS9.out.blk.alloc (.cells #[.slice Au rr.length cu] 24)).grown hg (fun e => HS9.out.far rv (by simp) e.symm)
                have z1 : w2'.cell? ⟨w3.heap.size, 0, none⟩ = some rv := hk2.cell 0
                have zf := hk2.free 0
                clear hk2
                obtain ⟨Av, cv9, rfl, -⟩ := own_sl ho2
                have KP := Lib.hid (And.intro (hg.cell (a := ⟨wa.heap.size, 1, none⟩) KB.out.1 HN1.out) (And.intro (hg.cell (a := ⟨wa.heap.size, 2, none⟩) KB.out.2.1 HN1.out) (And.intro (hg.cell (a := ⟨gz, ja, none⟩) KB.out.2.2.1 HN2.out) (And.intro (hg.cell (a := ⟨gz, jb, none⟩) KB.out.2.2.2.1 HN2.out) (hg.cell (a := ⟨gz, m, none⟩) KB.out.2.2.2.2 HN2.out)))))
                have KS := Lib.hid (fun (v : Value) => And.intro ((World.cell?_setCell_far w2' ⟨w3.heap.size, 0, none⟩ ⟨wa.heap.size, 1, none⟩ v HN3.out).trans KP.out.1) (And.intro ((World.cell?_setCell_far w2' ⟨w3.heap.size, 0, none⟩ ⟨wa.heap.size, 2, none⟩ v HN3.out).trans KP.out.2.1) (And.intro ((World.cell?_setCell_far w2' ⟨w3.heap.size, 0, none⟩ ⟨gz, ja, none⟩ v HN4.out).trans KP.out.2.2.1) (And.intro ((World.cell?_setCell_far w2' ⟨w3.heap.size, 0, none⟩ ⟨gz, jb, none⟩ v HN4.out).trans KP.out.2.2.2.1) ((World.cell?_setCell_far w2' ⟨w3.heap.size, 0, none⟩ ⟨gz, m, none⟩ v HN4.out).trans KP.out.2.2.2.2)))))
                replace ho2 := Lib.hid ho2
                replace hg := Lib.hid hg
                replace hfr := Lib.hid hfr
                refine hK.out _ _ ?_ (fun hHeld => ?_)
                · (first | exact KS.out _ | exact KP.out | exact KB.out | exact KA.out | exact ⟨y1, y2, hca, hcb, hcm⟩)
                clear hK K
                try simp only [Act.put, List.setIfInBounds_toArray, List.set_cons_zero, List.set_cons_succ]
                first | (refine wpAnyH_take (i := 21) (oi := ?oi550) (v := ?_) ?hi550 (by kernel_rfl) (by kernel_rfl) (by kernel_rfl) ?hq550 (Or.inl ⟨?hw550, ?hy550⟩) (by assumption) ?rest550; (case hi550 => (simp only [List.getElem?_toArray, List.getElem?_cons_succ, List.getElem?_cons_zero]; rfl)); (case hq550 => exact fun _ _ _ h => h); (case hw550 => rfl); (case hy550 => (intro w hSw; (try dsimp only at hSw); go_simp; try (with_reducible rfl))); (try simp only [Act.put, List.setIfInBounds_toArray, List.set_cons_zero, List.set_cons_succ])) | (refine wpAnyH_take (i := 21) (oi := ?oi551) (v := undef) ?hi551 (by kernel_rfl) (by kernel_rfl) (by kernel_rfl) ?hq551 (Or.inr ⟨?hw551, rfl⟩) (by assumption) ?rest551; (case hi551 => (simp only [List.getElem?_toArray, List.getElem?_cons_succ, List.getElem?_cons_zero]; rfl)); (case hq551 => exact fun _ _ _ h => h); (case hw551 => rfl); (try simp only [Act.put, List.setIfInBounds_toArray, List.set_cons_zero, List.set_cons_succ]))
                refine wpAnyH_ready (rs := [22]) (by kernel_rfl) (by simp) ?_
                refine AllReadyH.cons (o := ?zoc5) ?zhc5 (fun K hK => ?zst5) ?zmo5
                case zhc5 => (simp only [List.getElem?_toArray, List.getElem?_cons_succ, List.getElem?_cons_zero]; rfl)
                case zst5 =>
                  go_simp
                  refine hK.out _ _ ?_ (fun hHeld => ?_)
                  · (first | exact KS.out _ | exact KP.out | exact KB.out | exact KA.out | exact ⟨y1, y2, hca, hcb, hcm⟩)
                  clear hK K
                  try simp only [Act.put, List.setIfInBounds_toArray, List.set_cons_zero, List.set_cons_succ]
                  refine wpAnyH_done (by kernel_rfl) ?_ _
                  have HSG := Lib.hid (HS2.out.row (w1 := w9.alloc (.cells #[.slice Au rr.length cu] 24)) (w2 := w2') (u := .slice Au rr.length cu) (r := rr) (hb9.alloc hb9.size _) (hu9.out.alloc _) ho2.out hg.out hfr.out)
                  have hrv2 := Lib.hid (fun g e => (hfr.out g e).elim (fun h1 => HRV.out g h1) (fun h1 => Nat.le_trans HSZ9.out (by simp at h1; omega)))
                  have hbg := Lib.hid ((below_step HB2.out (hb9.alloc hb9.size (.cells #[.slice Au rr.length cu] 24))).grown hg.out (Nat.le_trans HB2.out.size (by have := hb9.size; simp; omega)) (fun k e => HRV.out k e))
                  go_wp2
                  go_roundw
                  case rel => exact ⟨j + 1, ov, _, _, by omega, by go_num, by rw [HSN.out, HW.out]; exact HSG, Lib.hid (hbg.out.setCell (p := ⟨w3.heap.size, 0, none⟩) hlo1 _), HOV, hrv2⟩
                  case measure => simp [intOf]; omega
                case zmo5 =>
                  exact AllReadyH.nil
              case zmo4 =>
                exact AllReadyH.nil
            case zmo3 =>
              exact AllReadyH.nil
          case zmo2 =>
            exact AllReadyH.nil
        case zmo1 =>
          refine AllReadyH.cons (o := ?zoc6) ?zhc6 (fun K hK => ?zst6) ?zmo6
          case zhc6 => (simp only [List.getElem?_toArray, List.getElem?_cons_succ, List.getElem?_cons_zero]; rfl)
          case zst6 =>
            go_simp
            refine (HC.out _).mono ?_
            rintro e w9 ⟨u9, rfl, hu9, hb9⟩
            obtain ⟨Au, cu, rfl, -⟩ := hu9.ints
            replace hu9 := Lib.hid hu9
            replace hb9 : Below w5.heap.size w5 w9 := below_step ((Below.refl _ _).drew) hb9
            have hsz9 := hb9.size
            have HS9 := Lib.hid (HS2.out.step hb9)
            have x1 : w9.cell? ⟨w3.heap.size, 0, none⟩ = some rv := xr.out _ hb9
            have x2 : (w9.alloc (.cells #[.slice Au rr.length cu] 24)).cell? ⟨w3.heap.size, 0, none⟩ = some rv := xr.out _ (hb9.alloc hb9.size _)
            have KA := Lib.hid (And.intro (Q1.out _ hb9) (And.intro (Q2.out _ hb9) (And.intro (Q3.out _ hb9) (And.intro (Q4.out _ hb9) (Q5.out _ hb9)))))
            have hb8 := hb9.alloc hb9.size (.cells #[.slice Au rr.length cu] 24)
            have KB := Lib.hid (And.intro (Q1.out _ hb8) (And.intro (Q2.out _ hb8) (And.intro (Q3.out _ hb8) (And.intro (Q4.out _ hb8) (Q5.out _ hb8)))))
            clear hb8
            have HOW : Hid (w9.ownsRow w0.heap.size 24 1 rv rws.length vs) := Lib.hid HS9.out.own.rows.outer
            have HSZ9 := Lib.hid (Nat.le_trans HB2.out.size hsz9)
            have hsz0 : w0.heap.size ≤ w9.heap.size := HS9.out.below.size
            go_wp2_with fail
            refine hK.out _ _ ?_ (fun hHeld => ?_)
            · (first | exact KS.out _ | exact KP.out | exact KB.out | exact KA.out | exact ⟨y1, y2, hca, hcb, hcm⟩)
            clear hK K
            try simp only [Act.put, List.setIfInBounds_toArray, List.set_cons_zero, List.set_cons_succ]
            refine wpAnyH_ready (rs := [1, 19]) (by kernel_rfl) (by simp) ?_
            refine AllReadyH.cons (o := ?zoc7) ?zhc7 (fun K hK => ?zst7) ?zmo7
            case zhc7 => (simp only [List.getElem?_toArray, List.getElem?_cons_succ, List.getElem?_cons_zero]; rfl)
            case zst7 =>
              go_simp
              refine hK.out _ _ ?_ (fun hHeld => ?_)
              · (first | exact KS.out _ | exact KP.out | exact KB.out | exact KA.out | exact ⟨y1, y2, hca, hcb, hcm⟩)
              clear hK K
              try simp only [Act.put, List.setIfInBounds_toArray, List.set_cons_zero, List.set_cons_succ]
              refine wpAnyH_ready (rs := [19]) (by kernel_rfl) (by simp) ?_
              refine AllReadyH.cons (o := ?zoc8) ?zhc8 (fun K hK => ?zst8) ?zmo8
              case zhc8 => (simp only [List.getElem?_toArray, List.getElem?_cons_succ, List.getElem?_cons_zero]; rfl)
              case zst8 =>
                go_simp
                refine hK.out _ _ ?_ (fun hHeld => ?_)
                · (first | exact KS.out _ | exact KP.out | exact KB.out | exact KA.out | exact ⟨y1, y2, hca, hcb, hcm⟩)
                clear hK K
                try simp only [Act.put, List.setIfInBounds_toArray, List.set_cons_zero, List.set_cons_succ]
                refine wpAnyH_ready (rs := [20]) (by kernel_rfl) (by simp) ?_
                refine AllReadyH.cons (o := ?zoc9) ?zhc9 (fun K hK => ?zst9) ?zmo9
                case zhc9 => (simp only [List.getElem?_toArray, List.getElem?_cons_succ, List.getElem?_cons_zero]; rfl)
                case zst9 =>
                  refine step_app1 (B := w0.heap.size) (by rfl) (by rfl) Tryz.underlying33 info_ints rfl (HOW.out.alloc _) (cell_new w9 _ _) (by rfl) (by rfl) rfl (by unfold maxLen; omega) (by omega) (by simp; omega) ?_
                  intro v' w2' ho2 hg hfr
                  have hk2 := (HS9.out.blk.alloc (.cells #[.slice Au rr.length cu] 24)).grown hg (fun e => HS9.out.far rv (by simp) e.symm)
                  have z1 : w2'.cell? ⟨w3.heap.size, 0, none⟩ = some rv := hk2.cell 0
                  have zf := hk2.free 0
                  clear hk2
                  obtain ⟨Av, cv9, rfl, -⟩ := own_sl ho2
                  have KP := Lib.hid (And.intro (hg.cell (a := ⟨wa.heap.size, 1, none⟩) KB.out.1 HN1.out) (And.intro (hg.cell (a := ⟨wa.heap.size, 2, none⟩) KB.out.2.1 HN1.out) (And.intro (hg.cell (a := ⟨gz, ja, none⟩) KB.out.2.2.1 HN2.out) (And.intro (hg.cell (a := ⟨gz, jb, none⟩) KB.out.2.2.2.1 HN2.out) (hg.cell (a := ⟨gz, m, none⟩) KB.out.2.2.2.2 HN2.out)))))
                  have KS := Lib.hid (fun (v : Value) => And.intro ((World.cell?_setCell_far w2' ⟨w3.heap.size, 0, none⟩ ⟨wa.heap.size, 1, none⟩ v HN3.out).trans KP.out.1) (And.intro ((World.cell?_setCell_far w2' ⟨w3.heap.size, 0, none⟩ ⟨wa.heap.size, 2, none⟩ v HN3.out).trans KP.out.2.1) (And.intro ((World.cell?_setCell_far w2' ⟨w3.heap.size, 0, none⟩ ⟨gz, ja, none⟩ v HN4.out).trans KP.out.2.2.1) (And.intro ((World.cell?_setCell_far w2' ⟨w3.heap.size, 0, none⟩ ⟨gz, jb, none⟩ v HN4.out).trans KP.out.2.2.2.1) ((World.cell?_setCell_far w2' ⟨w3.heap.size, 0, none⟩ ⟨gz, m, none⟩ v HN4.out).trans KP.out.2.2.2.2)))))
                  replace ho2 := Lib.hid ho2
                  replace hg := Lib.hid hg
                  replace hfr := Lib.hid hfr
                  refine hK.out _ _ ?_ (fun hHeld => ?_)
                  · (first | exact KS.out _ | exact KP.out | exact KB.out | exact KA.out | exact ⟨y1, y2, hca, hcb, hcm⟩)
                  clear hK K
                  try simp only [Act.put, List.setIfInBounds_toArray, List.set_cons_zero, List.set_cons_succ]
                  first | (refine wpAnyH_take (i := 21) (oi := ?oi552) (v := ?_) ?hi552 (by kernel_rfl) (by kernel_rfl) (by kernel_rfl) ?hq552 (Or.inl ⟨?hw552, ?hy552⟩) (by assumption) ?rest552; (case hi552 => (simp only [List.getElem?_toArray, List.getElem?_cons_succ, List.getElem?_cons_zero]; rfl)); (case hq552 => exact fun _ _ _ h => h); (case hw552 => rfl); (case hy552 => (intro w hSw; (try dsimp only at hSw); go_simp; try (with_reducible rfl))); (try simp only [Act.put, List.setIfInBounds_toArray, List.set_cons_zero, List.set_cons_succ])) | (refine wpAnyH_take (i := 21) (oi := ?oi553) (v := undef) ?hi553 (by kernel_rfl) (by kernel_rfl) (by kernel_rfl) ?hq553 (Or.inr ⟨?hw553, rfl⟩) (by assumption) ?rest553; (case hi553 => (simp only [List.getElem?_toArray, List.getElem?_cons_succ, List.getElem?_cons_zero]; rfl)); (case hq553 => exact fun _ _ _ h => h); (case hw553 => rfl); (try simp only [Act.put, List.setIfInBounds_toArray, List.set_cons_zero, List.set_cons_succ]))
                  refine wpAnyH_ready (rs := [22]) (by kernel_rfl) (by simp) ?_
                  refine AllReadyH.cons (o := ?zoc10) ?zhc10 (fun K hK => ?zst10) ?zmo10
                  case zhc10 => (simp only [List.getElem?_toArray, List.getElem?_cons_succ, List.getElem?_cons_zero]; rfl)
                  case zst10 =>
                    go_simp
                    refine hK.out _ _ ?_ (fun hHeld => ?_)
                    · (first | exact KS.out _ | exact KP.out | exact KB.out | exact KA.out | exact ⟨y1, y2, hca, hcb, hcm⟩)
                    clear hK K
                    try simp only [Act.put, List.setIfInBounds_toArray, List.set_cons_zero, List.set_cons_succ]
                    refine wpAnyH_done (by kernel_rfl) ?_ _
                    have HSG := Lib.hid (HS2.out.row (w1 := w9.alloc (.cells #[.slice Au rr.length cu] 24)) (w2 := w2') (u := .slice Au rr.length cu) (r := rr) (hb9.alloc hb9.size _) (hu9.out.alloc _) ho2.out hg.out hfr.out)
                    have hrv2 := Lib.hid (fun g e => (hfr.out g e).elim (fun h1 => HRV.out g h1) (fun h1 => Nat.le_trans HSZ9.out (by simp at h1; omega)))
                    have hbg := Lib.hid ((below_step HB2.out (hb9.alloc hb9.size (.cells #[.slice Au rr.length cu] 24))).grown hg.out (Nat.le_trans HB2.out.size (by have := hb9.size; simp; omega)) (fun k e => HRV.out k e))
                    go_wp2
                    go_roundw
                    case rel => exact ⟨j + 1, ov, _, _, by omega, by go_num, by rw [HSN.out, HW.out]; exact HSG, Lib.hid (hbg.out.setCell (p := ⟨w3.heap.size, 0, none⟩) hlo1 _), HOV, hrv2⟩
                    case measure => simp [intOf]; omega
                  case zmo10 =>
                    exact AllReadyH.nil
                case zmo9 =>
                  exact AllReadyH.nil
              case zmo8 =>
                exact AllReadyH.nil
            case zmo7 =>
              refine AllReadyH.cons (o := ?zoc11) ?zhc11 (fun K hK => ?zst11) ?zmo11
              case zhc11 => (simp only [List.getElem?_toArray, List.getElem?_cons_succ, List.getElem?_cons_zero]; rfl)
              case zst11 =>
                go_simp
                refine hK.out _ _ ?_ (fun hHeld => ?_)
                · (first | exact KS.out _ | exact KP.out | exact KB.out | exact KA.out | exact ⟨y1, y2, hca, hcb, hcm⟩)
                clear hK K
                try simp only [Act.put, List.setIfInBounds_toArray, List.set_cons_zero, List.set_cons_succ]
                refine wpAnyH_ready (rs := [1]) (by kernel_rfl) (by simp) ?_
                refine AllReadyH.cons (o := ?zoc12) ?zhc12 (fun K hK => ?zst12) ?zmo12
                case zhc12 => (simp only [List.getElem?_toArray, List.getElem?_cons_succ, List.getElem?_cons_zero]; rfl)
                case zst12 =>
                  go_simp
                  refine hK.out _ _ ?_ (fun hHeld => ?_)
                  · (first | exact KS.out _ | exact KP.out | exact KB.out | exact KA.out | exact ⟨y1, y2, hca, hcb, hcm⟩)
                  clear hK K
                  try simp only [Act.put, List.setIfInBounds_toArray, List.set_cons_zero, List.set_cons_succ]
                  refine wpAnyH_ready (rs := [20]) (by kernel_rfl) (by simp) ?_
                  refine AllReadyH.cons (o := ?zoc13) ?zhc13 (fun K hK => ?zst13) ?zmo13
                  case zhc13 => (simp only [List.getElem?_toArray, List.getElem?_cons_succ, List.getElem?_cons_zero]; rfl)
                  case zst13 =>
                    refine step_app1 (B := w0.heap.size) (by rfl) (by rfl) Tryz.underlying33 info_ints rfl (HOW.out.alloc _) (cell_new w9 _ _) (by rfl) (by rfl) rfl (by unfold maxLen; omega) (by omega) (by simp; omega) ?_
                    intro v' w2' ho2 hg hfr
                    have hk2 := (HS9.out.blk.alloc (.cells #[.slice Au rr.length cu] 24)).grown hg (fun e => HS9.out.far rv (by simp) e.symm)
                    have z1 : w2'.cell? ⟨w3.heap.size, 0, none⟩ = some rv := hk2.cell 0
                    have zf := hk2.free 0
                    clear hk2
                    obtain ⟨Av, cv9, rfl, -⟩ := own_sl ho2
                    have KP := Lib.hid (And.intro (hg.cell (a := ⟨wa.heap.size, 1, none⟩) KB.out.1 HN1.out) (And.intro (hg.cell (a := ⟨wa.heap.size, 2, none⟩) KB.out.2.1 HN1.out) (And.intro (hg.cell (a := ⟨gz, ja, none⟩) KB.out.2.2.1 HN2.out) (And.intro (hg.cell (a := ⟨gz, jb, none⟩) KB.out.2.2.2.1 HN2.out) (hg.cell (a := ⟨gz, m, none⟩) KB.out.2.2.2.2 HN2.out)))))
                    have KS := Lib.hid (fun (v : Value) => And.intro ((World.cell?_setCell_far w2' ⟨w3.heap.size, 0, none⟩ ⟨wa.heap.size, 1, none⟩ v HN3.out).trans KP.out.1) (And.intro ((World.cell?_setCell_far w2' ⟨w3.heap.size, 0, none⟩ ⟨wa.heap.size, 2, none⟩ v HN3.out).trans KP.out.2.1) (And.intro ((World.cell?_setCell_far w2' ⟨w3.heap.size, 0, none⟩ ⟨gz, ja, none⟩ v HN4.out).trans KP.out.2.2.1) (And.intro ((World.cell?_setCell_far w2' ⟨w3.heap.size, 0, none⟩ ⟨gz, jb, none⟩ v HN4.out).trans KP.out.2.2.2.1) ((World.cell?_setCell_far w2' ⟨w3.heap.size, 0, none⟩ ⟨gz, m, none⟩ v HN4.out).trans KP.out.2.2.2.2)))))
                    replace ho2 := Lib.hid ho2
                    replace hg := Lib.hid hg
                    replace hfr := Lib.hid hfr
                    refine hK.out _ _ ?_ (fun hHeld => ?_)
                    · (first | exact KS.out _ | exact KP.out | exact KB.out | exact KA.out | exact ⟨y1, y2, hca, hcb, hcm⟩)
                    clear hK K
                    try simp only [Act.put, List.setIfInBounds_toArray, List.set_cons_zero, List.set_cons_succ]
                    first | (refine wpAnyH_take (i := 21) (oi := ?oi554) (v := ?_) ?hi554 (by kernel_rfl) (by kernel_rfl) (by kernel_rfl) ?hq554 (Or.inl ⟨?hw554, ?hy554⟩) (by assumption) ?rest554; (case hi554 => (simp only [List.getElem?_toArray, List.getElem?_cons_succ, List.getElem?_cons_zero]; rfl)); (case hq554 => exact fun _ _ _ h => h); (case hw554 => rfl); (case hy554 => (intro w hSw; (try dsimp only at hSw); go_simp; try (with_reducible rfl))); (try simp only [Act.put, List.setIfInBounds_toArray, List.set_cons_zero, List.set_cons_succ])) | (refine wpAnyH_take (i := 21) (oi := ?oi555) (v := undef) ?hi555 (by kernel_rfl) (by kernel_rfl) (by kernel_rfl) ?hq555 (Or.inr ⟨?hw555, rfl⟩) (by assumption) ?rest555; (case hi555 => (simp only [List.getElem?_toArray, List.getElem?_cons_succ, List.getElem?_cons_zero]; rfl)); (case hq555 => exact fun _ _ _ h => h); (case hw555 => rfl); (try simp only [Act.put, List.setIfInBounds_toArray, List.set_cons_zero, List.set_cons_succ]))
                    refine wpAnyH_ready (rs := [22]) (by kernel_rfl) (by simp) ?_
                    refine AllReadyH.cons (o := ?zoc14) ?zhc14 (fun K hK => ?zst14) ?zmo14
                    case zhc14 => (simp only [List.getElem?_toArray, List.getElem?_cons_succ, List.getElem?_cons_zero]; rfl)
                    case zst14 =>
                      go_simp
                      refine hK.out _ _ ?_ (fun hHeld => ?_)
                      · (first | exact KS.out _ | exact KP.out | exact KB.out | exact KA.out | exact ⟨y1, y2, hca, hcb, hcm⟩)
                      clear hK K
                      try simp only [Act.put, List.setIfInBounds_toArray, List.set_cons_zero, List.set_cons_succ]
                      refine wpAnyH_done (by kernel_rfl) ?_ _
                      have HSG := Lib.hid (HS2.out.row (w1 := w9.alloc (.cells #[.slice Au rr.length cu] 24)) (w2 := w2') (u := .slice Au rr.length cu) (r := rr) (hb9.alloc hb9.size _) (hu9.out.alloc _) ho2.out hg.out hfr.out)
                      have hrv2 := Lib.hid (fun g e => (hfr.out g e).elim (fun h1 => HRV.out g h1) (fun h1 => Nat.le_trans HSZ9.out (by simp at h1; omega)))
                      have hbg := Lib.hid ((below_step HB2.out (hb9.alloc hb9.size (.cells #[.slice Au rr.length cu] 24))).grown hg.out (Nat.le_trans HB2.out.size (by have := hb9.size; simp; omega)) (fun k e => HRV.out k e))
                      go_wp2
                      go_roundw
                      case rel => exact ⟨j + 1, ov, _, _, by omega, by go_num, by rw [HSN.out, HW.out]; exact HSG, Lib.hid (hbg.out.setCell (p := ⟨w3.heap.size, 0, none⟩) hlo1 _), HOV, hrv2⟩
                      case measure => simp [intOf]; omega
                    case zmo14 =>
                      exact AllReadyH.nil
                  case zmo13 =>
                    exact AllReadyH.nil
                case zmo12 =>
                  exact AllReadyH.nil
              case zmo11 =>
                exact AllReadyH.nil
          case zmo6 =>
            exact AllReadyH.nil
      · -- one
        have HW := Lib.hid (show zStep (gbZ off) (gbR off) key off ⟨l, rws, ons⟩ ⟨3, ga, gb⟩ = ⟨l ++ [digM [key, (m : Int), 13, 0]], rws, ons ++ [xorI (digM [key, (m : Int), 13, 0]) off]⟩ by unfold zStep; simp only [Int.reduceEq, if_false, if_true]; rw [HLS.out])
        have hel := HMADE.out (digM [key, (m : Int), 13, 0]) (by rw [HSN.out, HW.out])
        rw [hel] at hcm
        have hd := digM_bd [key, (m : Int), 13, 0]
        generalize digM [key, (m : Int), 13, 0] = z at *
        have hxor := bits_xor hd.1 ho.1 (by omega) (by omega)
        have xo0 := xo.out _ (Below.refl _ _)
        have xo1 := xo.out _ ((Below.refl _ _).alloc (Nat.le_refl _) (.cells #[.int .i64 (xorI z off)] 3))
        have HOW : Hid (OwnI w5.drew w0.heap.size ov ons) := Lib.hid (own_drew HS2.out.own.ones)
        have hszd : w0.heap.size ≤ w5.drew.heap.size := hsz05
        have hb9 := (Below.refl w5.heap.size w5).drew
        clear hel hgb
        go_wp2_with fail
        go_region_law (first
          | (refine step_app1 (B := w0.heap.size) (by rfl) (by rfl) Tryz.underlying24 info_int rfl (HOW.out.alloc _) (cell_new w5.drew _ _) (by rfl) (by rfl) rfl (by unfold maxLen; omega) (by omega) (by simp; omega) ?_; intro v' w2' ho2 hg hfr; have HON := Lib.hid (OwnI.snoc ho2); have hov2 := Lib.hid (fun g e => (hfr g e).elim (fun h1 => HOV.out g h1) (fun h1 => Nat.le_trans HB2.out.size (by simp at h1; omega))); have HSG := Lib.hid (HS2.out.one (hb9.alloc hb9.size (.cells #[.int .i64 (xorI z off)] 3)) HON.out hg hfr); have hbg := Lib.hid ((below_step HB2.out (hb9.alloc hb9.size (.cells #[.int .i64 (xorI z off)] 3))).grown hg (Nat.le_trans HB2.out.size (by have := hb9.size; simp)) (fun k e => HOV.out k e)); have hk2 := ((HS2.out.step hb9).blk.alloc (.cells #[.int .i64 (xorI z off)] 3)).grown hg (fun e => HS2.out.far ov (by simp) e.symm); have z1 : w2'.cell? ⟨w3.heap.size, 1, none⟩ = some ov := hk2.cell 1; have zf := hk2.free 1; clear hk2; obtain ⟨Av, cv9, ev, -⟩ := HON.out.ints; simp only [List.length_append, List.length_cons, List.length_nil, Nat.zero_add] at ev; subst ev))
        all_goals
          go_wp2
          go_roundw
          case rel => exact ⟨j + 1, _, rv, vs, by omega, by go_num, by rw [HSN.out, HW.out]; exact HSG, Lib.hid (hbg.out.setCell (p := ⟨w3.heap.size, 1, none⟩) hlo1 _), hov2, HRV⟩
          case measure => simp [intOf]; omega
      · have HW := Lib.hid (show (zStep (gbZ off) (gbR off) key off ⟨l, rws, ons⟩ ⟨gk, ga, gb⟩).ones = ons ∧ (zStep (gbZ off) (gbR off) key off ⟨l, rws, ons⟩ ⟨gk, ga, gb⟩).rows = rws by
          unfold zStep
          by_cases e0 : gk = 0
          · simp [e0]
          · have e2 : gk = 2 := by omega
            simp [e2])
        clear hmz' HMADE hcm hgb HELT
        go_wp2
        go_roundw
        case rel => exact ⟨j + 1, ov, rv, vs, by omega, by go_num, by rw [HSN.out, HW.out.1, HW.out.2]; exact HS2, HB2, HOV, HRV⟩
        case measure => simp [intOf]; omega
    · obtain rfl : j = c.gs.length := by omega
      have HO2 : Hid (Sta 50 wa w0 w3.heap.size rv ov (.slice A3 cols.length c3) vs ⟨rows, ones, cols⟩) := by have h := HS.out; rw [List.take_of_length_le (Nat.le_refl _), HSE.out] at h; exact h
      clear HS
      obtain ⟨Ar, cr, rfl, -⟩ := HO2.out.own.rows.rowsIn.form
      obtain ⟨Ao, co', rfl, -⟩ := HO2.out.own.ones.ints
      have z0 : wa.cell? ⟨w3.heap.size, 0, none⟩ = some _ := HO2.out.blk.cell 0
      have z1 : wa.cell? ⟨w3.heap.size, 1, none⟩ = some _ := HO2.out.blk.cell 1
      have z2 : wa.cell? ⟨w3.heap.size, 2, none⟩ = some _ := HO2.out.blk.cell 2
      have hR := HR.out.below HO2.out.below HR.out.lt
      have y0 : wa.cell? ⟨w.heap.size + 1, 0, none⟩ = some (.slice none 0 0) := hR.cell 0
      have y1 : wa.cell? ⟨w.heap.size + 1, 1, none⟩ = some (.slice none 0 0) := hR.cell 1
      have y2 : wa.cell? ⟨w.heap.size + 1, 2, none⟩ = some (.slice none 0 0) := hR.cell 2
      have yf0 := hR.free 0
      have yf1 := hR.free 1
      have yf2 := hR.free 2
      have hlow := HR.out.lt
      have hRl := hR.lt
      have hBf := HBW
      clear hR
      go_wp2
      refine bodyPost_ret (v := gbV (.slice Ar rows.length cr) (.slice Ao ones.length co') (.slice A3 cols.length c3)) (by simp [results, Tryz.results92, go_sem, gbV, y0, y1, y2]) rfl ⟨_, _, _, vs, rfl, ?_, ?_⟩
      · rw [HT.out]
        exact (((HO2.out.own.setLow hlow 0 _).setLow hlow 1 _).setLow hlow 2 _).mono (by omega)
      · exact ((hBf.out.setCell (p := ⟨w.heap.size + 1, 0, none⟩) (by simp) _).setCell (p := ⟨w.heap.size + 1, 1, none⟩) (by simp) _).setCell (p := ⟨w.heap.size + 1, 2, none⟩) (by simp) _
end Go.Proofs.YtejeppjmlgfiaaaGreat
