/- Contract of the reference's tables of a garbled circuit. Conditions: the circuit, the key and the offset are valid. -/
import Derived.Test.YtllaojfgenopbaaZes
import Derived.Test.YtllaojfgenopbaaTed
namespace Go.Proofs.Ytllaojfgenopbaa
open Go.RowKit
set_option linter.unusedVariables false

set_option maxRecDepth 100000 in
set_option maxHeartbeats 4000000 in
theorem c_spec_gbMake {c : Cir} {gv ov : Value} {key off : Int} {w : World} (h : CirIn w gv ov c) (hc : cirB c = true) (hk : 0 ≤ key ∧ key ≤ 1000000000) (ho : 0 ≤ off ∧ off ≤ 65535) :
    Calls Try.prog 62 #[cirV c gv ov, .int .i64 key, .int .i64 off] w (RetGb w (tabM (gbZ off) (gbR off) key off c)) := by
  have hbd := cirB_bd hc
  have hgl : c.gs.length ≤ 300 := hbd.2.2.2.2.1
  have hol : c.outs.length ≤ 40 := hbd.2.2.2.2.2
  have hins : 0 ≤ c.ins ∧ c.ins ≤ 40 := by unfold Cir.ins; omega
  have hi4 : 0 ≤ c.i0 ∧ c.i0 ≤ 20 ∧ 0 ≤ c.i1 ∧ c.i1 ≤ 20 := by omega
  have HOB := Lib.hid (zr_outs (F := gbZ off) (R := gbR off) (key := key) (off := off) hc hins.1)
  have hzl := zr_len (F := gbZ off) (R := gbR off) (key := key) (off := off) hc
  have HKB := Lib.hid (cirB_kinds hc)
  have HGB := Lib.hid (cirB_gates hc)
  have HC := Lib.hid hc
  have HBD := Lib.hid (zr_bd (m := 3) (F := gbZ off) (R := gbR off) ho (fun w x y _ _ => gbZ_bd ho w x y) (fun w x y _ _ => gbR_bd ho w x y) key c.ins.toNat)
  have H := Lib.hid h
  obtain ⟨hg, hoo⟩ := h
  obtain ⟨A, cg, rfl, hlg, hmg, hrg⟩ := hg
  obtain ⟨A', co, rfl, -⟩ := hoo
  have HRG := Lib.hid hrg
  unfold maxLen at hmg
  clear hc hbd hrg
  obtain ⟨N, hN⟩ : ∃ N : Nat, c.ins = (N : Int) := ⟨c.ins.toNat, by omega⟩
  have hN2 : c.ins.toNat = N := by omega
  have HT := Lib.hid (show tabM (gbZ off) (gbR off) key off c = ⟨(zrM (gbZ off) (gbR off) key off N c.gs).rows, (zrM (gbZ off) (gbR off) key off N c.gs).ones, coloursM (pickM (zrM (gbZ off) (gbR off) key off N c.gs).zs c.outs)⟩ by unfold tabM; rw [hN2])
  rw [hN2] at HBD HOB hzl
  have HN := Lib.hid hN
  have HN2 := Lib.hid hN2
  obtain ⟨S, hS⟩ : ∃ S, zrM (gbZ off) (gbR off) key off N c.gs = S := ⟨_, rfl⟩
  have HSB := HBD.out c.gs
  rw [hS] at HOB hzl HT HSB
  have HSE := Lib.hid hS
  obtain ⟨zs, rows, ones⟩ := S
  simp only at HOB hzl HT HSB
  have HZB := Lib.hid HSB.1
  have HZL := Lib.hid hzl
  clear hN hN2 hS HSB hzl
  unfold cirV
  obtain ⟨w0, hw0⟩ : ∃ W, ((w.alloc (.cells #[.int .i64 c.i0, .int .i64 c.i1, .slice A c.gs.length cg, .slice A' c.outs.length co] 31)).alloc (.cells #[.slice none 0 0, .slice none 0 0, .slice none 0 0] 49)) = W := ⟨_, rfl⟩
  have HKC : Hid (Blk w0 w.heap.size 31 #[.int .i64 c.i0, .int .i64 c.i1, .slice A c.gs.length cg, .slice A' c.outs.length co]) := by rw [← hw0]; exact (Blk.new _ _ _).alloc _
  have HR : Hid (Blk w0 (w.heap.size + 1) 49 #[.slice none 0 0, .slice none 0 0, .slice none 0 0]) := by rw [← hw0]; have := Blk.new (w.alloc (.cells #[.int .i64 c.i0, .int .i64 c.i1, .slice A c.gs.length cg, .slice A' c.outs.length co] 31)) 49 #[.slice none 0 0, .slice none 0 0, .slice none 0 0]; simp only [World.size_alloc] at this; exact this
  have HB : Hid (Below w.heap.size w w0) := by rw [← hw0]; exact ((Below.refl _ _).alloc (Nat.le_refl _) _).alloc (by simp) _
  have hz0 : w.heap.size + 2 ≤ w0.heap.size := by rw [← hw0]; simp
  have x0 : w0.cell? ⟨w.heap.size, 0, none⟩ = some (.int .i64 c.i0) := HKC.out.cell 0
  have x1 : w0.cell? ⟨w.heap.size, 1, none⟩ = some (.int .i64 c.i1) := HKC.out.cell 1
  have x2 : w0.cell? ⟨w.heap.size, 2, none⟩ = some (.slice A c.gs.length cg) := HKC.out.cell 2
  have x3 : w0.cell? ⟨w.heap.size, 3, none⟩ = some (.slice A' c.outs.length co) := HKC.out.cell 3
  go_enter Try.func62, Try.ntmps62
  go_wp2_with fail
  clear hw0 x0 x1 x2 x3
  refine (c_spec_gbZeros (H.out.below HB.out) HC.out hk ho).mono ?_
  rintro e w1 ⟨u, rfl, hzp, hb1⟩
  rw [HN2.out, HSE.out] at hzp
  simp only at hzp
  have HB01 := Lib.hid hb1
  replace HB := Lib.hid (below_step HB.out hb1)
  replace HKC := Lib.hid (HKC.out.step hb1)
  have HZ := Lib.hid hzp
  have hz1 : w.heap.size + 2 ≤ w1.heap.size := Nat.le_trans hz0 hb1.size
  obtain ⟨Az, cz, rfl, hlz, hmz, -⟩ := own_form HZ.out
  unfold maxLen at hmz
  have x3 : w1.cell? ⟨w.heap.size, 3, none⟩ = some (.slice A' c.outs.length co) := HKC.out.cell 3
  have hzl2 : zs.length ≤ 340 := by have := HN.out; have := HZL.out; omega
  clear hb1 hzp
  go_wp2_with fail
  refine (c_spec_ciPick HZ.out.ints (H.out.below HB.out).outs (by omega) (by omega) HOB.out).mono ?_
  rintro e w2 ⟨u2, rfl, hu2, hb2⟩
  have HB12 := Lib.hid hb2
  have HU2 := Lib.hid hu2
  obtain ⟨A2, c2, rfl, -⟩ := hu2.ints
  clear hu2 hb2 x3
  go_wp2_with fail
  refine (c_spec_lbColours HU2.out.ints (by rw [pickM_length]; omega) (fun x hx => by
    simp only [pickM, List.mem_map] at hx
    obtain ⟨k, -, rfl⟩ := hx
    have := elt_bd (k := k) HZB.out
    unfold elt at this; omega)).mono ?_
  rintro e w3 ⟨u3, rfl, hu3, hb3⟩
  obtain ⟨cols, hcols⟩ : ∃ cols, coloursM (pickM zs c.outs) = cols := ⟨_, rfl⟩
  rw [hcols] at hu3 HT
  clear hcols
  have HB13 := Lib.hid (below_step HB12.out hb3)
  have HU3 := Lib.hid (hu3.mono HB12.out.size)
  obtain ⟨A3, c3, rfl, -⟩ := hu3.ints
  have HB03 := Lib.hid (below_step HB01.out HB13.out)
  have HS := Lib.hid (sta_new (t := 49) (OwnRs.nil w3 w0.heap.size) (HU3.out.mono HB01.out.size) (fun y hy g _ e => by simp at hy; subst hy; cases e) HB03.out)
  have HB14 := Lib.hid (HB13.out.alloc HB13.out.size (.cells #[.slice none 0 0, .slice none 0 0, .slice A3 cols.length c3] 49))
  have hb1w : w1.heap.size ≤ w3.heap.size := HB13.out.size
  have x2 : (w3.alloc (.cells #[.slice none 0 0, .slice none 0 0, .slice A3 cols.length c3] 49)).cell? ⟨w.heap.size, 2, none⟩ = some (.slice A c.gs.length cg) := (HKC.out.step HB14.out).cell 2
  clear hu3 hb3 HB12 HU2
  go_wp2_with fail
  have hlo1 : w1.heap.size ≤ w3.heap.size := hb1w
  clear x2
  go_loopw [25] (fun i wr => ∃ (j : Nat) (ov rv : Value) (vs : List Value), j ≤ c.gs.length ∧ i = .int .i64 j ∧ Hid (Sta 49 wr w0 w3.heap.size rv ov (.slice A3 cols.length c3) vs ⟨(zrM (gbZ off) (gbR off) key off N (c.gs.take j)).rows, (zrM (gbZ off) (gbR off) key off N (c.gs.take j)).ones, cols⟩) ∧ Hid (Below w1.heap.size w1 wr) ∧ Hid (∀ g, ov.ownBlock = some g → w1.heap.size ≤ g) ∧ Hid (∀ g, rv.ownBlock = some g → w1.heap.size ≤ g)) (fun i _ => c.gs.length - (intOf i).toNat)
  case atStart => exact ⟨0, _, _, _, Nat.zero_le _, rfl, HS, HB14, Lib.hid (fun g e => by cases e), Lib.hid (fun g e => by cases e)⟩
  case round =>
    obtain ⟨j, ov, rv, vs, hj, rfl, HS, HB1, HOV, HRV⟩ := hrel
    clear HB14
    obtain ⟨wa, rfl⟩ : ∃ W, W = wr := ⟨wr, rfl⟩
    have HBW := Lib.hid (below_step HB.out HB1.out)
    have HKW := Lib.hid (HKC.out.step HB1.out)
    by_cases hjl : j < c.gs.length
    · obtain ⟨b, o, g, rfl, hbl, hgk, c0, c1', c2'⟩ := (HRG.out.below HBW.out).gate_at hjl
      have hgb := gate_ab (gatesB_at _ _ j g HGB.out hgk)
      obtain ⟨i1, i2, i3⟩ := zr_inv (F := gbZ off) (R := gbR off) (key := key) (off := off) (n := N) HKB.out j (by omega)
      have HSN := Lib.hid (zr_snoc (F := gbZ off) (R := gbR off) (key := key) (off := off) (n := N) hgk)
      have hcl3 := cnt_le 3 c.gs j
      have hcb3 := cnt_bd 3 c.gs
      have hcl1 := cnt_le 1 c.gs j
      have hcb1 := cnt_bd 1 c.gs
      have honl : (zrM (gbZ off) (gbR off) key off N (c.gs.take j)).ones.length ≤ 300 := by omega
      have hrwl : (zrM (gbZ off) (gbR off) key off N (c.gs.take j)).rows.length ≤ 300 := by omega
      obtain ⟨m, hm⟩ : ∃ m : Nat, (N : Int) + (j : Int) = (m : Int) := ⟨N + j, by omega⟩
      have HM := Lib.hid hm
      have hmz' : m < zs.length := by have := HZL.out; omega
      have HMADE := Lib.hid (fun x => zr_made (F := gbZ off) (R := gbR off) (key := key) (off := off) (n := N) (gs := c.gs) (k := j) (x := x))
      rw [HSE.out, i1, show N + j = m by omega] at HMADE
      simp only at HMADE
      have HELT := Lib.hid (fun a => zr_elt (F := gbZ off) (R := gbR off) (key := key) (off := off) (n := N) (gs := c.gs) (k := j) (a := a))
      rw [HSE.out, i1, show N + j = m by omega] at HELT
      simp only at HELT
      rw [HN.out, hm] at hgb
      have hlsn : (zrM (gbZ off) (gbR off) key off N (c.gs.take j)).zs.length = m := by omega
      have HLS := Lib.hid hlsn
      generalize hs : zrM (gbZ off) (gbR off) key off N (c.gs.take j) = s at *
      clear hs hgk i1 i2 i3 hcl3 hcb3 hcl1 hcb1 hlsn
      obtain ⟨gk, ga, gb⟩ := g
      obtain ⟨l, rws, ons⟩ := s
      simp only at c0 c1' c2' honl hrwl HS HMADE HELT HLS hgb
      have hN3 : (N : Int) ≤ 40 := by have := HN.out; omega
      obtain ⟨wb, hwb⟩ : ∃ W, wa.alloc (.cells #[.int .i64 gk, .int .i64 ga, .int .i64 gb] 94) = W := ⟨_, rfl⟩
      have hbb : Below wa.heap.size wa wb := by rw [← hwb]; exact (Below.refl _ _).alloc (Nat.le_refl _) _
      have HBX : Hid (Blk wb wa.heap.size 94 #[.int .i64 gk, .int .i64 ga, .int .i64 gb]) := by rw [← hwb]; exact Blk.new _ _ _
      have HBB := Lib.hid hbb
      have HB2 := Lib.hid (below_step HB1.out hbb)
      have HKW2 := Lib.hid (HKW.out.step hbb)
      have k0 : wb.cell? ⟨w.heap.size, 0, none⟩ = some (.int .i64 c.i0) := HKW2.out.cell 0
      have k1 : wb.cell? ⟨w.heap.size, 1, none⟩ = some (.int .i64 c.i1) := HKW2.out.cell 1
      have k2 : wb.cell? ⟨w.heap.size, 2, none⟩ = some (.slice (some ⟨b, o, none⟩) c.gs.length cg) := HKW2.out.cell 2
      have k3 : wb.cell? ⟨w.heap.size, 3, none⟩ = some (.slice A' c.outs.length co) := HKW2.out.cell 3
      have hI := (fun W (hW : Below wb.heap.size wb W) => c_spec_ciInputs (H.out.below (below_step (below_step HBW.out HBB.out) hW)) hi4)
      rw [HN.out] at hI
      have HI := Lib.hid (hI wb (Below.refl _ _))
      have hwm : IntKind.i64.wrap (m : Int) = (m : Int) := IntWalk.i64_in _ (by omega)
      have hkk := hgb.1
      clear hbb hI
      go_wp2_with fail
      refine HI.out.mono ?_
      rintro e w5 ⟨rfl, hb5⟩
      have HS2 := Lib.hid (HS.out.step (below_step HBB.out hb5))
      replace HB2 := Lib.hid (below_step HB2.out hb5)
      replace HBX := Lib.hid (HBX.out.step hb5)
      have y0 : w5.cell? ⟨wa.heap.size, 0, none⟩ = some (.int .i64 gk) := HBX.out.cell 0
      have y1 : w5.cell? ⟨wa.heap.size, 1, none⟩ = some (.int .i64 ga) := HBX.out.cell 1
      have y2 : w5.cell? ⟨wa.heap.size, 2, none⟩ = some (.int .i64 gb) := HBX.out.cell 2
      have hsz05 : w0.heap.size ≤ w5.heap.size := HS2.out.below.size
      clear hb5 k0 k1 k2 k3 c0 c1' c2' HI
      have hm0 : (0 : Int) ≤ (m : Int) := Int.natCast_nonneg _
      have hm1 : (m : Int) < (zs.length : Int) := by omega
      obtain ⟨gz, cz', ez, -, hgz, hcz⟩ := own_at (HZ.out.below HB2.out) (by intro e; rw [e] at hmz'; simp at hmz')
      injection ez with ez1 ez2 ez3
      subst ez1
      have hat : ∀ (k : Nat), k < zs.length → w5.cell? ⟨gz, k, none⟩ = some (.int .i64 (elt zs (k : Int))) := fun k hk => hcz k _ (by
        unfold elt; rw [Int.toNat_natCast, List.getElem?_eq_getElem hk]; simp [List.getD, List.getElem?_eq_getElem hk])
      have HAT := Lib.hid hat
      clear hcz hat ez2 ez3
      have xr : Hid (∀ W, Below w5.heap.size w5 W → W.cell? ⟨w3.heap.size, 0, none⟩ = some rv) := Lib.hid (belowCell (HS2.out.blk.cell 0))
      have xo : Hid (∀ W, Below w5.heap.size w5 W → W.cell? ⟨w3.heap.size, 1, none⟩ = some ov) := Lib.hid (belowCell (HS2.out.blk.cell 1))
      have hcm : w5.cell? ⟨gz, m, none⟩ = some (.int .i64 (elt zs (m : Int))) := HAT.out m hmz'
      have hkk4 : gk = 1 ∨ gk = 3 ∨ (gk ≠ 1 ∧ gk ≠ 3) := by omega
      rcases hkk4 with rfl | rfl | ⟨h1, h3⟩
      · -- and
        have hab := hgb.2.1 (Or.inr rfl)
        obtain ⟨ja, rfl⟩ := Int.eq_ofNat_of_zero_le hab.1
        obtain ⟨jb, rfl⟩ := Int.eq_ofNat_of_zero_le hab.2.2.1
        have hja1 : (ja : Int) < (zs.length : Int) := by omega
        have hjb1 : (jb : Int) < (zs.length : Int) := by omega
        have hja0 : (0 : Int) ≤ (ja : Int) := Int.natCast_nonneg _
        have hjb0 : (0 : Int) ≤ (jb : Int) := Int.natCast_nonneg _
        have hca := HAT.out ja (by omega)
        have hcb := HAT.out jb (by omega)
        have HW := Lib.hid (show zStep (gbZ off) (gbR off) key off ⟨l, rws, ons⟩ ⟨1, (ja : Int), (jb : Int)⟩ = ⟨l ++ [gbZ off (m : Int) (elt zs (ja : Int)) (elt zs (jb : Int))], rws ++ [gbR off (m : Int) (elt zs (ja : Int)) (elt zs (jb : Int))], ons⟩ by
          unfold zStep; simp only [Int.reduceEq, if_false]; rw [HELT.out _ hab.1 hab.2.1, HELT.out _ hab.2.2.1 hab.2.2.2, HLS.out])
        have hel := HMADE.out (gbZ off (m : Int) (elt zs (ja : Int)) (elt zs (jb : Int))) (by rw [HSN.out, HW.out])
        have ba := elt_bd (k := (ja : Int)) HZB.out
        have bb := elt_bd (k := (jb : Int)) HZB.out
        have HC := Lib.hid (fun W => c_spec_gbRows (w := W) hel ho (by omega) ba bb)
        have hvl := HS2.out.own.rows.len
        simp only at hvl
        generalize gbR off (m : Int) (elt zs (ja : Int)) (elt zs (jb : Int)) = rr at *
        generalize gbZ off (m : Int) (elt zs (ja : Int)) (elt zs (jb : Int)) = zz at *
        generalize elt zs (ja : Int) = xa at *
        generalize elt zs (jb : Int) = xb at *
        generalize elt zs (m : Int) = xm at *
        have xr0 := xr.out _ (Below.refl _ _)
        clear hel hab hgb xo
        clear HBD HKB HGB HZB HOB HZL HT
        have Q1 := Lib.hid (belowCell y1)
        have Q2 := Lib.hid (belowCell y2)
        have Q3 := Lib.hid (belowCell hca)
        have Q4 := Lib.hid (belowCell hcb)
        have Q5 := Lib.hid (belowCell hcm)
        have HN1 := Lib.hid (fun (e : some wa.heap.size = rv.ownBlock) => Nat.lt_irrefl _ (HS.out.own.bd rv (by simp) _ e.symm).2)
        have hgz1 : gz < w1.heap.size := HZ.out.lt gz rfl
        have HN2 := Lib.hid (fun (e : some gz = rv.ownBlock) => Nat.lt_irrefl _ (Nat.lt_of_lt_of_le hgz1 (HRV.out _ e.symm)))
        have HN3 := Lib.hid (show w3.heap.size ≠ wa.heap.size from Nat.ne_of_lt HS.out.blk.lt)
        have HN4 := Lib.hid (show w3.heap.size ≠ gz by omega)
        go_wp2_with fail
        refine wp_region_held_drew (S := fun W => W.cell? ⟨wa.heap.size, 1, none⟩ = some (.int .i64 (ja : Int)) ∧ W.cell? ⟨wa.heap.size, 2, none⟩ = some (.int .i64 (jb : Int)) ∧ W.cell? ⟨gz, ja, none⟩ = some (.int .i64 xa) ∧ W.cell? ⟨gz, jb, none⟩ = some (.int .i64 xb) ∧ W.cell? ⟨gz, m, none⟩ = some (.int .i64 xm)) (by kernel_rfl) ⟨y1, y2, hca, hcb, hcm⟩ (fun hHeld => ?_)
        first | (refine wpAnyH_take (i := 0) (oi := ?oi1) (v := ?_) ?hi1 (by kernel_rfl) (by kernel_rfl) (by kernel_rfl) ?hq1 (Or.inl ⟨?hw1, ?hy1⟩) (by assumption) ?rest1; (case hi1 => (simp only [List.getElem?_toArray, List.getElem?_cons_zero]; rfl)); (case hq1 => exact fun _ _ _ h => h); (case hw1 => rfl); (case hy1 => (intro w hSw; (try dsimp only at hSw); go_simp; try (with_reducible rfl))); (try simp only [Act.put, List.setIfInBounds_toArray, List.set_cons_zero, List.set_cons_succ])) | (refine wpAnyH_take (i := 0) (oi := ?oi2) (v := undef) ?hi2 (by kernel_rfl) (by kernel_rfl) (by kernel_rfl) ?hq2 (Or.inr ⟨?hw2, rfl⟩) (by assumption) ?rest2; (case hi2 => (simp only [List.getElem?_toArray, List.getElem?_cons_zero]; rfl)); (case hq2 => exact fun _ _ _ h => h); (case hw2 => rfl); (try simp only [Act.put, List.setIfInBounds_toArray, List.set_cons_zero, List.set_cons_succ]))
        first | (refine wpAnyH_take (i := 2) (oi := ?oi3) (v := ?_) ?hi3 (by kernel_rfl) (by kernel_rfl) (by kernel_rfl) ?hq3 (Or.inl ⟨?hw3, ?hy3⟩) (by assumption) ?rest3; (case hi3 => (simp only [List.getElem?_toArray, List.getElem?_cons_succ, List.getElem?_cons_zero]; rfl)); (case hq3 => exact fun _ _ _ h => h); (case hw3 => rfl); (case hy3 => (intro w hSw; (try dsimp only at hSw); go_simp; try (with_reducible rfl))); (try simp only [Act.put, List.setIfInBounds_toArray, List.set_cons_zero, List.set_cons_succ])) | (refine wpAnyH_take (i := 2) (oi := ?oi4) (v := undef) ?hi4 (by kernel_rfl) (by kernel_rfl) (by kernel_rfl) ?hq4 (Or.inr ⟨?hw4, rfl⟩) (by assumption) ?rest4; (case hi4 => (simp only [List.getElem?_toArray, List.getElem?_cons_succ, List.getElem?_cons_zero]; rfl)); (case hq4 => exact fun _ _ _ h => h); (case hw4 => rfl); (try simp only [Act.put, List.setIfInBounds_toArray, List.set_cons_zero, List.set_cons_succ]))
        first | (refine wpAnyH_take (i := 3) (oi := ?oi5) (v := ?_) ?hi5 (by kernel_rfl) (by kernel_rfl) (by kernel_rfl) ?hq5 (Or.inl ⟨?hw5, ?hy5⟩) (by assumption) ?rest5; (case hi5 => (simp only [List.getElem?_toArray, List.getElem?_cons_succ, List.getElem?_cons_zero]; rfl)); (case hq5 => exact fun _ _ _ h => h); (case hw5 => rfl); (case hy5 => (intro w hSw; (try dsimp only at hSw); go_simp; try (with_reducible rfl))); (try simp only [Act.put, List.setIfInBounds_toArray, List.set_cons_zero, List.set_cons_succ])) | (refine wpAnyH_take (i := 3) (oi := ?oi6) (v := undef) ?hi6 (by kernel_rfl) (by kernel_rfl) (by kernel_rfl) ?hq6 (Or.inr ⟨?hw6, rfl⟩) (by assumption) ?rest6; (case hi6 => (simp only [List.getElem?_toArray, List.getElem?_cons_succ, List.getElem?_cons_zero]; rfl)); (case hq6 => exact fun _ _ _ h => h); (case hw6 => rfl); (try simp only [Act.put, List.setIfInBounds_toArray, List.set_cons_zero, List.set_cons_succ]))
        first | (refine wpAnyH_take (i := 4) (oi := ?oi7) (v := ?_) ?hi7 (by kernel_rfl) (by kernel_rfl) (by kernel_rfl) ?hq7 (Or.inl ⟨?hw7, ?hy7⟩) (by assumption) ?rest7; (case hi7 => (simp only [List.getElem?_toArray, List.getElem?_cons_succ, List.getElem?_cons_zero]; rfl)); (case hq7 => exact fun _ _ _ h => h); (case hw7 => rfl); (case hy7 => (intro w hSw; (try dsimp only at hSw); go_simp; try (with_reducible rfl))); (try simp only [Act.put, List.setIfInBounds_toArray, List.set_cons_zero, List.set_cons_succ])) | (refine wpAnyH_take (i := 4) (oi := ?oi8) (v := undef) ?hi8 (by kernel_rfl) (by kernel_rfl) (by kernel_rfl) ?hq8 (Or.inr ⟨?hw8, rfl⟩) (by assumption) ?rest8; (case hi8 => (simp only [List.getElem?_toArray, List.getElem?_cons_succ, List.getElem?_cons_zero]; rfl)); (case hq8 => exact fun _ _ _ h => h); (case hw8 => rfl); (try simp only [Act.put, List.setIfInBounds_toArray, List.set_cons_zero, List.set_cons_succ]))
        first | (refine wpAnyH_take (i := 5) (oi := ?oi9) (v := ?_) ?hi9 (by kernel_rfl) (by kernel_rfl) (by kernel_rfl) ?hq9 (Or.inl ⟨?hw9, ?hy9⟩) (by assumption) ?rest9; (case hi9 => (simp only [List.getElem?_toArray, List.getElem?_cons_succ, List.getElem?_cons_zero]; rfl)); (case hq9 => exact fun _ _ _ h => h); (case hw9 => rfl); (case hy9 => (intro w hSw; (try dsimp only at hSw); go_simp; try (with_reducible rfl))); (try simp only [Act.put, List.setIfInBounds_toArray, List.set_cons_zero, List.set_cons_succ])) | (refine wpAnyH_take (i := 5) (oi := ?oi10) (v := undef) ?hi10 (by kernel_rfl) (by kernel_rfl) (by kernel_rfl) ?hq10 (Or.inr ⟨?hw10, rfl⟩) (by assumption) ?rest10; (case hi10 => (simp only [List.getElem?_toArray, List.getElem?_cons_succ, List.getElem?_cons_zero]; rfl)); (case hq10 => exact fun _ _ _ h => h); (case hw10 => rfl); (try simp only [Act.put, List.setIfInBounds_toArray, List.set_cons_zero, List.set_cons_succ]))
        first | (refine wpAnyH_take (i := 6) (oi := ?oi11) (v := ?_) ?hi11 (by kernel_rfl) (by kernel_rfl) (by kernel_rfl) ?hq11 (Or.inl ⟨?hw11, ?hy11⟩) (by assumption) ?rest11; (case hi11 => (simp only [List.getElem?_toArray, List.getElem?_cons_succ, List.getElem?_cons_zero]; rfl)); (case hq11 => exact fun _ _ _ h => h); (case hw11 => rfl); (case hy11 => (intro w hSw; (try dsimp only at hSw); go_simp; try (with_reducible rfl))); (try simp only [Act.put, List.setIfInBounds_toArray, List.set_cons_zero, List.set_cons_succ])) | (refine wpAnyH_take (i := 6) (oi := ?oi12) (v := undef) ?hi12 (by kernel_rfl) (by kernel_rfl) (by kernel_rfl) ?hq12 (Or.inr ⟨?hw12, rfl⟩) (by assumption) ?rest12; (case hi12 => (simp only [List.getElem?_toArray, List.getElem?_cons_succ, List.getElem?_cons_zero]; rfl)); (case hq12 => exact fun _ _ _ h => h); (case hw12 => rfl); (try simp only [Act.put, List.setIfInBounds_toArray, List.set_cons_zero, List.set_cons_succ]))
        first | (refine wpAnyH_take (i := 7) (oi := ?oi13) (v := ?_) ?hi13 (by kernel_rfl) (by kernel_rfl) (by kernel_rfl) ?hq13 (Or.inl ⟨?hw13, ?hy13⟩) (by assumption) ?rest13; (case hi13 => (simp only [List.getElem?_toArray, List.getElem?_cons_succ, List.getElem?_cons_zero]; rfl)); (case hq13 => exact fun _ _ _ h => h); (case hw13 => rfl); (case hy13 => (intro w hSw; (try dsimp only at hSw); go_simp; try (with_reducible rfl))); (try simp only [Act.put, List.setIfInBounds_toArray, List.set_cons_zero, List.set_cons_succ])) | (refine wpAnyH_take (i := 7) (oi := ?oi14) (v := undef) ?hi14 (by kernel_rfl) (by kernel_rfl) (by kernel_rfl) ?hq14 (Or.inr ⟨?hw14, rfl⟩) (by assumption) ?rest14; (case hi14 => (simp only [List.getElem?_toArray, List.getElem?_cons_succ, List.getElem?_cons_zero]; rfl)); (case hq14 => exact fun _ _ _ h => h); (case hw14 => rfl); (try simp only [Act.put, List.setIfInBounds_toArray, List.set_cons_zero, List.set_cons_succ]))
        first | (refine wpAnyH_take (i := 8) (oi := ?oi15) (v := ?_) ?hi15 (by kernel_rfl) (by kernel_rfl) (by kernel_rfl) ?hq15 (Or.inl ⟨?hw15, ?hy15⟩) (by assumption) ?rest15; (case hi15 => (simp only [List.getElem?_toArray, List.getElem?_cons_succ, List.getElem?_cons_zero]; rfl)); (case hq15 => exact fun _ _ _ h => h); (case hw15 => rfl); (case hy15 => (intro w hSw; (try dsimp only at hSw); go_simp; try (with_reducible rfl))); (try simp only [Act.put, List.setIfInBounds_toArray, List.set_cons_zero, List.set_cons_succ])) | (refine wpAnyH_take (i := 8) (oi := ?oi16) (v := undef) ?hi16 (by kernel_rfl) (by kernel_rfl) (by kernel_rfl) ?hq16 (Or.inr ⟨?hw16, rfl⟩) (by assumption) ?rest16; (case hi16 => (simp only [List.getElem?_toArray, List.getElem?_cons_succ, List.getElem?_cons_zero]; rfl)); (case hq16 => exact fun _ _ _ h => h); (case hw16 => rfl); (try simp only [Act.put, List.setIfInBounds_toArray, List.set_cons_zero, List.set_cons_succ]))
        first | (refine wpAnyH_take (i := 9) (oi := ?oi17) (v := ?_) ?hi17 (by kernel_rfl) (by kernel_rfl) (by kernel_rfl) ?hq17 (Or.inl ⟨?hw17, ?hy17⟩) (by assumption) ?rest17; (case hi17 => (simp only [List.getElem?_toArray, List.getElem?_cons_succ, List.getElem?_cons_zero]; rfl)); (case hq17 => exact fun _ _ _ h => h); (case hw17 => rfl); (case hy17 => (intro w hSw; (try dsimp only at hSw); go_simp; try (with_reducible rfl))); (try simp only [Act.put, List.setIfInBounds_toArray, List.set_cons_zero, List.set_cons_succ])) | (refine wpAnyH_take (i := 9) (oi := ?oi18) (v := undef) ?hi18 (by kernel_rfl) (by kernel_rfl) (by kernel_rfl) ?hq18 (Or.inr ⟨?hw18, rfl⟩) (by assumption) ?rest18; (case hi18 => (simp only [List.getElem?_toArray, List.getElem?_cons_succ, List.getElem?_cons_zero]; rfl)); (case hq18 => exact fun _ _ _ h => h); (case hw18 => rfl); (try simp only [Act.put, List.setIfInBounds_toArray, List.set_cons_zero, List.set_cons_succ]))
        first | (refine wpAnyH_take (i := 10) (oi := ?oi19) (v := ?_) ?hi19 (by kernel_rfl) (by kernel_rfl) (by kernel_rfl) ?hq19 (Or.inl ⟨?hw19, ?hy19⟩) (by assumption) ?rest19; (case hi19 => (simp only [List.getElem?_toArray, List.getElem?_cons_succ, List.getElem?_cons_zero]; rfl)); (case hq19 => exact fun _ _ _ h => h); (case hw19 => rfl); (case hy19 => (intro w hSw; (try dsimp only at hSw); go_simp; try (with_reducible rfl))); (try simp only [Act.put, List.setIfInBounds_toArray, List.set_cons_zero, List.set_cons_succ])) | (refine wpAnyH_take (i := 10) (oi := ?oi20) (v := undef) ?hi20 (by kernel_rfl) (by kernel_rfl) (by kernel_rfl) ?hq20 (Or.inr ⟨?hw20, rfl⟩) (by assumption) ?rest20; (case hi20 => (simp only [List.getElem?_toArray, List.getElem?_cons_succ, List.getElem?_cons_zero]; rfl)); (case hq20 => exact fun _ _ _ h => h); (case hw20 => rfl); (try simp only [Act.put, List.setIfInBounds_toArray, List.set_cons_zero, List.set_cons_succ]))
        first | (refine wpAnyH_take (i := 11) (oi := ?oi21) (v := ?_) ?hi21 (by kernel_rfl) (by kernel_rfl) (by kernel_rfl) ?hq21 (Or.inl ⟨?hw21, ?hy21⟩) (by assumption) ?rest21; (case hi21 => (simp only [List.getElem?_toArray, List.getElem?_cons_succ, List.getElem?_cons_zero]; rfl)); (case hq21 => exact fun _ _ _ h => h); (case hw21 => rfl); (case hy21 => (intro w hSw; (try dsimp only at hSw); go_simp; try (with_reducible rfl))); (try simp only [Act.put, List.setIfInBounds_toArray, List.set_cons_zero, List.set_cons_succ])) | (refine wpAnyH_take (i := 11) (oi := ?oi22) (v := undef) ?hi22 (by kernel_rfl) (by kernel_rfl) (by kernel_rfl) ?hq22 (Or.inr ⟨?hw22, rfl⟩) (by assumption) ?rest22; (case hi22 => (simp only [List.getElem?_toArray, List.getElem?_cons_succ, List.getElem?_cons_zero]; rfl)); (case hq22 => exact fun _ _ _ h => h); (case hw22 => rfl); (try simp only [Act.put, List.setIfInBounds_toArray, List.set_cons_zero, List.set_cons_succ]))
        first | (refine wpAnyH_take (i := 12) (oi := ?oi23) (v := ?_) ?hi23 (by kernel_rfl) (by kernel_rfl) (by kernel_rfl) ?hq23 (Or.inl ⟨?hw23, ?hy23⟩) (by assumption) ?rest23; (case hi23 => (simp only [List.getElem?_toArray, List.getElem?_cons_succ, List.getElem?_cons_zero]; rfl)); (case hq23 => exact fun _ _ _ h => h); (case hw23 => rfl); (case hy23 => (intro w hSw; (try dsimp only at hSw); go_simp; try (with_reducible rfl))); (try simp only [Act.put, List.setIfInBounds_toArray, List.set_cons_zero, List.set_cons_succ])) | (refine wpAnyH_take (i := 12) (oi := ?oi24) (v := undef) ?hi24 (by kernel_rfl) (by kernel_rfl) (by kernel_rfl) ?hq24 (Or.inr ⟨?hw24, rfl⟩) (by assumption) ?rest24; (case hi24 => (simp only [List.getElem?_toArray, List.getElem?_cons_succ, List.getElem?_cons_zero]; rfl)); (case hq24 => exact fun _ _ _ h => h); (case hw24 => rfl); (try simp only [Act.put, List.setIfInBounds_toArray, List.set_cons_zero, List.set_cons_succ]))
        first | (refine wpAnyH_take (i := 13) (oi := ?oi25) (v := ?_) ?hi25 (by kernel_rfl) (by kernel_rfl) (by kernel_rfl) ?hq25 (Or.inl ⟨?hw25, ?hy25⟩) (by assumption) ?rest25; (case hi25 => (simp only [List.getElem?_toArray, List.getElem?_cons_succ, List.getElem?_cons_zero]; rfl)); (case hq25 => exact fun _ _ _ h => h); (case hw25 => rfl); (case hy25 => (intro w hSw; (try dsimp only at hSw); go_simp; try (with_reducible rfl))); (try simp only [Act.put, List.setIfInBounds_toArray, List.set_cons_zero, List.set_cons_succ])) | (refine wpAnyH_take (i := 13) (oi := ?oi26) (v := undef) ?hi26 (by kernel_rfl) (by kernel_rfl) (by kernel_rfl) ?hq26 (Or.inr ⟨?hw26, rfl⟩) (by assumption) ?rest26; (case hi26 => (simp only [List.getElem?_toArray, List.getElem?_cons_succ, List.getElem?_cons_zero]; rfl)); (case hq26 => exact fun _ _ _ h => h); (case hw26 => rfl); (try simp only [Act.put, List.setIfInBounds_toArray, List.set_cons_zero, List.set_cons_succ]))
        first | (refine wpAnyH_take (i := 14) (oi := ?oi27) (v := ?_) ?hi27 (by kernel_rfl) (by kernel_rfl) (by kernel_rfl) ?hq27 (Or.inl ⟨?hw27, ?hy27⟩) (by assumption) ?rest27; (case hi27 => (simp only [List.getElem?_toArray, List.getElem?_cons_succ, List.getElem?_cons_zero]; rfl)); (case hq27 => exact fun _ _ _ h => h); (case hw27 => rfl); (case hy27 => (intro w hSw; (try dsimp only at hSw); go_simp; try (with_reducible rfl))); (try simp only [Act.put, List.setIfInBounds_toArray, List.set_cons_zero, List.set_cons_succ])) | (refine wpAnyH_take (i := 14) (oi := ?oi28) (v := undef) ?hi28 (by kernel_rfl) (by kernel_rfl) (by kernel_rfl) ?hq28 (Or.inr ⟨?hw28, rfl⟩) (by assumption) ?rest28; (case hi28 => (simp only [List.getElem?_toArray, List.getElem?_cons_succ, List.getElem?_cons_zero]; rfl)); (case hq28 => exact fun _ _ _ h => h); (case hw28 => rfl); (try simp only [Act.put, List.setIfInBounds_toArray, List.set_cons_zero, List.set_cons_succ]))
        first | (refine wpAnyH_take (i := 15) (oi := ?oi29) (v := ?_) ?hi29 (by kernel_rfl) (by kernel_rfl) (by kernel_rfl) ?hq29 (Or.inl ⟨?hw29, ?hy29⟩) (by assumption) ?rest29; (case hi29 => (simp only [List.getElem?_toArray, List.getElem?_cons_succ, List.getElem?_cons_zero]; rfl)); (case hq29 => exact fun _ _ _ h => h); (case hw29 => rfl); (case hy29 => (intro w hSw; (try dsimp only at hSw); go_simp; try (with_reducible rfl))); (try simp only [Act.put, List.setIfInBounds_toArray, List.set_cons_zero, List.set_cons_succ])) | (refine wpAnyH_take (i := 15) (oi := ?oi30) (v := undef) ?hi30 (by kernel_rfl) (by kernel_rfl) (by kernel_rfl) ?hq30 (Or.inr ⟨?hw30, rfl⟩) (by assumption) ?rest30; (case hi30 => (simp only [List.getElem?_toArray, List.getElem?_cons_succ, List.getElem?_cons_zero]; rfl)); (case hq30 => exact fun _ _ _ h => h); (case hw30 => rfl); (try simp only [Act.put, List.setIfInBounds_toArray, List.set_cons_zero, List.set_cons_succ]))
        first | (refine wpAnyH_take (i := 16) (oi := ?oi31) (v := ?_) ?hi31 (by kernel_rfl) (by kernel_rfl) (by kernel_rfl) ?hq31 (Or.inl ⟨?hw31, ?hy31⟩) (by assumption) ?rest31; (case hi31 => (simp only [List.getElem?_toArray, List.getElem?_cons_succ, List.getElem?_cons_zero]; rfl)); (case hq31 => exact fun _ _ _ h => h); (case hw31 => rfl); (case hy31 => (intro w hSw; (try dsimp only at hSw); go_simp; try (with_reducible rfl))); (try simp only [Act.put, List.setIfInBounds_toArray, List.set_cons_zero, List.set_cons_succ])) | (refine wpAnyH_take (i := 16) (oi := ?oi32) (v := undef) ?hi32 (by kernel_rfl) (by kernel_rfl) (by kernel_rfl) ?hq32 (Or.inr ⟨?hw32, rfl⟩) (by assumption) ?rest32; (case hi32 => (simp only [List.getElem?_toArray, List.getElem?_cons_succ, List.getElem?_cons_zero]; rfl)); (case hq32 => exact fun _ _ _ h => h); (case hw32 => rfl); (try simp only [Act.put, List.setIfInBounds_toArray, List.set_cons_zero, List.set_cons_succ]))
        first | (refine wpAnyH_take (i := 17) (oi := ?oi33) (v := ?_) ?hi33 (by kernel_rfl) (by kernel_rfl) (by kernel_rfl) ?hq33 (Or.inl ⟨?hw33, ?hy33⟩) (by assumption) ?rest33; (case hi33 => (simp only [List.getElem?_toArray, List.getElem?_cons_succ, List.getElem?_cons_zero]; rfl)); (case hq33 => exact fun _ _ _ h => h); (case hw33 => rfl); (case hy33 => (intro w hSw; (try dsimp only at hSw); go_simp; try (with_reducible rfl))); (try simp only [Act.put, List.setIfInBounds_toArray, List.set_cons_zero, List.set_cons_succ])) | (refine wpAnyH_take (i := 17) (oi := ?oi34) (v := undef) ?hi34 (by kernel_rfl) (by kernel_rfl) (by kernel_rfl) ?hq34 (Or.inr ⟨?hw34, rfl⟩) (by assumption) ?rest34; (case hi34 => (simp only [List.getElem?_toArray, List.getElem?_cons_succ, List.getElem?_cons_zero]; rfl)); (case hq34 => exact fun _ _ _ h => h); (case hw34 => rfl); (try simp only [Act.put, List.setIfInBounds_toArray, List.set_cons_zero, List.set_cons_succ]))
        refine wpAnyH_ready (rs := [1, 18]) (by kernel_rfl) (by simp) ?_
        refine AllReadyH.cons (o := ?zoc1) ?zhc1 (fun K hK => ?zst1) ?zmo1
        case zhc1 => (simp only [List.getElem?_toArray, List.getElem?_cons_succ, List.getElem?_cons_zero]; rfl)
        case zst1 =>
          go_simp
          refine hK.out _ _ ?_ (fun hHeld => ?_)
          · (first | exact KS.out _ | exact KP.out | exact KB.out | exact KA.out | exact ⟨y1, y2, hca, hcb, hcm⟩)
          clear hK K
          try simp only [Act.put, List.setIfInBounds_toArray, List.set_cons_zero, List.set_cons_succ]
          refine wpAnyH_ready (rs := [18]) (by kernel_rfl) (by simp) ?_
          refine AllReadyH.cons (o := ?zoc2) ?zhc2 (fun K hK => ?zst2) ?zmo2
          case zhc2 => (simp only [List.getElem?_toArray, List.getElem?_cons_succ, List.getElem?_cons_zero]; rfl)
          case zst2 =>
            go_simp
            refine (HC.out _).mono ?_
            rintro e w9 ⟨u9, rfl, hu9, hb9⟩
            obtain ⟨Au, cu, rfl, -⟩ := hu9.ints
            replace hu9 := Lib.hid hu9
            replace hb9 : Below w5.heap.size w5 w9 := below_step ((Below.refl _ _).drew) hb9
            have hsz9 := hb9.size
            have HS9 := Lib.hid (HS2.out.step hb9)
            have x1 : w9.cell? ⟨w3.heap.size, 0, none⟩ = some rv := xr.out _ hb9
            have x2 : (w9.alloc (.cells #[.slice Au rr.length cu] 23)).cell? ⟨w3.heap.size, 0, none⟩ = some rv := xr.out _ (hb9.alloc hb9.size _)
            have KA := Lib.hid (And.intro (Q1.out _ hb9) (And.intro (Q2.out _ hb9) (And.intro (Q3.out _ hb9) (And.intro (Q4.out _ hb9) (Q5.out _ hb9)))))
            have hb8 := hb9.alloc hb9.size (.cells #[.slice Au rr.length cu] 23)
            have KB := Lib.hid (And.intro (Q1.out _ hb8) (And.intro (Q2.out _ hb8) (And.intro (Q3.out _ hb8) (And.intro (Q4.out _ hb8) (Q5.out _ hb8)))))
            clear hb8
            have HOW : Hid (w9.ownsRow w0.heap.size 23 1 rv rws.length vs) := Lib.hid HS9.out.own.rows.outer
            have HSZ9 := Lib.hid (Nat.le_trans HB2.out.size hsz9)
            have hsz0 : w0.heap.size ≤ w9.heap.size := HS9.out.below.size
            go_wp2_with fail
            refine hK.out _ _ ?_ (fun hHeld => ?_)
            · (first | exact KS.out _ | exact KP.out | exact KB.out | exact KA.out | exact ⟨y1, y2, hca, hcb, hcm⟩)
            clear hK K
            try simp only [Act.put, List.setIfInBounds_toArray, List.set_cons_zero, List.set_cons_succ]
            refine wpAnyH_ready (rs := [19]) (by kernel_rfl) (by simp) ?_
            refine AllReadyH.cons (o := ?zoc3) ?zhc3 (fun K hK => ?zst3) ?zmo3
            case zhc3 => (simp only [List.getElem?_toArray, List.getElem?_cons_succ, List.getElem?_cons_zero]; rfl)
            case zst3 =>
              go_simp
              refine hK.out _ _ ?_ (fun hHeld => ?_)
              · (first | exact KS.out _ | exact KP.out | exact KB.out | exact KA.out | exact ⟨y1, y2, hca, hcb, hcm⟩)
              clear hK K
              try simp only [Act.put, List.setIfInBounds_toArray, List.set_cons_zero, List.set_cons_succ]
              refine wpAnyH_ready (rs := [20]) (by kernel_rfl) (by simp) ?_
              refine AllReadyH.cons (o := ?zoc4) ?zhc4 (fun K hK => ?zst4) ?zmo4
              case zhc4 => (simp only [List.getElem?_toArray, List.getElem?_cons_succ, List.getElem?_cons_zero]; rfl)
              case zst4 =>
                refine step_app1 (B := w0.heap.size) (by rfl) (by rfl) Try.underlying42 info_ints rfl (HOW.out.alloc _) (cell_new w9 _ _) (by rfl) (by rfl) rfl (by unfold maxLen; omega) (by omega) (by simp; omega) ?_
                intro v' w2' ho2 hg hfr
                have hk2 := (HS9.out.blk.alloc (.cells #[.slice Au rr.length cu] 23)).grown hg (fun e => HS9.out.far rv (by simp) e.symm)
                have z1 : w2'.cell? ⟨w3.heap.size, 0, none⟩ = some rv := hk2.cell 0
                have zf := hk2.free 0
                clear hk2
                obtain ⟨Av, cv9, rfl, -⟩ := own_sl ho2
                have KP := Lib.hid (And.intro (hg.cell (a := ⟨wa.heap.size, 1, none⟩) KB.out.1 HN1.out) (And.intro (hg.cell (a := ⟨wa.heap.size, 2, none⟩) KB.out.2.1 HN1.out) (And.intro (hg.cell (a := ⟨gz, ja, none⟩) KB.out.2.2.1 HN2.out) (And.intro (hg.cell (a := ⟨gz, jb, none⟩) KB.out.2.2.2.1 HN2.out) (hg.cell (a := ⟨gz, m, none⟩) KB.out.2.2.2.2 HN2.out)))))
                have KS := Lib.hid (fun (v : Value) => And.intro ((World.cell?_setCell_far w2' ⟨w3.heap.size, 0, none⟩ ⟨wa.heap.size, 1, none⟩ v HN3.out).trans KP.out.1) (And.intro ((World.cell?_setCell_far w2' ⟨w3.heap.size, 0, none⟩ ⟨wa.heap.size, 2, none⟩ v HN3.out).trans KP.out.2.1) (And.intro ((World.cell?_setCell_far w2' ⟨w3.heap.size, 0, none⟩ ⟨gz, ja, none⟩ v HN4.out).trans KP.out.2.2.1) (And.intro ((World.cell?_setCell_far w2' ⟨w3.heap.size, 0, none⟩ ⟨gz, jb, none⟩ v HN4.out).trans KP.out.2.2.2.1) ((World.cell?_setCell_far w2' ⟨w3.heap.size, 0, none⟩ ⟨gz, m, none⟩ v HN4.out).trans KP.out.2.2.2.2)))))
                replace ho2 := Lib.hid ho2
                replace hg := Lib.hid hg
                replace hfr := Lib.hid hfr
                refine hK.out _ _ ?_ (fun hHeld => ?_)
                · (first | exact KS.out _ | exact KP.out | exact KB.out | exact KA.out | exact ⟨y1, y2, hca, hcb, hcm⟩)
                clear hK K
                try simp only [Act.put, List.setIfInBounds_toArray, List.set_cons_zero, List.set_cons_succ]
                first | (refine wpAnyH_take (i := 21) (oi := ?oi35) (v := ?_) ?hi35 (by kernel_rfl) (by kernel_rfl) (by kernel_rfl) ?hq35 (Or.inl ⟨?hw35, ?hy35⟩) (by assumption) ?rest35; (case hi35 => (simp only [List.getElem?_toArray, List.getElem?_cons_succ, List.getElem?_cons_zero]; rfl)); (case hq35 => exact fun _ _ _ h => h); (case hw35 => rfl); (case hy35 => (intro w hSw; (try dsimp only at hSw); go_simp; try (with_reducible rfl))); (try simp only [Act.put, List.setIfInBounds_toArray, List.set_cons_zero, List.set_cons_succ])) | (refine wpAnyH_take (i := 21) (oi := ?oi36) (v := undef) ?hi36 (by kernel_rfl) (by kernel_rfl) (by kernel_rfl) ?hq36 (Or.inr ⟨?hw36, rfl⟩) (by assumption) ?rest36; (case hi36 => (simp only [List.getElem?_toArray, List.getElem?_cons_succ, List.getElem?_cons_zero]; rfl)); (case hq36 => exact fun _ _ _ h => h); (case hw36 => rfl); (try simp only [Act.put, List.setIfInBounds_toArray, List.set_cons_zero, List.set_cons_succ]))
                refine wpAnyH_ready (rs := [22]) (by kernel_rfl) (by simp) ?_
                refine AllReadyH.cons (o := ?zoc5) ?zhc5 (fun K hK => ?zst5) ?zmo5
                case zhc5 => (simp only [List.getElem?_toArray, List.getElem?_cons_succ, List.getElem?_cons_zero]; rfl)
                case zst5 =>
                  go_simp
                  refine hK.out _ _ ?_ (fun hHeld => ?_)
                  · (first | exact KS.out _ | exact KP.out | exact KB.out | exact KA.out | exact ⟨y1, y2, hca, hcb, hcm⟩)
                  clear hK K
                  try simp only [Act.put, List.setIfInBounds_toArray, List.set_cons_zero, List.set_cons_succ]
                  refine wpAnyH_done (by kernel_rfl) ?_ _
                  have HSG := Lib.hid (HS2.out.row (w1 := w9.alloc (.cells #[.slice Au rr.length cu] 23)) (w2 := w2') (u := .slice Au rr.length cu) (r := rr) (hb9.alloc hb9.size _) (hu9.out.alloc _) ho2.out hg.out hfr.out)
                  have hrv2 := Lib.hid (fun g e => (hfr.out g e).elim (fun h1 => HRV.out g h1) (fun h1 => Nat.le_trans HSZ9.out (by simp at h1; omega)))
                  have hbg := Lib.hid ((below_step HB2.out (hb9.alloc hb9.size (.cells #[.slice Au rr.length cu] 23))).grown hg.out (Nat.le_trans HB2.out.size (by have := hb9.size; simp; omega)) (fun k e => HRV.out k e))
                  go_wp2
                  go_roundw
                  case rel => exact ⟨j + 1, ov, _, _, by omega, by go_num, by rw [HSN.out, HW.out]; exact HSG, Lib.hid (hbg.out.setCell (p := ⟨w3.heap.size, 0, none⟩) hlo1 _), HOV, hrv2⟩
                  case measure => simp [intOf]; omega
                case zmo5 =>
                  exact AllReadyH.nil
              case zmo4 =>
                exact AllReadyH.nil
            case zmo3 =>
              exact AllReadyH.nil
          case zmo2 =>
            exact AllReadyH.nil
        case zmo1 =>
          refine AllReadyH.cons (o := ?zoc6) ?zhc6 (fun K hK => ?zst6) ?zmo6
          case zhc6 => (simp only [List.getElem?_toArray, List.getElem?_cons_succ, List.getElem?_cons_zero]; rfl)
          case zst6 =>
            go_simp
            refine (HC.out _).mono ?_
            rintro e w9 ⟨u9, rfl, hu9, hb9⟩
            obtain ⟨Au, cu, rfl, -⟩ := hu9.ints
            replace hu9 := Lib.hid hu9
            replace hb9 : Below w5.heap.size w5 w9 := below_step ((Below.refl _ _).drew) hb9
            have hsz9 := hb9.size
            have HS9 := Lib.hid (HS2.out.step hb9)
            have x1 : w9.cell? ⟨w3.heap.size, 0, none⟩ = some rv := xr.out _ hb9
            have x2 : (w9.alloc (.cells #[.slice Au rr.length cu] 23)).cell? ⟨w3.heap.size, 0, none⟩ = some rv := xr.out _ (hb9.alloc hb9.size _)
            have KA := Lib.hid (And.intro (Q1.out _ hb9) (And.intro (Q2.out _ hb9) (And.intro (Q3.out _ hb9) (And.intro (Q4.out _ hb9) (Q5.out _ hb9)))))
            have hb8 := hb9.alloc hb9.size (.cells #[.slice Au rr.length cu] 23)
            have KB := Lib.hid (And.intro (Q1.out _ hb8) (And.intro (Q2.out _ hb8) (And.intro (Q3.out _ hb8) (And.intro (Q4.out _ hb8) (Q5.out _ hb8)))))
            clear hb8
            have HOW : Hid (w9.ownsRow w0.heap.size 23 1 rv rws.length vs) := Lib.hid HS9.out.own.rows.outer
            have HSZ9 := Lib.hid (Nat.le_trans HB2.out.size hsz9)
            have hsz0 : w0.heap.size ≤ w9.heap.size := HS9.out.below.size
            go_wp2_with fail
            refine hK.out _ _ ?_ (fun hHeld => ?_)
            · (first | exact KS.out _ | exact KP.out | exact KB.out | exact KA.out | exact ⟨y1, y2, hca, hcb, hcm⟩)
            clear hK K
            try simp only [Act.put, List.setIfInBounds_toArray, List.set_cons_zero, List.set_cons_succ]
            refine wpAnyH_ready (rs := [1, 19]) (by kernel_rfl) (by simp) ?_
            refine AllReadyH.cons (o := ?zoc7) ?zhc7 (fun K hK => ?zst7) ?zmo7
            case zhc7 => (simp only [List.getElem?_toArray, List.getElem?_cons_succ, List.getElem?_cons_zero]; rfl)
            case zst7 =>
              go_simp
              refine hK.out _ _ ?_ (fun hHeld => ?_)
              · (first | exact KS.out _ | exact KP.out | exact KB.out | exact KA.out | exact ⟨y1, y2, hca, hcb, hcm⟩)
              clear hK K
              try simp only [Act.put, List.setIfInBounds_toArray, List.set_cons_zero, List.set_cons_succ]
              refine wpAnyH_ready (rs := [19]) (by kernel_rfl) (by simp) ?_
              refine AllReadyH.cons (o := ?zoc8) ?zhc8 (fun K hK => ?zst8) ?zmo8
              case zhc8 => (simp only [List.getElem?_toArray, List.getElem?_cons_succ, List.getElem?_cons_zero]; rfl)
              case zst8 =>
                go_simp
                refine hK.out _ _ ?_ (fun hHeld => ?_)
                · (first | exact KS.out _ | exact KP.out | exact KB.out | exact KA.out | exact ⟨y1, y2, hca, hcb, hcm⟩)
                clear hK K
                try simp only [Act.put, List.setIfInBounds_toArray, List.set_cons_zero, List.set_cons_succ]
                refine wpAnyH_ready (rs := [20]) (by kernel_rfl) (by simp) ?_
                refine AllReadyH.cons (o := ?zoc9) ?zhc9 (fun K hK => ?zst9) ?zmo9
                case zhc9 => (simp only [List.getElem?_toArray, List.getElem?_cons_succ, List.getElem?_cons_zero]; rfl)
                case zst9 =>
                  refine step_app1 (B := w0.heap.size) (by rfl) (by rfl) Try.underlying42 info_ints rfl (HOW.out.alloc _) (cell_new w9 _ _) (by rfl) (by rfl) rfl (by unfold maxLen; omega) (by omega) (by simp; omega) ?_
                  intro v' w2' ho2 hg hfr
                  have hk2 := (HS9.out.blk.alloc (.cells #[.slice Au rr.length cu] 23)).grown hg (fun e => HS9.out.far rv (by simp) e.symm)
                  have z1 : w2'.cell? ⟨w3.heap.size, 0, none⟩ = some rv := hk2.cell 0
                  have zf := hk2.free 0
                  clear hk2
                  obtain ⟨Av, cv9, rfl, -⟩ := own_sl ho2
                  have KP := Lib.hid (And.intro (hg.cell (a := ⟨wa.heap.size, 1, none⟩) KB.out.1 HN1.out) (And.intro (hg.cell (a := ⟨wa.heap.size, 2, none⟩) KB.out.2.1 HN1.out) (And.intro (hg.cell (a := ⟨gz, ja, none⟩) KB.out.2.2.1 HN2.out) (And.intro (hg.cell (a := ⟨gz, jb, none⟩) KB.out.2.2.2.1 HN2.out) (hg.cell (a := ⟨gz, m, none⟩) KB.out.2.2.2.2 HN2.out)))))
                  have KS := Lib.hid (fun (v : Value) => And.intro ((World.cell?_setCell_far w2' ⟨w3.heap.size, 0, none⟩ ⟨wa.heap.size, 1, none⟩ v HN3.out).trans KP.out.1) (And.intro ((World.cell?_setCell_far w2' ⟨w3.heap.size, 0, none⟩ ⟨wa.heap.size, 2, none⟩ v HN3.out).trans KP.out.2.1) (And.intro ((World.cell?_setCell_far w2' ⟨w3.heap.size, 0, none⟩ ⟨gz, ja, none⟩ v HN4.out).trans KP.out.2.2.1) (And.intro ((World.cell?_setCell_far w2' ⟨w3.heap.size, 0, none⟩ ⟨gz, jb, none⟩ v HN4.out).trans KP.out.2.2.2.1) ((World.cell?_setCell_far w2' ⟨w3.heap.size, 0, none⟩ ⟨gz, m, none⟩ v HN4.out).trans KP.out.2.2.2.2)))))
                  replace ho2 := Lib.hid ho2
                  replace hg := Lib.hid hg
                  replace hfr := Lib.hid hfr
                  refine hK.out _ _ ?_ (fun hHeld => ?_)
                  · (first | exact KS.out _ | exact KP.out | exact KB.out | exact KA.out | exact ⟨y1, y2, hca, hcb, hcm⟩)
                  clear hK K
                  try simp only [Act.put, List.setIfInBounds_toArray, List.set_cons_zero, List.set_cons_succ]
                  first | (refine wpAnyH_take (i := 21) (oi := ?oi37) (v := ?_) ?hi37 (by kernel_rfl) (by kernel_rfl) (by kernel_rfl) ?hq37 (Or.inl ⟨?hw37, ?hy37⟩) (by assumption) ?rest37; (case hi37 => (simp only [List.getElem?_toArray, List.getElem?_cons_succ, List.getElem?_cons_zero]; rfl)); (case hq37 => exact fun _ _ _ h => h); (case hw37 => rfl); (case hy37 => (intro w hSw; (try dsimp only at hSw); go_simp; try (with_reducible rfl))); (try simp only [Act.put, List.setIfInBounds_toArray, List.set_cons_zero, List.set_cons_succ])) | (refine wpAnyH_take (i := 21) (oi := ?oi38) (v := undef) ?hi38 (by kernel_rfl) (by kernel_rfl) (by kernel_rfl) ?hq38 (Or.inr ⟨?hw38, rfl⟩) (by assumption) ?rest38; (case hi38 => (simp only [List.getElem?_toArray, List.getElem?_cons_succ, List.getElem?_cons_zero]; rfl)); (case hq38 => exact fun _ _ _ h => h); (case hw38 => rfl); (try simp only [Act.put, List.setIfInBounds_toArray, List.set_cons_zero, List.set_cons_succ]))
                  refine wpAnyH_ready (rs := [22]) (by kernel_rfl) (by simp) ?_
                  refine AllReadyH.cons (o := ?zoc10) ?zhc10 (fun K hK => ?zst10) ?zmo10
                  case zhc10 => (simp only [List.getElem?_toArray, List.getElem?_cons_succ, List.getElem?_cons_zero]; rfl)
                  case zst10 =>
                    go_simp
                    refine hK.out _ _ ?_ (fun hHeld => ?_)
                    · (first | exact KS.out _ | exact KP.out | exact KB.out | exact KA.out | exact ⟨y1, y2, hca, hcb, hcm⟩)
                    clear hK K
                    try simp only [Act.put, List.setIfInBounds_toArray, List.set_cons_zero, List.set_cons_succ]
                    refine wpAnyH_done (by kernel_rfl) ?_ _
                    have HSG := Lib.hid (HS2.out.row (w1 := w9.alloc (.cells #[.slice Au rr.length cu] 23)) (w2 := w2') (u := .slice Au rr.length cu) (r := rr) (hb9.alloc hb9.size _) (hu9.out.alloc _) ho2.out hg.out hfr.out)
                    have hrv2 := Lib.hid (fun g e => (hfr.out g e).elim (fun h1 => HRV.out g h1) (fun h1 => Nat.le_trans HSZ9.out (by simp at h1; omega)))
                    have hbg := Lib.hid ((below_step HB2.out (hb9.alloc hb9.size (.cells #[.slice Au rr.length cu] 23))).grown hg.out (Nat.le_trans HB2.out.size (by have := hb9.size; simp; omega)) (fun k e => HRV.out k e))
                    go_wp2
                    go_roundw
                    case rel => exact ⟨j + 1, ov, _, _, by omega, by go_num, by rw [HSN.out, HW.out]; exact HSG, Lib.hid (hbg.out.setCell (p := ⟨w3.heap.size, 0, none⟩) hlo1 _), HOV, hrv2⟩
                    case measure => simp [intOf]; omega
                  case zmo10 =>
                    exact AllReadyH.nil
                case zmo9 =>
                  exact AllReadyH.nil
              case zmo8 =>
                exact AllReadyH.nil
            case zmo7 =>
              refine AllReadyH.cons (o := ?zoc11) ?zhc11 (fun K hK => ?zst11) ?zmo11
              case zhc11 => (simp only [List.getElem?_toArray, List.getElem?_cons_succ, List.getElem?_cons_zero]; rfl)
              case zst11 =>
                go_simp
                refine hK.out _ _ ?_ (fun hHeld => ?_)
                · (first | exact KS.out _ | exact KP.out | exact KB.out | exact KA.out | exact ⟨y1, y2, hca, hcb, hcm⟩)
                clear hK K
                try simp only [Act.put, List.setIfInBounds_toArray, List.set_cons_zero, List.set_cons_succ]
                refine wpAnyH_ready (rs := [1]) (by kernel_rfl) (by simp) ?_
                refine AllReadyH.cons (o := ?zoc12) ?zhc12 (fun K hK => ?zst12) ?zmo12
                case zhc12 => (simp only [List.getElem?_toArray, List.getElem?_cons_succ, List.getElem?_cons_zero]; rfl)
                case zst12 =>
                  go_simp
                  refine hK.out _ _ ?_ (fun hHeld => ?_)
                  · (first | exact KS.out _ | exact KP.out | exact KB.out | exact KA.out | exact ⟨y1, y2, hca, hcb, hcm⟩)
                  clear hK K
                  try simp only [Act.put, List.setIfInBounds_toArray, List.set_cons_zero, List.set_cons_succ]
                  refine wpAnyH_ready (rs := [20]) (by kernel_rfl) (by simp) ?_
                  refine AllReadyH.cons (o := ?zoc13) ?zhc13 (fun K hK => ?zst13) ?zmo13
                  case zhc13 => (simp only [List.getElem?_toArray, List.getElem?_cons_succ, List.getElem?_cons_zero]; rfl)
                  case zst13 =>
                    refine step_app1 (B := w0.heap.size) (by rfl) (by rfl) Try.underlying42 info_ints rfl (HOW.out.alloc _) (cell_new w9 _ _) (by rfl) (by rfl) rfl (by unfold maxLen; omega) (by omega) (by simp; omega) ?_
                    intro v' w2' ho2 hg hfr
                    have hk2 := (HS9.out.blk.alloc (.cells #[.slice Au rr.length cu] 23)).grown hg (fun e => HS9.out.far rv (by simp) e.symm)
                    have z1 : w2'.cell? ⟨w3.heap.size, 0, none⟩ = some rv := hk2.cell 0
                    have zf := hk2.free 0
                    clear hk2
                    obtain ⟨Av, cv9, rfl, -⟩ := own_sl ho2
                    have KP := Lib.hid (And.intro (hg.cell (a := ⟨wa.heap.size, 1, none⟩) KB.out.1 HN1.out) (And.intro (hg.cell (a := ⟨wa.heap.size, 2, none⟩) KB.out.2.1 HN1.out) (And.intro (hg.cell (a := ⟨gz, ja, none⟩) KB.out.2.2.1 HN2.out) (And.intro (hg.cell (a := ⟨gz, jb, none⟩) KB.out.2.2.2.1 HN2.out) (hg.cell (a := ⟨gz, m, none⟩) KB.out.2.2.2.2 HN2.out)))))
                    have KS := Lib.hid (fun (v : Value) => And.intro ((World.cell?_setCell_far w2' ⟨w3.heap.size, 0, none⟩ ⟨wa.heap.size, 1, none⟩ v HN3.out).trans KP.out.1) (And.intro ((World.cell?_setCell_far w2' ⟨w3.heap.size, 0, none⟩ ⟨wa.heap.size, 2, none⟩ v HN3.out).trans KP.out.2.1) (And.intro ((World.cell?_setCell_far w2' ⟨w3.heap.size, 0, none⟩ ⟨gz, ja, none⟩ v HN4.out).trans KP.out.2.2.1) (And.intro ((World.cell?_setCell_far w2' ⟨w3.heap.size, 0, none⟩ ⟨gz, jb, none⟩ v HN4.out).trans KP.out.2.2.2.1) ((World.cell?_setCell_far w2' ⟨w3.heap.size, 0, none⟩ ⟨gz, m, none⟩ v HN4.out).trans KP.out.2.2.2.2)))))
                    replace ho2 := Lib.hid ho2
                    replace hg := Lib.hid hg
                    replace hfr := Lib.hid hfr
                    refine hK.out _ _ ?_ (fun hHeld => ?_)
                    · (first | exact KS.out _ | exact KP.out | exact KB.out | exact KA.out | exact ⟨y1, y2, hca, hcb, hcm⟩)
                    clear hK K
                    try simp only [Act.put, List.setIfInBounds_toArray, List.set_cons_zero, List.set_cons_succ]
                    first | (refine wpAnyH_take (i := 21) (oi := ?oi39) (v := ?_) ?hi39 (by kernel_rfl) (by kernel_rfl) (by kernel_rfl) ?hq39 (Or.inl ⟨?hw39, ?hy39⟩) (by assumption) ?rest39; (case hi39 => (simp only [List.getElem?_toArray, List.getElem?_cons_succ, List.getElem?_cons_zero]; rfl)); (case hq39 => exact fun _ _ _ h => h); (case hw39 => rfl); (case hy39 => (intro w hSw; (try dsimp only at hSw); go_simp; try (with_reducible rfl))); (try simp only [Act.put, List.setIfInBounds_toArray, List.set_cons_zero, List.set_cons_succ])) | (refine wpAnyH_take (i := 21) (oi := ?oi40) (v := undef) ?hi40 (by kernel_rfl) (by kernel_rfl) (by kernel_rfl) ?hq40 (Or.inr ⟨?hw40, rfl⟩) (by assumption) ?rest40; (case hi40 => (simp only [List.getElem?_toArray, List.getElem?_cons_succ, List.getElem?_cons_zero]; rfl)); (case hq40 => exact fun _ _ _ h => h); (case hw40 => rfl); (try simp only [Act.put, List.setIfInBounds_toArray, List.set_cons_zero, List.set_cons_succ]))
                    refine wpAnyH_ready (rs := [22]) (by kernel_rfl) (by simp) ?_
                    refine AllReadyH.cons (o := ?zoc14) ?zhc14 (fun K hK => ?zst14) ?zmo14
                    case zhc14 => (simp only [List.getElem?_toArray, List.getElem?_cons_succ, List.getElem?_cons_zero]; rfl)
                    case zst14 =>
                      go_simp
                      refine hK.out _ _ ?_ (fun hHeld => ?_)
                      · (first | exact KS.out _ | exact KP.out | exact KB.out | exact KA.out | exact ⟨y1, y2, hca, hcb, hcm⟩)
                      clear hK K
                      try simp only [Act.put, List.setIfInBounds_toArray, List.set_cons_zero, List.set_cons_succ]
                      refine wpAnyH_done (by kernel_rfl) ?_ _
                      have HSG := Lib.hid (HS2.out.row (w1 := w9.alloc (.cells #[.slice Au rr.length cu] 23)) (w2 := w2') (u := .slice Au rr.length cu) (r := rr) (hb9.alloc hb9.size _) (hu9.out.alloc _) ho2.out hg.out hfr.out)
                      have hrv2 := Lib.hid (fun g e => (hfr.out g e).elim (fun h1 => HRV.out g h1) (fun h1 => Nat.le_trans HSZ9.out (by simp at h1; omega)))
                      have hbg := Lib.hid ((below_step HB2.out (hb9.alloc hb9.size (.cells #[.slice Au rr.length cu] 23))).grown hg.out (Nat.le_trans HB2.out.size (by have := hb9.size; simp; omega)) (fun k e => HRV.out k e))
                      go_wp2
                      go_roundw
                      case rel => exact ⟨j + 1, ov, _, _, by omega, by go_num, by rw [HSN.out, HW.out]; exact HSG, Lib.hid (hbg.out.setCell (p := ⟨w3.heap.size, 0, none⟩) hlo1 _), HOV, hrv2⟩
                      case measure => simp [intOf]; omega
                    case zmo14 =>
                      exact AllReadyH.nil
                  case zmo13 =>
                    exact AllReadyH.nil
                case zmo12 =>
                  exact AllReadyH.nil
              case zmo11 =>
                exact AllReadyH.nil
          case zmo6 =>
            exact AllReadyH.nil
      · -- one
        have HW := Lib.hid (show zStep (gbZ off) (gbR off) key off ⟨l, rws, ons⟩ ⟨3, ga, gb⟩ = ⟨l ++ [digM [key, (m : Int), 13, 0]], rws, ons ++ [xorI (digM [key, (m : Int), 13, 0]) off]⟩ by unfold zStep; simp only [Int.reduceEq, if_false, if_true]; rw [HLS.out])
        have hel := HMADE.out (digM [key, (m : Int), 13, 0]) (by rw [HSN.out, HW.out])
        rw [hel] at hcm
        have hd := digM_bd [key, (m : Int), 13, 0]
        generalize digM [key, (m : Int), 13, 0] = z at *
        have hxor := bits_xor hd.1 ho.1 (by omega) (by omega)
        have xo0 := xo.out _ (Below.refl _ _)
        have xo1 := xo.out _ ((Below.refl _ _).alloc (Nat.le_refl _) (.cells #[.int .i64 (xorI z off)] 3))
        have HOW : Hid (OwnI w5.drew w0.heap.size ov ons) := Lib.hid (own_drew HS2.out.own.ones)
        have hszd : w0.heap.size ≤ w5.drew.heap.size := hsz05
        have hb9 := (Below.refl w5.heap.size w5).drew
        clear hel hgb
        go_wp2_with fail
        go_region_law (first
          | (refine step_app1 (B := w0.heap.size) (by rfl) (by rfl) Try.underlying23 info_int rfl (HOW.out.alloc _) (cell_new w5.drew _ _) (by rfl) (by rfl) rfl (by unfold maxLen; omega) (by omega) (by simp; omega) ?_; intro v' w2' ho2 hg hfr; have HON := Lib.hid (OwnI.snoc ho2); have hov2 := Lib.hid (fun g e => (hfr g e).elim (fun h1 => HOV.out g h1) (fun h1 => Nat.le_trans HB2.out.size (by simp at h1; omega))); have HSG := Lib.hid (HS2.out.one (hb9.alloc hb9.size (.cells #[.int .i64 (xorI z off)] 3)) HON.out hg hfr); have hbg := Lib.hid ((below_step HB2.out (hb9.alloc hb9.size (.cells #[.int .i64 (xorI z off)] 3))).grown hg (Nat.le_trans HB2.out.size (by have := hb9.size; simp)) (fun k e => HOV.out k e)); have hk2 := ((HS2.out.step hb9).blk.alloc (.cells #[.int .i64 (xorI z off)] 3)).grown hg (fun e => HS2.out.far ov (by simp) e.symm); have z1 : w2'.cell? ⟨w3.heap.size, 1, none⟩ = some ov := hk2.cell 1; have zf := hk2.free 1; clear hk2; obtain ⟨Av, cv9, ev, -⟩ := HON.out.ints; simp only [List.length_append, List.length_cons, List.length_nil, Nat.zero_add] at ev; subst ev))
        all_goals
          go_wp2
          go_roundw
          case rel => exact ⟨j + 1, _, rv, vs, by omega, by go_num, by rw [HSN.out, HW.out]; exact HSG, Lib.hid (hbg.out.setCell (p := ⟨w3.heap.size, 1, none⟩) hlo1 _), hov2, HRV⟩
          case measure => simp [intOf]; omega
      · have HW := Lib.hid (show (zStep (gbZ off) (gbR off) key off ⟨l, rws, ons⟩ ⟨gk, ga, gb⟩).ones = ons ∧ (zStep (gbZ off) (gbR off) key off ⟨l, rws, ons⟩ ⟨gk, ga, gb⟩).rows = rws by
          unfold zStep
          by_cases e0 : gk = 0
          · simp [e0]
          · have e2 : gk = 2 := by omega
            simp [e2])
        clear hmz' HMADE hcm hgb HELT
        go_wp2
        go_roundw
        case rel => exact ⟨j + 1, ov, rv, vs, by omega, by go_num, by rw [HSN.out, HW.out.1, HW.out.2]; exact HS2, HB2, HOV, HRV⟩
        case measure => simp [intOf]; omega
    · obtain rfl : j = c.gs.length := by omega
      have HO2 : Hid (Sta 49 wa w0 w3.heap.size rv ov (.slice A3 cols.length c3) vs ⟨rows, ones, cols⟩) := by have h := HS.out; rw [List.take_of_length_le (Nat.le_refl _), HSE.out] at h; exact h
      clear HS
      obtain ⟨Ar, cr, rfl, -⟩ := HO2.out.own.rows.rowsIn.form
      obtain ⟨Ao, co', rfl, -⟩ := HO2.out.own.ones.ints
      have z0 : wa.cell? ⟨w3.heap.size, 0, none⟩ = some _ := HO2.out.blk.cell 0
      have z1 : wa.cell? ⟨w3.heap.size, 1, none⟩ = some _ := HO2.out.blk.cell 1
      have z2 : wa.cell? ⟨w3.heap.size, 2, none⟩ = some _ := HO2.out.blk.cell 2
      have hR := HR.out.below HO2.out.below HR.out.lt
      have y0 : wa.cell? ⟨w.heap.size + 1, 0, none⟩ = some (.slice none 0 0) := hR.cell 0
      have y1 : wa.cell? ⟨w.heap.size + 1, 1, none⟩ = some (.slice none 0 0) := hR.cell 1
      have y2 : wa.cell? ⟨w.heap.size + 1, 2, none⟩ = some (.slice none 0 0) := hR.cell 2
      have yf0 := hR.free 0
      have yf1 := hR.free 1
      have yf2 := hR.free 2
      have hlow := HR.out.lt
      have hRl := hR.lt
      have hBf := HBW
      clear hR
      go_wp2
      refine bodyPost_ret (v := gbV (.slice Ar rows.length cr) (.slice Ao ones.length co') (.slice A3 cols.length c3)) (by simp [results, Try.results62, go_sem, gbV, y0, y1, y2]) rfl ⟨_, _, _, vs, rfl, ?_, ?_⟩
      · rw [HT.out]
        exact (((HO2.out.own.setLow hlow 0 _).setLow hlow 1 _).setLow hlow 2 _).mono (by omega)
      · exact ((hBf.out.setCell (p := ⟨w.heap.size + 1, 0, none⟩) (by simp) _).setCell (p := ⟨w.heap.size + 1, 1, none⟩) (by simp) _).setCell (p := ⟨w.heap.size + 1, 2, none⟩) (by simp) _
end Go.Proofs.Ytllaojfgenopbaa
