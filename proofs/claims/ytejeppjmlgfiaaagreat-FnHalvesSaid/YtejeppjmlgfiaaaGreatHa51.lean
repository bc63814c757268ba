/- Contracts of whole runs of garbled and halved circuits, the reference's. Conditions: the lists are short. -/
import Derived.Test.YtejeppjmlgfiaaaGreatHa40
import Derived.Test.YtejeppjmlgfiaaaGreatHa44
import Derived.Test.YtejeppjmlgfiaaaGreatHa50
import Derived.Test.YtejeppjmlgfiaaaGreatHa30
namespace Go.Proofs.YtejeppjmlgfiaaaGreat
open Go.RowKit
set_option linter.unusedVariables false

set_option maxRecDepth 100000 in
set_option maxHeartbeats 4000000 in
theorem c_spec_RunHalved {c : Cir} {gv ov va vb : Value} {key : Int} {a b : List Int} {w : World} (h : CirIn w gv ov c) (ha : Ints w va a) (hb : Ints w vb b) (hla : a.length ≤ 1048576) (hlb : b.length ≤ 1048576) :
    Calls Tryz.prog 8 #[cirV c gv ov, .int .i64 key, va, vb] w (RetIB w (runM joinM hgZ hgR c key a b)) := by
  have H := Lib.hid h
  have HVA := Lib.hid ha
  have HVB := Lib.hid hb
  obtain ⟨hg, hoo⟩ := h
  obtain ⟨A, cg, rfl, -⟩ := hg
  obtain ⟨A', co, rfl, -⟩ := hoo
  obtain ⟨Aa, ca, rfl, -⟩ := ha
  obtain ⟨Ab, cb, rfl, -⟩ := hb
  unfold cirV
  obtain ⟨w0, hw0⟩ : ∃ W, w.alloc (.cells #[.int .i64 c.i0, .int .i64 c.i1, .slice A c.gs.length cg, .slice A' c.outs.length co] 26) = W := ⟨_, rfl⟩
  have HKC : Hid (Blk w0 w.heap.size 26 #[.int .i64 c.i0, .int .i64 c.i1, .slice A c.gs.length cg, .slice A' c.outs.length co]) := by rw [← hw0]; exact Blk.new _ _ _
  have HB : Hid (Below w.heap.size w w0) := by rw [← hw0]; exact (Below.refl _ _).alloc (Nat.le_refl _) _
  have x0 : w0.cell? ⟨w.heap.size, 0, none⟩ = some (.int .i64 c.i0) := HKC.out.cell 0
  have x1 : w0.cell? ⟨w.heap.size, 1, none⟩ = some (.int .i64 c.i1) := HKC.out.cell 1
  have x2 : w0.cell? ⟨w.heap.size, 2, none⟩ = some (.slice A c.gs.length cg) := HKC.out.cell 2
  have x3 : w0.cell? ⟨w.heap.size, 3, none⟩ = some (.slice A' c.outs.length co) := HKC.out.cell 3
  go_enter Tryz.func8, Tryz.ntmps8
  go_wp2_with fail
  clear hw0 x0 x1 x2 x3
  refine (c_spec_ciAsked (H.out.below HB.out) (HVA.out.below HB.out) (HVB.out.below HB.out) hla hlb).mono ?_
  rintro e w1 ⟨rfl, hb1⟩
  have HB1 := Lib.hid (below_step HB.out hb1)
  replace HKC := Lib.hid (HKC.out.step hb1)
  clear hb1
  rcases hq : askedB c a b with _ | _
  · have HM := Lib.hid (show runM joinM hgZ hgR c key a b = none by unfold runM; rw [hq, Bool.false_and]; rfl)
    go_wp2
    go_ret2
    rw [HM.out]
    exact RetIB.no_below HB1.out
  have HQ := Lib.hid hq
  clear hq
  rcases hk : inB key 0 1000000000 with _ | _
  · have HM := Lib.hid (show runM joinM hgZ hgR c key a b = none by unfold runM; rw [hk, Bool.and_false]; rfl)
    go_wp2_with fail
    refine (c_spec_otKey).mono ?_
    rintro e w' ⟨rfl, rfl⟩
    rw [hk]
    go_wp2
    go_ret2
    rw [HM.out]
    exact RetIB.no_below HB1.out
  have HM := Lib.hid (show runM joinM hgZ hgR c key a b = some (xorsM (coloursM (outsM joinM hgZ hgR c key a b)) (tabM (hgZ (offM key)) (hgR (offM key)) key (offM key) c).cols) by unfold runM; rw [HQ.out, hk]; rfl)
  have hq := HQ.out
  have HC := Lib.hid (askedB_of hq).1
  have ho := off_lab key
  have hkb := inB_bd hk
  have ht := hg_tab_ok (key := key) HC.out ho
  have HT := Lib.hid ht
  have HIN := Lib.hid (asked_in hq)
  have HIL := Lib.hid (run_inl (key := key) hq)
  have HIB := Lib.hid (lbIn_bd (key := key) ho (asked_in hq).2)
  have HOB := Lib.hid (run_bd (F := joinM) ht hq joinM_ok)
  have HOD := Lib.hid (show outsM joinM hgZ hgR c key a b = pickM (wiresM joinM (tabM (hgZ (offM key)) (hgR (offM key)) key (offM key) c) (lbInM key (offM key) (a ++ b)) c.gs).1 c.outs from rfl)
  have HMK := Lib.hid (fun (W : World) (hW : Below w.heap.size w W) => c_spec_hgMake (H.out.below hW) HC.out hkb ho)
  unfold cirV at HMK
  have hcb := cirB_bd HC.out
  have hab : (a ++ b).length ≤ 40 := by have := HIN.out.1; unfold Cir.ins at this; omega
  have hol : c.outs.length ≤ 40 := hcb.2.2.2.2.2
  have hcl : (tabM (hgZ (offM key)) (hgR (offM key)) key (offM key) c).cols.length = c.outs.length := by have := (tabB_of ht).2.2.2.2.1; omega
  have HCL := Lib.hid hcl
  clear ht hq hcb hcl
  generalize tabM (hgZ (offM key)) (hgR (offM key)) key (offM key) c = T at *
  go_wp2_with fail
  refine (c_spec_otKey).mono ?_
  rintro e w' ⟨rfl, rfl⟩
  rw [hk]
  go_wp2_with fail
  refine (c_spec_lbFrom (by omega)).mono ?_
  rintro e w2 ⟨rfl, hb2⟩
  generalize offM key = off at *
  have HB2 := Lib.hid (below_step HB1.out hb2)
  replace HKC := Lib.hid (HKC.out.step hb2)
  have x0 : w2.cell? ⟨w.heap.size, 0, none⟩ = some (.int .i64 c.i0) := HKC.out.cell 0
  have x1 : w2.cell? ⟨w.heap.size, 1, none⟩ = some (.int .i64 c.i1) := HKC.out.cell 1
  have x2 : w2.cell? ⟨w.heap.size, 2, none⟩ = some (.slice A c.gs.length cg) := HKC.out.cell 2
  have x3 : w2.cell? ⟨w.heap.size, 3, none⟩ = some (.slice A' c.outs.length co) := HKC.out.cell 3
  clear hb2
  go_wp2_with fail
  clear x0 x1 x2 x3
  refine (HMK.out _ HB2.out).mono ?_
  rintro e w3 ⟨uz, rv, nv, cv, vs, rfl, -, hz, hb3⟩
  obtain ⟨Ar, cr, rfl, -⟩ := hz.rows.rowsIn.form
  obtain ⟨Ao, co', rfl, -⟩ := hz.ones.ints
  obtain ⟨Ac, cc, rfl, -⟩ := hz.cols.ints
  have HZ := Lib.hid hz
  have HB3 := Lib.hid (below_step HB2.out hb3)
  replace HKC := Lib.hid (HKC.out.step hb3)
  unfold gbV
  clear hz hb3
  go_wp2_with fail
  obtain ⟨W4, hW4⟩ : ∃ W, w3.alloc (.cells #[.slice Ar T.rows.length cr, .slice Ao T.ones.length co', .slice Ac T.cols.length cc] 35) = W := ⟨_, rfl⟩
  rw [hW4]
  have HKG : Hid (Blk W4 w3.heap.size 35 #[.slice Ar T.rows.length cr, .slice Ao T.ones.length co', .slice Ac T.cols.length cc]) := by rw [← hW4]; exact Blk.new _ _ _
  have HB4 : Hid (Below w.heap.size w W4) := by rw [← hW4]; exact Lib.hid (HB3.out.alloc HB3.out.size _)
  have HG4 : Hid (GbIn W4 (.slice Ar T.rows.length cr) (.slice Ao T.ones.length co') (.slice Ac T.cols.length cc) T) := by rw [← hW4]; exact Lib.hid (HZ.out.gbIn.alloc _)
  replace HKC : Hid (Blk W4 w.heap.size 26 #[.int .i64 c.i0, .int .i64 c.i1, .slice A c.gs.length cg, .slice A' c.outs.length co]) := by rw [← hW4]; exact Lib.hid (HKC.out.alloc _)
  clear hW4
  have q0 : ∀ W, Below W4.heap.size W4 W → W.cell? ⟨w.heap.size, 0, none⟩ = some (.int .i64 c.i0) := belowCell (HKC.out.cell 0)
  have q1 : ∀ W, Below W4.heap.size W4 W → W.cell? ⟨w.heap.size, 1, none⟩ = some (.int .i64 c.i1) := belowCell (HKC.out.cell 1)
  have q2 : ∀ W, Below W4.heap.size W4 W → W.cell? ⟨w.heap.size, 2, none⟩ = some (.slice A c.gs.length cg) := belowCell (HKC.out.cell 2)
  have q3 : ∀ W, Below W4.heap.size W4 W → W.cell? ⟨w.heap.size, 3, none⟩ = some (.slice A' c.outs.length co) := belowCell (HKC.out.cell 3)
  have r0 : ∀ W, Below W4.heap.size W4 W → W.cell? ⟨w3.heap.size, 0, none⟩ = some (.slice Ar T.rows.length cr) := belowCell (HKG.out.cell 0)
  have r1 : ∀ W, Below W4.heap.size W4 W → W.cell? ⟨w3.heap.size, 1, none⟩ = some (.slice Ao T.ones.length co') := belowCell (HKG.out.cell 1)
  have r2 : ∀ W, Below W4.heap.size W4 W → W.cell? ⟨w3.heap.size, 2, none⟩ = some (.slice Ac T.cols.length cc) := belowCell (HKG.out.cell 2)
  have Q := Lib.hid (And.intro q3 r2)
  go_region_held3 (fun W => Below W4.heap.size W4 W)
    (first | (refine below_step ?_ HD.out; assumption) | (exact (Below.refl _ _).drew))
    (first
      | (go_at_call 66; refine (c_spec_ciJoin (HVA.out.below (below_step HB4.out (Below.refl _ _).drew)) (HVB.out.below (below_step HB4.out (Below.refl _ _).drew)) hla hlb).mono ?_; rintro e wa ⟨u, rfl, hu, hb⟩; have HU := Lib.hid hu.ints; have HF := Lib.hid (show Below W4.heap.size W4 wa from below_step (Below.refl _ _).drew hb); have HD := Lib.hid hb)
      | (go_at_call 65; refine (c_spec_lbInputs HU.out (by omega) HIN.out.2 hkb ho).mono ?_; rintro e wb ⟨u2, rfl, hu, hb⟩; have HU2 := Lib.hid hu.ints; have HF2 := Lib.hid (show Below W4.heap.size W4 wb from below_step HF.out hb); have HD := Lib.hid hb)
      | (go_at_call 64; refine (c_spec_hgEval (H.out.below (below_step HB4.out HF2.out)) HC.out (HG4.out.below HF2.out) HT.out HU2.out HIL.out HIB.out).mono ?_; rintro e wc ⟨u3, rfl, hu, hb⟩; have HU5 := Lib.hid (show Ints wc u3 (outsM joinM hgZ hgR c key a b) by rw [HOD.out]; exact hu.ints); have HF3 := Lib.hid (show Below W4.heap.size W4 wc from below_step HF2.out hb); have HD := Lib.hid hb))
  have hE : Below W4.heap.size W4 wc := by assumption
  clear q0 q1 q2 r0 r1 HU HU2 HF HF2 HD
  have hF3 := HF3.out
  have HB5 := Lib.hid (below_step HB4.out hE)
  obtain ⟨Au, cu, rfl, -⟩ := HU5.out
  go_wp2_with fail
  go_region_held3 (fun W => Below W4.heap.size W4 W)
    (first | (refine below_step ?_ HD.out; assumption) | (exact hF3.drew))
    (first
      | (go_at_call 68; refine (c_spec_lbColours (HU5.out.below (Below.refl _ _).drew) (by unfold outsM; rw [pickM_length]; omega) (fun x hx => by have := HOB.out x hx; omega)).mono ?_; rintro e we ⟨u6, rfl, hu, hb⟩; have HU6 := Lib.hid hu.ints; have HF6 := Lib.hid (show Below W4.heap.size W4 we from below_step hF3.drew hb); have HD := Lib.hid hb)
      | (go_at_call 67; refine (c_spec_btXor HU6.out (HG4.out.below HF6.out).cols (by rw [coloursM_length]; unfold outsM; rw [pickM_length]; omega) (by rw [coloursM_length, HCL.out]; unfold outsM; rw [pickM_length]) (coloursM_i64 _) (cols_i64 HT.out)).mono ?_; rintro e wf ⟨u7, rfl, hu, hb⟩; have HD := Lib.hid hb; have HU7 := Lib.hid hu))
  have hE : Below W4.heap.size W4 wf := by assumption
  have hsz : w.heap.size ≤ we.heap.size := Nat.le_trans HB4.out.size HF6.out.size
  go_wp2
  go_ret2; rw [HM.out]
  exact RetIB.yes (HU7.out.mono hsz) (below_step HB4.out hE)
end Go.Proofs.YtejeppjmlgfiaaaGreat
