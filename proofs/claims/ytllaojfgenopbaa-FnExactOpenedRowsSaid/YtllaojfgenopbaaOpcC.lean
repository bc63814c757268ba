/- Contracts of the rows that are used. Conditions: the lists are short. -/
import Derived.Test.YtllaojfgenopbaaOpcA
import Derived.Test.YtllaojfgenopbaaTed
import Derived.Test.YtllaojfgenopbaaZet
import Derived.Test.YtllaojfgenopbaaWirG
import Derived.Test.YtllaojfgenopbaaInpL
namespace Go.Proofs.Ytllaojfgenopbaa
open Go.RowKit
set_option linter.unusedVariables false

/-- The rows that are used. -/
def opensM (c : Cir) (key off : Int) (a b : List Int) : Option (List Int) := if askedB c a b && inB key 0 1000000000 && offB off then some (usedM openM (tabM (gbZ off) (gbR off) key off c) (lbInM key off (a ++ b)) c.gs).2 else none
theorem opens_len (c : Cir) (key off : Int) (a b : List Int) : ((opensM c key off a b).getD []).length ≤ 300 := by
  unfold opensM
  rcases h : askedB c a b && inB key 0 1000000000 && offB off with _ | _
  · simp
  · simp only [Bool.and_eq_true] at h
    have hc := (askedB_of h.1.1).1
    have hb := cirB_bd hc
    have h1 := used_len (F := openM) (T := tabM (gbZ off) (gbR off) key off c) (inp := lbInM key off (a ++ b)) (cirB_kinds hc) c.gs.length (Nat.le_refl _)
    rw [List.take_of_length_le (Nat.le_refl _)] at h1
    have h2 := cnt_bd 1 c.gs
    simp only [if_true, Option.getD_some]
    omega
theorem lbIn_bd' {key r : Int} {l : List Int} (hr : 0 ≤ r ∧ r ≤ 65535) (hb : allB l 0 1 = true) : ∀ x ∈ lbInM key r l, 0 ≤ x ∧ x ≤ 65535 := by
  intro x hx
  unfold lbInM at hx
  rw [List.mem_mapIdx] at hx
  obtain ⟨i, h, rfl⟩ := hx
  have h1 := digM_bd [key, (i : Int), 13, 0]
  have h2 := off_bit hr (bit_cases hb (List.getElem_mem h))
  exact xorI_bd h1.1 h2.1 h1.2 h2.2
theorem asked_in' {c : Cir} {a b : List Int} (h : askedB c a b = true) : ((a ++ b).length : Int) = c.ins ∧ allB (a ++ b) 0 1 = true := by
  have := askedB_of h
  refine ⟨by unfold Cir.ins; rw [List.length_append]; omega, ?_⟩
  unfold allB at *
  rw [List.all_append, this.2.1, this.2.2.1]; rfl
theorem c_spec_gbKeys' {c : Cir} {gv ov : Value} {key off : Int} {w : World} (h : CirIn w gv ov c) :
    Calls Try.prog 43 #[cirV c gv ov, .int .i64 key, .int .i64 off] w fun e w' => e = .returned (.bool (cirB c && inB key 0 1000000000 && offB off)) ∧ Below w.heap.size w w' := by
  have H := Lib.hid h
  obtain ⟨hg, hoo⟩ := h
  obtain ⟨A, cg, rfl, -⟩ := hg
  obtain ⟨A', co, rfl, -⟩ := hoo
  have HB := Lib.hid ((Below.refl w.heap.size w).alloc (Nat.le_refl _) (.cells #[.int .i64 c.i0, .int .i64 c.i1, .slice A c.gs.length cg, .slice A' c.outs.length co] 31))
  unfold cirV
  rcases h1 : cirB c with _ | _ <;> rcases h2 : inB key 0 1000000000 with _ | _ <;> rcases h3 : offB off with _ | _
  all_goals
    go_enter Try.func43, Try.ntmps43
    go_wp2_with fail
    refine (c_spec_ciGood (H.out.alloc _)).mono ?_
    rintro e w1 ⟨rfl, hb⟩
    rw [h1]
    have HB2 := Lib.hid (below_step HB.out hb)
    clear hb
    go_wp2_with (first | (go_at_call 80; refine (c_spec_shKey).mono ?_; rintro e w' ⟨rfl, rfl⟩) | (go_at_call 84; refine (c_spec_lbOffset).mono ?_; rintro e w' ⟨rfl, rfl⟩))
    go_ret
    exact ⟨by simp, HB2.out⟩
theorem made_g {off : Int} {w : World} : Calls Try.prog 48 #[.int .i64 off] w fun e w' => ∃ q, e = .returned (.func (.func 94) #[] #[.pointer (some ⟨q, 0, none⟩)]) ∧ w'.cell? ⟨q, 0, none⟩ = some (.int .i64 off) ∧ Below w.heap.size w w' := by
  refine (c_impl_garbledAnd).mono ?_
  rintro e w' ⟨rfl, rfl⟩
  exact ⟨_, rfl, cell_new _ _ _, (Below.refl _ _).alloc (Nat.le_refl _) _⟩
set_option maxRecDepth 100000 in
set_option maxHeartbeats 4000000 in
theorem c_impl_OpenedRows {c : Cir} {gv ov va vb : Value} {key off : Int} {a b : List Int} {w : World} (h : CirIn w gv ov c) (ha : Ints w va a) (hb : Ints w vb b) (hla : a.length ≤ 1048576) (hlb : b.length ≤ 1048576) :
    Calls Try.prog 36 #[cirV c gv ov, .int .i64 key, .int .i64 off, va, vb] w (RetIB w (opensM c key off a b)) := by
  have H := Lib.hid h
  have HVA := Lib.hid ha
  have HVB := Lib.hid hb
  obtain ⟨hg, hoo⟩ := h
  obtain ⟨A, cg, rfl, -⟩ := hg
  obtain ⟨A', co, rfl, -⟩ := hoo
  obtain ⟨Aa, ca, rfl, -⟩ := ha
  obtain ⟨Ab, cb, rfl, -⟩ := hb
  unfold cirV
  obtain ⟨w0, hw0⟩ : ∃ W, w.alloc (.cells #[.int .i64 c.i0, .int .i64 c.i1, .slice A c.gs.length cg, .slice A' c.outs.length co] 31) = W := ⟨_, rfl⟩
  have HKC : Hid (Blk w0 w.heap.size 31 #[.int .i64 c.i0, .int .i64 c.i1, .slice A c.gs.length cg, .slice A' c.outs.length co]) := by rw [← hw0]; exact Blk.new _ _ _
  have HB : Hid (Below w.heap.size w w0) := by rw [← hw0]; exact (Below.refl _ _).alloc (Nat.le_refl _) _
  have x0 : w0.cell? ⟨w.heap.size, 0, none⟩ = some (.int .i64 c.i0) := HKC.out.cell 0
  have x1 : w0.cell? ⟨w.heap.size, 1, none⟩ = some (.int .i64 c.i1) := HKC.out.cell 1
  have x2 : w0.cell? ⟨w.heap.size, 2, none⟩ = some (.slice A c.gs.length cg) := HKC.out.cell 2
  have x3 : w0.cell? ⟨w.heap.size, 3, none⟩ = some (.slice A' c.outs.length co) := HKC.out.cell 3
  go_enter Try.func36, Try.ntmps36
  go_wp2_with fail
  clear hw0 x0 x1 x2 x3
  refine (c_impl_InputLabels (H.out.below HB.out) (HVA.out.below HB.out) (HVB.out.below HB.out) hla hlb).mono ?_
  rintro e w1 ⟨u, rfl, hu, hb1⟩
  rcases hq : askedB c a b && inB key 0 1000000000 && offB off with _ | _
  · have HM := Lib.hid (show opensM c key off a b = none by unfold opensM; rw [hq]; rfl)
    have hI : inputM c key off a b = none := by unfold inputM; rw [hq]; rfl
    rw [hI] at hu ⊢
    go_wp2
    go_ret2
    rw [HM.out]
    exact RetIB.no_below (below_step HB.out hb1)
  have HM := Lib.hid (show opensM c key off a b = some (usedM openM (tabM (gbZ off) (gbR off) key off c) (lbInM key off (a ++ b)) c.gs).2 by unfold opensM; rw [hq]; rfl)
  have hI : inputM c key off a b = some (lbInM key off (a ++ b)) := by unfold inputM; rw [hq]; rfl
  rw [hI] at hu ⊢
  simp only [Bool.and_eq_true] at hq
  have HQ := Lib.hid hq.1.1
  have hkb := inB_bd hq.1.2
  have hob := offB_bd hq.2
  have ho : 0 ≤ off ∧ off ≤ 65535 := ⟨hob.1, hob.2.1⟩
  have HC := Lib.hid (askedB_of hq.1.1).1
  have HTO := Lib.hid (gb_tab_ok (key := key) HC.out ho)
  have HIN := Lib.hid (asked_in' hq.1.1)
  have HIL := Lib.hid (show ((lbInM key off (a ++ b)).length : Int) = c.ins by rw [lbInM_length]; exact HIN.out.1)
  have HIB := Lib.hid (lbIn_bd' (key := key) ho HIN.out.2)
  have HT := Lib.hid (fun (W : World) (q : Nat) (hW : Below w.heap.size w W) (hq : W.cell? ⟨q, 0, none⟩ = some (.int .i64 off)) => c_tables_garbledAnd (H.out.below hW) HC.out hkb ho hq)
  unfold cirV at HT
  have HU := Lib.hid (show OwnI w1 w0.heap.size u (lbInM key off (a ++ b)) from hu)
  clear hI hq hob hu
  generalize tabM (gbZ off) (gbR off) key off c = T at *
  generalize lbInM key off (a ++ b) = inp at *
  obtain ⟨Au, cu, rfl, -⟩ := HU.out.ints
  have HB1 := Lib.hid (below_step HB.out hb1)
  replace HKC := Lib.hid (HKC.out.step hb1)
  clear hb1
  obtain ⟨w2, hw2⟩ : ∃ W, (w1.alloc (.cells #[] 3)).alloc (.cells #[.slice (some ⟨w1.heap.size, 0, none⟩) 0 0] 23) = W := ⟨_, rfl⟩
  have HKP : Hid (Kep w2 (w1.heap.size + 1) w1.heap.size (.slice (some ⟨w1.heap.size, 0, none⟩) 0 0) []) := by
    rw [← hw2]
    refine ⟨?_, (OwnI.empty (Nat.le_refl _)).alloc _, fun g e => by simp [Value.ownBlock] at e; omega⟩
    have := Blk.new (w1.alloc (.cells #[] 3)) 23 #[.slice (some ⟨w1.heap.size, 0, none⟩) 0 0]
    simp only [World.size_alloc] at this; exact this
  have HL2 : Hid (Below w1.heap.size w1 w2) := by rw [← hw2]; exact Lib.hid (((Below.refl _ _).alloc (Nat.le_refl _) _).alloc (by simp) _)
  have hs2 : w2.heap.size = w1.heap.size + 2 := by rw [← hw2]; simp
  have q0 : ∀ W, Below w1.heap.size w1 W → W.cell? ⟨w.heap.size, 0, none⟩ = some (.int .i64 c.i0) := belowCell (HKC.out.cell 0)
  have q1 : ∀ W, Below w1.heap.size w1 W → W.cell? ⟨w.heap.size, 1, none⟩ = some (.int .i64 c.i1) := belowCell (HKC.out.cell 1)
  have q2 : ∀ W, Below w1.heap.size w1 W → W.cell? ⟨w.heap.size, 2, none⟩ = some (.slice A c.gs.length cg) := belowCell (HKC.out.cell 2)
  have q3 : ∀ W, Below w1.heap.size w1 W → W.cell? ⟨w.heap.size, 3, none⟩ = some (.slice A' c.outs.length co) := belowCell (HKC.out.cell 3)
  have Q := Lib.hid (And.intro q0 (And.intro q1 (And.intro q2 q3)))
  clear q0 q1 q2 q3
  go_wp2_with fail
  clear hw2
  have q0 := Q.out.1
  have q1 := Q.out.2.1
  have q2 := Q.out.2.2.1
  have q3 := Q.out.2.2.2
  have hl2 := HL2.out
  go_region_held3 (fun W => Below w1.heap.size w1 W)
    (first | assumption | (exact HS.out) | (exact hl2.drew))
    (first
      | (go_at_call 48; refine (made_g).mono ?_; rintro e wa ⟨q, rfl, hqa, hb⟩; replace hqa := Lib.hid hqa; have HD := Lib.hid hb; have hLa : Below w1.heap.size w1 wa := below_step hl2.drew hb; have HKA := Lib.hid (HKP.out.below (below_step (Below.refl _ _).drew hb)); have hsa : w2.heap.size ≤ wa.heap.size := hb.size)
      | (go_at_call 58; refine (HT.out _ q (below_step HB1.out hLa) hqa.out).mono ?_; rintro e wz ⟨rv, nv, cv, vs, rfl, hz, hb⟩; obtain ⟨Ar, cr, rfl, -⟩ := hz.rows.rowsIn.form; obtain ⟨Ao, co', rfl, -⟩ := hz.ones.ints; obtain ⟨Ac, cc, rfl, -⟩ := hz.cols.ints; replace hz := Lib.hid (hz.mono (Nat.le_trans (Nat.le_of_eq hs2.symm) hsa)); have HD := Lib.hid hb; have hLz : Below w1.heap.size w1 wz := below_step hLa hb; have HKZ := Lib.hid (HKA.out.below hb); have hsz : w1.heap.size + 2 ≤ wz.heap.size := Nat.le_trans (Nat.le_trans (Nat.le_of_eq hs2.symm) hsa) hb.size; unfold gbV)
      | (go_at_call 68; refine (c_labels_kept (C := w1.heap.size + 2) hLz (H.out.below HB1.out) HC.out hz.out HKZ.out (fun g e => by simp [Value.ownBlock] at e; omega) ⟨Nat.le_succ _, Nat.lt_succ_self _, hsz⟩ HTO.out HU.out.ints HIL.out HIB.out).mono ?_; rintro e wl ⟨v, ul, rfl, hkl, hb⟩; have HKL := Lib.hid hkl; have HS := Lib.hid hb; clear hkl hb))
  all_goals
    obtain ⟨Av, cv, rfl, -⟩ := HKL.out.own.ints
    have z0 : wl.cell? ⟨w1.heap.size + 1, 0, none⟩ = some _ := HKL.out.blk.cell 0
    go_wp2
    go_ret2
    rw [HM.out]
    exact RetIB.yes (HKL.out.own.mono HB1.out.size) (below_step HB1.out HS.out)
set_option maxRecDepth 100000 in
set_option maxHeartbeats 4000000 in
theorem c_spec_OpenedRows {c : Cir} {gv ov va vb : Value} {key off : Int} {a b : List Int} {w : World} (h : CirIn w gv ov c) (ha : Ints w va a) (hb : Ints w vb b) (hla : a.length ≤ 1048576) (hlb : b.length ≤ 1048576) :
    Calls Try.prog 35 #[cirV c gv ov, .int .i64 key, .int .i64 off, va, vb] w (RetIB w (opensM c key off a b)) := by
  have H := Lib.hid h
  have HVA := Lib.hid ha
  have HVB := Lib.hid hb
  obtain ⟨hg, hoo⟩ := h
  obtain ⟨A, cg, rfl, -⟩ := hg
  obtain ⟨A', co, rfl, -⟩ := hoo
  obtain ⟨Aa, ca, rfl, -⟩ := ha
  obtain ⟨Ab, cb, rfl, -⟩ := hb
  have HKY := Lib.hid (fun (W : World) (hW : Below w.heap.size w W) => c_spec_gbKeys' (key := key) (off := off) (H.out.below hW))
  have HAS := Lib.hid (fun (W : World) (hW : Below w.heap.size w W) => c_spec_ciAsked (H.out.below hW) (HVA.out.below hW) (HVB.out.below hW) hla hlb)
  unfold cirV at HKY HAS ⊢
  obtain ⟨w0, hw0⟩ : ∃ W, w.alloc (.cells #[.int .i64 c.i0, .int .i64 c.i1, .slice A c.gs.length cg, .slice A' c.outs.length co] 31) = W := ⟨_, rfl⟩
  have HKC : Hid (Blk w0 w.heap.size 31 #[.int .i64 c.i0, .int .i64 c.i1, .slice A c.gs.length cg, .slice A' c.outs.length co]) := by rw [← hw0]; exact Blk.new _ _ _
  have HB : Hid (Below w.heap.size w w0) := by rw [← hw0]; exact (Below.refl _ _).alloc (Nat.le_refl _) _
  have x0 : w0.cell? ⟨w.heap.size, 0, none⟩ = some (.int .i64 c.i0) := HKC.out.cell 0
  have x1 : w0.cell? ⟨w.heap.size, 1, none⟩ = some (.int .i64 c.i1) := HKC.out.cell 1
  have x2 : w0.cell? ⟨w.heap.size, 2, none⟩ = some (.slice A c.gs.length cg) := HKC.out.cell 2
  have x3 : w0.cell? ⟨w.heap.size, 3, none⟩ = some (.slice A' c.outs.length co) := HKC.out.cell 3
  go_enter Try.func35, Try.ntmps35
  go_wp2_with fail
  clear hw0 x0 x1 x2 x3
  refine (HKY.out _ HB.out).mono ?_
  rintro e w1 ⟨rfl, hb1⟩
  have HB1 := Lib.hid (below_step HB.out hb1)
  replace HKC := Lib.hid (HKC.out.step hb1)
  clear hb1 HB
  rcases hk : (cirB c && inB key 0 1000000000 && offB off) with _ | _
  · have HM := Lib.hid (show opensM c key off a b = none by
      unfold opensM
      rcases h1 : askedB c a b with _ | _
      · rfl
      · have := (askedB_of h1).1
        rw [this, Bool.true_and] at hk
        rw [Bool.true_and, hk]; rfl)
    go_wp2
    go_ret2
    rw [HM.out]
    exact RetIB.no_below HB1.out
  have x0 : w1.cell? ⟨w.heap.size, 0, none⟩ = some (.int .i64 c.i0) := HKC.out.cell 0
  have x1 : w1.cell? ⟨w.heap.size, 1, none⟩ = some (.int .i64 c.i1) := HKC.out.cell 1
  have x2 : w1.cell? ⟨w.heap.size, 2, none⟩ = some (.slice A c.gs.length cg) := HKC.out.cell 2
  have x3 : w1.cell? ⟨w.heap.size, 3, none⟩ = some (.slice A' c.outs.length co) := HKC.out.cell 3
  go_wp2_with fail
  clear x0 x1 x2 x3
  refine (HAS.out _ HB1.out).mono ?_
  rintro e w2 ⟨rfl, hb2⟩
  have HB2 := Lib.hid (below_step HB1.out hb2)
  replace HKC := Lib.hid (HKC.out.step hb2)
  clear hb2
  rcases hq : askedB c a b with _ | _
  · have HM := Lib.hid (show opensM c key off a b = none by unfold opensM; rw [hq]; rfl)
    go_wp2
    go_ret2
    rw [HM.out]
    exact RetIB.no_below HB2.out
  have hk2 := hk
  simp only [Bool.and_eq_true] at hk2
  have HM := Lib.hid (show opensM c key off a b = some (usedM openM (tabM (gbZ off) (gbR off) key off c) (lbInM key off (a ++ b)) c.gs).2 by unfold opensM; rw [hq, hk2.1.2, hk2.2]; rfl)
  have hkb := inB_bd hk2.1.2
  have hob := offB_bd hk2.2
  have ho : 0 ≤ off ∧ off ≤ 65535 := ⟨hob.1, hob.2.1⟩
  have HC := Lib.hid hk2.1.1
  have HTO := Lib.hid (gb_tab_ok (key := key) HC.out ho)
  have HIN := Lib.hid (asked_in' hq)
  have HIL := Lib.hid (show ((lbInM key off (a ++ b)).length : Int) = c.ins by rw [lbInM_length]; exact HIN.out.1)
  have HIB := Lib.hid (lbIn_bd' (key := key) ho HIN.out.2)
  have HMK := Lib.hid (fun (W : World) (hW : Below w.heap.size w W) => c_spec_gbMake (H.out.below hW) HC.out hkb ho)
  have hcb := cirB_bd HC.out
  have hab : (a ++ b).length ≤ 40 := by have := HIN.out.1; unfold Cir.ins at this; omega
  unfold cirV at HMK
  clear hk hk2 hq hob hcb
  have q0 : ∀ W, Below w2.heap.size w2 W → W.cell? ⟨w.heap.size, 0, none⟩ = some (.int .i64 c.i0) := belowCell (HKC.out.cell 0)
  have q1 : ∀ W, Below w2.heap.size w2 W → W.cell? ⟨w.heap.size, 1, none⟩ = some (.int .i64 c.i1) := belowCell (HKC.out.cell 1)
  have q2 : ∀ W, Below w2.heap.size w2 W → W.cell? ⟨w.heap.size, 2, none⟩ = some (.slice A c.gs.length cg) := belowCell (HKC.out.cell 2)
  have q3 : ∀ W, Below w2.heap.size w2 W → W.cell? ⟨w.heap.size, 3, none⟩ = some (.slice A' c.outs.length co) := belowCell (HKC.out.cell 3)
  generalize tabM (gbZ off) (gbR off) key off c = T at *
  go_wp2_with fail
  go_region_held3 (fun W => Below w2.heap.size w2 W)
    (first | assumption | (exact HS.out) | (exact (Below.refl _ _).drew))
    (first
      | (go_at_call 62; refine (HMK.out _ (below_step HB2.out (Below.refl _ _).drew)).mono ?_; rintro e wz ⟨rv, nv, cv, vs, rfl, hz, hb⟩; obtain ⟨Ar, cr, rfl, -⟩ := hz.rows.rowsIn.form; obtain ⟨Ao, co', rfl, -⟩ := hz.ones.ints; obtain ⟨Ac, cc, rfl, -⟩ := hz.cols.ints; have HZ := Lib.hid hz.gbIn; have hLz : Below w2.heap.size w2 wz := below_step (Below.refl _ _).drew hb; clear hz hb; unfold gbV)
      | (go_at_call 66; refine (c_spec_ciJoin (HVA.out.below (below_step HB2.out hLz)) (HVB.out.below (below_step HB2.out hLz)) hla hlb).mono ?_; rintro e wa ⟨u, rfl, hu, hb⟩; have HU := Lib.hid hu.ints; have HZ1 := Lib.hid (HZ.out.below hb); have hLa : Below w2.heap.size w2 wa := below_step hLz hb; clear hu hb)
      | (go_at_call 65; refine (c_spec_lbInputs HU.out (by omega) HIN.out.2 hkb ho).mono ?_; rintro e wb ⟨u2, rfl, hu, hb⟩; have HU2 := Lib.hid hu.ints; have HZ2 := Lib.hid (HZ1.out.below hb); have hLb : Below w2.heap.size w2 wb := below_step hLa hb; clear hu hb)
      | (go_at_call 64; refine (c_spec_gbWires (H.out.below (below_step HB2.out hLb)) HC.out HZ2.out HTO.out HU2.out HIL.out HIB.out).mono ?_; rintro e wc ⟨u3, u4, rfl, hu3, hu, hb⟩; have HU4 := Lib.hid hu; have hLc : Below w2.heap.size w2 wc := below_step hLb hb; have hsz : w.heap.size ≤ wb.heap.size := Nat.le_trans HB2.out.size hLb.size; clear hu3 hu hb))
  all_goals
    obtain ⟨Av, cv, rfl, -⟩ := HU4.out.ints
    go_wp2
    go_ret2
    rw [HM.out]
    exact RetIB.yes (HU4.out.mono hsz) (below_step HB2.out hLc)
end Go.Proofs.Ytllaojfgenopbaa
