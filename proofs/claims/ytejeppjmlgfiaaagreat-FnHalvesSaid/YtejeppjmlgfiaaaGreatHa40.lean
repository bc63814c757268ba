/- Contracts of whole runs of garbled and halved circuits, the program's. Conditions: the lists are short. -/
import Derived.Test.YtejeppjmlgfiaaaGreatHa37
import Derived.Test.YtejeppjmlgfiaaaGreatHa39
import Derived.Test.YtejeppjmlgfiaaaGreatHa36
import Derived.Test.YtejeppjmlgfiaaaGreatHa30
namespace Go.Proofs.YtejeppjmlgfiaaaGreat
open Go.RowKit
set_option linter.unusedVariables false

theorem offB_off (k : Int) : offB (offM k) = true := by
  have := offM_bd k
  unfold offB
  rw [inB_mk this.1 this.2.1]
  simp [this.2.2]
theorem off_lab (k : Int) : 0 ≤ offM k ∧ offM k ≤ 65535 := ⟨(offM_bd k).1, (offM_bd k).2.1⟩
theorem lbIn_bd {key r : Int} {l : List Int} (hr : 0 ≤ r ∧ r ≤ 65535) (hb : allB l 0 1 = true) : ∀ x ∈ lbInM key r l, 0 ≤ x ∧ x ≤ 65535 := by
  intro x hx
  unfold lbInM at hx
  rw [List.mem_mapIdx] at hx
  obtain ⟨i, h, rfl⟩ := hx
  have h1 := digM_bd [key, (i : Int), 13, 0]
  have h2 := off_bit hr (bit_cases hb (List.getElem_mem h))
  exact xorI_bd h1.1 h2.1 h1.2 h2.2
theorem pick_bd {l p : List Int} (h : ∀ x ∈ l, 0 ≤ x ∧ x ≤ 65535) : ∀ x ∈ pickM l p, 0 ≤ x ∧ x ≤ 65535 := by
  intro x hx
  simp only [pickM, List.mem_map] at hx
  obtain ⟨k, -, rfl⟩ := hx
  exact elt_bd (k := k) h
/-- The run of a circuit: its labels, decoded. -/
def outsM (F : Int → Int → Int → List Int → Int) (Z : Int → Int → Int → Int → Int) (R : Int → Int → Int → Int → List Int) (c : Cir) (key : Int) (a b : List Int) : List Int :=
  pickM (wiresM F (tabM (Z (offM key)) (R (offM key)) key (offM key) c) (lbInM key (offM key) (a ++ b)) c.gs).1 c.outs
def runM (F : Int → Int → Int → List Int → Int) (Z : Int → Int → Int → Int → Int) (R : Int → Int → Int → Int → List Int) (c : Cir) (key : Int) (a b : List Int) : Option (List Int) :=
  if askedB c a b && inB key 0 1000000000 then some (xorsM (coloursM (outsM F Z R c key a b)) (tabM (Z (offM key)) (R (offM key)) key (offM key) c).cols) else none
theorem asked_in {c : Cir} {a b : List Int} (h : askedB c a b = true) : ((a ++ b).length : Int) = c.ins ∧ allB (a ++ b) 0 1 = true := by
  have := askedB_of h
  refine ⟨by unfold Cir.ins; rw [List.length_append]; omega, ?_⟩
  unfold allB at *
  rw [List.all_append, this.2.1, this.2.2.1]; rfl
section
variable {F : Int → Int → Int → List Int → Int} {Z : Int → Int → Int → Int → Int} {R : Int → Int → Int → Int → List Int} {c : Cir} {key : Int} {a b : List Int} {n : Int}
theorem run_in (h : askedB c a b = true) (hk : inB key 0 1000000000 = true) : inputM c key (offM key) a b = some (lbInM key (offM key) (a ++ b)) := by
  unfold inputM; rw [h, hk, offB_off]; rfl
theorem run_inl (h : askedB c a b = true) : ((lbInM key (offM key) (a ++ b)).length : Int) = c.ins := by rw [lbInM_length]; exact (asked_in h).1
theorem run_ev (h : askedB c a b = true) (ht : tabB n c (tabM (Z (offM key)) (R (offM key)) key (offM key) c) = true) :
    evalM n F c (tabM (Z (offM key)) (R (offM key)) key (offM key) c) (lbInM key (offM key) (a ++ b)) = some (outsM F Z R c key a b) := by
  unfold evalM
  rw [(askedB_of h).1, ht, allB_of (lbIn_bd (off_lab key) (asked_in h).2)]
  simp [lbInM_length, (asked_in h).1.symm, outsM]
theorem run_bd (ht : tabB n c (tabM (Z (offM key)) (R (offM key)) key (offM key) c) = true) (h : askedB c a b = true)
    (hF : ∀ w x y r, 0 ≤ x ∧ x ≤ 65535 → (∀ z ∈ r, 0 ≤ z ∧ z ≤ 65535) → 0 ≤ F w x y r ∧ F w x y r ≤ 65535) : ∀ x ∈ outsM F Z R c key a b, 0 ≤ x ∧ x ≤ 65535 := by
  have htt := tabB_of ht
  exact pick_bd (wires_bd (n := 0) (lbIn_bd (off_lab key) (asked_in h).2) htt.2.2.2.1 (fun r hr => (htt.2.1 r hr).2) hF c.gs)
theorem run_dec (h : askedB c a b = true) (ht : tabB n c (tabM (Z (offM key)) (R (offM key)) key (offM key) c) = true)
    (hF : ∀ w x y r, 0 ≤ x ∧ x ≤ 65535 → (∀ z ∈ r, 0 ≤ z ∧ z ≤ 65535) → 0 ≤ F w x y r ∧ F w x y r ≤ 65535) :
    decodeM n c (tabM (Z (offM key)) (R (offM key)) key (offM key) c) (outsM F Z R c key a b) = some (xorsM (coloursM (outsM F Z R c key a b)) (tabM (Z (offM key)) (R (offM key)) key (offM key) c).cols) := by
  unfold decodeM
  rw [(askedB_of h).1, ht, allB_of (run_bd ht h hF)]
  simp [outsM, pickM_length]
theorem run_len (c : Cir) (key : Int) (a b : List Int) : ((runM F Z R c key a b).getD []).length ≤ 40 := by
  unfold runM
  rcases h : askedB c a b && inB key 0 1000000000 with _ | _
  · simp
  · simp only [Bool.and_eq_true] at h
    have hc := (cirB_bd (askedB_of h.1).1).2.2.2.2.2
    simp only [if_true, Option.getD_some, xorsM, List.length_zipWith, coloursM_length, outsM, pickM_length]
    omega
end
theorem blk_three {w : World} {b : Nat} {t : TypeId} {x y z : Value} (h : Blk w b t #[x, y, z]) (x' y' z' : Value) : Blk (((w.setCell ⟨b, 0, none⟩ x').setCell ⟨b, 1, none⟩ y').setCell ⟨b, 2, none⟩ z') b t #[x', y', z'] := by
  have := ((h.set_ 0 x').set_ 1 y').set_ 2 z'
  simpa using this
theorem openM_ok : ∀ w x y r, 0 ≤ x ∧ x ≤ 65535 → (∀ z ∈ r, 0 ≤ z ∧ z ≤ 65535) → 0 ≤ openM w x y r ∧ openM w x y r ≤ 65535 := fun w x y r _ hr => openM_bd hr
theorem joinM_ok : ∀ w x y r, 0 ≤ x ∧ x ≤ 65535 → (∀ z ∈ r, 0 ≤ z ∧ z ≤ 65535) → 0 ≤ joinM w x y r ∧ joinM w x y r ≤ 65535 := fun w x y r hx hr => joinM_bd hx hr
theorem c_made_garbledAnd {off : Int} {w : World} : Calls Tryz.prog 90 #[.int .i64 off] w fun e w' => ∃ q, e = .returned (.func (.func 144) #[] #[.pointer (some ⟨q, 0, none⟩)]) ∧ w'.cell? ⟨q, 0, none⟩ = some (.int .i64 off) ∧ Below w.heap.size w w' := by
  refine (c_impl_garbledAnd).mono ?_
  rintro e w' ⟨rfl, rfl⟩
  exact ⟨_, rfl, cell_new _ _ _, (Below.refl _ _).alloc (Nat.le_refl _) _⟩
theorem c_made_halvedAnd {off : Int} {w : World} : Calls Tryz.prog 58 #[.int .i64 off] w fun e w' => ∃ q, e = .returned (.func (.func 126) #[] #[.pointer (some ⟨q, 0, none⟩)]) ∧ w'.cell? ⟨q, 0, none⟩ = some (.int .i64 off) ∧ Below w.heap.size w w' := by
  refine (c_impl_halvedAnd).mono ?_
  rintro e w' ⟨rfl, rfl⟩
  exact ⟨_, rfl, cell_new _ _ _, (Below.refl _ _).alloc (Nat.le_refl _) _⟩
set_option maxRecDepth 100000 in
set_option maxHeartbeats 4000000 in
theorem c_impl_RunGarbled {c : Cir} {gv ov va vb : Value} {key : Int} {a b : List Int} {w : World} (h : CirIn w gv ov c) (ha : Ints w va a) (hb : Ints w vb b) (hla : a.length ≤ 1048576) (hlb : b.length ≤ 1048576) :
    Calls Tryz.prog 24 #[cirV c gv ov, .int .i64 key, va, vb] w (RetIB w (runM openM gbZ gbR c key a b)) := by
  have H := Lib.hid h
  have HVA := Lib.hid ha
  have HVB := Lib.hid hb
  obtain ⟨hg, hoo⟩ := h
  obtain ⟨A, cg, rfl, -⟩ := hg
  obtain ⟨A', co, rfl, -⟩ := hoo
  obtain ⟨Aa, ca, rfl, -⟩ := ha
  obtain ⟨Ab, cb, rfl, -⟩ := hb
  unfold cirV
  obtain ⟨w0, hw0⟩ : ∃ W, w.alloc (.cells #[.int .i64 c.i0, .int .i64 c.i1, .slice A c.gs.length cg, .slice A' c.outs.length co] 26) = W := ⟨_, rfl⟩
  have HKC : Hid (Blk w0 w.heap.size 26 #[.int .i64 c.i0, .int .i64 c.i1, .slice A c.gs.length cg, .slice A' c.outs.length co]) := by rw [← hw0]; exact Blk.new _ _ _
  have HB : Hid (Below w.heap.size w w0) := by rw [← hw0]; exact (Below.refl _ _).alloc (Nat.le_refl _) _
  rcases hk : inB key 0 1000000000 with _ | _
  · have HM := Lib.hid (show runM openM gbZ gbR c key a b = none by unfold runM; rw [hk, Bool.and_false]; rfl)
    have HO := Lib.hid (show offsetM key = none by unfold offsetM; rw [hk]; rfl)
    go_enter Tryz.func24, Tryz.ntmps24
    go_wp2_with fail
    refine (c_impl_OffsetFrom).mono ?_
    rintro e w1 ⟨rfl, hb1⟩
    rw [HO.out]
    clear hw0
    go_wp2
    go_ret2
    rw [HM.out]
    exact RetIB.no_below (below_step HB.out hb1)
  have HO := Lib.hid (show offsetM key = some (offM key) by unfold offsetM; rw [hk]; rfl)
  rcases hq : askedB c a b with _ | _
  · have HM := Lib.hid (show runM openM gbZ gbR c key a b = none by unfold runM; rw [hq, Bool.false_and]; rfl)
    go_enter Tryz.func24, Tryz.ntmps24
    go_wp2_with fail
    refine (c_impl_OffsetFrom).mono ?_
    rintro e w1 ⟨rfl, hb1⟩
    rw [HO.out]
    clear hw0
    have HB1 := Lib.hid (below_step HB.out hb1)
    replace HKC := Lib.hid (HKC.out.step hb1)
    have x0 : w1.cell? ⟨w.heap.size, 0, none⟩ = some (.int .i64 c.i0) := HKC.out.cell 0
    have x1 : w1.cell? ⟨w.heap.size, 1, none⟩ = some (.int .i64 c.i1) := HKC.out.cell 1
    have x2 : w1.cell? ⟨w.heap.size, 2, none⟩ = some (.slice A c.gs.length cg) := HKC.out.cell 2
    have x3 : w1.cell? ⟨w.heap.size, 3, none⟩ = some (.slice A' c.outs.length co) := HKC.out.cell 3
    go_wp2_with fail
    refine (c_impl_areInputs (H.out.below HB1.out) (HVA.out.below HB1.out) (HVB.out.below HB1.out) hla hlb).mono ?_
    rintro e w2 ⟨rfl, hb2⟩
    go_wp2
    go_ret2
    rw [HM.out]
    exact RetIB.no_below (below_step HB1.out hb2)
  · have HM := Lib.hid (show runM openM gbZ gbR c key a b = some (xorsM (coloursM (outsM openM gbZ gbR c key a b)) (tabM (gbZ (offM key)) (gbR (offM key)) key (offM key) c).cols) by unfold runM; rw [hq, hk]; rfl)
    have HC := Lib.hid (askedB_of hq).1
    have ho := off_lab key
    have hkb := inB_bd hk
    have ht := gb_tab_ok (key := key) HC.out ho
    have HIN := Lib.hid (run_in hq hk)
    have HIL := Lib.hid (run_inl (key := key) hq)
    have HEV := Lib.hid (run_ev (F := openM) (Z := gbZ) (R := gbR) (key := key) hq ht)
    have HDE := Lib.hid (run_dec (F := openM) (Z := gbZ) (R := gbR) (key := key) hq ht openM_ok)
    have HTS := Lib.hid (tab_sz HC.out ht (by omega))
    have hol : (outsM openM gbZ gbR c key a b).length ≤ 40 := by have := cirB_bd HC.out; unfold outsM; rw [pickM_length]; exact this.2.2.2.2.2
    have hil : (lbInM key (offM key) (a ++ b)).length ≤ 40 := by have := cirB_bd HC.out; have := HIL.out; unfold Cir.ins at this; omega
    clear hk ht
    generalize outsM openM gbZ gbR c key a b = outs at *
    generalize lbInM key (offM key) (a ++ b) = inp at *
    have HT := Lib.hid (fun (W : World) (q : Nat) (hW : Below w.heap.size w W) (hq : W.cell? ⟨q, 0, none⟩ = some (.int .i64 (offM key))) => c_tables_garbledAnd (H.out.below hW) HC.out hkb ho hq)
    unfold cirV at HT
    generalize tabM (gbZ (offM key)) (gbR (offM key)) key (offM key) c = T at *
    generalize offM key = off at *
    go_enter Tryz.func24, Tryz.ntmps24
    go_wp2_with fail
    refine (c_impl_OffsetFrom).mono ?_
    rintro e w1 ⟨rfl, hb1⟩
    rw [HO.out, show oV (some off) = off from rfl]
    clear hw0
    have HB1 := Lib.hid (below_step HB.out hb1)
    replace HKC := Lib.hid (HKC.out.step hb1)
    have x0 : w1.cell? ⟨w.heap.size, 0, none⟩ = some (.int .i64 c.i0) := HKC.out.cell 0
    have x1 : w1.cell? ⟨w.heap.size, 1, none⟩ = some (.int .i64 c.i1) := HKC.out.cell 1
    have x2 : w1.cell? ⟨w.heap.size, 2, none⟩ = some (.slice A c.gs.length cg) := HKC.out.cell 2
    have x3 : w1.cell? ⟨w.heap.size, 3, none⟩ = some (.slice A' c.outs.length co) := HKC.out.cell 3
    go_wp2_with fail
    refine (c_impl_areInputs (H.out.below HB1.out) (HVA.out.below HB1.out) (HVB.out.below HB1.out) hla hlb).mono ?_
    rintro e w2 ⟨rfl, hb2⟩
    have HB2 := Lib.hid (below_step HB1.out hb2)
    replace HKC := Lib.hid (HKC.out.step hb2)
    have Q0 : Hid (∀ W, Below w2.heap.size w2 W → W.cell? ⟨w.heap.size, 0, none⟩ = some (.int .i64 c.i0)) := Lib.hid (belowCell (HKC.out.cell 0))
    have Q1 : Hid (∀ W, Below w2.heap.size w2 W → W.cell? ⟨w.heap.size, 1, none⟩ = some (.int .i64 c.i1)) := Lib.hid (belowCell (HKC.out.cell 1))
    have Q2 : Hid (∀ W, Below w2.heap.size w2 W → W.cell? ⟨w.heap.size, 2, none⟩ = some (.slice A c.gs.length cg)) := Lib.hid (belowCell (HKC.out.cell 2))
    have Q3 : Hid (∀ W, Below w2.heap.size w2 W → W.cell? ⟨w.heap.size, 3, none⟩ = some (.slice A' c.outs.length co)) := Lib.hid (belowCell (HKC.out.cell 3))
    clear hb1 hb2 x0 x1 x2 x3
    go_wp2_with fail
    go_cut [12] (fun s wx => ∃ bx rv nv cv, s = .pointer (some ⟨bx, 0, none⟩) ∧ Hid (Blk wx bx 50 #[rv, nv, cv]) ∧ Hid (GbIn wx rv nv cv T) ∧ Hid (Below w2.heap.size w2 wx))
    case first =>
      have q0 := Q0.out
      have q1 := Q1.out
      have q2 := Q2.out
      have q3 := Q3.out
      go_region_held3 (fun W => Below w2.heap.size w2 W)
        (first | (refine below_step ?_ HD.out; assumption) | (exact (Below.refl _ _).drew) | (exact Below.refl _ _) | (exact Below.alloc (by assumption) (Below.size (B := w2.heap.size) (w := w2) (by assumption)) _) | (exact Below.alloc (Below.refl _ _) (Nat.le_refl _) _) | (exact below_refill (by assumption) (by first | exact Nat.le_refl _ | assumption | simp)) | (refine Below.setCell (Below.setCell (Below.setCell (by assumption) (p := ⟨_, 0, none⟩) ?_ _) (p := ⟨_, 1, none⟩) ?_ _) (p := ⟨_, 2, none⟩) ?_ _ <;> (first | exact Nat.le_refl _ | assumption)))
        (first
          | (go_at_call 90; refine (c_made_garbledAnd).mono ?_; rintro e wa ⟨q, rfl, hqa, hb⟩; replace hqa := Lib.hid hqa; have HD := Lib.hid hb; have hLa : Below w2.heap.size w2 wa := below_step (by first | assumption | exact (Below.refl _ _).drew) hb; have hsa : w2.heap.size ≤ wa.heap.size := hLa.size; (first | (replace KZ := Lib.hid (KZ.out.step hb)) | (have KZ : Hid (Blk _ w2.heap.size _ _) := Lib.hid ((Blk.new w2.drew _ _).step hb)) | (have KZ := Lib.hid ((Blk.new _ _ _).step hb)) | skip); (try (have y0 := KZ.out.cell 0; have y1 := KZ.out.cell 1; have y2 := KZ.out.cell 2; have yf0 := KZ.out.free 0; have yf1 := KZ.out.free 1; have yf2 := KZ.out.free 2; simp only [List.getElem?_toArray, List.getElem?_cons_zero, List.getElem?_cons_succ] at y0 y1 y2)))
          | (go_at_call 57; refine (HT.out _ q (below_step HB2.out (by first | assumption | (refine Below.alloc ?_ (Below.size ?_) _ <;> assumption))) (by first | exact hqa.out | exact (((Below.refl wa.heap.size wa).alloc (Nat.le_refl _) _).cell (World.block_lt_of_cell? _ _ hqa.out)).trans hqa.out)).mono ?_; rintro e wz ⟨rv, nv, cv, vs, rfl, hz, hb⟩; obtain ⟨Ar, cr, rfl, -⟩ := hz.rows.rowsIn.form; obtain ⟨Ao, co', rfl, -⟩ := hz.ones.ints; obtain ⟨Ac, cc, rfl, -⟩ := hz.cols.ints; replace hz := Lib.hid hz; have HD := Lib.hid hb; have hLz : Below w2.heap.size w2 wz := below_step (by first | assumption | (refine Below.alloc ?_ (Below.size ?_) _ <;> assumption)) hb; (try have hka := KZ.out.lt); have hsz : w2.heap.size ≤ wz.heap.size := hLz.size; (first | (replace KZ := Lib.hid (KZ.out.step hb)) | (have KZ : Hid (Blk _ w2.heap.size _ _) := Lib.hid ((Blk.new w2.drew _ _).step hb)) | (have KZ := Lib.hid ((Blk.new _ _ _).step hb)) | skip); (try (have y0 := KZ.out.cell 0; have y1 := KZ.out.cell 1; have y2 := KZ.out.cell 2; have yf0 := KZ.out.free 0; have yf1 := KZ.out.free 1; have yf2 := KZ.out.free 2; simp only [List.getElem?_toArray, List.getElem?_cons_zero, List.getElem?_cons_succ] at y0 y1 y2)); unfold gbV))
      all_goals
        go_wp2_with fail
        go_meet
        first
          | exact ⟨_, _, _, _, rfl, Lib.hid (Blk.new _ _ _), Lib.hid (hz.out.gbIn.alloc _), Lib.hid (by assumption)⟩
          | exact ⟨_, _, _, _, rfl, Lib.hid (blk_three KZ.out _ _ _), Lib.hid (((hz.out.setLow (by first | exact hka | (simp; done) | (simp; omega)) 0 _).setLow (by first | exact hka | (simp; done) | (simp; omega)) 1 _).setLow (by first | exact hka | (simp; done) | (simp; omega)) 2 _).gbIn, Lib.hid (by assumption)⟩
    case rest =>
      obtain ⟨bx, rv, nv, cv, rfl, HKG, HG, HBX⟩ := hcut
      obtain ⟨W3, hW3⟩ : ∃ W, wc = W := ⟨_, rfl⟩
      rw [hW3] at HKG HG HBX ⊢
      clear hW3
      obtain ⟨Ar, cr, rfl, -⟩ := HG.out.rows.form
      obtain ⟨Ao, co', rfl, -⟩ := HG.out.ones
      obtain ⟨Ac, cc, rfl, -⟩ := HG.out.cols
      have HB3 := Lib.hid (below_step HB2.out HBX.out)
      have x0 := Q0.out _ HBX.out
      have x1 := Q1.out _ HBX.out
      have x2 := Q2.out _ HBX.out
      have x3 := Q3.out _ HBX.out
      go_wp2_with fail
      refine (c_impl_InputLabels (H.out.below HB3.out) (HVA.out.below HB3.out) (HVB.out.below HB3.out) hla hlb).mono ?_
      rintro e w4 ⟨u, rfl, hu, hb4⟩
      rw [HIN.out] at hu ⊢
      have HU := Lib.hid (show OwnI w4 W3.heap.size u inp from hu)
      obtain ⟨Au, cu, rfl, -⟩ := HU.out.ints
      have HX4 := Lib.hid (below_step HBX.out hb4)
      have HB4 := Lib.hid (below_step HB3.out hb4)
      have HG4 := Lib.hid (HG.out.below hb4)
      have HKG4 := Lib.hid (HKG.out.step hb4)
      have g0 : w4.cell? ⟨bx, 0, none⟩ = some (.slice Ar T.rows.length cr) := HKG4.out.cell 0
      have g1 : w4.cell? ⟨bx, 1, none⟩ = some (.slice Ao T.ones.length co') := HKG4.out.cell 1
      have g2 : w4.cell? ⟨bx, 2, none⟩ = some (.slice Ac T.cols.length cc) := HKG4.out.cell 2
      replace x0 := Q0.out _ HX4.out
      replace x1 := Q1.out _ HX4.out
      replace x2 := Q2.out _ HX4.out
      replace x3 := Q3.out _ HX4.out
      clear hu hb4
      go_wp2_with fail
      refine (c_impl_EvalGarbled (H.out.below HB4.out) HG4.out (Nat.le_trans HTS.out (by omega)) HU.out.ints (by omega)).mono ?_
      rintro e w5 ⟨u5, rfl, hu5, hb5⟩
      rw [HEV.out] at hu5 ⊢
      have HU5 := Lib.hid (show OwnI w5 w4.heap.size u5 outs from hu5)
      obtain ⟨A5, c5, rfl, -⟩ := HU5.out.ints
      have HX5 := Lib.hid (below_step HX4.out hb5)
      have HB5 := Lib.hid (below_step HB4.out hb5)
      have HG5 := Lib.hid (HG4.out.below hb5)
      have HKG5 := Lib.hid (HKG4.out.step hb5)
      replace g0 : w5.cell? ⟨bx, 0, none⟩ = some (.slice Ar T.rows.length cr) := HKG5.out.cell 0
      replace g1 : w5.cell? ⟨bx, 1, none⟩ = some (.slice Ao T.ones.length co') := HKG5.out.cell 1
      replace g2 : w5.cell? ⟨bx, 2, none⟩ = some (.slice Ac T.cols.length cc) := HKG5.out.cell 2
      replace x0 := Q0.out _ HX5.out
      replace x1 := Q1.out _ HX5.out
      replace x2 := Q2.out _ HX5.out
      replace x3 := Q3.out _ HX5.out
      clear hu5 hb5
      go_wp2_with fail
      refine (c_impl_DecodeOuts (H.out.below HB5.out) HG5.out (Nat.le_trans HTS.out (by omega)) HU5.out.ints (by omega)).mono ?_
      rintro e w6 ⟨u6, rfl, hu6, hb6⟩
      rw [HDE.out] at hu6 ⊢
      go_wp2
      go_ret2
      rw [HM.out]
      exact RetIB.yes (show OwnI w6 w.heap.size u6 _ from OwnI.mono hu6 HB5.out.size) (below_step HB5.out hb6)
set_option maxRecDepth 100000 in
set_option maxHeartbeats 4000000 in
theorem c_impl_RunHalved {c : Cir} {gv ov va vb : Value} {key : Int} {a b : List Int} {w : World} (h : CirIn w gv ov c) (ha : Ints w va a) (hb : Ints w vb b) (hla : a.length ≤ 1048576) (hlb : b.length ≤ 1048576) :
    Calls Tryz.prog 7 #[cirV c gv ov, .int .i64 key, va, vb] w (RetIB w (runM joinM hgZ hgR c key a b)) := by
  have H := Lib.hid h
  have HVA := Lib.hid ha
  have HVB := Lib.hid hb
  obtain ⟨hg, hoo⟩ := h
  obtain ⟨A, cg, rfl, -⟩ := hg
  obtain ⟨A', co, rfl, -⟩ := hoo
  obtain ⟨Aa, ca, rfl, -⟩ := ha
  obtain ⟨Ab, cb, rfl, -⟩ := hb
  unfold cirV
  obtain ⟨w0, hw0⟩ : ∃ W, w.alloc (.cells #[.int .i64 c.i0, .int .i64 c.i1, .slice A c.gs.length cg, .slice A' c.outs.length co] 26) = W := ⟨_, rfl⟩
  have HKC : Hid (Blk w0 w.heap.size 26 #[.int .i64 c.i0, .int .i64 c.i1, .slice A c.gs.length cg, .slice A' c.outs.length co]) := by rw [← hw0]; exact Blk.new _ _ _
  have HB : Hid (Below w.heap.size w w0) := by rw [← hw0]; exact (Below.refl _ _).alloc (Nat.le_refl _) _
  rcases hk : inB key 0 1000000000 with _ | _
  · have HM := Lib.hid (show runM joinM hgZ hgR c key a b = none by unfold runM; rw [hk, Bool.and_false]; rfl)
    have HO := Lib.hid (show offsetM key = none by unfold offsetM; rw [hk]; rfl)
    go_enter Tryz.func7, Tryz.ntmps7
    go_wp2_with fail
    refine (c_impl_OffsetFrom).mono ?_
    rintro e w1 ⟨rfl, hb1⟩
    rw [HO.out]
    clear hw0
    go_wp2
    go_ret2
    rw [HM.out]
    exact RetIB.no_below (below_step HB.out hb1)
  have HO := Lib.hid (show offsetM key = some (offM key) by unfold offsetM; rw [hk]; rfl)
  rcases hq : askedB c a b with _ | _
  · have HM := Lib.hid (show runM joinM hgZ hgR c key a b = none by unfold runM; rw [hq, Bool.false_and]; rfl)
    go_enter Tryz.func7, Tryz.ntmps7
    go_wp2_with fail
    refine (c_impl_OffsetFrom).mono ?_
    rintro e w1 ⟨rfl, hb1⟩
    rw [HO.out]
    clear hw0
    have HB1 := Lib.hid (below_step HB.out hb1)
    replace HKC := Lib.hid (HKC.out.step hb1)
    have x0 : w1.cell? ⟨w.heap.size, 0, none⟩ = some (.int .i64 c.i0) := HKC.out.cell 0
    have x1 : w1.cell? ⟨w.heap.size, 1, none⟩ = some (.int .i64 c.i1) := HKC.out.cell 1
    have x2 : w1.cell? ⟨w.heap.size, 2, none⟩ = some (.slice A c.gs.length cg) := HKC.out.cell 2
    have x3 : w1.cell? ⟨w.heap.size, 3, none⟩ = some (.slice A' c.outs.length co) := HKC.out.cell 3
    go_wp2_with fail
    refine (c_impl_areInputs (H.out.below HB1.out) (HVA.out.below HB1.out) (HVB.out.below HB1.out) hla hlb).mono ?_
    rintro e w2 ⟨rfl, hb2⟩
    go_wp2
    go_ret2
    rw [HM.out]
    exact RetIB.no_below (below_step HB1.out hb2)
  · have HM := Lib.hid (show runM joinM hgZ hgR c key a b = some (xorsM (coloursM (outsM joinM hgZ hgR c key a b)) (tabM (hgZ (offM key)) (hgR (offM key)) key (offM key) c).cols) by unfold runM; rw [hq, hk]; rfl)
    have HC := Lib.hid (askedB_of hq).1
    have ho := off_lab key
    have hkb := inB_bd hk
    have ht := hg_tab_ok (key := key) HC.out ho
    have HIN := Lib.hid (run_in hq hk)
    have HIL := Lib.hid (run_inl (key := key) hq)
    have HEV := Lib.hid (run_ev (F := joinM) (Z := hgZ) (R := hgR) (key := key) hq ht)
    have HDE := Lib.hid (run_dec (F := joinM) (Z := hgZ) (R := hgR) (key := key) hq ht joinM_ok)
    have HTS := Lib.hid (tab_sz HC.out ht (by omega))
    have hol : (outsM joinM hgZ hgR c key a b).length ≤ 40 := by have := cirB_bd HC.out; unfold outsM; rw [pickM_length]; exact this.2.2.2.2.2
    have hil : (lbInM key (offM key) (a ++ b)).length ≤ 40 := by have := cirB_bd HC.out; have := HIL.out; unfold Cir.ins at this; omega
    clear hk ht
    generalize outsM joinM hgZ hgR c key a b = outs at *
    generalize lbInM key (offM key) (a ++ b) = inp at *
    have HT := Lib.hid (fun (W : World) (q : Nat) (hW : Below w.heap.size w W) (hq : W.cell? ⟨q, 0, none⟩ = some (.int .i64 (offM key))) => c_tables_halvedAnd (H.out.below hW) HC.out hkb ho hq)
    unfold cirV at HT
    generalize tabM (hgZ (offM key)) (hgR (offM key)) key (offM key) c = T at *
    generalize offM key = off at *
    go_enter Tryz.func7, Tryz.ntmps7
    go_wp2_with fail
    refine (c_impl_OffsetFrom).mono ?_
    rintro e w1 ⟨rfl, hb1⟩
    rw [HO.out, show oV (some off) = off from rfl]
    clear hw0
    have HB1 := Lib.hid (below_step HB.out hb1)
    replace HKC := Lib.hid (HKC.out.step hb1)
    have x0 : w1.cell? ⟨w.heap.size, 0, none⟩ = some (.int .i64 c.i0) := HKC.out.cell 0
    have x1 : w1.cell? ⟨w.heap.size, 1, none⟩ = some (.int .i64 c.i1) := HKC.out.cell 1
    have x2 : w1.cell? ⟨w.heap.size, 2, none⟩ = some (.slice A c.gs.length cg) := HKC.out.cell 2
    have x3 : w1.cell? ⟨w.heap.size, 3, none⟩ = some (.slice A' c.outs.length co) := HKC.out.cell 3
    go_wp2_with fail
    refine (c_impl_areInputs (H.out.below HB1.out) (HVA.out.below HB1.out) (HVB.out.below HB1.out) hla hlb).mono ?_
    rintro e w2 ⟨rfl, hb2⟩
    have HB2 := Lib.hid (below_step HB1.out hb2)
    replace HKC := Lib.hid (HKC.out.step hb2)
    have Q0 : Hid (∀ W, Below w2.heap.size w2 W → W.cell? ⟨w.heap.size, 0, none⟩ = some (.int .i64 c.i0)) := Lib.hid (belowCell (HKC.out.cell 0))
    have Q1 : Hid (∀ W, Below w2.heap.size w2 W → W.cell? ⟨w.heap.size, 1, none⟩ = some (.int .i64 c.i1)) := Lib.hid (belowCell (HKC.out.cell 1))
    have Q2 : Hid (∀ W, Below w2.heap.size w2 W → W.cell? ⟨w.heap.size, 2, none⟩ = some (.slice A c.gs.length cg)) := Lib.hid (belowCell (HKC.out.cell 2))
    have Q3 : Hid (∀ W, Below w2.heap.size w2 W → W.cell? ⟨w.heap.size, 3, none⟩ = some (.slice A' c.outs.length co)) := Lib.hid (belowCell (HKC.out.cell 3))
    clear hb1 hb2 x0 x1 x2 x3
    go_wp2_with fail
    go_cut [12] (fun s wx => ∃ bx rv nv cv, s = .pointer (some ⟨bx, 0, none⟩) ∧ Hid (Blk wx bx 35 #[rv, nv, cv]) ∧ Hid (GbIn wx rv nv cv T) ∧ Hid (Below w2.heap.size w2 wx))
    case first =>
      have q0 := Q0.out
      have q1 := Q1.out
      have q2 := Q2.out
      have q3 := Q3.out
      go_region_held3 (fun W => Below w2.heap.size w2 W)
        (first | (refine below_step ?_ HD.out; assumption) | (exact (Below.refl _ _).drew) | (exact Below.refl _ _) | (exact Below.alloc (by assumption) (Below.size (B := w2.heap.size) (w := w2) (by assumption)) _) | (exact Below.alloc (Below.refl _ _) (Nat.le_refl _) _) | (exact below_refill (by assumption) (by first | exact Nat.le_refl _ | assumption | simp)) | (refine Below.setCell (Below.setCell (Below.setCell (by assumption) (p := ⟨_, 0, none⟩) ?_ _) (p := ⟨_, 1, none⟩) ?_ _) (p := ⟨_, 2, none⟩) ?_ _ <;> (first | exact Nat.le_refl _ | assumption)))
        (first
          | (go_at_call 58; refine (c_made_halvedAnd).mono ?_; rintro e wa ⟨q, rfl, hqa, hb⟩; replace hqa := Lib.hid hqa; have HD := Lib.hid hb; have hLa : Below w2.heap.size w2 wa := below_step (by first | assumption | exact (Below.refl _ _).drew) hb; have hsa : w2.heap.size ≤ wa.heap.size := hLa.size; (first | (replace KZ := Lib.hid (KZ.out.step hb)) | (have KZ : Hid (Blk _ w2.heap.size _ _) := Lib.hid ((Blk.new w2.drew _ _).step hb)) | (have KZ := Lib.hid ((Blk.new _ _ _).step hb)) | skip); (try (have y0 := KZ.out.cell 0; have y1 := KZ.out.cell 1; have y2 := KZ.out.cell 2; have yf0 := KZ.out.free 0; have yf1 := KZ.out.free 1; have yf2 := KZ.out.free 2; simp only [List.getElem?_toArray, List.getElem?_cons_zero, List.getElem?_cons_succ] at y0 y1 y2)))
          | (go_at_call 57; refine (HT.out _ q (below_step HB2.out (by first | assumption | (refine Below.alloc ?_ (Below.size ?_) _ <;> assumption))) (by first | exact hqa.out | exact (((Below.refl wa.heap.size wa).alloc (Nat.le_refl _) _).cell (World.block_lt_of_cell? _ _ hqa.out)).trans hqa.out)).mono ?_; rintro e wz ⟨rv, nv, cv, vs, rfl, hz, hb⟩; obtain ⟨Ar, cr, rfl, -⟩ := hz.rows.rowsIn.form; obtain ⟨Ao, co', rfl, -⟩ := hz.ones.ints; obtain ⟨Ac, cc, rfl, -⟩ := hz.cols.ints; replace hz := Lib.hid hz; have HD := Lib.hid hb; have hLz : Below w2.heap.size w2 wz := below_step (by first | assumption | (refine Below.alloc ?_ (Below.size ?_) _ <;> assumption)) hb; (try have hka := KZ.out.lt); have hsz : w2.heap.size ≤ wz.heap.size := hLz.size; (first | (replace KZ := Lib.hid (KZ.out.step hb)) | (have KZ : Hid (Blk _ w2.heap.size _ _) := Lib.hid ((Blk.new w2.drew _ _).step hb)) | (have KZ := Lib.hid ((Blk.new _ _ _).step hb)) | skip); (try (have y0 := KZ.out.cell 0; have y1 := KZ.out.cell 1; have y2 := KZ.out.cell 2; have yf0 := KZ.out.free 0; have yf1 := KZ.out.free 1; have yf2 := KZ.out.free 2; simp only [List.getElem?_toArray, List.getElem?_cons_zero, List.getElem?_cons_succ] at y0 y1 y2)); unfold gbV))
      all_goals
        go_wp2_with fail
        go_meet
        first
          | exact ⟨_, _, _, _, rfl, Lib.hid (Blk.new _ _ _), Lib.hid (hz.out.gbIn.alloc _), Lib.hid (by assumption)⟩
          | exact ⟨_, _, _, _, rfl, Lib.hid (blk_three KZ.out _ _ _), Lib.hid (((hz.out.setLow (by first | exact hka | (simp; done) | (simp; omega)) 0 _).setLow (by first | exact hka | (simp; done) | (simp; omega)) 1 _).setLow (by first | exact hka | (simp; done) | (simp; omega)) 2 _).gbIn, Lib.hid (by assumption)⟩
    case rest =>
      obtain ⟨bx, rv, nv, cv, rfl, HKG, HG, HBX⟩ := hcut
      obtain ⟨W3, hW3⟩ : ∃ W, wc = W := ⟨_, rfl⟩
      rw [hW3] at HKG HG HBX ⊢
      clear hW3
      obtain ⟨Ar, cr, rfl, -⟩ := HG.out.rows.form
      obtain ⟨Ao, co', rfl, -⟩ := HG.out.ones
      obtain ⟨Ac, cc, rfl, -⟩ := HG.out.cols
      have HB3 := Lib.hid (below_step HB2.out HBX.out)
      have x0 := Q0.out _ HBX.out
      have x1 := Q1.out _ HBX.out
      have x2 := Q2.out _ HBX.out
      have x3 := Q3.out _ HBX.out
      go_wp2_with fail
      refine (c_impl_InputLabels (H.out.below HB3.out) (HVA.out.below HB3.out) (HVB.out.below HB3.out) hla hlb).mono ?_
      rintro e w4 ⟨u, rfl, hu, hb4⟩
      rw [HIN.out] at hu ⊢
      have HU := Lib.hid (show OwnI w4 W3.heap.size u inp from hu)
      obtain ⟨Au, cu, rfl, -⟩ := HU.out.ints
      have HX4 := Lib.hid (below_step HBX.out hb4)
      have HB4 := Lib.hid (below_step HB3.out hb4)
      have HG4 := Lib.hid (HG.out.below hb4)
      have HKG4 := Lib.hid (HKG.out.step hb4)
      have g0 : w4.cell? ⟨bx, 0, none⟩ = some (.slice Ar T.rows.length cr) := HKG4.out.cell 0
      have g1 : w4.cell? ⟨bx, 1, none⟩ = some (.slice Ao T.ones.length co') := HKG4.out.cell 1
      have g2 : w4.cell? ⟨bx, 2, none⟩ = some (.slice Ac T.cols.length cc) := HKG4.out.cell 2
      replace x0 := Q0.out _ HX4.out
      replace x1 := Q1.out _ HX4.out
      replace x2 := Q2.out _ HX4.out
      replace x3 := Q3.out _ HX4.out
      clear hu hb4
      go_wp2_with fail
      refine (c_impl_EvalHalved (H.out.below HB4.out) HG4.out (Nat.le_trans HTS.out (by omega)) HU.out.ints (by omega)).mono ?_
      rintro e w5 ⟨u5, rfl, hu5, hb5⟩
      rw [HEV.out] at hu5 ⊢
      have HU5 := Lib.hid (show OwnI w5 w4.heap.size u5 outs from hu5)
      obtain ⟨A5, c5, rfl, -⟩ := HU5.out.ints
      have HX5 := Lib.hid (below_step HX4.out hb5)
      have HB5 := Lib.hid (below_step HB4.out hb5)
      have HG5 := Lib.hid (HG4.out.below hb5)
      have HKG5 := Lib.hid (HKG4.out.step hb5)
      replace g0 : w5.cell? ⟨bx, 0, none⟩ = some (.slice Ar T.rows.length cr) := HKG5.out.cell 0
      replace g1 : w5.cell? ⟨bx, 1, none⟩ = some (.slice Ao T.ones.length co') := HKG5.out.cell 1
      replace g2 : w5.cell? ⟨bx, 2, none⟩ = some (.slice Ac T.cols.length cc) := HKG5.out.cell 2
      replace x0 := Q0.out _ HX5.out
      replace x1 := Q1.out _ HX5.out
      replace x2 := Q2.out _ HX5.out
      replace x3 := Q3.out _ HX5.out
      clear hu5 hb5
      go_wp2_with fail
      refine (c_impl_DecodeHalved (H.out.below HB5.out) HG5.out (Nat.le_trans HTS.out (by omega)) HU5.out.ints (by omega)).mono ?_
      rintro e w6 ⟨u6, rfl, hu6, hb6⟩
      rw [HDE.out] at hu6 ⊢
      go_wp2
      go_ret2
      rw [HM.out]
      exact RetIB.yes (show OwnI w6 w.heap.size u6 _ from OwnI.mono hu6 HB5.out.size) (below_step HB5.out hb6)
end Go.Proofs.YtejeppjmlgfiaaaGreat
