/- Contracts of tables with one row bent. Conditions: the row is there, the tables are short. -/
import Derived.Test.YtamngnenpapogaaTabS
import Derived.Test.YtamngnenpapogaaSta
import Derived.Test.YtamngnenpapogaaDig3
namespace Go.Proofs.Ytamngnenpapogaa
open Go.RowKit
set_option linter.unusedVariables false

def bendRow (r : List Int) (row : Nat) (m : Int) : List Int := r.set row (xorI (r.getD row 0) m)
def bendR (rows : List (List Int)) (k row : Nat) (m : Int) : List (List Int) := rows.set k (bendRow (rows.getD k []) row m)
def bendG (g : Gb) (k row : Nat) (m : Int) : Gb := ⟨bendR g.rows k row m, g.ones, g.cols⟩
theorem bendR_at {rows : List (List Int)} {k row j : Nat} {m : Int} {r : List Int} (h : rows[j]? = some r) : (bendR rows k row m)[j]? = some (if j = k then bendRow r row m else r) := by
  have hj : j < rows.length := (List.getElem?_eq_some_iff.1 h).1
  unfold bendR
  by_cases e : j = k
  · subst e; rw [List.getElem?_set_self hj, if_pos rfl, List.getD_eq_getElem?_getD, h]; rfl
  · rw [List.getElem?_set_ne (fun h => e h.symm), if_neg e, h]
theorem bendR_length (rows : List (List Int)) (k row : Nat) (m : Int) : (bendR rows k row m).length = rows.length := by simp [bendR]

set_option maxRecDepth 100000 in
set_option maxHeartbeats 4000000 in
theorem c_impl_bent {g : Gb} {rv nv cv : Value} {w : World} {k row : Nat} {m : Int} (h : GbIn w rv nv cv g) (hs : g.sz ≤ 1048576) (hk : k < g.rows.length) (hrow : row < (g.rows.getD k []).length) (hr : ∀ x ∈ g.rows.getD k [], 0 ≤ x ∧ x ≤ 65535) (hm : 0 ≤ m ∧ m ≤ 65535) :
    Calls Try.prog 87 #[gbV rv nv cv, .int .i64 k, .int .i64 row, .int .i64 m] w (RetGb w (bendG g k row m)) := by
  have H := Lib.hid h
  have HS := Lib.hid hs
  obtain ⟨hrw, ho, hc⟩ := h
  obtain ⟨A, c, rfl, -⟩ := hrw.form
  obtain ⟨A1, c1, rfl, -⟩ := ho
  obtain ⟨A2, c2, rfl, -⟩ := hc
  have hol : g.ones.length ≤ 1048576 := by unfold Gb.sz at hs; omega
  have hcl : g.cols.length ≤ 1048576 := by unfold Gb.sz at hs; omega
  have hrl : g.rows.length ≤ 1048576 := by unfold Gb.sz at hs; omega
  have HRL := Lib.hid (Gb.row_le hs)
  obtain ⟨A', c', e', hlc, hcm, hat⟩ := hrw.form
  injection e' with e1 e2 e3
  subst e1 e3
  have HAT := Lib.hid hat
  clear hrw hs hat
  have HROW := Lib.hid hrow
  have HR0 := Lib.hid hr
  clear hrow hr
  unfold gbV
  go_enter Try.func87, Try.ntmps87
  go_upto_region 1 with fail
  obtain ⟨w0, hw0⟩ : ∃ W, ((w.alloc (.cells #[.slice A g.rows.length c, .slice A1 g.ones.length c1, .slice A2 g.cols.length c2] 47)).alloc (.cells #[.slice none 0 0, .slice none 0 0, .slice none 0 0] 47)) = W := ⟨_, rfl⟩
  have HP : Hid (Blk w0 w.heap.size 47 #[.slice A g.rows.length c, .slice A1 g.ones.length c1, .slice A2 g.cols.length c2]) := by rw [← hw0]; exact (Blk.new _ _ _).alloc _
  have HR : Hid (Blk w0 (w.heap.size + 1) 47 #[.slice none 0 0, .slice none 0 0, .slice none 0 0]) := by rw [← hw0]; have := Blk.new (w.alloc (.cells #[.slice A g.rows.length c, .slice A1 g.ones.length c1, .slice A2 g.cols.length c2] 47)) 47 #[.slice none 0 0, .slice none 0 0, .slice none 0 0]; simp only [World.size_alloc] at this; exact this
  have HB : Hid (Below w.heap.size w w0) := by rw [← hw0]; exact ((Below.refl _ _).alloc (Nat.le_refl _) _).alloc (by simp) _
  rw [hw0]
  clear hw0
  go_cut [9] (fun s9 wx => ∃ b ov cv, s9 = .pointer (some ⟨b, 0, none⟩) ∧ Hid (Three 47 wx w0 b ov cv g.ones g.cols))
  case first =>
    have q0 : ∀ w', Below w0.heap.size w0 w' → w'.cell? ⟨w.heap.size, 1, none⟩ = some (.slice A1 g.ones.length c1) := fun w' h => (h.cell (p := ⟨w.heap.size, 1, none⟩) HP.out.lt).trans (HP.out.cell 1)
    have q1 : ∀ w', Below w0.heap.size w0 w' → w'.cell? ⟨w.heap.size, 2, none⟩ = some (.slice A2 g.cols.length c2) := fun w' h => (h.cell (p := ⟨w.heap.size, 2, none⟩) HP.out.lt).trans (HP.out.cell 2)
    go_region_held3 (fun w' => Below w0.heap.size w0 w')
      (first | (refine below_step ?_ HD.out; assumption) | (exact (Below.refl _ _).drew) | (exact Below.refl _ _) | (exact Below.alloc (by assumption) (Below.size (B := w0.heap.size) (w := w0) (by assumption)) _) | (exact Below.alloc (Below.refl _ _) (Nat.le_refl _) _) | (exact below_refill (by assumption) (by first | exact Nat.le_refl _ | assumption | simp)) | (refine Below.setCell (Below.setCell (Below.setCell (by assumption) (p := ⟨_, 0, none⟩) ?_ _) (p := ⟨_, 1, none⟩) ?_ _) (p := ⟨_, 2, none⟩) ?_ _ <;> (first | exact Nat.le_refl _ | assumption)))
      (first
        | (go_at_call_of 120 (Value.slice A1 g.ones.length c1); refine (c_slices_Clone ((H.out.ones.below HB.out).below (by first | assumption | (refine Below.alloc ?_ (Below.size ?_) _ <;> assumption))) (by omega)).mono ?_; rintro e wa ⟨ua, rfl, Oa, hb⟩; obtain ⟨Aa, ca, rfl, -⟩ := Oa.ints; replace Oa := Lib.hid Oa; have HD := Lib.hid hb; have hLa : Below w0.heap.size w0 wa := below_step (by first | assumption | exact (Below.refl _ _).drew) hb; have hsa : w0.heap.size ≤ wa.heap.size := Nat.le_trans (by first | exact Nat.le_refl _ | assumption | exact Nat.le_succ_of_le (by assumption) | (simp; done) | (simp; omega)) hb.size; (first | (replace KZ := Lib.hid (KZ.out.step hb)) | (have KZ : Hid (Blk _ w0.heap.size _ _) := Lib.hid ((Blk.new w0.drew _ _).step hb)) | (have KZ := Lib.hid ((Blk.new _ _ _).step hb)) | skip); (try (have y0 := KZ.out.cell 0; have y1 := KZ.out.cell 1; have y2 := KZ.out.cell 2; have yf0 := KZ.out.free 0; have yf1 := KZ.out.free 1; have yf2 := KZ.out.free 2; simp only [List.getElem?_toArray, List.getElem?_cons_zero, List.getElem?_cons_succ] at y0 y1 y2)))
        | (go_at_call_of 120 (Value.slice A2 g.cols.length c2); refine (c_slices_Clone ((H.out.cols.below HB.out).below (by first | assumption | (refine Below.alloc ?_ (Below.size ?_) _ <;> assumption))) (by omega)).mono ?_; rintro e wb ⟨ub, rfl, Ob, hb⟩; obtain ⟨Ab, cb, rfl, -⟩ := Ob.ints; replace Ob := Lib.hid Ob; have HD := Lib.hid hb; have hLb : Below w0.heap.size w0 wb := below_step (by first | assumption | exact (Below.refl _ _).drew) hb; (try have hka := KZ.out.lt); have hsb : w0.heap.size ≤ wb.heap.size := Nat.le_trans (by first | exact Nat.le_refl _ | assumption | exact Nat.le_succ_of_le (by assumption) | (simp; done) | (simp; omega)) hb.size; (first | (replace KZ := Lib.hid (KZ.out.step hb)) | (have KZ : Hid (Blk _ w0.heap.size _ _) := Lib.hid ((Blk.new w0.drew _ _).step hb)) | (have KZ := Lib.hid ((Blk.new _ _ _).step hb)) | skip); (try (have y0 := KZ.out.cell 0; have y1 := KZ.out.cell 1; have y2 := KZ.out.cell 2; have yf0 := KZ.out.free 0; have yf1 := KZ.out.free 1; have yf2 := KZ.out.free 2; simp only [List.getElem?_toArray, List.getElem?_cons_zero, List.getElem?_cons_succ] at y0 y1 y2))))
    all_goals
      have h1 : OwnI wb w0.heap.size (.slice Aa g.ones.length ca) g.ones := (OwnI.mono (B' := w0.heap.size) Oa.out (by first | exact Nat.le_refl _ | (simp; done))).below (by first | exact HD.out | exact lit_trans HD.out)
      have h2 : OwnI wb w0.heap.size (.slice Ab g.cols.length cb) g.cols := OwnI.mono (B' := w0.heap.size) Ob.out (by first | exact hsa | exact Nat.le_succ_of_le hsa | (simp; omega))
      have h3 : Apt (.slice Aa g.ones.length ca) (.slice Ab g.cols.length cb) := Apt.ofLt Oa.out.lt (fun b hb => Nat.le_trans (by first | exact Nat.le_refl _ | (simp; done)) (Ob.out.ge b hb))
      have h4 := hLb
      go_wp2_with fail
      go_meet
      first
        | exact ⟨_, _, _, rfl, Lib.hid (three_new h1 h2 h3 h4 hsb)⟩
        | exact ⟨_, _, _, rfl, Lib.hid (three_set KZ.out h1 h2 h3 h4 (by rintro u (rfl | rfl) e; (first | (have l2 : w0.heap.size + 1 ≤ _ := Nat.le_trans (by simp) (Oa.out.ge _ e); omega) | (have l1 := Oa.out.lt _ e; omega)); (first | (have l3 := Ob.out.ge _ e; omega) | (have l4 : wa.heap.size + 1 ≤ _ := Nat.le_trans (by simp) (Ob.out.ge _ e); omega))) (by first | exact Nat.le_refl _ | exact hsa))⟩
  case rest =>
    obtain ⟨b, ov, cv, rfl, H3⟩ := hcut
    have hs0 := H3.out.below.size
    obtain ⟨W1, hW1⟩ : ∃ W, wc = W := ⟨_, rfl⟩
    rw [hW1] at H3 ⊢
    clear hW1
    have p0 : W1.cell? ⟨w.heap.size, 0, none⟩ = some (.slice A g.rows.length c) := (H3.out.below.cell (p := ⟨w.heap.size, 0, none⟩) HP.out.lt).trans (HP.out.cell 0)
    have HST := Lib.hid H3.out.sta
    have hlo := HST.out.lo
    clear H3 hs0
    go_wp2_with fail
    go_loopw [10, 11, 22] (fun s10 s11 i wr => ∃ (j : Nat) (x10 x11 : Value), s10 = x10 ∧ s11 = x11 ∧ j ≤ g.rows.length ∧ i = .int .i64 j ∧ ∃ rv vs, Hid (Sta 47 wr w0 b rv ov cv vs ⟨(bendR g.rows k row m).take j, g.ones, g.cols⟩)) (fun _ _ i _ => g.rows.length - (intOf i).toNat)
    case atStart => exact ⟨0, _, _, rfl, rfl, Nat.zero_le _, rfl, _, _, by simpa using HST⟩
    case round =>
      obtain ⟨j, x10, x11, rfl, rfl, hj, rfl, rv, vs, HO⟩ := hrel
      clear HST p0
      obtain ⟨wa, rfl⟩ : ∃ W, W = wr := ⟨wr, rfl⟩
      have HBa := Lib.hid (HB.out.trans (HO.out.below.mono HB.out.size))
      have hlb := HO.out.below.size
      by_cases hlt : j < g.rows.length
      · obtain ⟨bb, o, A', r, c', rfl, hbl, hrk, hcell, hi⟩ := HAT.out j hlt
        have hc2 := (HBa.out.cell (p := ⟨bb, o + j, none⟩) hbl).trans hcell
        have hrl' := HRL.out r (List.mem_of_getElem? hrk)
        have HI := Lib.hid (hi.below HBa.out)
        have HRK := Lib.hid hrk
        clear hcell hi hrk
        go_wp2_with fail
        refine (c_slices_Clone HI.out (by omega)).mono ?_
        rintro e w1 ⟨u, rfl, hu, hb1⟩
        obtain ⟨Au, cu, rfl, -⟩ := hu.ints
        have HU := Lib.hid hu
        have HB1 := Lib.hid hb1
        clear hu hb1 hc2
        go_upto_if 31 with fail
        go_cut [] (fun wx => Hid (OwnI wx wa.heap.size (.slice Au r.length cu) (if j = k then bendRow r row m else r)) ∧ Hid (Below wa.heap.size wa wx))
        case first =>
          by_cases hjk : j = k
          · subst hjk
            have e1 : g.rows.getD j [] = r := by rw [List.getD_eq_getElem?_getD, HRK.out]; rfl
            have hrow := HROW.out
            have hr0 := HR0.out
            rw [e1] at hrow hr0
            have hx : r[row]? = some r[row] := List.getElem?_eq_getElem hrow
            have hxb := hr0 r[row] (List.getElem_mem _)
            have hbx := bits_xor hxb.1 hm.1 (by omega) (by omega)
            obtain ⟨gu, cu', e2, -, hgb, hcu⟩ := own_at HU.out (by intro e; rw [e] at hrow; simp at hrow)
            injection e2 with e3 e4 e5
            subst e3 e5
            have hc0 := hcu row _ hx
            have hfz := HU.out.free row
            have hgu := (HU.out.ge gu rfl)
            have HN := Lib.hid (show OwnI (w1.setCell ⟨gu, row, none⟩ (.int .i64 (xorI r[row] m))) wa.heap.size (.slice (some ⟨gu, 0, none⟩) r.length cu) (if j = j then bendRow r row m else r) by
              rw [if_pos rfl]; unfold bendRow; rw [show r.getD row 0 = r[row] by rw [List.getD_eq_getElem?_getD, hx]; rfl]; exact HU.out.put row _)
            have HBN := Lib.hid (HB1.out.setCell (p := ⟨gu, row, none⟩) hgu (.int .i64 (xorI r[row] m)))
            generalize r[row] = x at *
            clear hx hr0 hcu e1
            go_wp2_with fail
            go_meet
            exact ⟨HN, HBN⟩
          · have hjk2 : ¬ (j : Int) = (k : Int) := by omega
            have HN := Lib.hid (show OwnI w1 wa.heap.size (.slice Au r.length cu) (if j = k then bendRow r row m else r) by rw [if_neg hjk]; exact HU.out)
            go_wp2_with fail
            go_meet
            exact ⟨HN, HB1⟩
        case rest =>
          obtain ⟨HU2, HB2⟩ := hcut
          clear HU HB1
          obtain ⟨W2, hW2⟩ : ∃ W, wc = W := ⟨_, rfl⟩
          rw [hW2] at HU2 HB2 ⊢
          clear hW2
          have HS2 := Lib.hid (HO.out.step HB2.out)
          have x0 : W2.cell? ⟨b, 0, none⟩ = some rv := HS2.out.blk.cell 0
          have hsz : w0.heap.size ≤ W2.heap.size := HS2.out.below.size
          have hlen : ((bendR g.rows k row m).take j).length = j := by simp [bendR_length]; omega
          have hown := HS2.out.own.rows.outer
          rw [hlen] at hown
          have HOW := Lib.hid hown
          clear hown
          go_wp2_with (at_builtin; refine wp_app1 (B := w0.heap.size) rfl rfl Try.underlying41 info_ints rfl HOW.out rfl rfl rfl (by unfold maxLen; omega) (by omega) hsz ?_; intro v' w2 ho hg hfr; have HN := Lib.hid (HO.out.row HB2.out HU2.out (by rw [hlen]; exact ho) hg hfr); have hk2 := HS2.out.blk.grown hg (fun e => HS2.out.far rv (by simp) e.symm); have z0 : w2.cell? ⟨b, 0, none⟩ = some rv := hk2.cell 0; have zf := hk2.free 0; clear hk2 ho hg hfr; obtain ⟨Av, cv9, ev, -⟩ := HN.out.own.rows.rowsIn.form; simp only [List.length_append, hlen, List.length_cons, List.length_nil, Nat.zero_add] at ev; subst ev)
          go_roundw
          case rel => exact ⟨j + 1, _, _, rfl, rfl, by omega, by go_num, _, _, by rw [take_snoc (bendR_at HRK.out)]; exact HN⟩
          case measure => simp [intOf]; omega
      · obtain rfl : j = g.rows.length := by omega
        obtain ⟨Ar, cr, rfl, -⟩ := HO.out.own.rows.rowsIn.form
        obtain ⟨Ao, co, rfl, -⟩ := HO.out.own.ones.ints
        obtain ⟨Ac, cc, rfl, -⟩ := HO.out.own.cols.ints
        have x0 : wa.cell? ⟨b, 0, none⟩ = some _ := HO.out.blk.cell 0
        have x1 : wa.cell? ⟨b, 1, none⟩ = some _ := HO.out.blk.cell 1
        have x2 : wa.cell? ⟨b, 2, none⟩ = some _ := HO.out.blk.cell 2
        have hR := HR.out.below HO.out.below HR.out.lt
        have y0 : wa.cell? ⟨w.heap.size + 1, 0, none⟩ = some (.slice none 0 0) := hR.cell 0
        have y1 : wa.cell? ⟨w.heap.size + 1, 1, none⟩ = some (.slice none 0 0) := hR.cell 1
        have y2 : wa.cell? ⟨w.heap.size + 1, 2, none⟩ = some (.slice none 0 0) := hR.cell 2
        have yf0 := hR.free 0
        have yf1 := hR.free 1
        have yf2 := hR.free 2
        have hlow := HR.out.lt
        have hRl := hR.lt
        clear hR
        go_wp2
        have hown : OwnGb wa w0.heap.size (.slice Ar ((bendR g.rows k row m).take g.rows.length).length cr) (.slice Ao g.ones.length co) (.slice Ac g.cols.length cc) vs (bendG g k row m) := by
          have h := HO.out.own
          rw [show (bendG g k row m) = ⟨(bendR g.rows k row m).take g.rows.length, g.ones, g.cols⟩ by unfold bendG; rw [List.take_of_length_le (by rw [bendR_length]; exact Nat.le_refl _)]]
          exact h
        rw [List.length_take] at hown
        refine bodyPost_ret (v := gbV (.slice Ar (min g.rows.length (bendR g.rows k row m).length) cr) (.slice Ao g.ones.length co) (.slice Ac g.cols.length cc)) (by simp [results, Try.results87, go_sem, gbV, y0, y1, y2]) rfl ⟨_, _, _, vs, rfl, ?_, ?_⟩
        · exact (((hown.setLow hlow 0 _).setLow hlow 1 _).setLow hlow 2 _).mono HB.out.size
        · exact ((HBa.out.setCell (p := ⟨w.heap.size + 1, 0, none⟩) (by simp) _).setCell (p := ⟨w.heap.size + 1, 1, none⟩) (by simp) _).setCell (p := ⟨w.heap.size + 1, 2, none⟩) (by simp) _

set_option maxRecDepth 100000 in
set_option maxHeartbeats 4000000 in
theorem c_spec_gbOwn {g : Gb} {rv nv cv : Value} {w : World} (h : GbIn w rv nv cv g) (hs : g.sz ≤ 1048576) :
    Calls Try.prog 89 #[gbV rv nv cv] w (RetGb w g) := by
  have H := Lib.hid h
  have HS := Lib.hid hs
  obtain ⟨hrw, ho, hc⟩ := h
  obtain ⟨A, c, rfl, -⟩ := hrw.form
  obtain ⟨A1, c1, rfl, -⟩ := ho
  obtain ⟨A2, c2, rfl, -⟩ := hc
  have hol : g.ones.length ≤ 1048576 := by unfold Gb.sz at hs; omega
  have hcl : g.cols.length ≤ 1048576 := by unfold Gb.sz at hs; omega
  have hrl : g.rows.length ≤ 1048576 := by unfold Gb.sz at hs; omega
  have HRL := Lib.hid (Gb.row_le hs)
  obtain ⟨A', c', e', hlc, hcm, hat⟩ := hrw.form
  injection e' with e1 e2 e3
  subst e1 e3
  have HAT := Lib.hid hat
  clear hrw hs hat
  unfold gbV
  go_enter Try.func89, Try.ntmps89
  go_upto_region 1 with fail
  obtain ⟨w0, hw0⟩ : ∃ W, ((w.alloc (.cells #[.slice A g.rows.length c, .slice A1 g.ones.length c1, .slice A2 g.cols.length c2] 47)).alloc (.cells #[.slice none 0 0, .slice none 0 0, .slice none 0 0] 47)) = W := ⟨_, rfl⟩
  have HP : Hid (Blk w0 w.heap.size 47 #[.slice A g.rows.length c, .slice A1 g.ones.length c1, .slice A2 g.cols.length c2]) := by rw [← hw0]; exact (Blk.new _ _ _).alloc _
  have HR : Hid (Blk w0 (w.heap.size + 1) 47 #[.slice none 0 0, .slice none 0 0, .slice none 0 0]) := by rw [← hw0]; have := Blk.new (w.alloc (.cells #[.slice A g.rows.length c, .slice A1 g.ones.length c1, .slice A2 g.cols.length c2] 47)) 47 #[.slice none 0 0, .slice none 0 0, .slice none 0 0]; simp only [World.size_alloc] at this; exact this
  have HB : Hid (Below w.heap.size w w0) := by rw [← hw0]; exact ((Below.refl _ _).alloc (Nat.le_refl _) _).alloc (by simp) _
  rw [hw0]
  clear hw0
  go_cut [3] (fun s9 wx => ∃ b ov cv, s9 = .pointer (some ⟨b, 0, none⟩) ∧ Hid (Three 47 wx w0 b ov cv g.ones g.cols))
  case first =>
    have q0 : ∀ w', Below w0.heap.size w0 w' → w'.cell? ⟨w.heap.size, 1, none⟩ = some (.slice A1 g.ones.length c1) := fun w' h => (h.cell (p := ⟨w.heap.size, 1, none⟩) HP.out.lt).trans (HP.out.cell 1)
    have q1 : ∀ w', Below w0.heap.size w0 w' → w'.cell? ⟨w.heap.size, 2, none⟩ = some (.slice A2 g.cols.length c2) := fun w' h => (h.cell (p := ⟨w.heap.size, 2, none⟩) HP.out.lt).trans (HP.out.cell 2)
    go_region_held3 (fun w' => Below w0.heap.size w0 w')
      (first | (refine below_step ?_ HD.out; assumption) | (exact (Below.refl _ _).drew) | (exact Below.refl _ _) | (exact Below.alloc (by assumption) (Below.size (B := w0.heap.size) (w := w0) (by assumption)) _) | (exact Below.alloc (Below.refl _ _) (Nat.le_refl _) _) | (exact below_refill (by assumption) (by first | exact Nat.le_refl _ | assumption | simp)) | (refine Below.setCell (Below.setCell (Below.setCell (by assumption) (p := ⟨_, 0, none⟩) ?_ _) (p := ⟨_, 1, none⟩) ?_ _) (p := ⟨_, 2, none⟩) ?_ _ <;> (first | exact Nat.le_refl _ | assumption)))
      (first
        | (go_at_call_of 84 (Value.slice A1 g.ones.length c1); refine (c_spec_l1Own ((H.out.ones.below HB.out).below (by first | assumption | (refine Below.alloc ?_ (Below.size ?_) _ <;> assumption))) (by omega)).mono ?_; rintro e wa ⟨ua, rfl, Oa, hb⟩; obtain ⟨Aa, ca, rfl, -⟩ := Oa.ints; replace Oa := Lib.hid Oa; have HD := Lib.hid hb; have hLa : Below w0.heap.size w0 wa := below_step (by first | assumption | exact (Below.refl _ _).drew) hb; have hsa : w0.heap.size ≤ wa.heap.size := Nat.le_trans (by first | exact Nat.le_refl _ | assumption | exact Nat.le_succ_of_le (by assumption) | (simp; done) | (simp; omega)) hb.size; (first | (replace KZ := Lib.hid (KZ.out.step hb)) | (have KZ : Hid (Blk _ w0.heap.size _ _) := Lib.hid ((Blk.new w0.drew _ _).step hb)) | (have KZ := Lib.hid ((Blk.new _ _ _).step hb)) | skip); (try (have y0 := KZ.out.cell 0; have y1 := KZ.out.cell 1; have y2 := KZ.out.cell 2; have yf0 := KZ.out.free 0; have yf1 := KZ.out.free 1; have yf2 := KZ.out.free 2; simp only [List.getElem?_toArray, List.getElem?_cons_zero, List.getElem?_cons_succ] at y0 y1 y2)))
        | (go_at_call_of 84 (Value.slice A2 g.cols.length c2); refine (c_spec_l1Own ((H.out.cols.below HB.out).below (by first | assumption | (refine Below.alloc ?_ (Below.size ?_) _ <;> assumption))) (by omega)).mono ?_; rintro e wb ⟨ub, rfl, Ob, hb⟩; obtain ⟨Ab, cb, rfl, -⟩ := Ob.ints; replace Ob := Lib.hid Ob; have HD := Lib.hid hb; have hLb : Below w0.heap.size w0 wb := below_step (by first | assumption | exact (Below.refl _ _).drew) hb; (try have hka := KZ.out.lt); have hsb : w0.heap.size ≤ wb.heap.size := Nat.le_trans (by first | exact Nat.le_refl _ | assumption | exact Nat.le_succ_of_le (by assumption) | (simp; done) | (simp; omega)) hb.size; (first | (replace KZ := Lib.hid (KZ.out.step hb)) | (have KZ : Hid (Blk _ w0.heap.size _ _) := Lib.hid ((Blk.new w0.drew _ _).step hb)) | (have KZ := Lib.hid ((Blk.new _ _ _).step hb)) | skip); (try (have y0 := KZ.out.cell 0; have y1 := KZ.out.cell 1; have y2 := KZ.out.cell 2; have yf0 := KZ.out.free 0; have yf1 := KZ.out.free 1; have yf2 := KZ.out.free 2; simp only [List.getElem?_toArray, List.getElem?_cons_zero, List.getElem?_cons_succ] at y0 y1 y2))))
    all_goals
      have h1 : OwnI wb w0.heap.size (.slice Aa g.ones.length ca) g.ones := (OwnI.mono (B' := w0.heap.size) Oa.out (by first | exact Nat.le_refl _ | (simp; done))).below (by first | exact HD.out | exact lit_trans HD.out)
      have h2 : OwnI wb w0.heap.size (.slice Ab g.cols.length cb) g.cols := OwnI.mono (B' := w0.heap.size) Ob.out (by first | exact hsa | exact Nat.le_succ_of_le hsa | (simp; omega))
      have h3 : Apt (.slice Aa g.ones.length ca) (.slice Ab g.cols.length cb) := Apt.ofLt Oa.out.lt (fun b hb => Nat.le_trans (by first | exact Nat.le_refl _ | (simp; done)) (Ob.out.ge b hb))
      have h4 := hLb
      go_wp2_with fail
      go_meet
      first
        | exact ⟨_, _, _, rfl, Lib.hid (three_new h1 h2 h3 h4 hsb)⟩
        | exact ⟨_, _, _, rfl, Lib.hid (three_set KZ.out h1 h2 h3 h4 (by rintro u (rfl | rfl) e; (first | (have l2 : w0.heap.size + 1 ≤ _ := Nat.le_trans (by simp) (Oa.out.ge _ e); omega) | (have l1 := Oa.out.lt _ e; omega)); (first | (have l3 := Ob.out.ge _ e; omega) | (have l4 : wa.heap.size + 1 ≤ _ := Nat.le_trans (by simp) (Ob.out.ge _ e); omega))) (by first | exact Nat.le_refl _ | exact hsa))⟩
  case rest =>
    obtain ⟨b, ov, cv, rfl, H3⟩ := hcut
    obtain ⟨W1, hW1⟩ : ∃ W, wc = W := ⟨_, rfl⟩
    rw [hW1] at H3 ⊢
    clear hW1
    have p0 : W1.cell? ⟨w.heap.size, 0, none⟩ = some (.slice A g.rows.length c) := (H3.out.below.cell (p := ⟨w.heap.size, 0, none⟩) HP.out.lt).trans (HP.out.cell 0)
    have HST := Lib.hid H3.out.sta
    have hlo := HST.out.lo
    clear H3
    go_wp2_with fail
    go_loopw [5, 16] (fun s5 i wr => ∃ (j : Nat) (x5 : Value), s5 = x5 ∧ j ≤ g.rows.length ∧ i = .int .i64 j ∧ ∃ rv vs, Hid (Sta 47 wr w0 b rv ov cv vs ⟨g.rows.take j, g.ones, g.cols⟩)) (fun _ i _ => g.rows.length - (intOf i).toNat)
    case atStart => exact ⟨0, _, rfl, Nat.zero_le _, rfl, _, _, by simpa using HST⟩
    case round =>
      obtain ⟨j, x5, rfl, hj, rfl, rv, vs, HO⟩ := hrel
      clear HST p0
      obtain ⟨wa, rfl⟩ : ∃ W, W = wr := ⟨wr, rfl⟩
      have HBa := Lib.hid (HB.out.trans (HO.out.below.mono HB.out.size))
      have hlb := HO.out.below.size
      by_cases hlt : j < g.rows.length
      · obtain ⟨bb, o, A', r, c', rfl, hbl, hrk, hcell, hi⟩ := HAT.out j hlt
        have hc2 := (HBa.out.cell (p := ⟨bb, o + j, none⟩) hbl).trans hcell
        have hrl' := HRL.out r (List.mem_of_getElem? hrk)
        have HI := Lib.hid ((hi.below HBa.out).drew)
        have HRK := Lib.hid hrk
        have hlen : (g.rows.take j).length = j := by simp; omega
        have x0 : wa.cell? ⟨b, 0, none⟩ = some rv := HO.out.blk.cell 0
        have hbl2 := HO.out.blk.lt
        clear hcell hi hrk
        go_wp2_with fail
        go_region_law (first
          | (refine step_app1 (B := w0.heap.size) (by rfl) (by rfl) Try.underlying41 info_ints rfl (HOW.out.alloc _) (cell_new w1 _ _) (by rfl) (by rfl) rfl (by unfold maxLen; omega) (by omega) (by simp; omega) ?_; intro v' w2 ho hg hfr; have HN := Lib.hid (HO.out.row (hb1.alloc hb1.size (.cells #[.slice Au r.length cu] 23)) (hu.alloc _) (by rw [hlen]; exact ho) hg hfr); have hk2 := (HS1.out.blk.alloc (.cells #[.slice Au r.length cu] 23)).grown hg (fun e => HS1.out.far rv (by simp) e.symm); have z0 : w2.cell? ⟨b, 0, none⟩ = some rv := hk2.cell 0; have zf := hk2.free 0; clear hk2; obtain ⟨Av, cv9, ev, -⟩ := HN.out.own.rows.rowsIn.form; simp only [List.length_append, hlen, List.length_cons, List.length_nil, Nat.zero_add] at ev; subst ev)
          | (go_simp; go_at_call 84; refine (c_spec_l1Own HI.out (by omega)).mono ?_; rintro e w1 ⟨u, rfl, hu, hb1⟩; obtain ⟨Au, cu, rfl, -⟩ := hu.ints; replace hb1 : Below wa.heap.size wa w1 := below_step ((Below.refl _ _).drew) hb1; have hsz1 := hb1.size; have HS1 := Lib.hid (HO.out.step hb1); have x1 : w1.cell? ⟨b, 0, none⟩ = some rv := HS1.out.blk.cell 0; have x2 : (w1.alloc (.cells #[.slice Au r.length cu] 23)).cell? ⟨b, 0, none⟩ = some rv := (HS1.out.blk.alloc _).cell 0; have hown := HS1.out.own.rows.outer; rw [hlen] at hown; have HOW := Lib.hid hown; clear hown))
        all_goals
          go_wp2
          go_roundw
          case rel => exact ⟨j + 1, _, rfl, by omega, by go_num, _, _, by rw [take_snoc HRK.out]; exact HN⟩
          case measure => simp [intOf]; omega
      · obtain rfl : j = g.rows.length := by omega
        have HO2 : Hid (Sta 47 wa w0 b rv ov cv vs g) := by have h := HO.out; rw [List.take_of_length_le (Nat.le_refl _)] at h; exact h
        clear HO
        obtain ⟨Ar, cr, rfl, -⟩ := HO2.out.own.rows.rowsIn.form
        obtain ⟨Ao, co, rfl, -⟩ := HO2.out.own.ones.ints
        obtain ⟨Ac, cc, rfl, -⟩ := HO2.out.own.cols.ints
        have x0 : wa.cell? ⟨b, 0, none⟩ = some _ := HO2.out.blk.cell 0
        have x1 : wa.cell? ⟨b, 1, none⟩ = some _ := HO2.out.blk.cell 1
        have x2 : wa.cell? ⟨b, 2, none⟩ = some _ := HO2.out.blk.cell 2
        have hR := HR.out.below HO2.out.below HR.out.lt
        have y0 : wa.cell? ⟨w.heap.size + 1, 0, none⟩ = some (.slice none 0 0) := hR.cell 0
        have y1 : wa.cell? ⟨w.heap.size + 1, 1, none⟩ = some (.slice none 0 0) := hR.cell 1
        have y2 : wa.cell? ⟨w.heap.size + 1, 2, none⟩ = some (.slice none 0 0) := hR.cell 2
        have yf0 := hR.free 0
        have yf1 := hR.free 1
        have yf2 := hR.free 2
        have hlow := HR.out.lt
        have hRl := hR.lt
        clear hR
        go_wp2
        refine bodyPost_ret (v := gbV (.slice Ar g.rows.length cr) (.slice Ao g.ones.length co) (.slice Ac g.cols.length cc)) (by simp [results, Try.results89, go_sem, gbV, y0, y1, y2]) rfl ⟨_, _, _, vs, rfl, ?_, ?_⟩
        · exact (((HO2.out.own.setLow hlow 0 _).setLow hlow 1 _).setLow hlow 2 _).mono HB.out.size
        · exact ((HBa.out.setCell (p := ⟨w.heap.size + 1, 0, none⟩) (by simp) _).setCell (p := ⟨w.heap.size + 1, 1, none⟩) (by simp) _).setCell (p := ⟨w.heap.size + 1, 2, none⟩) (by simp) _
end Go.Proofs.Ytamngnenpapogaa
