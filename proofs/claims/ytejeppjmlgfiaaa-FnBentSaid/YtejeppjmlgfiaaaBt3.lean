/- Contracts of tables with one row bent. Conditions: the row is there, the tables are short. -/
import Derived.Test.YtejeppjmlgfiaaaTabS
import Derived.Test.YtejeppjmlgfiaaaSta
import Derived.Test.YtejeppjmlgfiaaaDig3
import Derived.Test.YtejeppjmlgfiaaaWir
import Derived.Test.YtejeppjmlgfiaaaBt6
import Derived.Test.YtejeppjmlgfiaaaLabX
import Derived.Test.YtejeppjmlgfiaaaLabG
namespace Go.Proofs.Ytejeppjmlgfiaaa
open Go.RowKit
set_option linter.unusedVariables false

def bendRow (r : List Int) (row : Nat) (m : Int) : List Int := r.set row (xorI (r.getD row 0) m)
def bendR (rows : List (List Int)) (k row : Nat) (m : Int) : List (List Int) := rows.set k (bendRow (rows.getD k []) row m)
def bendG (g : Gb) (k row : Nat) (m : Int) : Gb := ⟨bendR g.rows k row m, g.ones, g.cols⟩
theorem bendR_at {rows : List (List Int)} {k row j : Nat} {m : Int} {r : List Int} (h : rows[j]? = some r) : (bendR rows k row m)[j]? = some (if j = k then bendRow r row m else r) := by
  have hj : j < rows.length := (List.getElem?_eq_some_iff.1 h).1
  unfold bendR
  by_cases e : j = k
  · subst e; rw [List.getElem?_set_self hj, if_pos rfl, List.getD_eq_getElem?_getD, h]; rfl
  · rw [List.getElem?_set_ne (fun h => e h.symm), if_neg e, h]
theorem bendR_length (rows : List (List Int)) (k row : Nat) (m : Int) : (bendR rows k row m).length = rows.length := by simp [bendR]

set_option maxRecDepth 100000 in
set_option maxHeartbeats 4000000 in
theorem c_impl_bent {g : Gb} {rv nv cv : Value} {w : World} {k row : Nat} {m : Int} (h : GbIn w rv nv cv g) (hs : g.sz ≤ 1048576) (hk : k < g.rows.length) (hrow : row < (g.rows.getD k []).length) (hr : ∀ x ∈ g.rows.getD k [], 0 ≤ x ∧ x ≤ 65535) (hm : 0 ≤ m ∧ m ≤ 65535) :
    Calls Try.prog 69 #[gbV rv nv cv, .int .i64 k, .int .i64 row, .int .i64 m] w (RetGb w (bendG g k row m)) := by
  have H := Lib.hid h
  have HS := Lib.hid hs
  obtain ⟨hrw, ho, hc⟩ := h
  obtain ⟨A, c, rfl, -⟩ := hrw.form
  obtain ⟨A1, c1, rfl, -⟩ := ho
  obtain ⟨A2, c2, rfl, -⟩ := hc
  have hol : g.ones.length ≤ 1048576 := by unfold Gb.sz at hs; omega
  have hcl : g.cols.length ≤ 1048576 := by unfold Gb.sz at hs; omega
  have hrl : g.rows.length ≤ 1048576 := by unfold Gb.sz at hs; omega
  have HRL := Lib.hid (Gb.row_le hs)
  obtain ⟨A', c', e', hlc, hcm, hat⟩ := hrw.form
  injection e' with e1 e2 e3
  subst e1 e3
  have HAT := Lib.hid hat
  clear hrw hs hat
  have HROW := Lib.hid hrow
  have HR0 := Lib.hid hr
  clear hrow hr
  unfold gbV
  go_enter Try.func69, Try.ntmps69
  go_upto_region 1 with fail
  obtain ⟨w0, hw0⟩ : ∃ W, ((w.alloc (.cells #[.slice A g.rows.length c, .slice A1 g.ones.length c1, .slice A2 g.cols.length c2] 68)).alloc (.cells #[.slice none 0 0, .slice none 0 0, .slice none 0 0] 68)) = W := ⟨_, rfl⟩
  have HP : Hid (Blk w0 w.heap.size 68 #[.slice A g.rows.length c, .slice A1 g.ones.length c1, .slice A2 g.cols.length c2]) := by rw [← hw0]; exact (Blk.new _ _ _).alloc _
  have HR : Hid (Blk w0 (w.heap.size + 1) 68 #[.slice none 0 0, .slice none 0 0, .slice none 0 0]) := by rw [← hw0]; have := Blk.new (w.alloc (.cells #[.slice A g.rows.length c, .slice A1 g.ones.length c1, .slice A2 g.cols.length c2] 68)) 68 #[.slice none 0 0, .slice none 0 0, .slice none 0 0]; simp only [World.size_alloc] at this; exact this
  have HB : Hid (Below w.heap.size w w0) := by rw [← hw0]; exact ((Below.refl _ _).alloc (Nat.le_refl _) _).alloc (by simp) _
  rw [hw0]
  clear hw0
  go_cut [9] (fun s9 wx => ∃ b ov cv, s9 = .pointer (some ⟨b, 0, none⟩) ∧ Hid (Three 68 wx w0 b ov cv g.ones g.cols))
  case first =>
    have q0 : ∀ w', Below w0.heap.size w0 w' → w'.cell? ⟨w.heap.size, 1, none⟩ = some (.slice A1 g.ones.length c1) := fun w' h => (h.cell (p := ⟨w.heap.size, 1, none⟩) HP.out.lt).trans (HP.out.cell 1)
    have q1 : ∀ w', Below w0.heap.size w0 w' → w'.cell? ⟨w.heap.size, 2, none⟩ = some (.slice A2 g.cols.length c2) := fun w' h => (h.cell (p := ⟨w.heap.size, 2, none⟩) HP.out.lt).trans (HP.out.cell 2)
    go_region_held3 (fun w' => Below w0.heap.size w0 w')
      (first | (refine below_step ?_ HD.out; assumption) | (exact (Below.refl _ _).drew) | (exact Below.refl _ _) | (exact Below.alloc (by assumption) (Below.size (B := w0.heap.size) (w := w0) (by assumption)) _) | (exact Below.alloc (Below.refl _ _) (Nat.le_refl _) _) | (exact below_refill (by assumption) (by first | exact Nat.le_refl _ | assumption | simp)) | (refine Below.setCell (Below.setCell (Below.setCell (by assumption) (p := ⟨_, 0, none⟩) ?_ _) (p := ⟨_, 1, none⟩) ?_ _) (p := ⟨_, 2, none⟩) ?_ _ <;> (first | exact Nat.le_refl _ | assumption)))
      (first
        | (go_at_call_of 108 (Value.slice A1 g.ones.length c1); refine (c_slices_Clone ((H.out.ones.below HB.out).below (by first | assumption | (refine Below.alloc ?_ (Below.size ?_) _ <;> assumption))) (by omega)).mono ?_; rintro e wa ⟨ua, rfl, Oa, hb⟩; obtain ⟨Aa, ca, rfl, -⟩ := Oa.ints; replace Oa := Lib.hid Oa; have HD := Lib.hid hb; have hLa : Below w0.heap.size w0 wa := below_step (by first | assumption | exact (Below.refl _ _).drew) hb; have hsa : w0.heap.size ≤ wa.heap.size := Nat.le_trans (by first | exact Nat.le_refl _ | assumption | exact Nat.le_succ_of_le (by assumption) | (simp; done) | (simp; omega)) hb.size; (first | (replace KZ := Lib.hid (KZ.out.step hb)) | (have KZ : Hid (Blk _ w0.heap.size _ _) := Lib.hid ((Blk.new w0.drew _ _).step hb)) | (have KZ := Lib.hid ((Blk.new _ _ _).step hb)) | skip); (try (have y0 := KZ.out.cell 0; have y1 := KZ.out.cell 1; have y2 := KZ.out.cell 2; have yf0 := KZ.out.free 0; have yf1 := KZ.out.free 1; have yf2 := KZ.out.free 2; simp only [List.getElem?_toArray, List.getElem?_cons_zero, List.getElem?_cons_succ] at y0 y1 y2)))
        | (go_at_call_of 108 (Value.slice A2 g.cols.length c2); refine (c_slices_Clone ((H.out.cols.below HB.out).below (by first | assumption | (refine Below.alloc ?_ (Below.size ?_) _ <;> assumption))) (by omega)).mono ?_; rintro e wb ⟨ub, rfl, Ob, hb⟩; obtain ⟨Ab, cb, rfl, -⟩ := Ob.ints; replace Ob := Lib.hid Ob; have HD := Lib.hid hb; have hLb : Below w0.heap.size w0 wb := below_step (by first | assumption | exact (Below.refl _ _).drew) hb; (try have hka := KZ.out.lt); have hsb : w0.heap.size ≤ wb.heap.size := Nat.le_trans (by first | exact Nat.le_refl _ | assumption | exact Nat.le_succ_of_le (by assumption) | (simp; done) | (simp; omega)) hb.size; (first | (replace KZ := Lib.hid (KZ.out.step hb)) | (have KZ : Hid (Blk _ w0.heap.size _ _) := Lib.hid ((Blk.new w0.drew _ _).step hb)) | (have KZ := Lib.hid ((Blk.new _ _ _).step hb)) | skip); (try (have y0 := KZ.out.cell 0; have y1 := KZ.out.cell 1; have y2 := KZ.out.cell 2; have yf0 := KZ.out.free 0; have yf1 := KZ.out.free 1; have yf2 := KZ.out.free 2; simp only [List.getElem?_toArray, List.getElem?_cons_zero, List.getElem?_cons_succ] at y0 y1 y2))))
    all_goals
      have h1 : OwnI wb w0.heap.size (.slice Aa g.ones.length ca) g.ones := (OwnI.mono (B' := w0.heap.size) Oa.out (by first | exact Nat.le_refl _ | (simp; done))).below (by first | exact HD.out | exact lit_trans HD.out)
      have h2 : OwnI wb w0.heap.size (.slice Ab g.cols.length cb) g.cols := OwnI.mono (B' := w0.heap.size) Ob.out (by first | exact hsa | exact Nat.le_succ_of_le hsa | (simp; omega))
      have h3 : Apt (.slice Aa g.ones.length ca) (.slice Ab g.cols.length cb) := Apt.ofLt Oa.out.lt (fun b hb => Nat.le_trans (by first | exact Nat.le_refl _ | (simp; done)) (Ob.out.ge b hb))
      have h4 := hLb
      go_wp2_with fail
      go_meet
      first
        | exact ⟨_, _, _, rfl, Lib.hid (three_new h1 h2 h3 h4 hsb)⟩
        | exact ⟨_, _, _, rfl, Lib.hid (three_set KZ.out h1 h2 h3 h4 (by rintro u (rfl | rfl) e; (first | (have l2 : w0.heap.size + 1 ≤ _ := Nat.le_trans (by simp) (Oa.out.ge _ e); omega) | (have l1 := Oa.out.lt _ e; omega)); (first | (have l3 := Ob.out.ge _ e; omega) | (have l4 : wa.heap.size + 1 ≤ _ := Nat.le_trans (by simp) (Ob.out.ge _ e); omega))) (by first | exact Nat.le_refl _ | exact hsa))⟩
  case rest =>
    obtain ⟨b, ov, cv, rfl, H3⟩ := hcut
    have hs0 := H3.out.below.size
    obtain ⟨W1, hW1⟩ : ∃ W, wc = W := ⟨_, rfl⟩
    rw [hW1] at H3 ⊢
    clear hW1
    have p0 : W1.cell? ⟨w.heap.size, 0, none⟩ = some (.slice A g.rows.length c) := (H3.out.below.cell (p := ⟨w.heap.size, 0, none⟩) HP.out.lt).trans (HP.out.cell 0)
    have HST := Lib.hid H3.out.sta
    have hlo := HST.out.lo
    clear H3 hs0
    go_wp2_with fail
    go_loopw [10, 11, 22] (fun s10 s11 i wr => ∃ (j : Nat) (x10 x11 : Value), s10 = x10 ∧ s11 = x11 ∧ j ≤ g.rows.length ∧ i = .int .i64 j ∧ ∃ rv vs, Hid (Sta 68 wr w0 b rv ov cv vs ⟨(bendR g.rows k row m).take j, g.ones, g.cols⟩)) (fun _ _ i _ => g.rows.length - (intOf i).toNat)
    case atStart => exact ⟨0, _, _, rfl, rfl, Nat.zero_le _, rfl, _, _, by simpa using HST⟩
    case round =>
      obtain ⟨j, x10, x11, rfl, rfl, hj, rfl, rv, vs, HO⟩ := hrel
      clear HST p0
      obtain ⟨wa, rfl⟩ : ∃ W, W = wr := ⟨wr, rfl⟩
      have HBa := Lib.hid (HB.out.trans (HO.out.below.mono HB.out.size))
      have hlb := HO.out.below.size
      by_cases hlt : j < g.rows.length
      · obtain ⟨bb, o, A', r, c', rfl, hbl, hrk, hcell, hi⟩ := HAT.out j hlt
        have hc2 := (HBa.out.cell (p := ⟨bb, o + j, none⟩) hbl).trans hcell
        have hrl' := HRL.out r (List.mem_of_getElem? hrk)
        have HI := Lib.hid (hi.below HBa.out)
        have HRK := Lib.hid hrk
        clear hcell hi hrk
        go_wp2_with fail
        refine (c_slices_Clone HI.out (by omega)).mono ?_
        rintro e w1 ⟨u, rfl, hu, hb1⟩
        obtain ⟨Au, cu, rfl, -⟩ := hu.ints
        have HU := Lib.hid hu
        have HB1 := Lib.hid hb1
        clear hu hb1 hc2
        go_upto_if 31 with fail
        go_cut [] (fun wx => Hid (OwnI wx wa.heap.size (.slice Au r.length cu) (if j = k then bendRow r row m else r)) ∧ Hid (Below wa.heap.size wa wx))
        case first =>
          by_cases hjk : j = k
          · subst hjk
            have e1 : g.rows.getD j [] = r := by rw [List.getD_eq_getElem?_getD, HRK.out]; rfl
            have hrow := HROW.out
            have hr0 := HR0.out
            rw [e1] at hrow hr0
            have hx : r[row]? = some r[row] := List.getElem?_eq_getElem hrow
            have hxb := hr0 r[row] (List.getElem_mem _)
            have hbx := bits_xor hxb.1 hm.1 (by omega) (by omega)
            obtain ⟨gu, cu', e2, -, hgb, hcu⟩ := own_at HU.out (by intro e; rw [e] at hrow; simp at hrow)
            injection e2 with e3 e4 e5
            subst e3 e5
            have hc0 := hcu row _ hx
            have hfz := HU.out.free row
            have hgu := (HU.out.ge gu rfl)
            have HN := Lib.hid (show OwnI (w1.setCell ⟨gu, row, none⟩ (.int .i64 (xorI r[row] m))) wa.heap.size (.slice (some ⟨gu, 0, none⟩) r.length cu) (if j = j then bendRow r row m else r) by
              rw [if_pos rfl]; unfold bendRow; rw [show r.getD row 0 = r[row] by rw [List.getD_eq_getElem?_getD, hx]; rfl]; exact HU.out.put row _)
            have HBN := Lib.hid (HB1.out.setCell (p := ⟨gu, row, none⟩) hgu (.int .i64 (xorI r[row] m)))
            generalize r[row] = x at *
            clear hx hr0 hcu e1
            go_wp2_with fail
            go_meet
            exact ⟨HN, HBN⟩
          · have hjk2 : ¬ (j : Int) = (k : Int) := by omega
            have HN := Lib.hid (show OwnI w1 wa.heap.size (.slice Au r.length cu) (if j = k then bendRow r row m else r) by rw [if_neg hjk]; exact HU.out)
            go_wp2_with fail
            go_meet
            exact ⟨HN, HB1⟩
        case rest =>
          obtain ⟨HU2, HB2⟩ := hcut
          clear HU HB1
          obtain ⟨W2, hW2⟩ : ∃ W, wc = W := ⟨_, rfl⟩
          rw [hW2] at HU2 HB2 ⊢
          clear hW2
          have HS2 := Lib.hid (HO.out.step HB2.out)
          have x0 : W2.cell? ⟨b, 0, none⟩ = some rv := HS2.out.blk.cell 0
          have hsz : w0.heap.size ≤ W2.heap.size := HS2.out.below.size
          have hlen : ((bendR g.rows k row m).take j).length = j := by simp [bendR_length]; omega
          have hown := HS2.out.own.rows.outer
          rw [hlen] at hown
          have HOW := Lib.hid hown
          clear hown
          go_wp2_with (at_builtin; refine wp_app1 (B := w0.heap.size) rfl rfl Try.underlying27 info_ints rfl HOW.out rfl rfl rfl (by unfold maxLen; omega) (by omega) hsz ?_; intro v' w2 ho hg hfr; have HN := Lib.hid (HO.out.row HB2.out HU2.out (by rw [hlen]; exact ho) hg hfr); have hk2 := HS2.out.blk.grown hg (fun e => HS2.out.far rv (by simp) e.symm); have z0 : w2.cell? ⟨b, 0, none⟩ = some rv := hk2.cell 0; have zf := hk2.free 0; clear hk2 ho hg hfr; obtain ⟨Av, cv9, ev, -⟩ := HN.out.own.rows.rowsIn.form; simp only [List.length_append, hlen, List.length_cons, List.length_nil, Nat.zero_add] at ev; subst ev)
          go_roundw
          case rel => exact ⟨j + 1, _, _, rfl, rfl, by omega, by go_num, _, _, by rw [take_snoc (bendR_at HRK.out)]; exact HN⟩
          case measure => simp [intOf]; omega
      · obtain rfl : j = g.rows.length := by omega
        obtain ⟨Ar, cr, rfl, -⟩ := HO.out.own.rows.rowsIn.form
        obtain ⟨Ao, co, rfl, -⟩ := HO.out.own.ones.ints
        obtain ⟨Ac, cc, rfl, -⟩ := HO.out.own.cols.ints
        have x0 : wa.cell? ⟨b, 0, none⟩ = some _ := HO.out.blk.cell 0
        have x1 : wa.cell? ⟨b, 1, none⟩ = some _ := HO.out.blk.cell 1
        have x2 : wa.cell? ⟨b, 2, none⟩ = some _ := HO.out.blk.cell 2
        have hR := HR.out.below HO.out.below HR.out.lt
        have y0 : wa.cell? ⟨w.heap.size + 1, 0, none⟩ = some (.slice none 0 0) := hR.cell 0
        have y1 : wa.cell? ⟨w.heap.size + 1, 1, none⟩ = some (.slice none 0 0) := hR.cell 1
        have y2 : wa.cell? ⟨w.heap.size + 1, 2, none⟩ = some (.slice none 0 0) := hR.cell 2
        have yf0 := hR.free 0
        have yf1 := hR.free 1
        have yf2 := hR.free 2
        have hlow := HR.out.lt
        have hRl := hR.lt
        clear hR
        go_wp2
        have hown : OwnGb wa w0.heap.size (.slice Ar ((bendR g.rows k row m).take g.rows.length).length cr) (.slice Ao g.ones.length co) (.slice Ac g.cols.length cc) vs (bendG g k row m) := by
          have h := HO.out.own
          rw [show (bendG g k row m) = ⟨(bendR g.rows k row m).take g.rows.length, g.ones, g.cols⟩ by unfold bendG; rw [List.take_of_length_le (by rw [bendR_length]; exact Nat.le_refl _)]]
          exact h
        rw [List.length_take] at hown
        refine bodyPost_ret (v := gbV (.slice Ar (min g.rows.length (bendR g.rows k row m).length) cr) (.slice Ao g.ones.length co) (.slice Ac g.cols.length cc)) (by simp [results, Try.results69, go_sem, gbV, y0, y1, y2]) rfl ⟨_, _, _, vs, rfl, ?_, ?_⟩
        · exact (((hown.setLow hlow 0 _).setLow hlow 1 _).setLow hlow 2 _).mono HB.out.size
        · exact ((HBa.out.setCell (p := ⟨w.heap.size + 1, 0, none⟩) (by simp) _).setCell (p := ⟨w.heap.size + 1, 1, none⟩) (by simp) _).setCell (p := ⟨w.heap.size + 1, 2, none⟩) (by simp) _

end Go.Proofs.Ytejeppjmlgfiaaa

/- Contracts of the bending of one row. Conditions: the tables are short. -/
namespace Go.Proofs.Ytejeppjmlgfiaaa
open Go.RowKit
set_option linter.unusedVariables false

theorem OwnGb.put {w w' : World} {B : Nat} {rv ov cv u : Value} {vs : List Value} {g : Gb} {i : Nat} {r : List Int} (h : OwnGb w B rv ov cv vs g) (hi : vs[i]? = some u) (hg : w.grownBy w' u.ownBlock) (hu : OwnI w' B u r) : OwnGb w' B rv ov cv vs ⟨g.rows.set i r, g.ones, g.cols⟩ := by
  have hap := List.pairwise_cons.1 h.apart
  have hap2 := List.pairwise_cons.1 hap.2
  have hm := List.mem_of_getElem? hi
  exact ⟨h.rows.put hi hg hu, h.ones.grown hg (fun x e e' => hap.1 u (by simp [hm]) x e e'.symm), h.cols.grown hg (fun x e e' => hap2.1 u (by simp [hm]) x e e'.symm), h.apart⟩
def bendM (n lo hi : Int) (c : Cir) (g : Gb) (k row m : Int) : Option Gb := if cirB c && tabB n c g && inB k 0 ((g.rows.length : Int) - 1) && inB row lo hi && inB m 0 65535 then some (bendG g k.toNat (row - lo).toNat m) else none
theorem bend_row {n : Int} {c : Cir} {g : Gb} {k : Nat} (h : tabB n c g = true) (hk : k < g.rows.length) : ((g.rows.getD k []).length : Int) = n ∧ ∀ x ∈ g.rows.getD k [], 0 ≤ x ∧ x ≤ 65535 := by
  have e : g.rows.getD k [] = g.rows[k] := by rw [List.getD_eq_getElem?_getD, List.getElem?_eq_getElem hk]; rfl
  rw [e]; exact (tabB_of h).2.1 _ (List.getElem_mem hk)
set_option maxRecDepth 100000 in
set_option maxHeartbeats 4000000 in
theorem c_impl_BendHalf {c : Cir} {g : Gb} {gv qv rv nv cv : Value} {w : World} {k row m : Int} (hC : CirIn w gv qv c) (h : GbIn w rv nv cv g) (hs : g.sz ≤ 1048576) :
    Calls Try.prog 13 #[cirV c gv qv, gbV rv nv cv, .int .i64 k, .int .i64 row, .int .i64 m] w (RetGbB w (bendM 2 0 1 c g k row m)) := by
  have H := Lib.hid h
  have HS := Lib.hid hs
  obtain ⟨hrw, ho, hc⟩ := h
  obtain ⟨A, c9, rfl, -⟩ := hrw.form
  obtain ⟨A1, c1, rfl, -⟩ := ho
  obtain ⟨A2, c2, rfl, -⟩ := hc
  have hol : g.ones.length ≤ 1048576 := by unfold Gb.sz at hs; omega
  have hcl : g.cols.length ≤ 1048576 := by unfold Gb.sz at hs; omega
  have hrl : g.rows.length ≤ 1048576 := by unfold Gb.sz at hs; omega
  have HRL := Lib.hid (Gb.row_le hs)
  obtain ⟨A', c', e', hlc, hcm, hat⟩ := hrw.form
  injection e' with e1 e2 e3
  subst e1 e3
  have HAT := Lib.hid hat
  clear hrw hs hat
  have HC := Lib.hid hC
  obtain ⟨hg, ho⟩ := hC
  obtain ⟨Ag, cg, rfl, -⟩ := hg
  obtain ⟨Aq, cq, rfl, -⟩ := ho
  unfold cirV gbV
  obtain ⟨w0, hw0⟩ : ∃ W, (((w.alloc (.cells #[.int .i64 c.i0, .int .i64 c.i1, .slice Ag c.gs.length cg, .slice Aq c.outs.length cq] 26)).alloc (.cells #[.slice A g.rows.length c9, .slice A1 g.ones.length c1, .slice A2 g.cols.length c2] 29)).alloc (.cells #[.slice none 0 0, .slice none 0 0, .slice none 0 0] 29)) = W := ⟨_, rfl⟩
  have HK0 : Hid (Blk w0 w.heap.size 26 #[.int .i64 c.i0, .int .i64 c.i1, .slice Ag c.gs.length cg, .slice Aq c.outs.length cq]) := by rw [← hw0]; exact ((Blk.new _ _ _).alloc _).alloc _
  have HK1 : Hid (Blk w0 (w.heap.size + 1) 29 #[.slice A g.rows.length c9, .slice A1 g.ones.length c1, .slice A2 g.cols.length c2]) := by rw [← hw0]; have := (Blk.new (w.alloc (.cells #[.int .i64 c.i0, .int .i64 c.i1, .slice Ag c.gs.length cg, .slice Aq c.outs.length cq] 26)) 29 #[.slice A g.rows.length c9, .slice A1 g.ones.length c1, .slice A2 g.cols.length c2]).alloc (.cells #[.slice none 0 0, .slice none 0 0, .slice none 0 0] 29); simp only [World.size_alloc] at this; exact this
  have HK2 : Hid (Blk w0 (w.heap.size + 1 + 1) 29 #[.slice none 0 0, .slice none 0 0, .slice none 0 0]) := by rw [← hw0]; have := Blk.new ((w.alloc (.cells #[.int .i64 c.i0, .int .i64 c.i1, .slice Ag c.gs.length cg, .slice Aq c.outs.length cq] 26)).alloc (.cells #[.slice A g.rows.length c9, .slice A1 g.ones.length c1, .slice A2 g.cols.length c2] 29)) 29 #[.slice none 0 0, .slice none 0 0, .slice none 0 0]; simp only [World.size_alloc] at this; exact this
  have HB : Hid (Below w.heap.size w w0) := by rw [← hw0]; exact (((Below.refl _ _).alloc (Nat.le_refl _) _).alloc (by simp) _).alloc (by simp; omega) _
  rcases k1 : cirB c with _ | _
  · skip
    have HM := Lib.hid (show bendM 2 0 1 c g k row m = none by unfold bendM; simp [k1])
    have xa0 : w0.cell? ⟨w.heap.size, 0, none⟩ = some (.int .i64 c.i0) := HK0.out.cell 0
    have xa1 : w0.cell? ⟨w.heap.size, 1, none⟩ = some (.int .i64 c.i1) := HK0.out.cell 1
    have xa2 : w0.cell? ⟨w.heap.size, 2, none⟩ = some (.slice Ag c.gs.length cg) := HK0.out.cell 2
    have xa3 : w0.cell? ⟨w.heap.size, 3, none⟩ = some (.slice Aq c.outs.length cq) := HK0.out.cell 3
    have xb0 : w0.cell? ⟨w.heap.size + 1, 0, none⟩ = some (.slice A g.rows.length c9) := HK1.out.cell 0
    have xb1 : w0.cell? ⟨w.heap.size + 1, 1, none⟩ = some (.slice A1 g.ones.length c1) := HK1.out.cell 1
    have xb2 : w0.cell? ⟨w.heap.size + 1, 2, none⟩ = some (.slice A2 g.cols.length c2) := HK1.out.cell 2
    have xr0 : w0.cell? ⟨w.heap.size + 1 + 1, 0, none⟩ = some (.slice none 0 0) := HK2.out.cell 0
    have xrf0 : w0.frozen? ⟨w.heap.size + 1 + 1, 0, none⟩ = false := HK2.out.free 0
    have xr1 : w0.cell? ⟨w.heap.size + 1 + 1, 1, none⟩ = some (.slice none 0 0) := HK2.out.cell 1
    have xrf1 : w0.frozen? ⟨w.heap.size + 1 + 1, 1, none⟩ = false := HK2.out.free 1
    have xr2 : w0.cell? ⟨w.heap.size + 1 + 1, 2, none⟩ = some (.slice none 0 0) := HK2.out.cell 2
    have xrf2 : w0.frozen? ⟨w.heap.size + 1 + 1, 2, none⟩ = false := HK2.out.free 2
    go_enter Try.func13, Try.ntmps13
    go_wp2_with fail
    clear hw0
    refine (c_impl_IsCircuit (HC.out.below HB.out)).mono ?_
    rintro e wz ⟨rfl, hb⟩
    clear xa0 xa1 xa2 xa3 xb0 xb1 xb2 xr0 xr1 xr2 xrf0 xrf1 xrf2
    replace HK0 := Lib.hid (HK0.out.step hb)
    replace HK1 := Lib.hid (HK1.out.step hb)
    replace HK2 := Lib.hid (HK2.out.step hb)
    replace HB := Lib.hid (below_step HB.out hb)
    clear hb
    have xa0 : wz.cell? ⟨w.heap.size, 0, none⟩ = some (.int .i64 c.i0) := HK0.out.cell 0
    have xa1 : wz.cell? ⟨w.heap.size, 1, none⟩ = some (.int .i64 c.i1) := HK0.out.cell 1
    have xa2 : wz.cell? ⟨w.heap.size, 2, none⟩ = some (.slice Ag c.gs.length cg) := HK0.out.cell 2
    have xa3 : wz.cell? ⟨w.heap.size, 3, none⟩ = some (.slice Aq c.outs.length cq) := HK0.out.cell 3
    have xb0 : wz.cell? ⟨w.heap.size + 1, 0, none⟩ = some (.slice A g.rows.length c9) := HK1.out.cell 0
    have xb1 : wz.cell? ⟨w.heap.size + 1, 1, none⟩ = some (.slice A1 g.ones.length c1) := HK1.out.cell 1
    have xb2 : wz.cell? ⟨w.heap.size + 1, 2, none⟩ = some (.slice A2 g.cols.length c2) := HK1.out.cell 2
    have xr0 : wz.cell? ⟨w.heap.size + 1 + 1, 0, none⟩ = some (.slice none 0 0) := HK2.out.cell 0
    have xrf0 : wz.frozen? ⟨w.heap.size + 1 + 1, 0, none⟩ = false := HK2.out.free 0
    have xr1 : wz.cell? ⟨w.heap.size + 1 + 1, 1, none⟩ = some (.slice none 0 0) := HK2.out.cell 1
    have xrf1 : wz.frozen? ⟨w.heap.size + 1 + 1, 1, none⟩ = false := HK2.out.free 1
    have xr2 : wz.cell? ⟨w.heap.size + 1 + 1, 2, none⟩ = some (.slice none 0 0) := HK2.out.cell 2
    have xrf2 : wz.frozen? ⟨w.heap.size + 1 + 1, 2, none⟩ = false := HK2.out.free 2
    go_wp2
    refine bodyPost_ret (v := .tuple #[gbV (.slice none 0 0) (.slice none 0 0) (.slice none 0 0), .bool false]) (by simp [results, Try.results13, go_sem, gbV, xr0, xr1, xr2]) rfl ?_
    rw [HM.out]
    exact RetGbB.no (((HB.out.setCell (p := ⟨w.heap.size + 1 + 1, 0, none⟩) (by simp; omega) _).setCell (p := ⟨w.heap.size + 1 + 1, 1, none⟩) (by simp; omega) _).setCell (p := ⟨w.heap.size + 1 + 1, 2, none⟩) (by simp; omega) _)
  rcases k2 : tabB 2 c g with _ | _
  · skip
    have HM := Lib.hid (show bendM 2 0 1 c g k row m = none by unfold bendM; simp [k1, k2])
    have xa0 : w0.cell? ⟨w.heap.size, 0, none⟩ = some (.int .i64 c.i0) := HK0.out.cell 0
    have xa1 : w0.cell? ⟨w.heap.size, 1, none⟩ = some (.int .i64 c.i1) := HK0.out.cell 1
    have xa2 : w0.cell? ⟨w.heap.size, 2, none⟩ = some (.slice Ag c.gs.length cg) := HK0.out.cell 2
    have xa3 : w0.cell? ⟨w.heap.size, 3, none⟩ = some (.slice Aq c.outs.length cq) := HK0.out.cell 3
    have xb0 : w0.cell? ⟨w.heap.size + 1, 0, none⟩ = some (.slice A g.rows.length c9) := HK1.out.cell 0
    have xb1 : w0.cell? ⟨w.heap.size + 1, 1, none⟩ = some (.slice A1 g.ones.length c1) := HK1.out.cell 1
    have xb2 : w0.cell? ⟨w.heap.size + 1, 2, none⟩ = some (.slice A2 g.cols.length c2) := HK1.out.cell 2
    have xr0 : w0.cell? ⟨w.heap.size + 1 + 1, 0, none⟩ = some (.slice none 0 0) := HK2.out.cell 0
    have xrf0 : w0.frozen? ⟨w.heap.size + 1 + 1, 0, none⟩ = false := HK2.out.free 0
    have xr1 : w0.cell? ⟨w.heap.size + 1 + 1, 1, none⟩ = some (.slice none 0 0) := HK2.out.cell 1
    have xrf1 : w0.frozen? ⟨w.heap.size + 1 + 1, 1, none⟩ = false := HK2.out.free 1
    have xr2 : w0.cell? ⟨w.heap.size + 1 + 1, 2, none⟩ = some (.slice none 0 0) := HK2.out.cell 2
    have xrf2 : w0.frozen? ⟨w.heap.size + 1 + 1, 2, none⟩ = false := HK2.out.free 2
    go_enter Try.func13, Try.ntmps13
    go_wp2_with fail
    clear hw0
    refine (c_impl_IsCircuit (HC.out.below HB.out)).mono ?_
    rintro e u0 ⟨rfl, hb⟩
    clear xa0 xa1 xa2 xa3 xb0 xb1 xb2 xr0 xr1 xr2 xrf0 xrf1 xrf2
    replace HK0 := Lib.hid (HK0.out.step hb)
    replace HK1 := Lib.hid (HK1.out.step hb)
    replace HK2 := Lib.hid (HK2.out.step hb)
    replace HB := Lib.hid (below_step HB.out hb)
    clear hb
    have xa0 : u0.cell? ⟨w.heap.size, 0, none⟩ = some (.int .i64 c.i0) := HK0.out.cell 0
    have xa1 : u0.cell? ⟨w.heap.size, 1, none⟩ = some (.int .i64 c.i1) := HK0.out.cell 1
    have xa2 : u0.cell? ⟨w.heap.size, 2, none⟩ = some (.slice Ag c.gs.length cg) := HK0.out.cell 2
    have xa3 : u0.cell? ⟨w.heap.size, 3, none⟩ = some (.slice Aq c.outs.length cq) := HK0.out.cell 3
    have xb0 : u0.cell? ⟨w.heap.size + 1, 0, none⟩ = some (.slice A g.rows.length c9) := HK1.out.cell 0
    have xb1 : u0.cell? ⟨w.heap.size + 1, 1, none⟩ = some (.slice A1 g.ones.length c1) := HK1.out.cell 1
    have xb2 : u0.cell? ⟨w.heap.size + 1, 2, none⟩ = some (.slice A2 g.cols.length c2) := HK1.out.cell 2
    have xr0 : u0.cell? ⟨w.heap.size + 1 + 1, 0, none⟩ = some (.slice none 0 0) := HK2.out.cell 0
    have xrf0 : u0.frozen? ⟨w.heap.size + 1 + 1, 0, none⟩ = false := HK2.out.free 0
    have xr1 : u0.cell? ⟨w.heap.size + 1 + 1, 1, none⟩ = some (.slice none 0 0) := HK2.out.cell 1
    have xrf1 : u0.frozen? ⟨w.heap.size + 1 + 1, 1, none⟩ = false := HK2.out.free 1
    have xr2 : u0.cell? ⟨w.heap.size + 1 + 1, 2, none⟩ = some (.slice none 0 0) := HK2.out.cell 2
    have xrf2 : u0.frozen? ⟨w.heap.size + 1 + 1, 2, none⟩ = false := HK2.out.free 2
    go_wp2_with fail
    refine (c_impl_areTables (HC.out.below HB.out) k1 (H.out.below HB.out) HS.out).mono ?_
    rintro e wz ⟨rfl, hb⟩
    clear xa0 xa1 xa2 xa3 xb0 xb1 xb2 xr0 xr1 xr2 xrf0 xrf1 xrf2
    replace HK0 := Lib.hid (HK0.out.step hb)
    replace HK1 := Lib.hid (HK1.out.step hb)
    replace HK2 := Lib.hid (HK2.out.step hb)
    replace HB := Lib.hid (below_step HB.out hb)
    clear hb
    have xa0 : wz.cell? ⟨w.heap.size, 0, none⟩ = some (.int .i64 c.i0) := HK0.out.cell 0
    have xa1 : wz.cell? ⟨w.heap.size, 1, none⟩ = some (.int .i64 c.i1) := HK0.out.cell 1
    have xa2 : wz.cell? ⟨w.heap.size, 2, none⟩ = some (.slice Ag c.gs.length cg) := HK0.out.cell 2
    have xa3 : wz.cell? ⟨w.heap.size, 3, none⟩ = some (.slice Aq c.outs.length cq) := HK0.out.cell 3
    have xb0 : wz.cell? ⟨w.heap.size + 1, 0, none⟩ = some (.slice A g.rows.length c9) := HK1.out.cell 0
    have xb1 : wz.cell? ⟨w.heap.size + 1, 1, none⟩ = some (.slice A1 g.ones.length c1) := HK1.out.cell 1
    have xb2 : wz.cell? ⟨w.heap.size + 1, 2, none⟩ = some (.slice A2 g.cols.length c2) := HK1.out.cell 2
    have xr0 : wz.cell? ⟨w.heap.size + 1 + 1, 0, none⟩ = some (.slice none 0 0) := HK2.out.cell 0
    have xrf0 : wz.frozen? ⟨w.heap.size + 1 + 1, 0, none⟩ = false := HK2.out.free 0
    have xr1 : wz.cell? ⟨w.heap.size + 1 + 1, 1, none⟩ = some (.slice none 0 0) := HK2.out.cell 1
    have xrf1 : wz.frozen? ⟨w.heap.size + 1 + 1, 1, none⟩ = false := HK2.out.free 1
    have xr2 : wz.cell? ⟨w.heap.size + 1 + 1, 2, none⟩ = some (.slice none 0 0) := HK2.out.cell 2
    have xrf2 : wz.frozen? ⟨w.heap.size + 1 + 1, 2, none⟩ = false := HK2.out.free 2
    go_wp2
    refine bodyPost_ret (v := .tuple #[gbV (.slice none 0 0) (.slice none 0 0) (.slice none 0 0), .bool false]) (by simp [results, Try.results13, go_sem, gbV, xr0, xr1, xr2]) rfl ?_
    rw [HM.out]
    exact RetGbB.no (((HB.out.setCell (p := ⟨w.heap.size + 1 + 1, 0, none⟩) (by simp; omega) _).setCell (p := ⟨w.heap.size + 1 + 1, 1, none⟩) (by simp; omega) _).setCell (p := ⟨w.heap.size + 1 + 1, 2, none⟩) (by simp; omega) _)
  rcases k3 : inB k 0 ((g.rows.length : Int) - 1) with _ | _
  · skip
    have HM := Lib.hid (show bendM 2 0 1 c g k row m = none by unfold bendM; simp [k1, k2, k3])
    have xa0 : w0.cell? ⟨w.heap.size, 0, none⟩ = some (.int .i64 c.i0) := HK0.out.cell 0
    have xa1 : w0.cell? ⟨w.heap.size, 1, none⟩ = some (.int .i64 c.i1) := HK0.out.cell 1
    have xa2 : w0.cell? ⟨w.heap.size, 2, none⟩ = some (.slice Ag c.gs.length cg) := HK0.out.cell 2
    have xa3 : w0.cell? ⟨w.heap.size, 3, none⟩ = some (.slice Aq c.outs.length cq) := HK0.out.cell 3
    have xb0 : w0.cell? ⟨w.heap.size + 1, 0, none⟩ = some (.slice A g.rows.length c9) := HK1.out.cell 0
    have xb1 : w0.cell? ⟨w.heap.size + 1, 1, none⟩ = some (.slice A1 g.ones.length c1) := HK1.out.cell 1
    have xb2 : w0.cell? ⟨w.heap.size + 1, 2, none⟩ = some (.slice A2 g.cols.length c2) := HK1.out.cell 2
    have xr0 : w0.cell? ⟨w.heap.size + 1 + 1, 0, none⟩ = some (.slice none 0 0) := HK2.out.cell 0
    have xrf0 : w0.frozen? ⟨w.heap.size + 1 + 1, 0, none⟩ = false := HK2.out.free 0
    have xr1 : w0.cell? ⟨w.heap.size + 1 + 1, 1, none⟩ = some (.slice none 0 0) := HK2.out.cell 1
    have xrf1 : w0.frozen? ⟨w.heap.size + 1 + 1, 1, none⟩ = false := HK2.out.free 1
    have xr2 : w0.cell? ⟨w.heap.size + 1 + 1, 2, none⟩ = some (.slice none 0 0) := HK2.out.cell 2
    have xrf2 : w0.frozen? ⟨w.heap.size + 1 + 1, 2, none⟩ = false := HK2.out.free 2
    go_enter Try.func13, Try.ntmps13
    go_wp2_with fail
    clear hw0
    refine (c_impl_IsCircuit (HC.out.below HB.out)).mono ?_
    rintro e u0 ⟨rfl, hb⟩
    clear xa0 xa1 xa2 xa3 xb0 xb1 xb2 xr0 xr1 xr2 xrf0 xrf1 xrf2
    replace HK0 := Lib.hid (HK0.out.step hb)
    replace HK1 := Lib.hid (HK1.out.step hb)
    replace HK2 := Lib.hid (HK2.out.step hb)
    replace HB := Lib.hid (below_step HB.out hb)
    clear hb
    have xa0 : u0.cell? ⟨w.heap.size, 0, none⟩ = some (.int .i64 c.i0) := HK0.out.cell 0
    have xa1 : u0.cell? ⟨w.heap.size, 1, none⟩ = some (.int .i64 c.i1) := HK0.out.cell 1
    have xa2 : u0.cell? ⟨w.heap.size, 2, none⟩ = some (.slice Ag c.gs.length cg) := HK0.out.cell 2
    have xa3 : u0.cell? ⟨w.heap.size, 3, none⟩ = some (.slice Aq c.outs.length cq) := HK0.out.cell 3
    have xb0 : u0.cell? ⟨w.heap.size + 1, 0, none⟩ = some (.slice A g.rows.length c9) := HK1.out.cell 0
    have xb1 : u0.cell? ⟨w.heap.size + 1, 1, none⟩ = some (.slice A1 g.ones.length c1) := HK1.out.cell 1
    have xb2 : u0.cell? ⟨w.heap.size + 1, 2, none⟩ = some (.slice A2 g.cols.length c2) := HK1.out.cell 2
    have xr0 : u0.cell? ⟨w.heap.size + 1 + 1, 0, none⟩ = some (.slice none 0 0) := HK2.out.cell 0
    have xrf0 : u0.frozen? ⟨w.heap.size + 1 + 1, 0, none⟩ = false := HK2.out.free 0
    have xr1 : u0.cell? ⟨w.heap.size + 1 + 1, 1, none⟩ = some (.slice none 0 0) := HK2.out.cell 1
    have xrf1 : u0.frozen? ⟨w.heap.size + 1 + 1, 1, none⟩ = false := HK2.out.free 1
    have xr2 : u0.cell? ⟨w.heap.size + 1 + 1, 2, none⟩ = some (.slice none 0 0) := HK2.out.cell 2
    have xrf2 : u0.frozen? ⟨w.heap.size + 1 + 1, 2, none⟩ = false := HK2.out.free 2
    go_wp2_with fail
    refine (c_impl_areTables (HC.out.below HB.out) k1 (H.out.below HB.out) HS.out).mono ?_
    rintro e wz ⟨rfl, hb⟩
    clear xa0 xa1 xa2 xa3 xb0 xb1 xb2 xr0 xr1 xr2 xrf0 xrf1 xrf2
    replace HK0 := Lib.hid (HK0.out.step hb)
    replace HK1 := Lib.hid (HK1.out.step hb)
    replace HK2 := Lib.hid (HK2.out.step hb)
    replace HB := Lib.hid (below_step HB.out hb)
    clear hb
    have xa0 : wz.cell? ⟨w.heap.size, 0, none⟩ = some (.int .i64 c.i0) := HK0.out.cell 0
    have xa1 : wz.cell? ⟨w.heap.size, 1, none⟩ = some (.int .i64 c.i1) := HK0.out.cell 1
    have xa2 : wz.cell? ⟨w.heap.size, 2, none⟩ = some (.slice Ag c.gs.length cg) := HK0.out.cell 2
    have xa3 : wz.cell? ⟨w.heap.size, 3, none⟩ = some (.slice Aq c.outs.length cq) := HK0.out.cell 3
    have xb0 : wz.cell? ⟨w.heap.size + 1, 0, none⟩ = some (.slice A g.rows.length c9) := HK1.out.cell 0
    have xb1 : wz.cell? ⟨w.heap.size + 1, 1, none⟩ = some (.slice A1 g.ones.length c1) := HK1.out.cell 1
    have xb2 : wz.cell? ⟨w.heap.size + 1, 2, none⟩ = some (.slice A2 g.cols.length c2) := HK1.out.cell 2
    have xr0 : wz.cell? ⟨w.heap.size + 1 + 1, 0, none⟩ = some (.slice none 0 0) := HK2.out.cell 0
    have xrf0 : wz.frozen? ⟨w.heap.size + 1 + 1, 0, none⟩ = false := HK2.out.free 0
    have xr1 : wz.cell? ⟨w.heap.size + 1 + 1, 1, none⟩ = some (.slice none 0 0) := HK2.out.cell 1
    have xrf1 : wz.frozen? ⟨w.heap.size + 1 + 1, 1, none⟩ = false := HK2.out.free 1
    have xr2 : wz.cell? ⟨w.heap.size + 1 + 1, 2, none⟩ = some (.slice none 0 0) := HK2.out.cell 2
    have xrf2 : wz.frozen? ⟨w.heap.size + 1 + 1, 2, none⟩ = false := HK2.out.free 2
    go_wp2_with fail
    refine (c_impl_within).mono ?_
    rintro e w' ⟨rfl, rfl⟩
    go_wp2
    refine bodyPost_ret (v := .tuple #[gbV (.slice none 0 0) (.slice none 0 0) (.slice none 0 0), .bool false]) (by simp [results, Try.results13, go_sem, gbV, xr0, xr1, xr2]) rfl ?_
    rw [HM.out]
    exact RetGbB.no (((HB.out.setCell (p := ⟨w.heap.size + 1 + 1, 0, none⟩) (by simp; omega) _).setCell (p := ⟨w.heap.size + 1 + 1, 1, none⟩) (by simp; omega) _).setCell (p := ⟨w.heap.size + 1 + 1, 2, none⟩) (by simp; omega) _)
  rcases k4 : inB row 0 1 with _ | _
  · skip
    have HM := Lib.hid (show bendM 2 0 1 c g k row m = none by unfold bendM; simp [k1, k2, k3, k4])
    have xa0 : w0.cell? ⟨w.heap.size, 0, none⟩ = some (.int .i64 c.i0) := HK0.out.cell 0
    have xa1 : w0.cell? ⟨w.heap.size, 1, none⟩ = some (.int .i64 c.i1) := HK0.out.cell 1
    have xa2 : w0.cell? ⟨w.heap.size, 2, none⟩ = some (.slice Ag c.gs.length cg) := HK0.out.cell 2
    have xa3 : w0.cell? ⟨w.heap.size, 3, none⟩ = some (.slice Aq c.outs.length cq) := HK0.out.cell 3
    have xb0 : w0.cell? ⟨w.heap.size + 1, 0, none⟩ = some (.slice A g.rows.length c9) := HK1.out.cell 0
    have xb1 : w0.cell? ⟨w.heap.size + 1, 1, none⟩ = some (.slice A1 g.ones.length c1) := HK1.out.cell 1
    have xb2 : w0.cell? ⟨w.heap.size + 1, 2, none⟩ = some (.slice A2 g.cols.length c2) := HK1.out.cell 2
    have xr0 : w0.cell? ⟨w.heap.size + 1 + 1, 0, none⟩ = some (.slice none 0 0) := HK2.out.cell 0
    have xrf0 : w0.frozen? ⟨w.heap.size + 1 + 1, 0, none⟩ = false := HK2.out.free 0
    have xr1 : w0.cell? ⟨w.heap.size + 1 + 1, 1, none⟩ = some (.slice none 0 0) := HK2.out.cell 1
    have xrf1 : w0.frozen? ⟨w.heap.size + 1 + 1, 1, none⟩ = false := HK2.out.free 1
    have xr2 : w0.cell? ⟨w.heap.size + 1 + 1, 2, none⟩ = some (.slice none 0 0) := HK2.out.cell 2
    have xrf2 : w0.frozen? ⟨w.heap.size + 1 + 1, 2, none⟩ = false := HK2.out.free 2
    go_enter Try.func13, Try.ntmps13
    go_wp2_with fail
    clear hw0
    refine (c_impl_IsCircuit (HC.out.below HB.out)).mono ?_
    rintro e u0 ⟨rfl, hb⟩
    clear xa0 xa1 xa2 xa3 xb0 xb1 xb2 xr0 xr1 xr2 xrf0 xrf1 xrf2
    replace HK0 := Lib.hid (HK0.out.step hb)
    replace HK1 := Lib.hid (HK1.out.step hb)
    replace HK2 := Lib.hid (HK2.out.step hb)
    replace HB := Lib.hid (below_step HB.out hb)
    clear hb
    have xa0 : u0.cell? ⟨w.heap.size, 0, none⟩ = some (.int .i64 c.i0) := HK0.out.cell 0
    have xa1 : u0.cell? ⟨w.heap.size, 1, none⟩ = some (.int .i64 c.i1) := HK0.out.cell 1
    have xa2 : u0.cell? ⟨w.heap.size, 2, none⟩ = some (.slice Ag c.gs.length cg) := HK0.out.cell 2
    have xa3 : u0.cell? ⟨w.heap.size, 3, none⟩ = some (.slice Aq c.outs.length cq) := HK0.out.cell 3
    have xb0 : u0.cell? ⟨w.heap.size + 1, 0, none⟩ = some (.slice A g.rows.length c9) := HK1.out.cell 0
    have xb1 : u0.cell? ⟨w.heap.size + 1, 1, none⟩ = some (.slice A1 g.ones.length c1) := HK1.out.cell 1
    have xb2 : u0.cell? ⟨w.heap.size + 1, 2, none⟩ = some (.slice A2 g.cols.length c2) := HK1.out.cell 2
    have xr0 : u0.cell? ⟨w.heap.size + 1 + 1, 0, none⟩ = some (.slice none 0 0) := HK2.out.cell 0
    have xrf0 : u0.frozen? ⟨w.heap.size + 1 + 1, 0, none⟩ = false := HK2.out.free 0
    have xr1 : u0.cell? ⟨w.heap.size + 1 + 1, 1, none⟩ = some (.slice none 0 0) := HK2.out.cell 1
    have xrf1 : u0.frozen? ⟨w.heap.size + 1 + 1, 1, none⟩ = false := HK2.out.free 1
    have xr2 : u0.cell? ⟨w.heap.size + 1 + 1, 2, none⟩ = some (.slice none 0 0) := HK2.out.cell 2
    have xrf2 : u0.frozen? ⟨w.heap.size + 1 + 1, 2, none⟩ = false := HK2.out.free 2
    go_wp2_with fail
    refine (c_impl_areTables (HC.out.below HB.out) k1 (H.out.below HB.out) HS.out).mono ?_
    rintro e wz ⟨rfl, hb⟩
    clear xa0 xa1 xa2 xa3 xb0 xb1 xb2 xr0 xr1 xr2 xrf0 xrf1 xrf2
    replace HK0 := Lib.hid (HK0.out.step hb)
    replace HK1 := Lib.hid (HK1.out.step hb)
    replace HK2 := Lib.hid (HK2.out.step hb)
    replace HB := Lib.hid (below_step HB.out hb)
    clear hb
    have xa0 : wz.cell? ⟨w.heap.size, 0, none⟩ = some (.int .i64 c.i0) := HK0.out.cell 0
    have xa1 : wz.cell? ⟨w.heap.size, 1, none⟩ = some (.int .i64 c.i1) := HK0.out.cell 1
    have xa2 : wz.cell? ⟨w.heap.size, 2, none⟩ = some (.slice Ag c.gs.length cg) := HK0.out.cell 2
    have xa3 : wz.cell? ⟨w.heap.size, 3, none⟩ = some (.slice Aq c.outs.length cq) := HK0.out.cell 3
    have xb0 : wz.cell? ⟨w.heap.size + 1, 0, none⟩ = some (.slice A g.rows.length c9) := HK1.out.cell 0
    have xb1 : wz.cell? ⟨w.heap.size + 1, 1, none⟩ = some (.slice A1 g.ones.length c1) := HK1.out.cell 1
    have xb2 : wz.cell? ⟨w.heap.size + 1, 2, none⟩ = some (.slice A2 g.cols.length c2) := HK1.out.cell 2
    have xr0 : wz.cell? ⟨w.heap.size + 1 + 1, 0, none⟩ = some (.slice none 0 0) := HK2.out.cell 0
    have xrf0 : wz.frozen? ⟨w.heap.size + 1 + 1, 0, none⟩ = false := HK2.out.free 0
    have xr1 : wz.cell? ⟨w.heap.size + 1 + 1, 1, none⟩ = some (.slice none 0 0) := HK2.out.cell 1
    have xrf1 : wz.frozen? ⟨w.heap.size + 1 + 1, 1, none⟩ = false := HK2.out.free 1
    have xr2 : wz.cell? ⟨w.heap.size + 1 + 1, 2, none⟩ = some (.slice none 0 0) := HK2.out.cell 2
    have xrf2 : wz.frozen? ⟨w.heap.size + 1 + 1, 2, none⟩ = false := HK2.out.free 2
    go_wp2_with fail
    refine (c_impl_within).mono ?_
    rintro e w' ⟨rfl, rfl⟩
    go_wp2_with fail
    refine (c_impl_isBit).mono ?_
    rintro e w' ⟨rfl, rfl⟩
    go_wp2
    refine bodyPost_ret (v := .tuple #[gbV (.slice none 0 0) (.slice none 0 0) (.slice none 0 0), .bool false]) (by simp [results, Try.results13, go_sem, gbV, xr0, xr1, xr2]) rfl ?_
    rw [HM.out]
    exact RetGbB.no (((HB.out.setCell (p := ⟨w.heap.size + 1 + 1, 0, none⟩) (by simp; omega) _).setCell (p := ⟨w.heap.size + 1 + 1, 1, none⟩) (by simp; omega) _).setCell (p := ⟨w.heap.size + 1 + 1, 2, none⟩) (by simp; omega) _)
  rcases k5 : inB m 0 65535 with _ | _
  · skip
    have HM := Lib.hid (show bendM 2 0 1 c g k row m = none by unfold bendM; simp [k1, k2, k3, k4, k5])
    have xa0 : w0.cell? ⟨w.heap.size, 0, none⟩ = some (.int .i64 c.i0) := HK0.out.cell 0
    have xa1 : w0.cell? ⟨w.heap.size, 1, none⟩ = some (.int .i64 c.i1) := HK0.out.cell 1
    have xa2 : w0.cell? ⟨w.heap.size, 2, none⟩ = some (.slice Ag c.gs.length cg) := HK0.out.cell 2
    have xa3 : w0.cell? ⟨w.heap.size, 3, none⟩ = some (.slice Aq c.outs.length cq) := HK0.out.cell 3
    have xb0 : w0.cell? ⟨w.heap.size + 1, 0, none⟩ = some (.slice A g.rows.length c9) := HK1.out.cell 0
    have xb1 : w0.cell? ⟨w.heap.size + 1, 1, none⟩ = some (.slice A1 g.ones.length c1) := HK1.out.cell 1
    have xb2 : w0.cell? ⟨w.heap.size + 1, 2, none⟩ = some (.slice A2 g.cols.length c2) := HK1.out.cell 2
    have xr0 : w0.cell? ⟨w.heap.size + 1 + 1, 0, none⟩ = some (.slice none 0 0) := HK2.out.cell 0
    have xrf0 : w0.frozen? ⟨w.heap.size + 1 + 1, 0, none⟩ = false := HK2.out.free 0
    have xr1 : w0.cell? ⟨w.heap.size + 1 + 1, 1, none⟩ = some (.slice none 0 0) := HK2.out.cell 1
    have xrf1 : w0.frozen? ⟨w.heap.size + 1 + 1, 1, none⟩ = false := HK2.out.free 1
    have xr2 : w0.cell? ⟨w.heap.size + 1 + 1, 2, none⟩ = some (.slice none 0 0) := HK2.out.cell 2
    have xrf2 : w0.frozen? ⟨w.heap.size + 1 + 1, 2, none⟩ = false := HK2.out.free 2
    go_enter Try.func13, Try.ntmps13
    go_wp2_with fail
    clear hw0
    refine (c_impl_IsCircuit (HC.out.below HB.out)).mono ?_
    rintro e u0 ⟨rfl, hb⟩
    clear xa0 xa1 xa2 xa3 xb0 xb1 xb2 xr0 xr1 xr2 xrf0 xrf1 xrf2
    replace HK0 := Lib.hid (HK0.out.step hb)
    replace HK1 := Lib.hid (HK1.out.step hb)
    replace HK2 := Lib.hid (HK2.out.step hb)
    replace HB := Lib.hid (below_step HB.out hb)
    clear hb
    have xa0 : u0.cell? ⟨w.heap.size, 0, none⟩ = some (.int .i64 c.i0) := HK0.out.cell 0
    have xa1 : u0.cell? ⟨w.heap.size, 1, none⟩ = some (.int .i64 c.i1) := HK0.out.cell 1
    have xa2 : u0.cell? ⟨w.heap.size, 2, none⟩ = some (.slice Ag c.gs.length cg) := HK0.out.cell 2
    have xa3 : u0.cell? ⟨w.heap.size, 3, none⟩ = some (.slice Aq c.outs.length cq) := HK0.out.cell 3
    have xb0 : u0.cell? ⟨w.heap.size + 1, 0, none⟩ = some (.slice A g.rows.length c9) := HK1.out.cell 0
    have xb1 : u0.cell? ⟨w.heap.size + 1, 1, none⟩ = some (.slice A1 g.ones.length c1) := HK1.out.cell 1
    have xb2 : u0.cell? ⟨w.heap.size + 1, 2, none⟩ = some (.slice A2 g.cols.length c2) := HK1.out.cell 2
    have xr0 : u0.cell? ⟨w.heap.size + 1 + 1, 0, none⟩ = some (.slice none 0 0) := HK2.out.cell 0
    have xrf0 : u0.frozen? ⟨w.heap.size + 1 + 1, 0, none⟩ = false := HK2.out.free 0
    have xr1 : u0.cell? ⟨w.heap.size + 1 + 1, 1, none⟩ = some (.slice none 0 0) := HK2.out.cell 1
    have xrf1 : u0.frozen? ⟨w.heap.size + 1 + 1, 1, none⟩ = false := HK2.out.free 1
    have xr2 : u0.cell? ⟨w.heap.size + 1 + 1, 2, none⟩ = some (.slice none 0 0) := HK2.out.cell 2
    have xrf2 : u0.frozen? ⟨w.heap.size + 1 + 1, 2, none⟩ = false := HK2.out.free 2
    go_wp2_with fail
    refine (c_impl_areTables (HC.out.below HB.out) k1 (H.out.below HB.out) HS.out).mono ?_
    rintro e wz ⟨rfl, hb⟩
    clear xa0 xa1 xa2 xa3 xb0 xb1 xb2 xr0 xr1 xr2 xrf0 xrf1 xrf2
    replace HK0 := Lib.hid (HK0.out.step hb)
    replace HK1 := Lib.hid (HK1.out.step hb)
    replace HK2 := Lib.hid (HK2.out.step hb)
    replace HB := Lib.hid (below_step HB.out hb)
    clear hb
    have xa0 : wz.cell? ⟨w.heap.size, 0, none⟩ = some (.int .i64 c.i0) := HK0.out.cell 0
    have xa1 : wz.cell? ⟨w.heap.size, 1, none⟩ = some (.int .i64 c.i1) := HK0.out.cell 1
    have xa2 : wz.cell? ⟨w.heap.size, 2, none⟩ = some (.slice Ag c.gs.length cg) := HK0.out.cell 2
    have xa3 : wz.cell? ⟨w.heap.size, 3, none⟩ = some (.slice Aq c.outs.length cq) := HK0.out.cell 3
    have xb0 : wz.cell? ⟨w.heap.size + 1, 0, none⟩ = some (.slice A g.rows.length c9) := HK1.out.cell 0
    have xb1 : wz.cell? ⟨w.heap.size + 1, 1, none⟩ = some (.slice A1 g.ones.length c1) := HK1.out.cell 1
    have xb2 : wz.cell? ⟨w.heap.size + 1, 2, none⟩ = some (.slice A2 g.cols.length c2) := HK1.out.cell 2
    have xr0 : wz.cell? ⟨w.heap.size + 1 + 1, 0, none⟩ = some (.slice none 0 0) := HK2.out.cell 0
    have xrf0 : wz.frozen? ⟨w.heap.size + 1 + 1, 0, none⟩ = false := HK2.out.free 0
    have xr1 : wz.cell? ⟨w.heap.size + 1 + 1, 1, none⟩ = some (.slice none 0 0) := HK2.out.cell 1
    have xrf1 : wz.frozen? ⟨w.heap.size + 1 + 1, 1, none⟩ = false := HK2.out.free 1
    have xr2 : wz.cell? ⟨w.heap.size + 1 + 1, 2, none⟩ = some (.slice none 0 0) := HK2.out.cell 2
    have xrf2 : wz.frozen? ⟨w.heap.size + 1 + 1, 2, none⟩ = false := HK2.out.free 2
    go_wp2_with fail
    refine (c_impl_within).mono ?_
    rintro e w' ⟨rfl, rfl⟩
    go_wp2_with fail
    refine (c_impl_isBit).mono ?_
    rintro e w' ⟨rfl, rfl⟩
    go_wp2_with fail
    refine (c_impl_isLabel).mono ?_
    rintro e w' ⟨rfl, rfl⟩
    go_wp2
    refine bodyPost_ret (v := .tuple #[gbV (.slice none 0 0) (.slice none 0 0) (.slice none 0 0), .bool false]) (by simp [results, Try.results13, go_sem, gbV, xr0, xr1, xr2]) rfl ?_
    rw [HM.out]
    exact RetGbB.no (((HB.out.setCell (p := ⟨w.heap.size + 1 + 1, 0, none⟩) (by simp; omega) _).setCell (p := ⟨w.heap.size + 1 + 1, 1, none⟩) (by simp; omega) _).setCell (p := ⟨w.heap.size + 1 + 1, 2, none⟩) (by simp; omega) _)
  obtain ⟨kn, rfl⟩ : ∃ n : Nat, k = (n : Int) := ⟨k.toNat, by have := inB_bd k3; omega⟩
  obtain ⟨rn, rfl⟩ : ∃ n : Nat, row = (n : Int) := ⟨row.toNat, by have := inB_bd k4; omega⟩
  have hkl : kn < g.rows.length := by have := inB_bd k3; omega
  have hrn : rn < 2 := by have := inB_bd k4; omega
  have hmb := inB_bd k5
  have hro := bend_row k2 hkl
  have HM := Lib.hid (show bendM 2 0 1 c g kn rn m = some (bendG g kn rn m) by unfold bendM; rw [k1, k2, k3, k4, k5]; simp)
  have xa0 : w0.cell? ⟨w.heap.size, 0, none⟩ = some (.int .i64 c.i0) := HK0.out.cell 0
  have xa1 : w0.cell? ⟨w.heap.size, 1, none⟩ = some (.int .i64 c.i1) := HK0.out.cell 1
  have xa2 : w0.cell? ⟨w.heap.size, 2, none⟩ = some (.slice Ag c.gs.length cg) := HK0.out.cell 2
  have xa3 : w0.cell? ⟨w.heap.size, 3, none⟩ = some (.slice Aq c.outs.length cq) := HK0.out.cell 3
  have xb0 : w0.cell? ⟨w.heap.size + 1, 0, none⟩ = some (.slice A g.rows.length c9) := HK1.out.cell 0
  have xb1 : w0.cell? ⟨w.heap.size + 1, 1, none⟩ = some (.slice A1 g.ones.length c1) := HK1.out.cell 1
  have xb2 : w0.cell? ⟨w.heap.size + 1, 2, none⟩ = some (.slice A2 g.cols.length c2) := HK1.out.cell 2
  have xr0 : w0.cell? ⟨w.heap.size + 1 + 1, 0, none⟩ = some (.slice none 0 0) := HK2.out.cell 0
  have xrf0 : w0.frozen? ⟨w.heap.size + 1 + 1, 0, none⟩ = false := HK2.out.free 0
  have xr1 : w0.cell? ⟨w.heap.size + 1 + 1, 1, none⟩ = some (.slice none 0 0) := HK2.out.cell 1
  have xrf1 : w0.frozen? ⟨w.heap.size + 1 + 1, 1, none⟩ = false := HK2.out.free 1
  have xr2 : w0.cell? ⟨w.heap.size + 1 + 1, 2, none⟩ = some (.slice none 0 0) := HK2.out.cell 2
  have xrf2 : w0.frozen? ⟨w.heap.size + 1 + 1, 2, none⟩ = false := HK2.out.free 2
  go_enter Try.func13, Try.ntmps13
  go_wp2_with fail
  clear hw0
  refine (c_impl_IsCircuit (HC.out.below HB.out)).mono ?_
  rintro e u0 ⟨rfl, hb⟩
  clear xa0 xa1 xa2 xa3 xb0 xb1 xb2 xr0 xr1 xr2 xrf0 xrf1 xrf2
  replace HK0 := Lib.hid (HK0.out.step hb)
  replace HK1 := Lib.hid (HK1.out.step hb)
  replace HK2 := Lib.hid (HK2.out.step hb)
  replace HB := Lib.hid (below_step HB.out hb)
  clear hb
  have xa0 : u0.cell? ⟨w.heap.size, 0, none⟩ = some (.int .i64 c.i0) := HK0.out.cell 0
  have xa1 : u0.cell? ⟨w.heap.size, 1, none⟩ = some (.int .i64 c.i1) := HK0.out.cell 1
  have xa2 : u0.cell? ⟨w.heap.size, 2, none⟩ = some (.slice Ag c.gs.length cg) := HK0.out.cell 2
  have xa3 : u0.cell? ⟨w.heap.size, 3, none⟩ = some (.slice Aq c.outs.length cq) := HK0.out.cell 3
  have xb0 : u0.cell? ⟨w.heap.size + 1, 0, none⟩ = some (.slice A g.rows.length c9) := HK1.out.cell 0
  have xb1 : u0.cell? ⟨w.heap.size + 1, 1, none⟩ = some (.slice A1 g.ones.length c1) := HK1.out.cell 1
  have xb2 : u0.cell? ⟨w.heap.size + 1, 2, none⟩ = some (.slice A2 g.cols.length c2) := HK1.out.cell 2
  have xr0 : u0.cell? ⟨w.heap.size + 1 + 1, 0, none⟩ = some (.slice none 0 0) := HK2.out.cell 0
  have xrf0 : u0.frozen? ⟨w.heap.size + 1 + 1, 0, none⟩ = false := HK2.out.free 0
  have xr1 : u0.cell? ⟨w.heap.size + 1 + 1, 1, none⟩ = some (.slice none 0 0) := HK2.out.cell 1
  have xrf1 : u0.frozen? ⟨w.heap.size + 1 + 1, 1, none⟩ = false := HK2.out.free 1
  have xr2 : u0.cell? ⟨w.heap.size + 1 + 1, 2, none⟩ = some (.slice none 0 0) := HK2.out.cell 2
  have xrf2 : u0.frozen? ⟨w.heap.size + 1 + 1, 2, none⟩ = false := HK2.out.free 2
  go_wp2_with fail
  refine (c_impl_areTables (HC.out.below HB.out) k1 (H.out.below HB.out) HS.out).mono ?_
  rintro e w0 ⟨rfl, hb⟩
  clear xa0 xa1 xa2 xa3 xb0 xb1 xb2 xr0 xr1 xr2 xrf0 xrf1 xrf2
  replace HK0 := Lib.hid (HK0.out.step hb)
  replace HK1 := Lib.hid (HK1.out.step hb)
  replace HK2 := Lib.hid (HK2.out.step hb)
  replace HB := Lib.hid (below_step HB.out hb)
  clear hb
  have xa0 : w0.cell? ⟨w.heap.size, 0, none⟩ = some (.int .i64 c.i0) := HK0.out.cell 0
  have xa1 : w0.cell? ⟨w.heap.size, 1, none⟩ = some (.int .i64 c.i1) := HK0.out.cell 1
  have xa2 : w0.cell? ⟨w.heap.size, 2, none⟩ = some (.slice Ag c.gs.length cg) := HK0.out.cell 2
  have xa3 : w0.cell? ⟨w.heap.size, 3, none⟩ = some (.slice Aq c.outs.length cq) := HK0.out.cell 3
  have xb0 : w0.cell? ⟨w.heap.size + 1, 0, none⟩ = some (.slice A g.rows.length c9) := HK1.out.cell 0
  have xb1 : w0.cell? ⟨w.heap.size + 1, 1, none⟩ = some (.slice A1 g.ones.length c1) := HK1.out.cell 1
  have xb2 : w0.cell? ⟨w.heap.size + 1, 2, none⟩ = some (.slice A2 g.cols.length c2) := HK1.out.cell 2
  have xr0 : w0.cell? ⟨w.heap.size + 1 + 1, 0, none⟩ = some (.slice none 0 0) := HK2.out.cell 0
  have xrf0 : w0.frozen? ⟨w.heap.size + 1 + 1, 0, none⟩ = false := HK2.out.free 0
  have xr1 : w0.cell? ⟨w.heap.size + 1 + 1, 1, none⟩ = some (.slice none 0 0) := HK2.out.cell 1
  have xrf1 : w0.frozen? ⟨w.heap.size + 1 + 1, 1, none⟩ = false := HK2.out.free 1
  have xr2 : w0.cell? ⟨w.heap.size + 1 + 1, 2, none⟩ = some (.slice none 0 0) := HK2.out.cell 2
  have xrf2 : w0.frozen? ⟨w.heap.size + 1 + 1, 2, none⟩ = false := HK2.out.free 2
  go_wp2_with fail
  refine (c_impl_within).mono ?_
  rintro e w' ⟨rfl, rfl⟩
  go_wp2_with fail
  refine (c_impl_isBit).mono ?_
  rintro e w' ⟨rfl, rfl⟩
  go_wp2_with fail
  refine (c_impl_isLabel).mono ?_
  rintro e w' ⟨rfl, rfl⟩
  have hrl9 : rn < (g.rows.getD kn []).length := by have := hro.1; omega
  go_wp2_with fail
  refine (c_impl_bent (H.out.below HB.out) HS.out hkl hrl9 hro.2 hmb).mono ?_
  rintro e w9 ⟨rv9, ov9, cv9, vs, rfl, O, hb⟩
  unfold gbV
  obtain ⟨Ar, cr, rfl, -⟩ := O.rows.rowsIn.form
  obtain ⟨Ao, co, rfl, -⟩ := O.ones.ints
  obtain ⟨Ac, cc, rfl, -⟩ := O.cols.ints
  have hlow := HK2.out.lt
  replace O := Lib.hid O
  have hsz := HB.out.size
  clear xa0 xa1 xa2 xa3 xb0 xb1 xb2 xr0 xr1 xr2 xrf0 xrf1 xrf2
  replace HK0 := Lib.hid (HK0.out.step hb)
  replace HK1 := Lib.hid (HK1.out.step hb)
  replace HK2 := Lib.hid (HK2.out.step hb)
  replace HB := Lib.hid (below_step HB.out hb)
  clear hb
  have xa0 : w9.cell? ⟨w.heap.size, 0, none⟩ = some (.int .i64 c.i0) := HK0.out.cell 0
  have xa1 : w9.cell? ⟨w.heap.size, 1, none⟩ = some (.int .i64 c.i1) := HK0.out.cell 1
  have xa2 : w9.cell? ⟨w.heap.size, 2, none⟩ = some (.slice Ag c.gs.length cg) := HK0.out.cell 2
  have xa3 : w9.cell? ⟨w.heap.size, 3, none⟩ = some (.slice Aq c.outs.length cq) := HK0.out.cell 3
  have xb0 : w9.cell? ⟨w.heap.size + 1, 0, none⟩ = some (.slice A g.rows.length c9) := HK1.out.cell 0
  have xb1 : w9.cell? ⟨w.heap.size + 1, 1, none⟩ = some (.slice A1 g.ones.length c1) := HK1.out.cell 1
  have xb2 : w9.cell? ⟨w.heap.size + 1, 2, none⟩ = some (.slice A2 g.cols.length c2) := HK1.out.cell 2
  have xr0 : w9.cell? ⟨w.heap.size + 1 + 1, 0, none⟩ = some (.slice none 0 0) := HK2.out.cell 0
  have xrf0 : w9.frozen? ⟨w.heap.size + 1 + 1, 0, none⟩ = false := HK2.out.free 0
  have xr1 : w9.cell? ⟨w.heap.size + 1 + 1, 1, none⟩ = some (.slice none 0 0) := HK2.out.cell 1
  have xrf1 : w9.frozen? ⟨w.heap.size + 1 + 1, 1, none⟩ = false := HK2.out.free 1
  have xr2 : w9.cell? ⟨w.heap.size + 1 + 1, 2, none⟩ = some (.slice none 0 0) := HK2.out.cell 2
  have xrf2 : w9.frozen? ⟨w.heap.size + 1 + 1, 2, none⟩ = false := HK2.out.free 2
  go_wp2
  refine bodyPost_ret (v := .tuple #[gbV (.slice Ar (bendG g kn rn m).rows.length cr) (.slice Ao (bendG g kn rn m).ones.length co) (.slice Ac (bendG g kn rn m).cols.length cc), .bool true]) (by simp [results, Try.results13, go_sem, gbV, xr0, xr1, xr2]) rfl ⟨_, _, _, vs, by rw [HM.out]; rfl, ?_, ?_⟩
  · rw [HM.out]; exact (((O.out.setLow hlow 0 _).setLow hlow 1 _).setLow hlow 2 _).mono hsz
  · exact ((HB.out.setCell (p := ⟨w.heap.size + 1 + 1, 0, none⟩) (by simp; omega) _).setCell (p := ⟨w.heap.size + 1 + 1, 1, none⟩) (by simp; omega) _).setCell (p := ⟨w.heap.size + 1 + 1, 2, none⟩) (by simp; omega) _
end Go.Proofs.Ytejeppjmlgfiaaa

/- A bent table is as large as it was; a struct of three slices, stored. Plain lemmas. -/
namespace Go.Proofs.Ytejeppjmlgfiaaa
open Go.RowKit
set_option linter.unusedVariables false

theorem map_set_len (rows : List (List Int)) (k : Nat) (r : List Int) (h : (rows.getD k []).length = r.length) : (rows.set k r).map List.length = rows.map List.length := by
  by_cases hk : k < rows.length
  · rw [List.map_set, ← h]
    refine List.ext_getElem (by simp) fun i h1 h2 => ?_
    rw [List.getElem_set]
    split
    · rename_i e; subst e; simp [List.getD_eq_getElem?_getD, List.getElem?_eq_getElem hk]
    · rfl
  · rw [List.set_eq_of_length_le (by omega)]
theorem bendG_sz (g : Gb) (k row : Nat) (m : Int) : (bendG g k row m).sz = g.sz := by
  have h := map_set_len g.rows k (bendRow (g.rows.getD k []) row m) (by simp [bendRow])
  show (bendR g.rows k row m).length + cntR (bendR g.rows k row m) + g.ones.length + g.cols.length = _
  unfold cntR bendR
  rw [h]; simp [Gb.sz, cntR]
theorem bendM_sz (n lo hi : Int) (c : Cir) (g : Gb) (k row m : Int) : ((bendM n lo hi c g k row m).getD Gb.none).sz ≤ g.sz := by
  unfold bendM
  split
  · exact Nat.le_of_eq (bendG_sz g _ _ _)
  · exact Nat.zero_le _
theorem blk3 {w : World} {b : Nat} {t : TypeId} {x y z : Value} (h : Blk w b t #[x, y, z]) (x' y' z' : Value) : Blk (((w.setCell ⟨b, 0, none⟩ x').setCell ⟨b, 1, none⟩ y').setCell ⟨b, 2, none⟩ z') b t #[x', y', z'] := by
  have := ((h.set_ 0 x').set_ 1 y').set_ 2 z'
  simpa using this
end Go.Proofs.Ytejeppjmlgfiaaa

/- The plain law of bending: a row bent twice is as before. Plain lemmas; no condition but those that each names. -/
namespace Go.Proofs.Ytejeppjmlgfiaaa
open Go.RowKit
set_option linter.unusedVariables false
theorem bendRow_twice {r : List Int} {row : Nat} {m : Int} (hr : ∀ x ∈ r, 0 ≤ x) : bendRow (bendRow r row m) row m = r := by
  unfold bendRow
  by_cases h : row < r.length
  · rw [List.set_set]
    have e1 : r.getD row 0 = r[row] := by rw [List.getD_eq_getElem?_getD, List.getElem?_eq_getElem h]; rfl
    have e2 : (r.set row (xorI (r.getD row 0) m)).getD row 0 = xorI (r.getD row 0) m := by
      rw [List.getD_eq_getElem?_getD, List.getElem?_set_self h]; rfl
    rw [e2, e1, xorI_back (hr _ (List.getElem_mem h))]
    exact List.set_getElem_self h
  · have e9 : ∀ v, r.set row v = r := fun v => List.set_eq_of_length_le (by omega)
    rw [e9, e9]
theorem bendR_twice {rows : List (List Int)} {k row : Nat} {m : Int} (hr : ∀ x ∈ rows.getD k [], 0 ≤ x) : bendR (bendR rows k row m) k row m = rows := by
  unfold bendR
  by_cases h : k < rows.length
  · rw [List.set_set]
    have e1 : rows.getD k [] = rows[k] := by rw [List.getD_eq_getElem?_getD, List.getElem?_eq_getElem h]; rfl
    have e2 : (rows.set k (bendRow (rows.getD k []) row m)).getD k [] = bendRow (rows.getD k []) row m := by
      rw [List.getD_eq_getElem?_getD, List.getElem?_set_self h]; rfl
    rw [e2, bendRow_twice hr, e1]
    exact List.set_getElem_self h
  · have e9 : ∀ v, rows.set k v = rows := fun v => List.set_eq_of_length_le (by omega)
    rw [e9, e9]
theorem bendRow_ok {r : List Int} {row : Nat} {m : Int} (hm : 0 ≤ m ∧ m ≤ 65535) (hr : ∀ x ∈ r, 0 ≤ x ∧ x ≤ 65535) : ∀ x ∈ bendRow r row m, 0 ≤ x ∧ x ≤ 65535 := by
  intro x hx
  unfold bendRow at hx
  rcases List.mem_or_eq_of_mem_set hx with h | h
  · exact hr x h
  · rw [h]
    have hb : 0 ≤ r.getD row 0 ∧ r.getD row 0 ≤ 65535 := by
      rw [List.getD_eq_getElem?_getD]
      rcases h9 : r[row]? with _ | y
      · simp
      · exact hr y (List.mem_of_getElem? h9)
    exact xorI_bd hb.1 hm.1 hb.2 hm.2
theorem bend_tab {n : Int} {c : Cir} {g : Gb} {k row : Nat} {m : Int} (h : tabB n c g = true) (hk : k < g.rows.length) (hm : 0 ≤ m ∧ m ≤ 65535) : tabB n c (bendG g k row m) = true := by
  have hrw := bend_row h hk
  unfold tabB at h ⊢
  simp only [Bool.and_eq_true, decide_eq_true_eq] at h ⊢
  obtain ⟨⟨⟨⟨⟨h1, h2⟩, h3⟩, h4⟩, h5⟩, h6⟩ := h
  refine ⟨⟨⟨⟨⟨?_, ?_⟩, h3⟩, h4⟩, h5⟩, h6⟩
  · show ((bendR g.rows k row m).length : Int) = _
    rw [bendR_length]; exact h1
  · show (bendR g.rows k row m).all (rowB n) = true
    rw [List.all_eq_true] at h2 ⊢
    intro r hr
    unfold bendR at hr
    rcases List.mem_or_eq_of_mem_set hr with h | h
    · exact h2 r h
    · rw [h]
      unfold rowB
      simp only [Bool.and_eq_true, decide_eq_true_eq]
      refine ⟨by rw [show (bendRow (g.rows.getD k []) row m).length = (g.rows.getD k []).length by simp [bendRow]]; exact hrw.1, ?_⟩
      unfold allB
      rw [List.all_eq_true]
      intro x hx
      have := bendRow_ok hm hrw.2 x hx
      simp [inB]; omega
theorem bend_twice {n lo hi : Int} {c : Cir} {g t : Gb} {k row m : Int} (h : bendM n lo hi c g k row m = some t) : bendM n lo hi c t k row m = some g := by
  unfold bendM at h
  split at h
  · rename_i hq
    injection h with h
    simp only [Bool.and_eq_true] at hq
    obtain ⟨⟨⟨⟨h1, h2⟩, h3⟩, h4⟩, h5⟩ := hq
    have hkb := inB_bd h3
    have hmb := inB_bd h5
    have hk : k.toNat < g.rows.length := by omega
    have ht := bend_tab (row := (row - lo).toNat) h2 hk hmb
    have hrw := bend_row h2 hk
    unfold bendM
    subst h
    rw [h1, ht, show ((bendG g k.toNat (row - lo).toNat m).rows.length : Int) = (g.rows.length : Int) by show ((bendR g.rows _ _ _).length : Int) = _; rw [bendR_length], h3, h4, h5]
    simp only [Bool.and_self, if_true]
    have hb : bendG (bendG g k.toNat (row - lo).toNat m) k.toNat (row - lo).toNat m = g := by
      unfold bendG
      simp only
      rw [bendR_twice (fun x hx => (hrw.2 x hx).1)]
    rw [hb]
  · cases h
theorem half_bd (n l s : Int) : 0 ≤ oV (halfM n l s) ∧ oV (halfM n l s) ≤ 65535 := by
  unfold halfM
  split
  · exact digM_bd _
  · exact ⟨by decide, by decide⟩
end Go.Proofs.Ytejeppjmlgfiaaa

/- Contracts of the bending of one row, the reference model. Conditions: the tables are short. -/
namespace Go.Proofs.Ytejeppjmlgfiaaa
open Go.RowKit
set_option linter.unusedVariables false

set_option maxRecDepth 100000 in
set_option maxHeartbeats 4000000 in
theorem c_spec_BendHalf {c : Cir} {g : Gb} {gv qv rv nv cv : Value} {w : World} {k row m : Int} (hC : CirIn w gv qv c) (h : GbIn w rv nv cv g) (hs : g.sz ≤ 1048576) :
    Calls Try.prog 14 #[cirV c gv qv, gbV rv nv cv, .int .i64 k, .int .i64 row, .int .i64 m] w (RetGbB w (bendM 2 0 1 c g k row m)) := by
  have H := Lib.hid h
  have HS := Lib.hid hs
  obtain ⟨hrw, ho, hc⟩ := h
  obtain ⟨A, c9, rfl, -⟩ := hrw.form
  obtain ⟨A1, c1, rfl, -⟩ := ho
  obtain ⟨A2, c2, rfl, -⟩ := hc
  have hol : g.ones.length ≤ 1048576 := by unfold Gb.sz at hs; omega
  have hcl : g.cols.length ≤ 1048576 := by unfold Gb.sz at hs; omega
  have hrl : g.rows.length ≤ 1048576 := by unfold Gb.sz at hs; omega
  have HRL := Lib.hid (Gb.row_le hs)
  obtain ⟨A', c', e', hlc, hcm, hat⟩ := hrw.form
  injection e' with e1 e2 e3
  subst e1 e3
  have HAT := Lib.hid hat
  clear hrw hs hat
  have HC := Lib.hid hC
  obtain ⟨hg, ho⟩ := hC
  obtain ⟨Ag, cg, rfl, -⟩ := hg
  obtain ⟨Aq, cq, rfl, -⟩ := ho
  unfold cirV gbV
  obtain ⟨w0, hw0⟩ : ∃ W, (((w.alloc (.cells #[.int .i64 c.i0, .int .i64 c.i1, .slice Ag c.gs.length cg, .slice Aq c.outs.length cq] 26)).alloc (.cells #[.slice A g.rows.length c9, .slice A1 g.ones.length c1, .slice A2 g.cols.length c2] 29)).alloc (.cells #[.slice none 0 0, .slice none 0 0, .slice none 0 0] 29)) = W := ⟨_, rfl⟩
  have HK0 : Hid (Blk w0 w.heap.size 26 #[.int .i64 c.i0, .int .i64 c.i1, .slice Ag c.gs.length cg, .slice Aq c.outs.length cq]) := by rw [← hw0]; exact ((Blk.new _ _ _).alloc _).alloc _
  have HK1 : Hid (Blk w0 (w.heap.size + 1) 29 #[.slice A g.rows.length c9, .slice A1 g.ones.length c1, .slice A2 g.cols.length c2]) := by rw [← hw0]; have := (Blk.new (w.alloc (.cells #[.int .i64 c.i0, .int .i64 c.i1, .slice Ag c.gs.length cg, .slice Aq c.outs.length cq] 26)) 29 #[.slice A g.rows.length c9, .slice A1 g.ones.length c1, .slice A2 g.cols.length c2]).alloc (.cells #[.slice none 0 0, .slice none 0 0, .slice none 0 0] 29); simp only [World.size_alloc] at this; exact this
  have HK2 : Hid (Blk w0 (w.heap.size + 1 + 1) 29 #[.slice none 0 0, .slice none 0 0, .slice none 0 0]) := by rw [← hw0]; have := Blk.new ((w.alloc (.cells #[.int .i64 c.i0, .int .i64 c.i1, .slice Ag c.gs.length cg, .slice Aq c.outs.length cq] 26)).alloc (.cells #[.slice A g.rows.length c9, .slice A1 g.ones.length c1, .slice A2 g.cols.length c2] 29)) 29 #[.slice none 0 0, .slice none 0 0, .slice none 0 0]; simp only [World.size_alloc] at this; exact this
  have HB : Hid (Below w.heap.size w w0) := by rw [← hw0]; exact (((Below.refl _ _).alloc (Nat.le_refl _) _).alloc (by simp) _).alloc (by simp; omega) _
  rcases k1 : cirB c with _ | _
  · skip
    have HM := Lib.hid (show bendM 2 0 1 c g k row m = none by unfold bendM; simp [k1])
    have xa0 : w0.cell? ⟨w.heap.size, 0, none⟩ = some (.int .i64 c.i0) := HK0.out.cell 0
    have xa1 : w0.cell? ⟨w.heap.size, 1, none⟩ = some (.int .i64 c.i1) := HK0.out.cell 1
    have xa2 : w0.cell? ⟨w.heap.size, 2, none⟩ = some (.slice Ag c.gs.length cg) := HK0.out.cell 2
    have xa3 : w0.cell? ⟨w.heap.size, 3, none⟩ = some (.slice Aq c.outs.length cq) := HK0.out.cell 3
    have xb0 : w0.cell? ⟨w.heap.size + 1, 0, none⟩ = some (.slice A g.rows.length c9) := HK1.out.cell 0
    have xb1 : w0.cell? ⟨w.heap.size + 1, 1, none⟩ = some (.slice A1 g.ones.length c1) := HK1.out.cell 1
    have xb2 : w0.cell? ⟨w.heap.size + 1, 2, none⟩ = some (.slice A2 g.cols.length c2) := HK1.out.cell 2
    have xr0 : w0.cell? ⟨w.heap.size + 1 + 1, 0, none⟩ = some (.slice none 0 0) := HK2.out.cell 0
    have xrf0 : w0.frozen? ⟨w.heap.size + 1 + 1, 0, none⟩ = false := HK2.out.free 0
    have xr1 : w0.cell? ⟨w.heap.size + 1 + 1, 1, none⟩ = some (.slice none 0 0) := HK2.out.cell 1
    have xrf1 : w0.frozen? ⟨w.heap.size + 1 + 1, 1, none⟩ = false := HK2.out.free 1
    have xr2 : w0.cell? ⟨w.heap.size + 1 + 1, 2, none⟩ = some (.slice none 0 0) := HK2.out.cell 2
    have xrf2 : w0.frozen? ⟨w.heap.size + 1 + 1, 2, none⟩ = false := HK2.out.free 2
    go_enter Try.func14, Try.ntmps14
    go_wp2_with fail
    clear hw0
    refine (c_spec_ciGood (HC.out.below HB.out)).mono ?_
    rintro e wz ⟨rfl, hb⟩
    clear xa0 xa1 xa2 xa3 xb0 xb1 xb2 xr0 xr1 xr2 xrf0 xrf1 xrf2
    replace HK0 := Lib.hid (HK0.out.step hb)
    replace HK1 := Lib.hid (HK1.out.step hb)
    replace HK2 := Lib.hid (HK2.out.step hb)
    replace HB := Lib.hid (below_step HB.out hb)
    clear hb
    have xa0 : wz.cell? ⟨w.heap.size, 0, none⟩ = some (.int .i64 c.i0) := HK0.out.cell 0
    have xa1 : wz.cell? ⟨w.heap.size, 1, none⟩ = some (.int .i64 c.i1) := HK0.out.cell 1
    have xa2 : wz.cell? ⟨w.heap.size, 2, none⟩ = some (.slice Ag c.gs.length cg) := HK0.out.cell 2
    have xa3 : wz.cell? ⟨w.heap.size, 3, none⟩ = some (.slice Aq c.outs.length cq) := HK0.out.cell 3
    have xb0 : wz.cell? ⟨w.heap.size + 1, 0, none⟩ = some (.slice A g.rows.length c9) := HK1.out.cell 0
    have xb1 : wz.cell? ⟨w.heap.size + 1, 1, none⟩ = some (.slice A1 g.ones.length c1) := HK1.out.cell 1
    have xb2 : wz.cell? ⟨w.heap.size + 1, 2, none⟩ = some (.slice A2 g.cols.length c2) := HK1.out.cell 2
    have xr0 : wz.cell? ⟨w.heap.size + 1 + 1, 0, none⟩ = some (.slice none 0 0) := HK2.out.cell 0
    have xrf0 : wz.frozen? ⟨w.heap.size + 1 + 1, 0, none⟩ = false := HK2.out.free 0
    have xr1 : wz.cell? ⟨w.heap.size + 1 + 1, 1, none⟩ = some (.slice none 0 0) := HK2.out.cell 1
    have xrf1 : wz.frozen? ⟨w.heap.size + 1 + 1, 1, none⟩ = false := HK2.out.free 1
    have xr2 : wz.cell? ⟨w.heap.size + 1 + 1, 2, none⟩ = some (.slice none 0 0) := HK2.out.cell 2
    have xrf2 : wz.frozen? ⟨w.heap.size + 1 + 1, 2, none⟩ = false := HK2.out.free 2
    go_wp2
    refine bodyPost_ret (v := .tuple #[gbV (.slice none 0 0) (.slice none 0 0) (.slice none 0 0), .bool false]) (by simp [results, Try.results14, go_sem, gbV, xr0, xr1, xr2]) rfl ?_
    rw [HM.out]
    exact RetGbB.no (((HB.out.setCell (p := ⟨w.heap.size + 1 + 1, 0, none⟩) (by simp; omega) _).setCell (p := ⟨w.heap.size + 1 + 1, 1, none⟩) (by simp; omega) _).setCell (p := ⟨w.heap.size + 1 + 1, 2, none⟩) (by simp; omega) _)
  rcases k2 : tabB 2 c g with _ | _
  · skip
    have HM := Lib.hid (show bendM 2 0 1 c g k row m = none by unfold bendM; simp [k1, k2])
    have xa0 : w0.cell? ⟨w.heap.size, 0, none⟩ = some (.int .i64 c.i0) := HK0.out.cell 0
    have xa1 : w0.cell? ⟨w.heap.size, 1, none⟩ = some (.int .i64 c.i1) := HK0.out.cell 1
    have xa2 : w0.cell? ⟨w.heap.size, 2, none⟩ = some (.slice Ag c.gs.length cg) := HK0.out.cell 2
    have xa3 : w0.cell? ⟨w.heap.size, 3, none⟩ = some (.slice Aq c.outs.length cq) := HK0.out.cell 3
    have xb0 : w0.cell? ⟨w.heap.size + 1, 0, none⟩ = some (.slice A g.rows.length c9) := HK1.out.cell 0
    have xb1 : w0.cell? ⟨w.heap.size + 1, 1, none⟩ = some (.slice A1 g.ones.length c1) := HK1.out.cell 1
    have xb2 : w0.cell? ⟨w.heap.size + 1, 2, none⟩ = some (.slice A2 g.cols.length c2) := HK1.out.cell 2
    have xr0 : w0.cell? ⟨w.heap.size + 1 + 1, 0, none⟩ = some (.slice none 0 0) := HK2.out.cell 0
    have xrf0 : w0.frozen? ⟨w.heap.size + 1 + 1, 0, none⟩ = false := HK2.out.free 0
    have xr1 : w0.cell? ⟨w.heap.size + 1 + 1, 1, none⟩ = some (.slice none 0 0) := HK2.out.cell 1
    have xrf1 : w0.frozen? ⟨w.heap.size + 1 + 1, 1, none⟩ = false := HK2.out.free 1
    have xr2 : w0.cell? ⟨w.heap.size + 1 + 1, 2, none⟩ = some (.slice none 0 0) := HK2.out.cell 2
    have xrf2 : w0.frozen? ⟨w.heap.size + 1 + 1, 2, none⟩ = false := HK2.out.free 2
    go_enter Try.func14, Try.ntmps14
    go_wp2_with fail
    clear hw0
    refine (c_spec_ciGood (HC.out.below HB.out)).mono ?_
    rintro e u0 ⟨rfl, hb⟩
    clear xa0 xa1 xa2 xa3 xb0 xb1 xb2 xr0 xr1 xr2 xrf0 xrf1 xrf2
    replace HK0 := Lib.hid (HK0.out.step hb)
    replace HK1 := Lib.hid (HK1.out.step hb)
    replace HK2 := Lib.hid (HK2.out.step hb)
    replace HB := Lib.hid (below_step HB.out hb)
    clear hb
    have xa0 : u0.cell? ⟨w.heap.size, 0, none⟩ = some (.int .i64 c.i0) := HK0.out.cell 0
    have xa1 : u0.cell? ⟨w.heap.size, 1, none⟩ = some (.int .i64 c.i1) := HK0.out.cell 1
    have xa2 : u0.cell? ⟨w.heap.size, 2, none⟩ = some (.slice Ag c.gs.length cg) := HK0.out.cell 2
    have xa3 : u0.cell? ⟨w.heap.size, 3, none⟩ = some (.slice Aq c.outs.length cq) := HK0.out.cell 3
    have xb0 : u0.cell? ⟨w.heap.size + 1, 0, none⟩ = some (.slice A g.rows.length c9) := HK1.out.cell 0
    have xb1 : u0.cell? ⟨w.heap.size + 1, 1, none⟩ = some (.slice A1 g.ones.length c1) := HK1.out.cell 1
    have xb2 : u0.cell? ⟨w.heap.size + 1, 2, none⟩ = some (.slice A2 g.cols.length c2) := HK1.out.cell 2
    have xr0 : u0.cell? ⟨w.heap.size + 1 + 1, 0, none⟩ = some (.slice none 0 0) := HK2.out.cell 0
    have xrf0 : u0.frozen? ⟨w.heap.size + 1 + 1, 0, none⟩ = false := HK2.out.free 0
    have xr1 : u0.cell? ⟨w.heap.size + 1 + 1, 1, none⟩ = some (.slice none 0 0) := HK2.out.cell 1
    have xrf1 : u0.frozen? ⟨w.heap.size + 1 + 1, 1, none⟩ = false := HK2.out.free 1
    have xr2 : u0.cell? ⟨w.heap.size + 1 + 1, 2, none⟩ = some (.slice none 0 0) := HK2.out.cell 2
    have xrf2 : u0.frozen? ⟨w.heap.size + 1 + 1, 2, none⟩ = false := HK2.out.free 2
    go_wp2_with fail
    refine (c_spec_hgGood (HC.out.below HB.out) k1 (H.out.below HB.out) HS.out).mono ?_
    rintro e wz ⟨rfl, hb⟩
    clear xa0 xa1 xa2 xa3 xb0 xb1 xb2 xr0 xr1 xr2 xrf0 xrf1 xrf2
    replace HK0 := Lib.hid (HK0.out.step hb)
    replace HK1 := Lib.hid (HK1.out.step hb)
    replace HK2 := Lib.hid (HK2.out.step hb)
    replace HB := Lib.hid (below_step HB.out hb)
    clear hb
    have xa0 : wz.cell? ⟨w.heap.size, 0, none⟩ = some (.int .i64 c.i0) := HK0.out.cell 0
    have xa1 : wz.cell? ⟨w.heap.size, 1, none⟩ = some (.int .i64 c.i1) := HK0.out.cell 1
    have xa2 : wz.cell? ⟨w.heap.size, 2, none⟩ = some (.slice Ag c.gs.length cg) := HK0.out.cell 2
    have xa3 : wz.cell? ⟨w.heap.size, 3, none⟩ = some (.slice Aq c.outs.length cq) := HK0.out.cell 3
    have xb0 : wz.cell? ⟨w.heap.size + 1, 0, none⟩ = some (.slice A g.rows.length c9) := HK1.out.cell 0
    have xb1 : wz.cell? ⟨w.heap.size + 1, 1, none⟩ = some (.slice A1 g.ones.length c1) := HK1.out.cell 1
    have xb2 : wz.cell? ⟨w.heap.size + 1, 2, none⟩ = some (.slice A2 g.cols.length c2) := HK1.out.cell 2
    have xr0 : wz.cell? ⟨w.heap.size + 1 + 1, 0, none⟩ = some (.slice none 0 0) := HK2.out.cell 0
    have xrf0 : wz.frozen? ⟨w.heap.size + 1 + 1, 0, none⟩ = false := HK2.out.free 0
    have xr1 : wz.cell? ⟨w.heap.size + 1 + 1, 1, none⟩ = some (.slice none 0 0) := HK2.out.cell 1
    have xrf1 : wz.frozen? ⟨w.heap.size + 1 + 1, 1, none⟩ = false := HK2.out.free 1
    have xr2 : wz.cell? ⟨w.heap.size + 1 + 1, 2, none⟩ = some (.slice none 0 0) := HK2.out.cell 2
    have xrf2 : wz.frozen? ⟨w.heap.size + 1 + 1, 2, none⟩ = false := HK2.out.free 2
    go_wp2
    refine bodyPost_ret (v := .tuple #[gbV (.slice none 0 0) (.slice none 0 0) (.slice none 0 0), .bool false]) (by simp [results, Try.results14, go_sem, gbV, xr0, xr1, xr2]) rfl ?_
    rw [HM.out]
    exact RetGbB.no (((HB.out.setCell (p := ⟨w.heap.size + 1 + 1, 0, none⟩) (by simp; omega) _).setCell (p := ⟨w.heap.size + 1 + 1, 1, none⟩) (by simp; omega) _).setCell (p := ⟨w.heap.size + 1 + 1, 2, none⟩) (by simp; omega) _)
  rcases k3 : inB k 0 ((g.rows.length : Int) - 1) with _ | _
  · skip
    have HM := Lib.hid (show bendM 2 0 1 c g k row m = none by unfold bendM; simp [k1, k2, k3])
    have xa0 : w0.cell? ⟨w.heap.size, 0, none⟩ = some (.int .i64 c.i0) := HK0.out.cell 0
    have xa1 : w0.cell? ⟨w.heap.size, 1, none⟩ = some (.int .i64 c.i1) := HK0.out.cell 1
    have xa2 : w0.cell? ⟨w.heap.size, 2, none⟩ = some (.slice Ag c.gs.length cg) := HK0.out.cell 2
    have xa3 : w0.cell? ⟨w.heap.size, 3, none⟩ = some (.slice Aq c.outs.length cq) := HK0.out.cell 3
    have xb0 : w0.cell? ⟨w.heap.size + 1, 0, none⟩ = some (.slice A g.rows.length c9) := HK1.out.cell 0
    have xb1 : w0.cell? ⟨w.heap.size + 1, 1, none⟩ = some (.slice A1 g.ones.length c1) := HK1.out.cell 1
    have xb2 : w0.cell? ⟨w.heap.size + 1, 2, none⟩ = some (.slice A2 g.cols.length c2) := HK1.out.cell 2
    have xr0 : w0.cell? ⟨w.heap.size + 1 + 1, 0, none⟩ = some (.slice none 0 0) := HK2.out.cell 0
    have xrf0 : w0.frozen? ⟨w.heap.size + 1 + 1, 0, none⟩ = false := HK2.out.free 0
    have xr1 : w0.cell? ⟨w.heap.size + 1 + 1, 1, none⟩ = some (.slice none 0 0) := HK2.out.cell 1
    have xrf1 : w0.frozen? ⟨w.heap.size + 1 + 1, 1, none⟩ = false := HK2.out.free 1
    have xr2 : w0.cell? ⟨w.heap.size + 1 + 1, 2, none⟩ = some (.slice none 0 0) := HK2.out.cell 2
    have xrf2 : w0.frozen? ⟨w.heap.size + 1 + 1, 2, none⟩ = false := HK2.out.free 2
    go_enter Try.func14, Try.ntmps14
    go_wp2_with fail
    clear hw0
    refine (c_spec_ciGood (HC.out.below HB.out)).mono ?_
    rintro e u0 ⟨rfl, hb⟩
    clear xa0 xa1 xa2 xa3 xb0 xb1 xb2 xr0 xr1 xr2 xrf0 xrf1 xrf2
    replace HK0 := Lib.hid (HK0.out.step hb)
    replace HK1 := Lib.hid (HK1.out.step hb)
    replace HK2 := Lib.hid (HK2.out.step hb)
    replace HB := Lib.hid (below_step HB.out hb)
    clear hb
    have xa0 : u0.cell? ⟨w.heap.size, 0, none⟩ = some (.int .i64 c.i0) := HK0.out.cell 0
    have xa1 : u0.cell? ⟨w.heap.size, 1, none⟩ = some (.int .i64 c.i1) := HK0.out.cell 1
    have xa2 : u0.cell? ⟨w.heap.size, 2, none⟩ = some (.slice Ag c.gs.length cg) := HK0.out.cell 2
    have xa3 : u0.cell? ⟨w.heap.size, 3, none⟩ = some (.slice Aq c.outs.length cq) := HK0.out.cell 3
    have xb0 : u0.cell? ⟨w.heap.size + 1, 0, none⟩ = some (.slice A g.rows.length c9) := HK1.out.cell 0
    have xb1 : u0.cell? ⟨w.heap.size + 1, 1, none⟩ = some (.slice A1 g.ones.length c1) := HK1.out.cell 1
    have xb2 : u0.cell? ⟨w.heap.size + 1, 2, none⟩ = some (.slice A2 g.cols.length c2) := HK1.out.cell 2
    have xr0 : u0.cell? ⟨w.heap.size + 1 + 1, 0, none⟩ = some (.slice none 0 0) := HK2.out.cell 0
    have xrf0 : u0.frozen? ⟨w.heap.size + 1 + 1, 0, none⟩ = false := HK2.out.free 0
    have xr1 : u0.cell? ⟨w.heap.size + 1 + 1, 1, none⟩ = some (.slice none 0 0) := HK2.out.cell 1
    have xrf1 : u0.frozen? ⟨w.heap.size + 1 + 1, 1, none⟩ = false := HK2.out.free 1
    have xr2 : u0.cell? ⟨w.heap.size + 1 + 1, 2, none⟩ = some (.slice none 0 0) := HK2.out.cell 2
    have xrf2 : u0.frozen? ⟨w.heap.size + 1 + 1, 2, none⟩ = false := HK2.out.free 2
    go_wp2_with fail
    refine (c_spec_hgGood (HC.out.below HB.out) k1 (H.out.below HB.out) HS.out).mono ?_
    rintro e wz ⟨rfl, hb⟩
    clear xa0 xa1 xa2 xa3 xb0 xb1 xb2 xr0 xr1 xr2 xrf0 xrf1 xrf2
    replace HK0 := Lib.hid (HK0.out.step hb)
    replace HK1 := Lib.hid (HK1.out.step hb)
    replace HK2 := Lib.hid (HK2.out.step hb)
    replace HB := Lib.hid (below_step HB.out hb)
    clear hb
    have xa0 : wz.cell? ⟨w.heap.size, 0, none⟩ = some (.int .i64 c.i0) := HK0.out.cell 0
    have xa1 : wz.cell? ⟨w.heap.size, 1, none⟩ = some (.int .i64 c.i1) := HK0.out.cell 1
    have xa2 : wz.cell? ⟨w.heap.size, 2, none⟩ = some (.slice Ag c.gs.length cg) := HK0.out.cell 2
    have xa3 : wz.cell? ⟨w.heap.size, 3, none⟩ = some (.slice Aq c.outs.length cq) := HK0.out.cell 3
    have xb0 : wz.cell? ⟨w.heap.size + 1, 0, none⟩ = some (.slice A g.rows.length c9) := HK1.out.cell 0
    have xb1 : wz.cell? ⟨w.heap.size + 1, 1, none⟩ = some (.slice A1 g.ones.length c1) := HK1.out.cell 1
    have xb2 : wz.cell? ⟨w.heap.size + 1, 2, none⟩ = some (.slice A2 g.cols.length c2) := HK1.out.cell 2
    have xr0 : wz.cell? ⟨w.heap.size + 1 + 1, 0, none⟩ = some (.slice none 0 0) := HK2.out.cell 0
    have xrf0 : wz.frozen? ⟨w.heap.size + 1 + 1, 0, none⟩ = false := HK2.out.free 0
    have xr1 : wz.cell? ⟨w.heap.size + 1 + 1, 1, none⟩ = some (.slice none 0 0) := HK2.out.cell 1
    have xrf1 : wz.frozen? ⟨w.heap.size + 1 + 1, 1, none⟩ = false := HK2.out.free 1
    have xr2 : wz.cell? ⟨w.heap.size + 1 + 1, 2, none⟩ = some (.slice none 0 0) := HK2.out.cell 2
    have xrf2 : wz.frozen? ⟨w.heap.size + 1 + 1, 2, none⟩ = false := HK2.out.free 2
    go_wp2_with fail
    refine (c_spec_l1In).mono ?_
    rintro e w' ⟨rfl, rfl⟩
    go_wp2
    refine bodyPost_ret (v := .tuple #[gbV (.slice none 0 0) (.slice none 0 0) (.slice none 0 0), .bool false]) (by simp [results, Try.results14, go_sem, gbV, xr0, xr1, xr2]) rfl ?_
    rw [HM.out]
    exact RetGbB.no (((HB.out.setCell (p := ⟨w.heap.size + 1 + 1, 0, none⟩) (by simp; omega) _).setCell (p := ⟨w.heap.size + 1 + 1, 1, none⟩) (by simp; omega) _).setCell (p := ⟨w.heap.size + 1 + 1, 2, none⟩) (by simp; omega) _)
  rcases k4 : inB row 0 1 with _ | _
  · skip
    have HM := Lib.hid (show bendM 2 0 1 c g k row m = none by unfold bendM; simp [k1, k2, k3, k4])
    have xa0 : w0.cell? ⟨w.heap.size, 0, none⟩ = some (.int .i64 c.i0) := HK0.out.cell 0
    have xa1 : w0.cell? ⟨w.heap.size, 1, none⟩ = some (.int .i64 c.i1) := HK0.out.cell 1
    have xa2 : w0.cell? ⟨w.heap.size, 2, none⟩ = some (.slice Ag c.gs.length cg) := HK0.out.cell 2
    have xa3 : w0.cell? ⟨w.heap.size, 3, none⟩ = some (.slice Aq c.outs.length cq) := HK0.out.cell 3
    have xb0 : w0.cell? ⟨w.heap.size + 1, 0, none⟩ = some (.slice A g.rows.length c9) := HK1.out.cell 0
    have xb1 : w0.cell? ⟨w.heap.size + 1, 1, none⟩ = some (.slice A1 g.ones.length c1) := HK1.out.cell 1
    have xb2 : w0.cell? ⟨w.heap.size + 1, 2, none⟩ = some (.slice A2 g.cols.length c2) := HK1.out.cell 2
    have xr0 : w0.cell? ⟨w.heap.size + 1 + 1, 0, none⟩ = some (.slice none 0 0) := HK2.out.cell 0
    have xrf0 : w0.frozen? ⟨w.heap.size + 1 + 1, 0, none⟩ = false := HK2.out.free 0
    have xr1 : w0.cell? ⟨w.heap.size + 1 + 1, 1, none⟩ = some (.slice none 0 0) := HK2.out.cell 1
    have xrf1 : w0.frozen? ⟨w.heap.size + 1 + 1, 1, none⟩ = false := HK2.out.free 1
    have xr2 : w0.cell? ⟨w.heap.size + 1 + 1, 2, none⟩ = some (.slice none 0 0) := HK2.out.cell 2
    have xrf2 : w0.frozen? ⟨w.heap.size + 1 + 1, 2, none⟩ = false := HK2.out.free 2
    go_enter Try.func14, Try.ntmps14
    go_wp2_with fail
    clear hw0
    refine (c_spec_ciGood (HC.out.below HB.out)).mono ?_
    rintro e u0 ⟨rfl, hb⟩
    clear xa0 xa1 xa2 xa3 xb0 xb1 xb2 xr0 xr1 xr2 xrf0 xrf1 xrf2
    replace HK0 := Lib.hid (HK0.out.step hb)
    replace HK1 := Lib.hid (HK1.out.step hb)
    replace HK2 := Lib.hid (HK2.out.step hb)
    replace HB := Lib.hid (below_step HB.out hb)
    clear hb
    have xa0 : u0.cell? ⟨w.heap.size, 0, none⟩ = some (.int .i64 c.i0) := HK0.out.cell 0
    have xa1 : u0.cell? ⟨w.heap.size, 1, none⟩ = some (.int .i64 c.i1) := HK0.out.cell 1
    have xa2 : u0.cell? ⟨w.heap.size, 2, none⟩ = some (.slice Ag c.gs.length cg) := HK0.out.cell 2
    have xa3 : u0.cell? ⟨w.heap.size, 3, none⟩ = some (.slice Aq c.outs.length cq) := HK0.out.cell 3
    have xb0 : u0.cell? ⟨w.heap.size + 1, 0, none⟩ = some (.slice A g.rows.length c9) := HK1.out.cell 0
    have xb1 : u0.cell? ⟨w.heap.size + 1, 1, none⟩ = some (.slice A1 g.ones.length c1) := HK1.out.cell 1
    have xb2 : u0.cell? ⟨w.heap.size + 1, 2, none⟩ = some (.slice A2 g.cols.length c2) := HK1.out.cell 2
    have xr0 : u0.cell? ⟨w.heap.size + 1 + 1, 0, none⟩ = some (.slice none 0 0) := HK2.out.cell 0
    have xrf0 : u0.frozen? ⟨w.heap.size + 1 + 1, 0, none⟩ = false := HK2.out.free 0
    have xr1 : u0.cell? ⟨w.heap.size + 1 + 1, 1, none⟩ = some (.slice none 0 0) := HK2.out.cell 1
    have xrf1 : u0.frozen? ⟨w.heap.size + 1 + 1, 1, none⟩ = false := HK2.out.free 1
    have xr2 : u0.cell? ⟨w.heap.size + 1 + 1, 2, none⟩ = some (.slice none 0 0) := HK2.out.cell 2
    have xrf2 : u0.frozen? ⟨w.heap.size + 1 + 1, 2, none⟩ = false := HK2.out.free 2
    go_wp2_with fail
    refine (c_spec_hgGood (HC.out.below HB.out) k1 (H.out.below HB.out) HS.out).mono ?_
    rintro e wz ⟨rfl, hb⟩
    clear xa0 xa1 xa2 xa3 xb0 xb1 xb2 xr0 xr1 xr2 xrf0 xrf1 xrf2
    replace HK0 := Lib.hid (HK0.out.step hb)
    replace HK1 := Lib.hid (HK1.out.step hb)
    replace HK2 := Lib.hid (HK2.out.step hb)
    replace HB := Lib.hid (below_step HB.out hb)
    clear hb
    have xa0 : wz.cell? ⟨w.heap.size, 0, none⟩ = some (.int .i64 c.i0) := HK0.out.cell 0
    have xa1 : wz.cell? ⟨w.heap.size, 1, none⟩ = some (.int .i64 c.i1) := HK0.out.cell 1
    have xa2 : wz.cell? ⟨w.heap.size, 2, none⟩ = some (.slice Ag c.gs.length cg) := HK0.out.cell 2
    have xa3 : wz.cell? ⟨w.heap.size, 3, none⟩ = some (.slice Aq c.outs.length cq) := HK0.out.cell 3
    have xb0 : wz.cell? ⟨w.heap.size + 1, 0, none⟩ = some (.slice A g.rows.length c9) := HK1.out.cell 0
    have xb1 : wz.cell? ⟨w.heap.size + 1, 1, none⟩ = some (.slice A1 g.ones.length c1) := HK1.out.cell 1
    have xb2 : wz.cell? ⟨w.heap.size + 1, 2, none⟩ = some (.slice A2 g.cols.length c2) := HK1.out.cell 2
    have xr0 : wz.cell? ⟨w.heap.size + 1 + 1, 0, none⟩ = some (.slice none 0 0) := HK2.out.cell 0
    have xrf0 : wz.frozen? ⟨w.heap.size + 1 + 1, 0, none⟩ = false := HK2.out.free 0
    have xr1 : wz.cell? ⟨w.heap.size + 1 + 1, 1, none⟩ = some (.slice none 0 0) := HK2.out.cell 1
    have xrf1 : wz.frozen? ⟨w.heap.size + 1 + 1, 1, none⟩ = false := HK2.out.free 1
    have xr2 : wz.cell? ⟨w.heap.size + 1 + 1, 2, none⟩ = some (.slice none 0 0) := HK2.out.cell 2
    have xrf2 : wz.frozen? ⟨w.heap.size + 1 + 1, 2, none⟩ = false := HK2.out.free 2
    go_wp2_with fail
    refine (c_spec_l1In).mono ?_
    rintro e w' ⟨rfl, rfl⟩
    go_wp2_with fail
    refine (c_spec_l1In).mono ?_
    rintro e w' ⟨rfl, rfl⟩
    go_wp2
    refine bodyPost_ret (v := .tuple #[gbV (.slice none 0 0) (.slice none 0 0) (.slice none 0 0), .bool false]) (by simp [results, Try.results14, go_sem, gbV, xr0, xr1, xr2]) rfl ?_
    rw [HM.out]
    exact RetGbB.no (((HB.out.setCell (p := ⟨w.heap.size + 1 + 1, 0, none⟩) (by simp; omega) _).setCell (p := ⟨w.heap.size + 1 + 1, 1, none⟩) (by simp; omega) _).setCell (p := ⟨w.heap.size + 1 + 1, 2, none⟩) (by simp; omega) _)
  rcases k5 : inB m 0 65535 with _ | _
  · skip
    have HM := Lib.hid (show bendM 2 0 1 c g k row m = none by unfold bendM; simp [k1, k2, k3, k4, k5])
    have xa0 : w0.cell? ⟨w.heap.size, 0, none⟩ = some (.int .i64 c.i0) := HK0.out.cell 0
    have xa1 : w0.cell? ⟨w.heap.size, 1, none⟩ = some (.int .i64 c.i1) := HK0.out.cell 1
    have xa2 : w0.cell? ⟨w.heap.size, 2, none⟩ = some (.slice Ag c.gs.length cg) := HK0.out.cell 2
    have xa3 : w0.cell? ⟨w.heap.size, 3, none⟩ = some (.slice Aq c.outs.length cq) := HK0.out.cell 3
    have xb0 : w0.cell? ⟨w.heap.size + 1, 0, none⟩ = some (.slice A g.rows.length c9) := HK1.out.cell 0
    have xb1 : w0.cell? ⟨w.heap.size + 1, 1, none⟩ = some (.slice A1 g.ones.length c1) := HK1.out.cell 1
    have xb2 : w0.cell? ⟨w.heap.size + 1, 2, none⟩ = some (.slice A2 g.cols.length c2) := HK1.out.cell 2
    have xr0 : w0.cell? ⟨w.heap.size + 1 + 1, 0, none⟩ = some (.slice none 0 0) := HK2.out.cell 0
    have xrf0 : w0.frozen? ⟨w.heap.size + 1 + 1, 0, none⟩ = false := HK2.out.free 0
    have xr1 : w0.cell? ⟨w.heap.size + 1 + 1, 1, none⟩ = some (.slice none 0 0) := HK2.out.cell 1
    have xrf1 : w0.frozen? ⟨w.heap.size + 1 + 1, 1, none⟩ = false := HK2.out.free 1
    have xr2 : w0.cell? ⟨w.heap.size + 1 + 1, 2, none⟩ = some (.slice none 0 0) := HK2.out.cell 2
    have xrf2 : w0.frozen? ⟨w.heap.size + 1 + 1, 2, none⟩ = false := HK2.out.free 2
    go_enter Try.func14, Try.ntmps14
    go_wp2_with fail
    clear hw0
    refine (c_spec_ciGood (HC.out.below HB.out)).mono ?_
    rintro e u0 ⟨rfl, hb⟩
    clear xa0 xa1 xa2 xa3 xb0 xb1 xb2 xr0 xr1 xr2 xrf0 xrf1 xrf2
    replace HK0 := Lib.hid (HK0.out.step hb)
    replace HK1 := Lib.hid (HK1.out.step hb)
    replace HK2 := Lib.hid (HK2.out.step hb)
    replace HB := Lib.hid (below_step HB.out hb)
    clear hb
    have xa0 : u0.cell? ⟨w.heap.size, 0, none⟩ = some (.int .i64 c.i0) := HK0.out.cell 0
    have xa1 : u0.cell? ⟨w.heap.size, 1, none⟩ = some (.int .i64 c.i1) := HK0.out.cell 1
    have xa2 : u0.cell? ⟨w.heap.size, 2, none⟩ = some (.slice Ag c.gs.length cg) := HK0.out.cell 2
    have xa3 : u0.cell? ⟨w.heap.size, 3, none⟩ = some (.slice Aq c.outs.length cq) := HK0.out.cell 3
    have xb0 : u0.cell? ⟨w.heap.size + 1, 0, none⟩ = some (.slice A g.rows.length c9) := HK1.out.cell 0
    have xb1 : u0.cell? ⟨w.heap.size + 1, 1, none⟩ = some (.slice A1 g.ones.length c1) := HK1.out.cell 1
    have xb2 : u0.cell? ⟨w.heap.size + 1, 2, none⟩ = some (.slice A2 g.cols.length c2) := HK1.out.cell 2
    have xr0 : u0.cell? ⟨w.heap.size + 1 + 1, 0, none⟩ = some (.slice none 0 0) := HK2.out.cell 0
    have xrf0 : u0.frozen? ⟨w.heap.size + 1 + 1, 0, none⟩ = false := HK2.out.free 0
    have xr1 : u0.cell? ⟨w.heap.size + 1 + 1, 1, none⟩ = some (.slice none 0 0) := HK2.out.cell 1
    have xrf1 : u0.frozen? ⟨w.heap.size + 1 + 1, 1, none⟩ = false := HK2.out.free 1
    have xr2 : u0.cell? ⟨w.heap.size + 1 + 1, 2, none⟩ = some (.slice none 0 0) := HK2.out.cell 2
    have xrf2 : u0.frozen? ⟨w.heap.size + 1 + 1, 2, none⟩ = false := HK2.out.free 2
    go_wp2_with fail
    refine (c_spec_hgGood (HC.out.below HB.out) k1 (H.out.below HB.out) HS.out).mono ?_
    rintro e wz ⟨rfl, hb⟩
    clear xa0 xa1 xa2 xa3 xb0 xb1 xb2 xr0 xr1 xr2 xrf0 xrf1 xrf2
    replace HK0 := Lib.hid (HK0.out.step hb)
    replace HK1 := Lib.hid (HK1.out.step hb)
    replace HK2 := Lib.hid (HK2.out.step hb)
    replace HB := Lib.hid (below_step HB.out hb)
    clear hb
    have xa0 : wz.cell? ⟨w.heap.size, 0, none⟩ = some (.int .i64 c.i0) := HK0.out.cell 0
    have xa1 : wz.cell? ⟨w.heap.size, 1, none⟩ = some (.int .i64 c.i1) := HK0.out.cell 1
    have xa2 : wz.cell? ⟨w.heap.size, 2, none⟩ = some (.slice Ag c.gs.length cg) := HK0.out.cell 2
    have xa3 : wz.cell? ⟨w.heap.size, 3, none⟩ = some (.slice Aq c.outs.length cq) := HK0.out.cell 3
    have xb0 : wz.cell? ⟨w.heap.size + 1, 0, none⟩ = some (.slice A g.rows.length c9) := HK1.out.cell 0
    have xb1 : wz.cell? ⟨w.heap.size + 1, 1, none⟩ = some (.slice A1 g.ones.length c1) := HK1.out.cell 1
    have xb2 : wz.cell? ⟨w.heap.size + 1, 2, none⟩ = some (.slice A2 g.cols.length c2) := HK1.out.cell 2
    have xr0 : wz.cell? ⟨w.heap.size + 1 + 1, 0, none⟩ = some (.slice none 0 0) := HK2.out.cell 0
    have xrf0 : wz.frozen? ⟨w.heap.size + 1 + 1, 0, none⟩ = false := HK2.out.free 0
    have xr1 : wz.cell? ⟨w.heap.size + 1 + 1, 1, none⟩ = some (.slice none 0 0) := HK2.out.cell 1
    have xrf1 : wz.frozen? ⟨w.heap.size + 1 + 1, 1, none⟩ = false := HK2.out.free 1
    have xr2 : wz.cell? ⟨w.heap.size + 1 + 1, 2, none⟩ = some (.slice none 0 0) := HK2.out.cell 2
    have xrf2 : wz.frozen? ⟨w.heap.size + 1 + 1, 2, none⟩ = false := HK2.out.free 2
    go_wp2_with fail
    refine (c_spec_l1In).mono ?_
    rintro e w' ⟨rfl, rfl⟩
    go_wp2_with fail
    refine (c_spec_l1In).mono ?_
    rintro e w' ⟨rfl, rfl⟩
    go_wp2_with fail
    refine (c_spec_lbGood).mono ?_
    rintro e w' ⟨rfl, rfl⟩
    go_wp2
    refine bodyPost_ret (v := .tuple #[gbV (.slice none 0 0) (.slice none 0 0) (.slice none 0 0), .bool false]) (by simp [results, Try.results14, go_sem, gbV, xr0, xr1, xr2]) rfl ?_
    rw [HM.out]
    exact RetGbB.no (((HB.out.setCell (p := ⟨w.heap.size + 1 + 1, 0, none⟩) (by simp; omega) _).setCell (p := ⟨w.heap.size + 1 + 1, 1, none⟩) (by simp; omega) _).setCell (p := ⟨w.heap.size + 1 + 1, 2, none⟩) (by simp; omega) _)
  obtain ⟨kn, rfl⟩ : ∃ n : Nat, k = (n : Int) := ⟨k.toNat, by have := inB_bd k3; omega⟩
  obtain ⟨rn, rfl⟩ : ∃ n : Nat, row = (n : Int) := ⟨row.toNat, by have := inB_bd k4; omega⟩
  have hkl : kn < g.rows.length := by have := inB_bd k3; omega
  have hrn : rn < 2 := by have := inB_bd k4; omega
  have hmb := inB_bd k5
  have hro := bend_row k2 hkl
  have HM := Lib.hid (show bendM 2 0 1 c g kn rn m = some (bendG g kn rn m) by unfold bendM; rw [k1, k2, k3, k4, k5]; simp)
  have xa0 : w0.cell? ⟨w.heap.size, 0, none⟩ = some (.int .i64 c.i0) := HK0.out.cell 0
  have xa1 : w0.cell? ⟨w.heap.size, 1, none⟩ = some (.int .i64 c.i1) := HK0.out.cell 1
  have xa2 : w0.cell? ⟨w.heap.size, 2, none⟩ = some (.slice Ag c.gs.length cg) := HK0.out.cell 2
  have xa3 : w0.cell? ⟨w.heap.size, 3, none⟩ = some (.slice Aq c.outs.length cq) := HK0.out.cell 3
  have xb0 : w0.cell? ⟨w.heap.size + 1, 0, none⟩ = some (.slice A g.rows.length c9) := HK1.out.cell 0
  have xb1 : w0.cell? ⟨w.heap.size + 1, 1, none⟩ = some (.slice A1 g.ones.length c1) := HK1.out.cell 1
  have xb2 : w0.cell? ⟨w.heap.size + 1, 2, none⟩ = some (.slice A2 g.cols.length c2) := HK1.out.cell 2
  have xr0 : w0.cell? ⟨w.heap.size + 1 + 1, 0, none⟩ = some (.slice none 0 0) := HK2.out.cell 0
  have xrf0 : w0.frozen? ⟨w.heap.size + 1 + 1, 0, none⟩ = false := HK2.out.free 0
  have xr1 : w0.cell? ⟨w.heap.size + 1 + 1, 1, none⟩ = some (.slice none 0 0) := HK2.out.cell 1
  have xrf1 : w0.frozen? ⟨w.heap.size + 1 + 1, 1, none⟩ = false := HK2.out.free 1
  have xr2 : w0.cell? ⟨w.heap.size + 1 + 1, 2, none⟩ = some (.slice none 0 0) := HK2.out.cell 2
  have xrf2 : w0.frozen? ⟨w.heap.size + 1 + 1, 2, none⟩ = false := HK2.out.free 2
  go_enter Try.func14, Try.ntmps14
  go_wp2_with fail
  clear hw0
  refine (c_spec_ciGood (HC.out.below HB.out)).mono ?_
  rintro e u0 ⟨rfl, hb⟩
  clear xa0 xa1 xa2 xa3 xb0 xb1 xb2 xr0 xr1 xr2 xrf0 xrf1 xrf2
  replace HK0 := Lib.hid (HK0.out.step hb)
  replace HK1 := Lib.hid (HK1.out.step hb)
  replace HK2 := Lib.hid (HK2.out.step hb)
  replace HB := Lib.hid (below_step HB.out hb)
  clear hb
  have xa0 : u0.cell? ⟨w.heap.size, 0, none⟩ = some (.int .i64 c.i0) := HK0.out.cell 0
  have xa1 : u0.cell? ⟨w.heap.size, 1, none⟩ = some (.int .i64 c.i1) := HK0.out.cell 1
  have xa2 : u0.cell? ⟨w.heap.size, 2, none⟩ = some (.slice Ag c.gs.length cg) := HK0.out.cell 2
  have xa3 : u0.cell? ⟨w.heap.size, 3, none⟩ = some (.slice Aq c.outs.length cq) := HK0.out.cell 3
  have xb0 : u0.cell? ⟨w.heap.size + 1, 0, none⟩ = some (.slice A g.rows.length c9) := HK1.out.cell 0
  have xb1 : u0.cell? ⟨w.heap.size + 1, 1, none⟩ = some (.slice A1 g.ones.length c1) := HK1.out.cell 1
  have xb2 : u0.cell? ⟨w.heap.size + 1, 2, none⟩ = some (.slice A2 g.cols.length c2) := HK1.out.cell 2
  have xr0 : u0.cell? ⟨w.heap.size + 1 + 1, 0, none⟩ = some (.slice none 0 0) := HK2.out.cell 0
  have xrf0 : u0.frozen? ⟨w.heap.size + 1 + 1, 0, none⟩ = false := HK2.out.free 0
  have xr1 : u0.cell? ⟨w.heap.size + 1 + 1, 1, none⟩ = some (.slice none 0 0) := HK2.out.cell 1
  have xrf1 : u0.frozen? ⟨w.heap.size + 1 + 1, 1, none⟩ = false := HK2.out.free 1
  have xr2 : u0.cell? ⟨w.heap.size + 1 + 1, 2, none⟩ = some (.slice none 0 0) := HK2.out.cell 2
  have xrf2 : u0.frozen? ⟨w.heap.size + 1 + 1, 2, none⟩ = false := HK2.out.free 2
  go_wp2_with fail
  refine (c_spec_hgGood (HC.out.below HB.out) k1 (H.out.below HB.out) HS.out).mono ?_
  rintro e w0 ⟨rfl, hb⟩
  clear xa0 xa1 xa2 xa3 xb0 xb1 xb2 xr0 xr1 xr2 xrf0 xrf1 xrf2
  replace HK0 := Lib.hid (HK0.out.step hb)
  replace HK1 := Lib.hid (HK1.out.step hb)
  replace HK2 := Lib.hid (HK2.out.step hb)
  replace HB := Lib.hid (below_step HB.out hb)
  clear hb
  have xa0 : w0.cell? ⟨w.heap.size, 0, none⟩ = some (.int .i64 c.i0) := HK0.out.cell 0
  have xa1 : w0.cell? ⟨w.heap.size, 1, none⟩ = some (.int .i64 c.i1) := HK0.out.cell 1
  have xa2 : w0.cell? ⟨w.heap.size, 2, none⟩ = some (.slice Ag c.gs.length cg) := HK0.out.cell 2
  have xa3 : w0.cell? ⟨w.heap.size, 3, none⟩ = some (.slice Aq c.outs.length cq) := HK0.out.cell 3
  have xb0 : w0.cell? ⟨w.heap.size + 1, 0, none⟩ = some (.slice A g.rows.length c9) := HK1.out.cell 0
  have xb1 : w0.cell? ⟨w.heap.size + 1, 1, none⟩ = some (.slice A1 g.ones.length c1) := HK1.out.cell 1
  have xb2 : w0.cell? ⟨w.heap.size + 1, 2, none⟩ = some (.slice A2 g.cols.length c2) := HK1.out.cell 2
  have xr0 : w0.cell? ⟨w.heap.size + 1 + 1, 0, none⟩ = some (.slice none 0 0) := HK2.out.cell 0
  have xrf0 : w0.frozen? ⟨w.heap.size + 1 + 1, 0, none⟩ = false := HK2.out.free 0
  have xr1 : w0.cell? ⟨w.heap.size + 1 + 1, 1, none⟩ = some (.slice none 0 0) := HK2.out.cell 1
  have xrf1 : w0.frozen? ⟨w.heap.size + 1 + 1, 1, none⟩ = false := HK2.out.free 1
  have xr2 : w0.cell? ⟨w.heap.size + 1 + 1, 2, none⟩ = some (.slice none 0 0) := HK2.out.cell 2
  have xrf2 : w0.frozen? ⟨w.heap.size + 1 + 1, 2, none⟩ = false := HK2.out.free 2
  go_wp2_with fail
  refine (c_spec_l1In).mono ?_
  rintro e w' ⟨rfl, rfl⟩
  go_wp2_with fail
  refine (c_spec_l1In).mono ?_
  rintro e w' ⟨rfl, rfl⟩
  go_wp2_with fail
  refine (c_spec_lbGood).mono ?_
  rintro e w' ⟨rfl, rfl⟩
  have HP := HK1
  have hsz := HB.out.size
  have hlow := HK2.out.lt
  go_upto_region 3 with fail
  clear xa0 xa1 xa2 xa3 xb0 xb1 xb2 xr0 xr1 xr2 xrf0 xrf1 xrf2
  go_cut [12] (fun s9 wx => ∃ b ov cv, s9 = .pointer (some ⟨b, 0, none⟩) ∧ Hid (Three 29 wx w0 b ov cv g.ones g.cols))
  case first =>
    have q0 : ∀ w', Below w0.heap.size w0 w' → w'.cell? ⟨w.heap.size + 1, 1, none⟩ = some (.slice A1 g.ones.length c1) := fun w' h => (h.cell (p := ⟨w.heap.size + 1, 1, none⟩) HP.out.lt).trans (HP.out.cell 1)
    have q1 : ∀ w', Below w0.heap.size w0 w' → w'.cell? ⟨w.heap.size + 1, 2, none⟩ = some (.slice A2 g.cols.length c2) := fun w' h => (h.cell (p := ⟨w.heap.size + 1, 2, none⟩) HP.out.lt).trans (HP.out.cell 2)
    go_region_held3 (fun w' => Below w0.heap.size w0 w')
      (first | (refine below_step ?_ HD.out; assumption) | (exact (Below.refl _ _).drew) | (exact Below.refl _ _) | (exact Below.alloc (by assumption) (Below.size (B := w0.heap.size) (w := w0) (by assumption)) _) | (exact Below.alloc (Below.refl _ _) (Nat.le_refl _) _) | (exact below_refill (by assumption) (by first | exact Nat.le_refl _ | assumption | simp)) | (refine Below.setCell (Below.setCell (Below.setCell (by assumption) (p := ⟨_, 0, none⟩) ?_ _) (p := ⟨_, 1, none⟩) ?_ _) (p := ⟨_, 2, none⟩) ?_ _ <;> (first | exact Nat.le_refl _ | assumption)))
      (first
        | (go_at_call_of 72 (Value.slice A1 g.ones.length c1); refine (c_spec_l1Own ((H.out.ones.below HB.out).below (by first | assumption | (refine Below.alloc ?_ (Below.size ?_) _ <;> assumption))) (by omega)).mono ?_; rintro e wa ⟨ua, rfl, Oa, hb⟩; obtain ⟨Aa, ca, rfl, -⟩ := Oa.ints; replace Oa := Lib.hid Oa; have HD := Lib.hid hb; have hLa : Below w0.heap.size w0 wa := below_step (by first | assumption | exact (Below.refl _ _).drew) hb; have hsa : w0.heap.size ≤ wa.heap.size := Nat.le_trans (by first | exact Nat.le_refl _ | assumption | exact Nat.le_succ_of_le (by assumption) | (simp; done) | (simp; omega)) hb.size; (first | (replace KZ := Lib.hid (KZ.out.step hb)) | (have KZ : Hid (Blk _ w0.heap.size _ _) := Lib.hid ((Blk.new w0.drew _ _).step hb)) | (have KZ := Lib.hid ((Blk.new _ _ _).step hb)) | skip); (try (have y0 := KZ.out.cell 0; have y1 := KZ.out.cell 1; have y2 := KZ.out.cell 2; have yf0 := KZ.out.free 0; have yf1 := KZ.out.free 1; have yf2 := KZ.out.free 2; simp only [List.getElem?_toArray, List.getElem?_cons_zero, List.getElem?_cons_succ] at y0 y1 y2)))
        | (go_at_call_of 72 (Value.slice A2 g.cols.length c2); refine (c_spec_l1Own ((H.out.cols.below HB.out).below (by first | assumption | (refine Below.alloc ?_ (Below.size ?_) _ <;> assumption))) (by omega)).mono ?_; rintro e wb ⟨ub, rfl, Ob, hb⟩; obtain ⟨Ab, cb, rfl, -⟩ := Ob.ints; replace Ob := Lib.hid Ob; have HD := Lib.hid hb; have hLb : Below w0.heap.size w0 wb := below_step (by first | assumption | exact (Below.refl _ _).drew) hb; (try have hka := KZ.out.lt); have hsb : w0.heap.size ≤ wb.heap.size := Nat.le_trans (by first | exact Nat.le_refl _ | assumption | exact Nat.le_succ_of_le (by assumption) | (simp; done) | (simp; omega)) hb.size; (first | (replace KZ := Lib.hid (KZ.out.step hb)) | (have KZ : Hid (Blk _ w0.heap.size _ _) := Lib.hid ((Blk.new w0.drew _ _).step hb)) | (have KZ := Lib.hid ((Blk.new _ _ _).step hb)) | skip); (try (have y0 := KZ.out.cell 0; have y1 := KZ.out.cell 1; have y2 := KZ.out.cell 2; have yf0 := KZ.out.free 0; have yf1 := KZ.out.free 1; have yf2 := KZ.out.free 2; simp only [List.getElem?_toArray, List.getElem?_cons_zero, List.getElem?_cons_succ] at y0 y1 y2))))
    all_goals
      have h1 : OwnI wb w0.heap.size (.slice Aa g.ones.length ca) g.ones := (OwnI.mono (B' := w0.heap.size) Oa.out (by first | exact Nat.le_refl _ | (simp; done))).below (by first | exact HD.out | exact lit_trans HD.out)
      have h2 : OwnI wb w0.heap.size (.slice Ab g.cols.length cb) g.cols := OwnI.mono (B' := w0.heap.size) Ob.out (by first | exact hsa | exact Nat.le_succ_of_le hsa | (simp; omega))
      have h3 : Apt (.slice Aa g.ones.length ca) (.slice Ab g.cols.length cb) := Apt.ofLt Oa.out.lt (fun b hb => Nat.le_trans (by first | exact Nat.le_refl _ | (simp; done)) (Ob.out.ge b hb))
      have h4 := hLb
      go_wp2_with fail
      go_meet
      first
        | exact ⟨_, _, _, rfl, Lib.hid (three_new h1 h2 h3 h4 hsb)⟩
        | exact ⟨_, _, _, rfl, Lib.hid (three_set KZ.out h1 h2 h3 h4 (by rintro u (rfl | rfl) e; (first | (have l2 : w0.heap.size + 1 ≤ _ := Nat.le_trans (by simp) (Oa.out.ge _ e); omega) | (have l1 := Oa.out.lt _ e; omega)); (first | (have l3 := Ob.out.ge _ e; omega) | (have l4 : wa.heap.size + 1 ≤ _ := Nat.le_trans (by simp) (Ob.out.ge _ e); omega))) (by first | exact Nat.le_refl _ | exact hsa))⟩
  case rest =>
    obtain ⟨b, ov, cv, rfl, H3⟩ := hcut
    obtain ⟨W1, hW1⟩ : ∃ W, wc = W := ⟨_, rfl⟩
    rw [hW1] at H3 ⊢
    clear hW1
    have p0 : W1.cell? ⟨w.heap.size + 1, 0, none⟩ = some (.slice A g.rows.length c9) := (H3.out.below.cell (p := ⟨w.heap.size + 1, 0, none⟩) HP.out.lt).trans (HP.out.cell 0)
    have HST := Lib.hid H3.out.sta
    have hlo := HST.out.lo
    clear H3
    go_wp2_with fail
    go_loopw [14, 54] (fun s5 i wr => ∃ (j : Nat) (x5 : Value), s5 = x5 ∧ j ≤ g.rows.length ∧ i = .int .i64 j ∧ ∃ rv vs, Hid (Sta 29 wr w0 b rv ov cv vs ⟨g.rows.take j, g.ones, g.cols⟩)) (fun _ i _ => g.rows.length - (intOf i).toNat)
    case atStart => exact ⟨0, _, rfl, Nat.zero_le _, rfl, _, _, by simpa using HST⟩
    case round =>
      obtain ⟨j, x5, rfl, hj, rfl, rv, vs, HO⟩ := hrel
      clear HST p0
      obtain ⟨wa, rfl⟩ : ∃ W, W = wr := ⟨wr, rfl⟩
      have HBa := Lib.hid (HB.out.trans (HO.out.below.mono HB.out.size))
      have hlb := HO.out.below.size
      by_cases hlt : j < g.rows.length
      · obtain ⟨bb, o, A', r, c', rfl, hbl, hrk, hcell, hi⟩ := HAT.out j hlt
        have hc2 := (HBa.out.cell (p := ⟨bb, o + j, none⟩) hbl).trans hcell
        have hrl' := HRL.out r (List.mem_of_getElem? hrk)
        have HI := Lib.hid ((hi.below HBa.out).drew)
        have HRK := Lib.hid hrk
        have hlen : (g.rows.take j).length = j := by simp; omega
        have x0 : wa.cell? ⟨b, 0, none⟩ = some rv := HO.out.blk.cell 0
        have hbl2 := HO.out.blk.lt
        clear hcell hi hrk
        go_wp2_with fail
        go_region_law (first
          | (refine step_app1 (B := w0.heap.size) (by rfl) (by rfl) Try.underlying27 info_ints rfl (HOW.out.alloc _) (cell_new w1 _ _) (by rfl) (by rfl) rfl (by unfold maxLen; omega) (by omega) (by simp; omega) ?_; intro v' w2 ho hg hfr; have HN := Lib.hid (HO.out.row (hb1.alloc hb1.size (.cells #[.slice Au r.length cu] 24)) (hu.alloc _) (by rw [hlen]; exact ho) hg hfr); have hk2 := (HS1.out.blk.alloc (.cells #[.slice Au r.length cu] 24)).grown hg (fun e => HS1.out.far rv (by simp) e.symm); have z0 : w2.cell? ⟨b, 0, none⟩ = some rv := hk2.cell 0; have zf := hk2.free 0; clear hk2; obtain ⟨Av, cv9, ev, -⟩ := HN.out.own.rows.rowsIn.form; simp only [List.length_append, hlen, List.length_cons, List.length_nil, Nat.zero_add] at ev; subst ev)
          | (go_simp; go_at_call 72; refine (c_spec_l1Own HI.out (by omega)).mono ?_; rintro e w1 ⟨u, rfl, hu, hb1⟩; obtain ⟨Au, cu, rfl, -⟩ := hu.ints; replace hb1 : Below wa.heap.size wa w1 := below_step ((Below.refl _ _).drew) hb1; have hsz1 := hb1.size; have HS1 := Lib.hid (HO.out.step hb1); have x1 : w1.cell? ⟨b, 0, none⟩ = some rv := HS1.out.blk.cell 0; have x2 : (w1.alloc (.cells #[.slice Au r.length cu] 24)).cell? ⟨b, 0, none⟩ = some rv := (HS1.out.blk.alloc _).cell 0; have hown := HS1.out.own.rows.outer; rw [hlen] at hown; have HOW := Lib.hid hown; clear hown))
        all_goals
          go_wp2
          go_roundw
          case rel => exact ⟨j + 1, _, rfl, by omega, by go_num, _, _, by rw [take_snoc HRK.out]; exact HN⟩
          case measure => simp [intOf]; omega
      · obtain rfl : j = g.rows.length := by omega
        have HO2 : Hid (Sta 29 wa w0 b rv ov cv vs g) := by have h := HO.out; rw [List.take_of_length_le (Nat.le_refl _)] at h; exact h
        clear HO
        obtain ⟨Ar, cr, rfl, -⟩ := HO2.out.own.rows.rowsIn.form
        obtain ⟨Ao, co, rfl, -⟩ := HO2.out.own.ones.ints
        obtain ⟨Ac, cc, rfl, -⟩ := HO2.out.own.cols.ints
        have x0 : wa.cell? ⟨b, 0, none⟩ = some _ := HO2.out.blk.cell 0
        have x1 : wa.cell? ⟨b, 1, none⟩ = some _ := HO2.out.blk.cell 1
        have x2 : wa.cell? ⟨b, 2, none⟩ = some _ := HO2.out.blk.cell 2
        obtain ⟨g0, c0, u, r, A8, c8, e8, -, -, hvs, hrk, hue, hcell, hOu⟩ := HO2.out.own.rows.at_ hkl
        have er : g.rows.getD kn [] = r := by rw [List.getD_eq_getElem?_getD, hrk]; rfl
        rw [er] at hro
        obtain ⟨hrl8, hrb⟩ := hro
        have hrn8 : rn < r.length := by omega
        have hx : r[rn]? = some r[rn] := List.getElem?_eq_getElem hrn8
        have hxb := hrb r[rn] (List.getElem_mem _)
        have hbx := bits_xor hxb.1 hmb.1 (by omega) (by omega)
        have hG := Lib.hid (show (⟨g.rows.set kn (r.set rn (xorI r[rn] m)), g.ones, g.cols⟩ : Gb) = bendG g kn rn m by unfold bendG bendR bendRow; rw [er, show r.getD rn 0 = r[rn] by rw [List.getD_eq_getElem?_getD, hx]; rfl])
        obtain ⟨gu, cu, eu, -, hgu, hcu⟩ := own_at hOu (by intro e; rw [e] at hrn8; simp at hrn8)
        subst eu
        have hxc := hcu rn _ hx
        have hxf := hOu.free rn
        injection e8 with e81 e82 e83
        subst e81 e83
        have HK9 := Lib.hid (HK2.out.below HO2.out.below HK2.out.lt)
        have xr0 : wa.cell? ⟨w.heap.size + 1 + 1, 0, none⟩ = some (.slice none 0 0) := HK9.out.cell 0
        have xr1 : wa.cell? ⟨w.heap.size + 1 + 1, 1, none⟩ = some (.slice none 0 0) := HK9.out.cell 1
        have xr2 : wa.cell? ⟨w.heap.size + 1 + 1, 2, none⟩ = some (.slice none 0 0) := HK9.out.cell 2
        have xrf0 := HK9.out.free 0
        have xrf1 := HK9.out.free 1
        have xrf2 := HK9.out.free 2
        have hum := List.mem_of_getElem? hvs
        have hfu := HO2.out.far _ (show _ ∈ _ from List.mem_cons_of_mem _ (List.mem_cons_of_mem _ (List.mem_cons_of_mem _ hum)))
        have hne : gu ≠ b := fun e => hfu (by rw [e]; rfl)
        have hgr := hOu.ge gu rfl
        have hr2 : gu ≠ w.heap.size + 1 + 1 := by omega
        have hr3 : ¬ b = w.heap.size + 1 + 1 := by omega
        have HBN := Lib.hid (HBa.out.setCell (p := ⟨gu, rn, none⟩) (show w.heap.size ≤ gu by omega) (.int .i64 (xorI r[rn] m)))
        have H9 := Lib.hid (OwnGb.put HO2.out.own hvs (grown_set wa ⟨gu, rn, none⟩ (.int .i64 (xorI r[rn] m))) (hOu.put rn (xorI r[rn] m)))
        rw [hG.out] at H9
        clear hOu hcu hx hG er hvs hum hfu
        generalize r[rn] = x at *
        go_wp2
        refine bodyPost_ret (v := .tuple #[gbV (.slice (some ⟨g0, 0, none⟩) g.rows.length cr) (.slice Ao g.ones.length co) (.slice Ac g.cols.length cc), .bool true]) (by simp [results, Try.results14, go_sem, gbV, xr0, xr1, xr2]) rfl ⟨_, _, _, vs, by rw [HM.out]; rfl, ?_, ?_⟩
        · rw [HM.out]; exact (((H9.out.setLow hlow 0 _).setLow hlow 1 _).setLow hlow 2 _).mono hsz
        · exact ((HBN.out.setCell (p := ⟨w.heap.size + 1 + 1, 0, none⟩) (by simp; omega) _).setCell (p := ⟨w.heap.size + 1 + 1, 1, none⟩) (by simp; omega) _).setCell (p := ⟨w.heap.size + 1 + 1, 2, none⟩) (by simp; omega) _
end Go.Proofs.Ytejeppjmlgfiaaa
