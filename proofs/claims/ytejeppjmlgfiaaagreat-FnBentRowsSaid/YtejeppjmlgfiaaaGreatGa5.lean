/- The contract of the draw of a garbled circuit: some circuit, a key, an offset and some tables in new memory come back. Condition: the cursor's bound. -/
import Derived.Test.YtejeppjmlgfiaaaGreatGa1
import Derived.Test.YtejeppjmlgfiaaaGreatGa3
import Derived.Test.YtejeppjmlgfiaaaGreatEv
import Derived.Test.YtejeppjmlgfiaaaGreatLabG
namespace Go.Proofs.YtejeppjmlgfiaaaGreat
open Go.RowKit
set_option linter.unusedVariables false
set_option maxHeartbeats 4000000
section
variable {w : World} {g n : Nat} {cd : Value}
/-- A circuit, a key, an offset and tables are drawn, in new memory. -/
def DrewK (w : World) (g : Nat) (cd : Value) (n : Nat) (e : Ending) (w' : World) : Prop := ∃ (c : Cir) (gv ov : Value) (G : Gb) (rv nv cv : Value) (vs : List Value) (key r : Int), e = .returned (.tuple #[cirV c gv ov, .int .i64 key, .int .i64 r, gbV rv nv cv]) ∧ AnC c ∧ G.sz ≤ 3000 ∧ (-1 ≤ key ∧ key ≤ 1000000001) ∧ (-1 ≤ r ∧ r ≤ 66000) ∧ OwnG w' w.heap.size gv c.gs ∧ OwnI w' w.heap.size ov c.outs ∧ OwnGb w' w.heap.size rv nv cv vs G ∧ Cur w' g cd n ∧ w.grownBy w' (some g)
section
variable {W wr w' : World} {m rb r2 x y N : Nat} {t2 : TypeId} {c : Cir} {gv ov rv nv cv : Value} {vs : List Value} {G : Gb}
theorem Hv.c_secret (h : Hv W g cd n rb r2 x t2 c gv ov wr) (hn : n ≤ 1000000000) :
    Calls Tryz.prog 89 #[.pointer (some ⟨g, 0, none⟩)] wr fun e w' => ∃ r : Int, e = .returned (.int .i64 r) ∧ (-1 ≤ r ∧ r ≤ 1000000001) ∧ Hv W g cd (n + 4) rb r2 x t2 c gv ov w' :=
  (Go.Proofs.YtejeppjmlgfiaaaGreat.c_secret h.cur (by omega)).mono fun e w' ⟨v, e1, ⟨r, e2, h0, h1⟩, hc, hg⟩ => ⟨r, by rw [e1, e2], ⟨h0, h1⟩, h.draw hg hc⟩
theorem Hv.c_offset (h : Hv W g cd n rb r2 x t2 c gv ov wr) (hn : n ≤ 100000000) :
    Calls Tryz.prog 111 #[.pointer (some ⟨g, 0, none⟩)] wr fun e w' => ∃ r : Int, e = .returned (.int .i64 r) ∧ (-1 ≤ r ∧ r ≤ 66000) ∧ Hv W g cd (n + 8) rb r2 x t2 c gv ov w' :=
  (Go.Proofs.YtejeppjmlgfiaaaGreat.c_offset h.cur (by omega)).mono fun e w' ⟨v, e1, ⟨r, e2, h0, h1⟩, hc, hg⟩ => ⟨r, by rw [e1, e2], ⟨h0, h1⟩, h.draw hg hc⟩
/-- A number of the first row is written. -/
theorem Tb.cell0 {B br q kr i : Nat} {v : Int} {r : List Int} (h : Tb B wr y t2 rv nv cv vs G) (hu : vs[0]? = some (.slice (some ⟨br, 0, none⟩) q kr)) (hr : G.rows[0]? = some r) :
    Tb B (wr.setCell ⟨br, i, none⟩ (.int .i64 v)) y t2 rv nv cv vs ⟨G.rows.set 0 (r.set i v), G.ones, G.cols⟩ := by
  have ho := h.own.rows.inner 0 _ r hu hr
  have hm : (.slice (some ⟨br, 0, none⟩) q kr) ∈ nv :: cv :: rv :: vs := by simp [List.mem_of_getElem? hu]
  have hne : y ≠ br := fun e => h.far _ hm (by rw [e]; rfl)
  have hg : wr.grownBy (wr.setCell ⟨br, i, none⟩ (.int .i64 v)) (Value.ownBlock (.slice (some ⟨br, 0, none⟩) q kr)) := grown_set wr ⟨br, i, none⟩ _
  have hap := List.pairwise_cons.1 h.own.apart
  have hap2 := List.pairwise_cons.1 hap.2
  have hvs := List.mem_of_getElem? hu
  exact ⟨h.blk.far (p := ⟨br, i, none⟩) hne _, ⟨h.own.rows.put hu hg (ho.put i v), h.own.ones.grown hg (fun x e e' => hap.1 (.slice (some ⟨br, 0, none⟩) q kr) (by simp [hvs]) x e e'.symm), h.own.cols.grown hg (fun x e e' => hap2.1 (.slice (some ⟨br, 0, none⟩) q kr) (by simp [hvs]) x e e'.symm), h.own.apart⟩, h.far, h.lo⟩
theorem rowsAt {B bv : Nat} {cr : Nat} {u0 : Value} {q : List Int} (h : Tb B wr y t2 (.slice (some ⟨bv, 0, none⟩) G.rows.length cr) nv cv vs ⟨G.rows.set 0 q, G.ones, G.cols⟩) (hn0 : 0 < G.rows.length) (hu : vs[0]? = some u0) :
    wr.cell? ⟨y, 0, none⟩ = some (.slice (some ⟨bv, 0, none⟩) G.rows.length cr) ∧ wr.cell? ⟨bv, 0, none⟩ = some u0 := by
  have h2 : wr.ownsRow B 24 1 (.slice (some ⟨bv, 0, none⟩) G.rows.length cr) G.rows.length vs := by
    have := h.own.rows.outer
    rwa [show (Gb.rows ⟨G.rows.set 0 q, G.ones, G.cols⟩).length = G.rows.length by simp] at this
  exact ⟨h.blk.cell 0, by rw [h2.cellAt 0 (by omega)]; exact hu⟩
theorem sz_cell (G : Gb) {r : List Int} (hr : G.rows[0]? = some r) (i : Nat) (v : Int) : Gb.sz ⟨G.rows.set 0 (r.set i v), G.ones, G.cols⟩ = G.sz := by
  unfold Gb.sz
  simp only [List.length_set]
  rcases hG : G.rows with _ | ⟨q, rs⟩
  · rw [hG] at hr; simp at hr
  · rw [hG] at hr; simp at hr; subst hr
    simp [cntR]
end
set_option maxRecDepth 100000 in
theorem c_garbled (h : Cur w g cd n) (hn : n ≤ 1000000) : Calls Tryz.prog 103 #[.pointer (some ⟨g, 0, none⟩)] w (DrewK w g cd (n + 300)) := by
  have hgl := h.lt
  have HCD := Lib.hid h.1
  obtain ⟨W, hW⟩ : ∃ W, (w.alloc (.cells #[.int .i64 0, .int .i64 0, .slice none 0 0, .slice none 0 0] 26)).alloc (.cells #[.slice none 0 0, .slice none 0 0, .slice none 0 0] 50) = W := ⟨_, rfl⟩
  have hB0 : Below w.heap.size w W := by rw [← hW]; exact ((Below.refl _ _).alloc (Nat.le_refl _) _).alloc (by simp) _
  have hs0 : W.heap.size = w.heap.size + 2 := by rw [← hW]; simp
  have hr1 : Blk W w.heap.size 26 #[.int .i64 0, .int .i64 0, .slice none 0 0, .slice none 0 0] := by rw [← hW]; exact (Blk.new _ _ _).alloc _
  have hr2 : Blk W (w.heap.size + 1) 50 #[.slice none 0 0, .slice none 0 0, .slice none 0 0] := by
    rw [← hW]
    have := Blk.new (w.alloc (.cells #[.int .i64 0, .int .i64 0, .slice none 0 0, .slice none 0 0] 26)) 50 #[.slice none 0 0, .slice none 0 0, .slice none 0 0]
    simpa using this
  have HC := Lib.hid (h.below hB0)
  have HW := Lib.hid (And.intro hB0 (And.intro hs0 (And.intro hr1 hr2)))
  clear h hB0 hs0 hr1 hr2
  go_enter Tryz.func103, Tryz.ntmps103
  go_wp2_with fail
  clear hW
  refine (c_anyCircuit HC.out (by omega)).mono ?_
  rintro e w1 ⟨c, gv, ov, rfl, hs, hog, hoo, -, hc1, hg1⟩
  obtain ⟨Ag, cg, eg, -⟩ := own_form hog
  obtain ⟨Ao, co, eo, -⟩ := own_form hoo
  subst eg eo
  have hP := Hv.start HC.out HW.out.2.2.1 HW.out.2.2.2 (by have := HW.out.2.1; omega) hog hoo hc1 hg1
  have HP := Lib.hid hP
  have HS := Lib.hid hs
  obtain ⟨x0, x1, x2, x3⟩ := hP.four
  have HLW := Lib.hid hP.lw
  have HCW := Lib.hid (HCD.out.grown (only_below HW.out.1 (some g)))
  clear hog hoo hc1 hg1 hP hs
  unfold cirV
  go_wp2_with fail
  clear x0 x1 x2 x3
  generalize w1.heap.size = x at *
  refine (HP.out.c_secret (by omega)).mono ?_
  rintro e w2 ⟨key, rfl, hkb, hP2⟩
  replace HP := Lib.hid hP2
  clear hP2
  go_wp2_with fail
  refine (HP.out.c_offset (by omega)).mono ?_
  rintro e w3 ⟨off, rfl, hob, hP2⟩
  replace HP := Lib.hid hP2
  have HGK := Lib.hid (c_spec_gbKeys (key := key) (off := off) hP2.cir)
  obtain ⟨x0, x1, x2, x3⟩ := hP2.four
  have HKO := Lib.hid (And.intro hkb hob)
  clear hP2 hkb hob
  unfold cirV at HGK
  go_wp2_with fail
  refine (HGK.out).mono ?_
  rintro e w4 ⟨rfl, hb2⟩
  have HP2 := Lib.hid (HP.out.below hb2)
  clear hb2 HP HGK x0 x1 x2 x3
  rcases hkb : keyB c key off with _ | _
  · obtain ⟨x0, x1, x2, x3⟩ := HP2.out.four
    obtain ⟨⟨a0, a1, a2, a3, a4, a5, a6, a7⟩, b0, b1, b2, b3, b4, b5⟩ := HP2.out.resf
    obtain ⟨-, ⟨k0, k1, k2, k3⟩, j0, j1, j2⟩ := HP2.out.done (OwnGb.empty w4 W.heap.size)
    have HD := Lib.hid (HP2.out.ret (OwnGb.empty w4 W.heap.size) HW.out.1 HW.out.2.1 HCD.out hgl)
    have HK := Lib.hid (And.intro k0 (And.intro k1 (And.intro k2 (And.intro k3 (And.intro j0 (And.intro j1 j2))))))
    clear k0 k1 k2 k3 j0 j1 j2
    go_wp2
    obtain ⟨k0, k1, k2, k3, j0, j1, j2⟩ := HK.out
    refine bodyPost_ret (v := .tuple #[cirV c (.slice Ag c.gs.length cg) (.slice Ao c.outs.length co), .int .i64 key, .int .i64 off, gbV (.slice none 0 0) (.slice none 0 0) (.slice none 0 0)]) (by simp [results, Tryz.results103, go_sem, k0, k1, k2, k3, j0, j1, j2, cirV, gbV]) rfl ?_
    exact ⟨c, _, _, Gb.none, _, _, _, [], key, off, rfl, HS.out, by decide, HKO.out.1, HKO.out.2, HD.out.1, HD.out.2.1, HD.out.2.2.1, HD.out.2.2.2.1.mono (by omega), HD.out.2.2.2.2⟩
  · have hky := keyB_of hkb
    have htok := gb_tab_ok (key := key) hky.1 hky.2.2.1
    have HSG := Lib.hid (tab_sz hky.1 htok (by omega))
    have HTK := Lib.hid (tabB_of htok).2.1
    have hgm := c_spec_gbMake (key := key) (off := off) HP2.out.cir hky.1 hky.2.1 hky.2.2.1
    unfold cirV at hgm
    have HGM := Lib.hid hgm
    obtain ⟨x0, x1, x2, x3⟩ := HP2.out.four
    have HLW := Lib.hid HP2.out.lw
    clear hgm hky htok hkb
    generalize tabM (gbZ off) (gbR off) key off c = G at *
    go_wp2_with fail
    refine (HGM.out).mono ?_
    rintro e wt ⟨rv, nv, cv, vs, rfl, hz, hbt⟩
    have hzs := hbt.size
    have HPT := Lib.hid (HP2.out.below hbt)
    obtain ⟨Ar, cr, er, -⟩ := hz.rows.rowsIn.form
    obtain ⟨An, cn, en, -⟩ := hz.ones.ints
    obtain ⟨Ac, cc, ec, -⟩ := hz.cols.ints
    subst er en ec
    have hTb := Tb.new (t := 50) hzs hz
    obtain ⟨N, hN⟩ : ∃ N, w4.heap.size = N := ⟨_, rfl⟩
    obtain ⟨y, hy⟩ : ∃ y, wt.heap.size = y := ⟨_, rfl⟩
    obtain ⟨wm, hwm⟩ : ∃ V, wt.alloc (.cells #[.slice Ar G.rows.length cr, .slice An G.ones.length cn, .slice Ac G.cols.length cc] 50) = V := ⟨_, rfl⟩
    have hv0 := HPT.out.alloc (.cells #[.slice Ar G.rows.length cr, .slice An G.ones.length cn, .slice Ac G.cols.length cc] 50)
    rw [hwm] at hTb hv0
    rw [hN] at hTb HLW
    rw [hy] at hTb
    have hNy : N ≤ y := by omega
    have HT0 := Lib.hid hTb
    have HV0 := Lib.hid hv0
    have hsz := HSG.out
    clear HP2 HPT HGM hz hbt hzs hTb hv0 x0 x1 x2 x3 HSG
    unfold gbV
    go_upto_region 6 with fail
    clear hwm
    try rw [hy]
    clear hy hN
    go_wp2_with fail
    refine (Hv.c_pick HV0.out (by omega) (by omega)).mono ?_
    rintro e w3 ⟨q, rfl, hq0, hq1, hv3, hg3⟩
    have hgN : g < N := by have h8 := HLW.out.lo; have h9 := HV0.out.lt; omega
    have HT := Lib.hid (HT0.out.draw hgN hg3)
    have HV := Lib.hid hv3
    have hszr : G.rows.length ≤ 2000 ∧ G.ones.length ≤ 2000 ∧ G.cols.length ≤ 2000 := by unfold Gb.sz at hsz; omega
    have hN3 : N ≤ w3.heap.size := HT.out.size
    clear HT0 HV0 hg3 hv3
    go_upto_block 0 with fail
    go_cut [] (fun wx => Hid (MkH W g cd (n + 290) w.heap.size (w.heap.size + 1) x y N 50 c (.slice Ag c.gs.length cg) (.slice Ao c.outs.length co) 3000 wx))
    case first =>
      by_cases h0 : q = 0
      · subst h0
        have x0 := HT.out.blk.cell 0
        have HLI := Lib.hid (show OwnI (w3.alloc (.cells #[.int .i64 1, .int .i64 2, .int .i64 3] 3)) w3.heap.size (.slice (some ⟨w3.heap.size, 0, none⟩) 3 3) [1, 2, 3] from OwnI.lit (w := w3) (B := w3.heap.size) [1, 2, 3] #[.int .i64 1, .int .i64 2, .int .i64 3] rfl (Nat.le_refl _) (by simp))
        have hza : N ≤ (w3.alloc (.cells #[.int .i64 1, .int .i64 2, .int .i64 3] 3)).heap.size := Nat.le_trans hN3 ((Below.refl _ _).alloc (Nat.le_refl _) _).size
        have HOW := Lib.hid (HT.out.own.rows.outer.alloc (.cells #[.int .i64 1, .int .i64 2, .int .i64 3] 3))
        obtain ⟨wl, hwl⟩ : ∃ W, w3.alloc (.cells #[.int .i64 1, .int .i64 2, .int .i64 3] 3) = W := ⟨_, rfl⟩
        rw [hwl] at HLI HOW hza
        go_wp2_with (at_builtin; refine wp_app1 (B := N) rfl rfl Tryz.underlying33 info_ints rfl HOW.out rfl rfl rfl (by unfold maxLen; omega) (by omega) hza ?_; intro v8 w8 ho8 hg8 hfr8; obtain ⟨A8, c8, e8, -⟩ := own_form ho8; subst e8; obtain ⟨z0, zf, hM⟩ := MkH.row (zk := 3000) HCW.out HLW.out HT.out HV.out (by rw [hwl]; exact HLI.out) ho8 (by rw [hwl]; exact hg8) (by rw [hwl]; exact hfr8) (by simp; omega); have HMM := Lib.hid hM)
        go_meet
        exact Lib.hid (HMM.out.more (by omega))
      by_cases h1 : q = 1
      · subst h1
        have x1 := HT.out.blk.cell 1
        go_wp2_with (at_builtin; refine wp_app1 (B := N) rfl rfl Tryz.underlying24 info_int rfl HT.out.own.ones rfl rfl rfl (by unfold maxLen; omega) (by omega) hN3 ?_; intro v8 w8 ho8 hg8 hfr8; obtain ⟨A8, c8, e8, -⟩ := own_form ho8; subst e8; obtain ⟨z0, zf, hM⟩ := MkH.one (zk := 3000) HCW.out HLW.out HT.out HV.out ho8 hg8 hfr8 (by omega); have HMM := Lib.hid hM)
        go_meet
        exact Lib.hid (HMM.out.more (by omega))
      by_cases h2 : q = 2
      · subst h2
        have x0 := HT.out.blk.cell 0
        by_cases hn0 : 0 < G.rows.length
        · have hnn : (0 : Int) < (G.rows.length : Int) := by omega
          obtain ⟨bv, cv2, ebv, -, -, -, -⟩ := own_pos HT.out.own.rows.outer hn0
          injection ebv with ebv e2 e3
          subst ebv e3
          obtain ⟨r0, hr0⟩ : ∃ r, G.rows[0]? = some r := ⟨_, List.getElem?_eq_getElem hn0⟩
          have hl3 : (r0.length : Int) = 3 := by have := (HTK.out r0 (List.mem_of_getElem? hr0)).1; omega
          obtain ⟨u0, hu0⟩ : ∃ u, vs[0]? = some u := ⟨_, List.getElem?_eq_getElem (by rw [HT.out.own.rows.len]; exact hn0)⟩
          have hin := HT.out.own.rows.inner 0 u0 r0 hu0 hr0
          obtain ⟨br, kr, eu, -, -, -, -⟩ := own_pos hin (by omega)
          subst eu
          have hba : Below w3.heap.size w3 (w3.drew.alloc (.cells #[.int .i64 (-1), .int .i64 0, .int .i64 65536] 3)) := ((Below.refl _ _).drew).alloc (Nat.le_refl _) _
          have HTa := Lib.hid (HT.out.below hba)
          have HVa := Lib.hid (HV.out.below hba)
          have key9 : ∀ {V : World}, Tb N V y 50 (.slice (some ⟨bv, 0, none⟩) G.rows.length cr) (.slice An G.ones.length cn) (.slice Ac G.cols.length cc) vs G → V.cell? ⟨y, 0, none⟩ = some (.slice (some ⟨bv, 0, none⟩) G.rows.length cr) ∧ V.cell? ⟨bv, 0, none⟩ = some (.slice (some ⟨br, 0, none⟩) r0.length kr) := fun h9 => ⟨h9.blk.cell 0, by rw [h9.own.rows.outer.cellAt 0 (by omega)]; exact hu0⟩
          have xa : w3.drew.cell? ⟨y, 0, none⟩ = some (.slice (some ⟨bv, 0, none⟩) G.rows.length cr) ∧ w3.drew.cell? ⟨bv, 0, none⟩ = some (.slice (some ⟨br, 0, none⟩) r0.length kr) := key9 HT.out.drew
          have xb : (w3.alloc (.cells #[.int .i64 (-1), .int .i64 0, .int .i64 65536] 3)).drew.cell? ⟨y, 0, none⟩ = some (.slice (some ⟨bv, 0, none⟩) G.rows.length cr) ∧ (w3.alloc (.cells #[.int .i64 (-1), .int .i64 0, .int .i64 65536] 3)).drew.cell? ⟨bv, 0, none⟩ = some (.slice (some ⟨br, 0, none⟩) r0.length kr) := key9 HTa.out
          have hgl3 : g < w3.drew.heap.size := HV.out.cur.lt
          have hl30 : (0 : Int) < (r0.length : Int) := by omega
          have hl31 : 0 < r0.length := by omega
          obtain ⟨z0, hz0⟩ : ∃ z, r0[0]? = some z := ⟨_, List.getElem?_eq_getElem (by omega)⟩
          have HKEY := Lib.hid (fun (V : World) h9 => key9 (V := V) h9)
          have HKEY2 := Lib.hid (fun (V : World) (q : List Int) (h9 : Tb N V y 50 (.slice (some ⟨bv, 0, none⟩) G.rows.length cr) (.slice An G.ones.length cn) (.slice Ac G.cols.length cc) vs ⟨G.rows.set 0 q, G.ones, G.cols⟩) => rowsAt h9 hn0 hu0)
          have HU0 := Lib.hid hu0
          have HR0 := Lib.hid hr0
          clear hba key9 hl3 hin hu0 hr0
          go_wp2_with fail
          clear x0
          go_region_held3 (fun w' => w'.cell? ⟨y, 0, none⟩ = some (.slice (some ⟨bv, 0, none⟩) G.rows.length cr) ∧ w'.cell? ⟨bv, 0, none⟩ = some (.slice (some ⟨br, 0, none⟩) r0.length kr))
            (first | with_reducible exact xm | with_reducible exact xs | with_reducible exact xb | with_reducible exact xa)
            (first
              | (go_at_call 54; refine (c_among (l := [-1, 0, 65536]) (HVa.out.cur) (by omega) (ints_lit w3.drew [-1, 0, 65536] #[.int .i64 (-1), .int .i64 0, .int .i64 65536] rfl (by simp)) (by simp) (by simp) (by rintro b hb; simp [Value.ownBlock] at hb; omega)).mono ?_; rintro e wm ⟨v, rfl, ⟨r, rfl, hr⟩, hc4, hg4⟩; have hTm := HTa.out.draw hgN hg4; have hVm := HVa.out.draw hg4 hc4; have xm := HKEY.out _ hTm; have hTs := Tb.cell0 (i := 0) (v := r) hTm HU0.out HR0.out; have c0 := (hTm.own.rows.inner 0 _ r0 HU0.out HR0.out).rd hz0; have f0 := (hTm.own.rows.inner 0 _ r0 HU0.out HR0.out).free 0; have xs : (wm.setCell ⟨br, 0, none⟩ (.int .i64 r)).cell? ⟨y, 0, none⟩ = some (.slice (some ⟨bv, 0, none⟩) G.rows.length cr) ∧ (wm.setCell ⟨br, 0, none⟩ (.int .i64 r)).cell? ⟨bv, 0, none⟩ = some (.slice (some ⟨br, 0, none⟩) r0.length kr) := HKEY2.out _ _ hTs))
          all_goals
            go_wp2
            go_meet
            exact Lib.hid ⟨_, _, _, _, _, by rw [sz_cell G HR0.out]; omega, hTs, (hVm.hi HCW.out HLW.out ((Below.refl _ _).setCell (p := ⟨br, 0, none⟩) ((hTm.own.bd (.slice (some ⟨br, 0, none⟩) r0.length kr) (by simp [List.mem_of_getElem? HU0.out]) br rfl).1) _)).more (by omega)⟩
        · have hnn : ¬ (0 : Int) < (G.rows.length : Int) := by omega
          go_wp2
          go_meet
          exact Lib.hid ⟨_, _, _, _, _, by omega, HT.out, HV.out.more (by omega)⟩
      by_cases h3 : q = 3
      · subst h3
        have x2 := HT.out.blk.cell 2
        by_cases hn0 : 0 < G.cols.length
        · have hnn : (0 : Int) < (G.cols.length : Int) := by omega
          obtain ⟨bc, cc2, ebc, -, -, -, -⟩ := own_pos HT.out.own.cols hn0
          injection ebc with ebc e2 e3
          subst ebc e3
          have xa2 : w3.drew.cell? ⟨y, 2, none⟩ = some (.slice (some ⟨bc, 0, none⟩) G.cols.length cc) := x2
          have HVd := Lib.hid HV.out.drew
          have HTd := Lib.hid HT.out.drew
          go_wp2_with fail
          clear x2
          go_region_held3 (fun w' => w'.cell? ⟨y, 2, none⟩ = some (.slice (some ⟨bc, 0, none⟩) G.cols.length cc))
            (first | with_reducible exact xm2 | with_reducible exact xs2 | with_reducible exact xa2)
            (first
              | (go_at_call 55; (with_reducible refine (Hv.c_pick HVd.out (by omega) (by omega)).mono ?_); rintro e wm ⟨r, rfl, hr0, hr1, hVm, hg4⟩; have hTm := HTd.out.draw hgN hg4; obtain ⟨z, hz⟩ : ∃ z, G.cols[0]? = some z := ⟨_, List.getElem?_eq_getElem hn0⟩; have c0 := hTm.own.cols.rd hz; have f0 := hTm.own.cols.free 0; have xm2 : wm.cell? ⟨y, 2, none⟩ = some (.slice (some ⟨bc, 0, none⟩) G.cols.length cc) := hTm.blk.cell 2; have xs2 : (wm.setCell ⟨bc, 0, none⟩ (.int .i64 r)).cell? ⟨y, 2, none⟩ = some (.slice (some ⟨bc, 0, none⟩) G.cols.length cc) := (Tb.col hTm).blk.cell 2))
          all_goals
            go_wp2
            go_meet
            exact Lib.hid ⟨_, _, _, _, _, by rw [sz_col]; omega, Tb.col hTm, (hVm.hi HCW.out HLW.out ((Below.refl _ _).setCell (p := ⟨bc, 0, none⟩) ((hTm.own.bd (.slice (some ⟨bc, 0, none⟩) G.cols.length cc) (by simp) bc rfl).1) _)).more (by omega)⟩
        · have hnn : ¬ (0 : Int) < (G.cols.length : Int) := by omega
          go_wp2
          go_meet
          exact Lib.hid ⟨_, _, _, _, _, by omega, HT.out, HV.out.more (by omega)⟩
      · go_wp2
        go_meet
        exact Lib.hid ⟨_, _, _, _, _, by omega, HT.out, HV.out.more (by omega)⟩
    case rest =>
      obtain ⟨wq, hwq⟩ : ∃ W, wc = W := ⟨_, rfl⟩
      rw [hwq] at hcut ⊢
      clear hwq
      obtain ⟨G2, rv2, nv2, cv2, vs2, hsz2, ht2, hv2⟩ := hcut.out
      have HT9 := Lib.hid ht2.drew
      have HV9 := Lib.hid hv2.drew
      obtain ⟨Br, dr, er, -⟩ := HT9.out.gb.rows.form
      obtain ⟨Bn, dn, en, -⟩ := HT9.out.gb.ones
      obtain ⟨Bc, dc, ec, -⟩ := HT9.out.gb.cols
      subst er en ec
      obtain ⟨⟨a0, a1, a2, a3, a4, a5, a6, a7⟩, b0, b1, b2, b3, b4, b5⟩ := HV9.out.resf
      obtain ⟨⟨e0, e1, e2, e3, e4, e5, e6, e7⟩, f0, f1, f2, f3, f4, f5⟩ := hv2.resf
      have hown := HT9.out.own.mono (B' := W.heap.size) HLW.out.lo
      have hd := HV9.out.done hown
      have hdr := HV9.out.ret hown HW.out.1 HW.out.2.1 HCD.out hgl
      have s0 := HV9.out.keep7 HT9.out HLW.out.lo
      have s1 := HV9.out.keep7a HT9.out HLW.out.lo
      have s2 := HV9.out.keep7b HT9.out HLW.out.lo
      simp only [set_drew] at hd hdr s1 s2
      have HD := Lib.hid hdr
      have HK := Lib.hid hd
      clear hcut ht2 hv2 HT HV hd hdr hown
      go_wp2_with fail
      go_region_held3 (fun w' => w'.cell? ⟨x, 0, none⟩ = some (.int .i64 c.i0) ∧ w'.cell? ⟨x, 1, none⟩ = some (.int .i64 c.i1) ∧ w'.cell? ⟨x, 2, none⟩ = some (.slice Ag c.gs.length cg) ∧ w'.cell? ⟨x, 3, none⟩ = some (.slice Ao c.outs.length co) ∧ w'.cell? ⟨y, 0, none⟩ = some (.slice Br G2.rows.length dr) ∧ w'.cell? ⟨y, 1, none⟩ = some (.slice Bn G2.ones.length dn) ∧ w'.cell? ⟨y, 2, none⟩ = some (.slice Bc G2.cols.length dc))
        (first | with_reducible exact s0 | with_reducible exact s1 | with_reducible exact s2) (fail)
      go_wp2
      obtain ⟨-, ⟨k0, k1, k2, k3⟩, j0, j1, j2⟩ := HK.out
      refine bodyPost_ret (v := .tuple #[cirV c (.slice Ag c.gs.length cg) (.slice Ao c.outs.length co), .int .i64 key, .int .i64 off, gbV (.slice Br G2.rows.length dr) (.slice Bn G2.ones.length dn) (.slice Bc G2.cols.length dc)]) (by simp [results, Tryz.results103, go_sem, k0, k1, k2, k3, j0, j1, j2, cirV, gbV]) rfl ?_
      exact ⟨c, _, _, G2, _, _, _, _, key, off, rfl, HS.out, hsz2, HKO.out.1, HKO.out.2, HD.out.1, HD.out.2.1, HD.out.2.2.1, HD.out.2.2.2.1.mono (by omega), HD.out.2.2.2.2⟩
end
end Go.Proofs.YtejeppjmlgfiaaaGreat

/- Contracts of the draws of garbled circuits with labels, rows and masks. Condition: the bytes read as bytes. -/
namespace Go.Proofs.YtejeppjmlgfiaaaGreat
open Go.RowKit
set_option linter.unusedVariables false
set_option maxHeartbeats 4000000
section
variable {W w wr w' : World} {g n m rb r2 x y : Nat} {cd : Value} {t2 : TypeId} {c : Cir} {gv ov rv nv cv : Value} {vs : List Value} {G : Gb}
/-- A circuit and its tables are drawn and lie in boxes too; the boxes of both results are empty yet. -/
structure Pv (W : World) (g : Nat) (cd : Value) (n rb r2 x y : Nat) (t2 : TypeId) (c : Cir) (gv ov rv nv cv : Value) (vs : List Value) (G : Gb) (wr : World) : Prop where
  hv : Hv W g cd n rb r2 x t2 c gv ov wr
  tb : Tb W.heap.size wr y t2 rv nv cv vs G
theorem Pv.draw (h : Pv W g cd n rb r2 x y t2 c gv ov rv nv cv vs G wr) (hg : wr.grownBy w' (some g)) (hc : Cur w' g cd m) : Pv W g cd m rb r2 x y t2 c gv ov rv nv cv vs G w' := ⟨h.hv.draw hg hc, h.tb.draw h.hv.lt.1 hg⟩
theorem Pv.below (h : Pv W g cd n rb r2 x y t2 c gv ov rv nv cv vs G wr) (hb : Below wr.heap.size wr w') : Pv W g cd n rb r2 x y t2 c gv ov rv nv cv vs G w' := ⟨h.hv.below hb, h.tb.below hb⟩
theorem Pv.drew (h : Pv W g cd n rb r2 x y t2 c gv ov rv nv cv vs G wr) : Pv W g cd n rb r2 x y t2 c gv ov rv nv cv vs G wr.drew := h.below (Below.refl _ _).drew
theorem Pv.alloc (h : Pv W g cd n rb r2 x y t2 c gv ov rv nv cv vs G wr) (o : Obj) : Pv W g cd n rb r2 x y t2 c gv ov rv nv cv vs G (wr.alloc o) := h.below ((Below.refl _ _).alloc (Nat.le_refl _) o)
theorem Pv.start {w1 : World} (hW : Cur W g cd m) (hres : Blk W rb 26 #[.int .i64 0, .int .i64 0, .slice none 0 0, .slice none 0 0]) (hres2 : Blk W r2 t2 #[.slice none 0 0, .slice none 0 0, .slice none 0 0]) (hlt : g < W.heap.size ∧ rb < W.heap.size ∧ r2 < W.heap.size ∧ rb ≠ g ∧ r2 ≠ g ∧ rb ≠ r2)
    (h1 : OwnG w1 W.heap.size gv c.gs) (h2 : OwnI w1 W.heap.size ov c.outs) (h3 : OwnGb w1 W.heap.size rv nv cv vs G) (hc : Cur w1 g cd n) (hg : W.grownBy w1 (some g)) :
    Pv W g cd n rb r2 w1.heap.size (w1.heap.size + 1) t2 c gv ov rv nv cv vs G ((w1.alloc (.cells #[.int .i64 c.i0, .int .i64 c.i1, gv, ov] 26)).alloc (.cells #[rv, nv, cv] t2)) := by
  have h9 := Tb.new (t := t2) (Nat.le_trans hg.size ((Below.refl _ _).alloc (Nat.le_refl _) (.cells #[.int .i64 c.i0, .int .i64 c.i1, gv, ov] 26)).size) (h3.below ((Below.refl w1.heap.size w1).alloc (Nat.le_refl _) (.cells #[.int .i64 c.i0, .int .i64 c.i1, gv, ov] 26)))
  rw [show (w1.alloc (.cells #[.int .i64 c.i0, .int .i64 c.i1, gv, ov] 26)).heap.size = w1.heap.size + 1 by simp] at h9
  exact ⟨(Hv.start hW hres hres2 hlt h1 h2 hc hg).alloc _, h9⟩
theorem Tb.hi {B N : Nat} (h : Tb B wr y t2 rv nv cv vs G) (hb : Below N wr w') (hlt : ∀ u ∈ nv :: cv :: rv :: vs, ∀ b, u.ownBlock = some b → b < N) (hy : y < N) : Tb B w' y t2 rv nv cv vs G :=
  ⟨h.blk.below hb hy, ⟨⟨h.own.rows.len, own_hi h.own.rows.outer hb (hlt rv (by simp)), fun i u r hu hr => own_hi (h.own.rows.inner i u r hu hr) hb (hlt u (by simp [List.mem_of_getElem? hu])), h.own.rows.apart⟩, own_hi h.own.ones hb (hlt nv (by simp)), own_hi h.own.cols hb (hlt cv (by simp)), h.own.apart⟩, h.far, h.lo⟩
/-- All that is at hand lies in front of block N. -/
structure Fw (W : World) (N x y : Nat) (gv ov rv nv cv : Value) (vs : List Value) : Prop where
  lw : Lw W N x gv ov
  tb : ∀ u ∈ nv :: cv :: rv :: vs, ∀ b, u.ownBlock = some b → b < N
  ny : y < N
theorem Pv.fw (h : Pv W g cd n rb r2 x y t2 c gv ov rv nv cv vs G wr) : Fw W wr.heap.size x y gv ov rv nv cv vs := ⟨h.hv.lw, fun u hu b hb => (h.tb.own.bd u hu b hb).2, h.tb.blk.lt⟩
theorem Pv.hi {N : Nat} (h : Pv W g cd n rb r2 x y t2 c gv ov rv nv cv vs G wr) (h0 : CodeIn W cd g) (f : Fw W N x y gv ov rv nv cv vs) (hb : Below N wr w') : Pv W g cd n rb r2 x y t2 c gv ov rv nv cv vs G w' := ⟨h.hv.hi h0 f.lw hb, h.tb.hi hb f.tb f.ny⟩
def Seven (x y : Nat) (c : Cir) (gv ov rv nv cv : Value) (w : World) : Prop := w.cell? ⟨x, 0, none⟩ = some (.int .i64 c.i0) ∧ w.cell? ⟨x, 1, none⟩ = some (.int .i64 c.i1) ∧ w.cell? ⟨x, 2, none⟩ = some gv ∧ w.cell? ⟨x, 3, none⟩ = some ov ∧ w.cell? ⟨y, 0, none⟩ = some rv ∧ w.cell? ⟨y, 1, none⟩ = some nv ∧ w.cell? ⟨y, 2, none⟩ = some cv
theorem Pv.k0 (h : Pv W g cd n rb r2 x y t2 c gv ov rv nv cv vs G wr) : wr.cell? ⟨x, 0, none⟩ = some (.int .i64 c.i0) ∧ wr.cell? ⟨x, 1, none⟩ = some (.int .i64 c.i1) ∧ wr.cell? ⟨x, 2, none⟩ = some gv ∧ wr.cell? ⟨x, 3, none⟩ = some ov ∧ wr.cell? ⟨y, 0, none⟩ = some rv ∧ wr.cell? ⟨y, 1, none⟩ = some nv ∧ wr.cell? ⟨y, 2, none⟩ = some cv := h.hv.keep7 h.tb (Nat.le_refl _)
/-- Both results are stored. -/
theorem Pv.done {u : Value} {l : List Int} (h : Pv W g cd n rb r2 x y t2 c gv ov rv nv cv vs G wr) (hW : Below w.heap.size w W) (h1 : w.heap.size ≤ rb) (h2 : w.heap.size ≤ r2) (h3 : w.heap.size ≤ g) (hu : OwnI wr W.heap.size u l) :
    let w9 := ((((((wr.setCell ⟨rb, 0, none⟩ (.int .i64 c.i0)).setCell ⟨rb, 1, none⟩ (.int .i64 c.i1)).setCell ⟨rb, 2, none⟩ gv).setCell ⟨rb, 3, none⟩ ov).setCell ⟨r2, 0, none⟩ rv).setCell ⟨r2, 1, none⟩ nv).setCell ⟨r2, 2, none⟩ cv
    (CirIn w9 gv ov c ∧ GbIn w9 rv nv cv G ∧ Ints w9 u l ∧ Below w.heap.size w w9) ∧
    (w9.cell? ⟨rb, 0, none⟩ = some (.int .i64 c.i0) ∧ w9.cell? ⟨rb, 1, none⟩ = some (.int .i64 c.i1) ∧ w9.cell? ⟨rb, 2, none⟩ = some gv ∧ w9.cell? ⟨rb, 3, none⟩ = some ov) ∧
    (w9.cell? ⟨r2, 0, none⟩ = some rv ∧ w9.cell? ⟨r2, 1, none⟩ = some nv ∧ w9.cell? ⟨r2, 2, none⟩ = some cv) := by
  intro w9
  obtain ⟨⟨d1, d2, d3⟩, k1, k2⟩ := h.hv.done h.tb.own
  obtain ⟨l1, l2, l3, l4, l5, l6, l7⟩ := h.hv.lt
  have hn : ∀ b, u.ownBlock = some b → b ≠ rb := fun b hb => by have := own_ge hu b hb; omega
  have hn2 : ∀ b, u.ownBlock = some b → b ≠ r2 := fun b hb => by have := own_ge hu b hb; omega
  have hu9 : OwnI w9 W.heap.size u l := own_set (p := ⟨r2, 2, none⟩) (own_set (p := ⟨r2, 1, none⟩) (own_set (p := ⟨r2, 0, none⟩) (own_set (p := ⟨rb, 3, none⟩) (own_set (p := ⟨rb, 2, none⟩) (own_set (p := ⟨rb, 1, none⟩) (own_set (p := ⟨rb, 0, none⟩) hu hn _) hn _) hn _) hn _) hn2 _) hn2 _) hn2 _
  have hb : Below w.heap.size w wr := hW.grown h.hv.grown hW.size (fun k hk => by injection hk with hk; omega)
  exact ⟨⟨⟨OwnG.gates d1, d2.ints⟩, d3.gbIn, hu9.ints, ((((((hb.setCell (p := ⟨rb, 0, none⟩) h1 _).setCell (p := ⟨rb, 1, none⟩) h1 _).setCell (p := ⟨rb, 2, none⟩) h1 _).setCell (p := ⟨rb, 3, none⟩) h1 _).setCell (p := ⟨r2, 0, none⟩) h2 _).setCell (p := ⟨r2, 1, none⟩) h2 _).setCell (p := ⟨r2, 2, none⟩) h2 _⟩, k1, k2⟩
theorem Pv.c_pick {k : Int} (h : Pv W g cd n rb r2 x y t2 c gv ov rv nv cv vs G wr) (hn : n ≤ 1000000000) (hm : k ≤ 9223372036854775807) :
    Calls Tryz.prog 55 #[.pointer (some ⟨g, 0, none⟩), .int .i64 k] wr fun e w' => ∃ r : Int, e = .returned (.int .i64 r) ∧ 0 ≤ r ∧ (r < k ∨ k ≤ 0) ∧ Pv W g cd (n + 2) rb r2 x y t2 c gv ov rv nv cv vs G w' :=
  (Go.Proofs.YtejeppjmlgfiaaaGreat.c_pick h.hv.cur (by omega) hm).mono fun e w' ⟨v, e1, ⟨r, e2, h0, _, h1⟩, hc, hg⟩ => ⟨r, by rw [e1, e2], h0, h1, h.draw hg hc⟩
theorem Pv.c_label (h : Pv W g cd n rb r2 x y t2 c gv ov rv nv cv vs G wr) (hn : n ≤ 1000000000) :
    Calls Tryz.prog 116 #[.pointer (some ⟨g, 0, none⟩)] wr fun e w' => ∃ r : Int, e = .returned (.int .i64 r) ∧ Pv W g cd (n + 6) rb r2 x y t2 c gv ov rv nv cv vs G w' :=
  (Go.Proofs.YtejeppjmlgfiaaaGreat.c_label h.hv.cur (by omega)).mono fun e w' ⟨v, e1, ⟨r, e2, h0, _⟩, hc, hg⟩ => ⟨r, by rw [e1, e2], h.draw hg hc⟩
end
section
variable {w : World} {cd : Value} {l0 : List Int}
theorem pv_new (h : Byts w cd l0) : let W := ((w.alloc (.cells #[.int .i64 0, .int .i64 0, .slice none 0 0, .slice none 0 0] 26)).alloc (.cells #[.slice none 0 0, .slice none 0 0, .slice none 0 0] 50)).alloc (.cells #[cd, .int .i64 0, .int .u64 0] 71)
    Cur W (w.heap.size + 2) cd 0 ∧ Blk W w.heap.size 26 #[.int .i64 0, .int .i64 0, .slice none 0 0, .slice none 0 0] ∧ Blk W (w.heap.size + 1) 50 #[.slice none 0 0, .slice none 0 0, .slice none 0 0] ∧ Below w.heap.size w W ∧ W.heap.size = w.heap.size + 3 := by
  intro W
  have h1 := cur_new (h.below (((Below.refl w.heap.size w).alloc (Nat.le_refl _) (.cells #[.int .i64 0, .int .i64 0, .slice none 0 0, .slice none 0 0] 26)).alloc (by simp) (.cells #[.slice none 0 0, .slice none 0 0, .slice none 0 0] 50)))
  rw [show ((w.alloc (.cells #[.int .i64 0, .int .i64 0, .slice none 0 0, .slice none 0 0] 26)).alloc (.cells #[.slice none 0 0, .slice none 0 0, .slice none 0 0] 50)).heap.size = w.heap.size + 2 by simp] at h1
  have h2 := Blk.new (w.alloc (.cells #[.int .i64 0, .int .i64 0, .slice none 0 0, .slice none 0 0] 26)) 50 #[.slice none 0 0, .slice none 0 0, .slice none 0 0]
  rw [show (w.alloc (.cells #[.int .i64 0, .int .i64 0, .slice none 0 0, .slice none 0 0] 26)).heap.size = w.heap.size + 1 by simp] at h2
  exact ⟨h1, ((Blk.new _ _ _).alloc _).alloc _, h2.alloc _, (((Below.refl _ _).alloc (Nat.le_refl _) _).alloc (by simp) _).alloc (by simp; omega) _, by simp [W]⟩
set_option maxRecDepth 100000 in
theorem c_spec_DrawIsGarbled (h : Byts w cd l0) : Calls Tryz.prog 50 #[cd] w fun e w' => (∃ (c : Cir) (gv ov rv nv cv : Value) (G : Gb), e = .returned (.tuple #[cirV c gv ov, gbV rv nv cv]) ∧ AnC c ∧ G.sz ≤ 3000 ∧ CirIn w' gv ov c ∧ GbIn w' rv nv cv G) ∧ Below w.heap.size w w' := by
  obtain ⟨A0, c0, rfl⟩ := h.form
  obtain ⟨hC, hR, hR2, hB, hS⟩ := pv_new h
  obtain ⟨W, hW⟩ : ∃ W, ((w.alloc (.cells #[.int .i64 0, .int .i64 0, .slice none 0 0, .slice none 0 0] 26)).alloc (.cells #[.slice none 0 0, .slice none 0 0, .slice none 0 0] 50)).alloc (.cells #[.slice A0 l0.length c0, .int .i64 0, .int .u64 0] 71) = W := ⟨_, rfl⟩
  rw [hW] at hC hR hR2 hB hS
  have HW := Lib.hid (And.intro hR (And.intro hR2 (And.intro hB hS)))
  have HC := Lib.hid hC
  clear h hR hR2 hB hS hC
  go_enter Tryz.func50, Tryz.ntmps50
  go_wp2_with fail
  clear hW
  refine (c_garbled HC.out (by omega)).mono ?_
  rintro e w1 ⟨c, gv, ov, G, rv, nv, cv, vs, key, off, rfl, hs, hsz, hkb, hob, hog, hoo, hot, hc1, hg1⟩
  obtain ⟨Ag, cg, eg, -⟩ := own_form hog
  obtain ⟨Ao, co, eo, -⟩ := own_form hoo
  obtain ⟨Ar, cr, er, -⟩ := hot.gbIn.rows.form
  obtain ⟨An, cn, en, -⟩ := hot.gbIn.ones
  obtain ⟨Ac, cc, ec, -⟩ := hot.gbIn.cols
  subst eg eo er en ec
  have hP := Pv.start HC.out HW.out.1 HW.out.2.1 (by have := HW.out.2.2.2; omega) hog hoo hot hc1 hg1
  have HSS := Lib.hid (And.intro hs hsz)
  have HKO := Lib.hid (And.intro hkb hob)
  clear hkb hob
  obtain ⟨w2, hw2⟩ : ∃ V, (w1.alloc (.cells #[.int .i64 c.i0, .int .i64 c.i1, .slice Ag c.gs.length cg, .slice Ao c.outs.length co] 26)).alloc (.cells #[.slice Ar G.rows.length cr, .slice An G.ones.length cn, .slice Ac G.cols.length cc] 50) = V := ⟨_, rfl⟩
  rw [hw2] at hP
  have hP0 := hP.drew
  have HP := Lib.hid hP
  clear hog hoo hot hc1 hg1 hs hsz hP
  unfold cirV gbV
  go_upto_region 3 with fail
  generalize w1.heap.size = x at *
  clear hw2
  have HO9 := Lib.hid (And.intro (show w.heap.size ≤ w.heap.size + 1 by omega) (show w.heap.size ≤ w.heap.size + 2 by omega))
  have hd := HP.out.drew.done (u := .slice none 0 0) (l := []) HW.out.2.2.1 (Nat.le_refl _) HO9.out.1 HO9.out.2 (OwnI.nil _ _)
  have s0 := HP.out.drew.k0
  have s1 := HP.out.drew.hv.keep7a HP.out.drew.tb (Nat.le_refl _)
  have s2 := HP.out.drew.hv.keep7b HP.out.drew.tb (Nat.le_refl _)
  simp only [set_drew] at hd s1 s2
  have HK := Lib.hid hd
  obtain ⟨⟨a0, a1, a2, a3, a4, a5, a6, a7⟩, b0, b1, b2, b3, b4, b5⟩ := HP.out.drew.hv.resf
  obtain ⟨⟨e0, e1, e2, e3, e4, e5, e6, e7⟩, f0, f1, f2, f3, f4, f5⟩ := HP.out.hv.resf
  clear hd
  go_wp2_with fail
  go_region_held3 (fun w' => w'.cell? ⟨x, 0, none⟩ = some (.int .i64 c.i0) ∧ w'.cell? ⟨x, 1, none⟩ = some (.int .i64 c.i1) ∧ w'.cell? ⟨x, 2, none⟩ = some (.slice Ag c.gs.length cg) ∧ w'.cell? ⟨x, 3, none⟩ = some (.slice Ao c.outs.length co) ∧ w'.cell? ⟨x + 1, 0, none⟩ = some (.slice Ar G.rows.length cr) ∧ w'.cell? ⟨x + 1, 1, none⟩ = some (.slice An G.ones.length cn) ∧ w'.cell? ⟨x + 1, 2, none⟩ = some (.slice Ac G.cols.length cc))
    (first | with_reducible exact s0 | with_reducible exact s1 | with_reducible exact s2) (fail)
  go_wp2
  obtain ⟨hD, ⟨k0, k1, k2, k3⟩, j0, j1, j2⟩ := HK.out
  refine bodyPost_ret (v := .tuple #[cirV c (.slice Ag c.gs.length cg) (.slice Ao c.outs.length co), gbV (.slice Ar G.rows.length cr) (.slice An G.ones.length cn) (.slice Ac G.cols.length cc)]) (by simp [results, Tryz.results50, go_sem, k0, k1, k2, k3, j0, j1, j2, cirV, gbV]) rfl ?_
  exact ⟨⟨c, _, _, _, _, _, G, rfl, HSS.out.1, HSS.out.2, hD.1, hD.2.1⟩, hD.2.2.2⟩
set_option maxRecDepth 100000 in
theorem c_spec_DrawBendRow (h : Byts w cd l0) : Calls Tryz.prog 44 #[cd] w fun e w' => (∃ (c : Cir) (gv ov rv nv cv : Value) (G : Gb) (k row mask : Int), e = .returned (.tuple #[cirV c gv ov, gbV rv nv cv, .int .i64 k, .int .i64 row, .int .i64 mask]) ∧ AnC c ∧ G.sz ≤ 3000 ∧ CirIn w' gv ov c ∧ GbIn w' rv nv cv G) ∧ Below w.heap.size w w' := by
  obtain ⟨A0, c0, rfl⟩ := h.form
  obtain ⟨hC, hR, hR2, hB, hS⟩ := pv_new h
  obtain ⟨W, hW⟩ : ∃ W, ((w.alloc (.cells #[.int .i64 0, .int .i64 0, .slice none 0 0, .slice none 0 0] 26)).alloc (.cells #[.slice none 0 0, .slice none 0 0, .slice none 0 0] 50)).alloc (.cells #[.slice A0 l0.length c0, .int .i64 0, .int .u64 0] 71) = W := ⟨_, rfl⟩
  rw [hW] at hC hR hR2 hB hS
  have HW := Lib.hid (And.intro hR (And.intro hR2 (And.intro hB hS)))
  have HC := Lib.hid hC
  clear h hR hR2 hB hS hC
  go_enter Tryz.func44, Tryz.ntmps44
  go_wp2_with fail
  clear hW
  refine (c_garbled HC.out (by omega)).mono ?_
  rintro e w1 ⟨c, gv, ov, G, rv, nv, cv, vs, key, off, rfl, hs, hsz, hkb, hob, hog, hoo, hot, hc1, hg1⟩
  obtain ⟨Ag, cg, eg, -⟩ := own_form hog
  obtain ⟨Ao, co, eo, -⟩ := own_form hoo
  obtain ⟨Ar, cr, er, -⟩ := hot.gbIn.rows.form
  obtain ⟨An, cn, en, -⟩ := hot.gbIn.ones
  obtain ⟨Ac, cc, ec, -⟩ := hot.gbIn.cols
  subst eg eo er en ec
  have hP := Pv.start HC.out HW.out.1 HW.out.2.1 (by have := HW.out.2.2.2; omega) hog hoo hot hc1 hg1
  have HSS := Lib.hid (And.intro hs hsz)
  have HKO := Lib.hid (And.intro hkb hob)
  clear hkb hob
  obtain ⟨w2, hw2⟩ : ∃ V, (w1.alloc (.cells #[.int .i64 c.i0, .int .i64 c.i1, .slice Ag c.gs.length cg, .slice Ao c.outs.length co] 26)).alloc (.cells #[.slice Ar G.rows.length cr, .slice An G.ones.length cn, .slice Ac G.cols.length cc] 50) = V := ⟨_, rfl⟩
  rw [hw2] at hP
  have hP0 := hP.drew
  have HP := Lib.hid hP
  clear hog hoo hot hc1 hg1 hs hsz hP
  unfold cirV gbV
  go_upto_region 3 with fail
  generalize w1.heap.size = x at *
  clear hw2
  have hrl : G.rows.length ≤ 3000 := by have := HSS.out.2; unfold Gb.sz at this; omega
  have hk1 : (G.rows.length : Int) + 1 ≤ 9223372036854775807 := by omega
  have PK := Lib.hid (fun (V : World) (m : Nat) (k : Int) (hm : m ≤ 1000) (hk : k ≤ 9223372036854775807) (h : Pv W (w.heap.size + 2) (.slice A0 l0.length c0) m w.heap.size (w.heap.size + 1) x (x + 1) 50 c (.slice Ag c.gs.length cg) (.slice Ao c.outs.length co) (.slice Ar G.rows.length cr) (.slice An G.ones.length cn) (.slice Ac G.cols.length cc) vs G V) => h.c_pick (Nat.le_trans hm (by omega)) hk)
  have HO9 := Lib.hid (And.intro (show w.heap.size ≤ w.heap.size + 1 by omega) (show w.heap.size ≤ w.heap.size + 2 by omega))
  go_wp2_with fail
  have hw1 : IntKind.i64.wrap ((G.rows.length : Int) + 1) = (G.rows.length : Int) + 1 := IntWalk.i64_in _ (by omega)
  go_region_held3 (fun w' => w'.cell? ⟨x, 0, none⟩ = some (.int .i64 c.i0) ∧ w'.cell? ⟨x, 1, none⟩ = some (.int .i64 c.i1) ∧ w'.cell? ⟨x, 2, none⟩ = some (.slice Ag c.gs.length cg) ∧ w'.cell? ⟨x, 3, none⟩ = some (.slice Ao c.outs.length co) ∧ w'.cell? ⟨x + 1, 0, none⟩ = some (.slice Ar G.rows.length cr) ∧ w'.cell? ⟨x + 1, 1, none⟩ = some (.slice An G.ones.length cn) ∧ w'.cell? ⟨x + 1, 2, none⟩ = some (.slice Ac G.cols.length cc))
    (first | with_reducible exact s0 | with_reducible exact s1 | with_reducible exact s2 | with_reducible exact hPc.k0 | with_reducible exact hPb.k0 | with_reducible exact hPa.k0 | with_reducible exact hP0.k0)
    (first
      | (go_at_call_of 55 (Value.int IntKind.i64 24); (with_reducible refine (PK.out _ _ _ (by decide) (by decide) hPa).mono ?_); rintro e wb ⟨r2, rfl, h20, -, hPb⟩)
      | (go_at_call_of 55 (Value.int IntKind.i64 5); (with_reducible refine (PK.out _ _ _ (by decide) (by decide) hPb).mono ?_); rintro e wc ⟨r3, rfl, h30, -, hPc⟩)
      | (go_at_call 55; (with_reducible refine (PK.out _ _ _ (by decide) hk1 hP0).mono ?_); rintro e wa ⟨r1, rfl, h10, -, hPa⟩)
      | (go_at_call 116; (with_reducible refine (Pv.c_label hPc (by decide)).mono ?_); rintro e wl ⟨mk, rfl, hP2⟩; obtain ⟨⟨a0, a1, a2, a3, a4, a5, a6, a7⟩, b0, b1, b2, b3, b4, b5⟩ := hP2.hv.resf; have s0 := hP2.k0; have s1 := hP2.hv.keep7a hP2.tb (Nat.le_refl _); have s2 := hP2.hv.keep7b hP2.tb (Nat.le_refl _)))
  all_goals
    clear hw1
    go_wp2
    obtain ⟨hD, ⟨k0, k1, k2, k3⟩, j0, j1, j2⟩ := hP2.done (u := .slice none 0 0) (l := []) HW.out.2.2.1 (Nat.le_refl _) HO9.out.1 HO9.out.2 (OwnI.nil _ _)
    refine bodyPost_ret (v := .tuple #[cirV c (.slice Ag c.gs.length cg) (.slice Ao c.outs.length co), gbV (.slice Ar G.rows.length cr) (.slice An G.ones.length cn) (.slice Ac G.cols.length cc), .int .i64 (IntKind.i64.wrap (r1 - IntKind.i64.wrap (r2.tdiv 23))), .int .i64 r3, .int .i64 mk]) (by simp [results, Tryz.results44, go_sem, k0, k1, k2, k3, j0, j1, j2, cirV, gbV]) rfl ?_
    exact ⟨⟨c, _, _, _, _, _, G, _, _, _, rfl, HSS.out.1, HSS.out.2, hD.1, hD.2.1⟩, hD.2.2.2⟩
set_option maxRecDepth 100000 in
theorem c_spec_DrawDecodeOuts (h : Byts w cd l0) : Calls Tryz.prog 46 #[cd] w fun e w' => (∃ (c : Cir) (gv ov rv nv cv u : Value) (G : Gb) (l : List Int), e = .returned (.tuple #[cirV c gv ov, gbV rv nv cv, u]) ∧ AnC c ∧ G.sz ≤ 3000 ∧ l.length ≤ 101 ∧ CirIn w' gv ov c ∧ GbIn w' rv nv cv G ∧ Ints w' u l) ∧ Below w.heap.size w w' := by
  obtain ⟨A0, c0, rfl⟩ := h.form
  obtain ⟨hC, hR, hR2, hB, hS⟩ := pv_new h
  obtain ⟨W, hW⟩ : ∃ W, ((w.alloc (.cells #[.int .i64 0, .int .i64 0, .slice none 0 0, .slice none 0 0] 26)).alloc (.cells #[.slice none 0 0, .slice none 0 0, .slice none 0 0] 50)).alloc (.cells #[.slice A0 l0.length c0, .int .i64 0, .int .u64 0] 71) = W := ⟨_, rfl⟩
  rw [hW] at hC hR hR2 hB hS
  have HW := Lib.hid (And.intro hR (And.intro hR2 (And.intro hB hS)))
  have HC := Lib.hid hC
  clear h hR hR2 hB hS hC
  go_enter Tryz.func46, Tryz.ntmps46
  go_wp2_with fail
  clear hW
  refine (c_garbled HC.out (by omega)).mono ?_
  rintro e w1 ⟨c, gv, ov, G, rv, nv, cv, vs, key, off, rfl, hs, hsz, hkb, hob, hog, hoo, hot, hc1, hg1⟩
  obtain ⟨Ag, cg, eg, -⟩ := own_form hog
  obtain ⟨Ao, co, eo, -⟩ := own_form hoo
  obtain ⟨Ar, cr, er, -⟩ := hot.gbIn.rows.form
  obtain ⟨An, cn, en, -⟩ := hot.gbIn.ones
  obtain ⟨Ac, cc, ec, -⟩ := hot.gbIn.cols
  subst eg eo er en ec
  have hP := Pv.start HC.out HW.out.1 HW.out.2.1 (by have := HW.out.2.2.2; omega) hog hoo hot hc1 hg1
  have HSS := Lib.hid (And.intro hs hsz)
  have HKO := Lib.hid (And.intro hkb hob)
  clear hkb hob
  obtain ⟨w2, hw2⟩ : ∃ V, (w1.alloc (.cells #[.int .i64 c.i0, .int .i64 c.i1, .slice Ag c.gs.length cg, .slice Ao c.outs.length co] 26)).alloc (.cells #[.slice Ar G.rows.length cr, .slice An G.ones.length cn, .slice Ac G.cols.length cc] 50) = V := ⟨_, rfl⟩
  rw [hw2] at hP
  have hP0 := hP.drew
  have HP := Lib.hid hP
  clear hog hoo hot hc1 hg1 hs hsz hP
  unfold cirV gbV
  go_upto_region 3 with fail
  generalize w1.heap.size = x at *
  clear hw2
  have HN9 := Lib.hid (And.intro (show w.heap.size ≤ w.heap.size + 1 by omega) (show w.heap.size ≤ w.heap.size + 2 by omega))
  have ho41 : c.outs.length ≤ 41 := HSS.out.1.2.2
  have HFW := Lib.hid HP.out.fw
  have HCW := Lib.hid (HC.out.1)
  have x3 := HP.out.hv.box.cell 3
  have hwN : W.heap.size ≤ w2.heap.size := HFW.out.lw.lo
  have hgN : w.heap.size + 2 < w2.heap.size := by have := HP.out.hv.lt; omega
  clear hP0
  go_wp2
  clear x3
  go_loopw [10, 24] (fun u i wr => ∃ (k : Nat) (l : List Int), k ≤ c.outs.length ∧ i = .int .i64 (k : Int) ∧ l.length = k ∧ Hid (OwnI wr w2.heap.size u l) ∧ Hid (Pv W (w.heap.size + 2) (.slice A0 l0.length c0) (0 + 300 + 6 * k) w.heap.size (w.heap.size + 1) x (x + 1) 50 c (.slice Ag c.gs.length cg) (.slice Ao c.outs.length co) (.slice Ar G.rows.length cr) (.slice An G.ones.length cn) (.slice Ac G.cols.length cc) vs G wr) ∧ w2.heap.size ≤ wr.heap.size) (fun _ i _ => c.outs.length - (intOf i).toNat)
  case atStart => exact ⟨0, [], Nat.zero_le _, by simp, rfl, OwnI.nil _ _, HP, Nat.le_refl _⟩
  case round =>
    obtain ⟨k, l, hk, rfl, hl, HO, HPk, hzk⟩ := hrel
    by_cases hlt : k < c.outs.length
    · have hlm : l.length ≤ 41 := by omega
      have HL := Lib.hid hl
      clear hl
      go_wp2_with fail
      refine (c_label HPk.out.hv.cur (by omega)).mono ?_
      rintro e w5 ⟨v, rfl, ⟨r, rfl, -, -⟩, hc5, hg5⟩
      have HP5 := Lib.hid (HPk.out.draw hg5 hc5)
      have HO5 := Lib.hid (HO.out.grown hg5 (fun b hb e => by have h7 := HO.out.ge b hb; injection e with e; omega))
      have hz5 : w2.heap.size ≤ w5.heap.size := Nat.le_trans hzk hg5.size
      clear hc5 hg5 HO HPk
      go_wp2_with (at_builtin; refine wp_app1 (B := w2.heap.size) rfl rfl Tryz.underlying24 info_int rfl HO5.out rfl rfl rfl (by unfold maxLen; omega) (by omega) hz5 ?_; intro v' w9 ho hg hfr)
      have HP9 := Lib.hid (HP5.out.hi HCW.out HFW.out ((Below.refl _ _).grown hg hz5 (fun b hb => HO5.out.ge b hb)))
      have hz9 := Nat.le_trans hz5 hg.size
      go_roundw
      case rel => exact ⟨k + 1, _, by omega, by go_num, by have := HL.out; simp; omega, Lib.hid (OwnI.snoc ho), Lib.hid ⟨HP9.out.hv.more (by omega), HP9.out.tb⟩, hz9⟩
      case measure => simp [intOf]; omega
    · have hlm : l.length ≤ 41 := by omega
      clear hl
      go_wp2_with fail
      refine (c_one HPk.out.hv.cur (by omega) (by omega)).mono ?_
      rintro e w5 ⟨v, rfl, ⟨bb, rfl⟩, hc5, hg5⟩
      have HP5 := Lib.hid (HPk.out.draw hg5 hc5)
      have HO5 := Lib.hid (HO.out.grown hg5 (fun b hb e => by have h7 := HO.out.ge b hb; injection e with e; omega))
      have hz5 : w2.heap.size ≤ w5.heap.size := Nat.le_trans hzk hg5.size
      clear hc5 hg5 HO HPk
      cases bb
      · have HO9 := HO5
        have HP9 := HP5
        have HL9 := Lib.hid (show l.length ≤ 101 by omega)
        obtain ⟨Al, ql, el, -⟩ := own_form HO9.out
        subst el
        have hp9 := HP9.out.drew
        have hd := hp9.done (u := .slice Al _ ql) HW.out.2.2.1 (Nat.le_refl _) HN9.out.1 HN9.out.2 (OwnI.mono (own_drew HO9.out) HFW.out.lw.lo)
        have s0 := hp9.k0
        have s1 := hp9.hv.keep7a hp9.tb (Nat.le_refl _)
        have s2 := hp9.hv.keep7b hp9.tb (Nat.le_refl _)
        simp only [set_drew] at hd s1 s2
        have HK := Lib.hid hd
        obtain ⟨⟨a0, a1, a2, a3, a4, a5, a6, a7⟩, b0, b1, b2, b3, b4, b5⟩ := hp9.hv.resf
        obtain ⟨⟨e0, e1, e2, e3, e4, e5, e6, e7⟩, f0, f1, f2, f3, f4, f5⟩ := HP9.out.hv.resf
        clear hd hp9
        go_wp2_with fail
        go_region_held3 (fun w' => w'.cell? ⟨x, 0, none⟩ = some (.int .i64 c.i0) ∧ w'.cell? ⟨x, 1, none⟩ = some (.int .i64 c.i1) ∧ w'.cell? ⟨x, 2, none⟩ = some (.slice Ag c.gs.length cg) ∧ w'.cell? ⟨x, 3, none⟩ = some (.slice Ao c.outs.length co) ∧ w'.cell? ⟨x + 1, 0, none⟩ = some (.slice Ar G.rows.length cr) ∧ w'.cell? ⟨x + 1, 1, none⟩ = some (.slice An G.ones.length cn) ∧ w'.cell? ⟨x + 1, 2, none⟩ = some (.slice Ac G.cols.length cc))
          (first | with_reducible exact s0 | with_reducible exact s1 | with_reducible exact s2) (fail)
        go_wp2
        obtain ⟨hD, ⟨k0, k1, k2, k3⟩, j0, j1, j2⟩ := HK.out
        refine bodyPost_ret (v := .tuple #[cirV c (.slice Ag c.gs.length cg) (.slice Ao c.outs.length co), gbV (.slice Ar G.rows.length cr) (.slice An G.ones.length cn) (.slice Ac G.cols.length cc), .slice Al l.length ql]) (by simp [results, Tryz.results46, go_sem, k0, k1, k2, k3, j0, j1, j2, cirV, gbV]) rfl ?_
        exact ⟨⟨c, _, _, _, _, _, _, G, _, rfl, HSS.out.1, HSS.out.2, HL9.out, hD.1, hD.2.1, by simpa using hD.2.2.1⟩, hD.2.2.2⟩
      · go_wp2_with (at_builtin; refine wp_app1 (B := w2.heap.size) rfl rfl Tryz.underlying24 info_int rfl HO5.out rfl rfl rfl (by unfold maxLen; omega) (by omega) hz5 ?_; intro v' w9 ho hg hfr; have HP9 := Lib.hid (HP5.out.hi HCW.out HFW.out ((Below.refl _ _).grown hg hz5 (fun b hb => HO5.out.ge b hb))); have HO9 := Lib.hid (OwnI.snoc ho))
        have HL9 := Lib.hid (show (l ++ [0]).length ≤ 101 by simp; omega)
        obtain ⟨Al, ql, el, -⟩ := own_form HO9.out
        subst el
        have hp9 := HP9.out.drew
        have hd := hp9.done (u := .slice Al _ ql) HW.out.2.2.1 (Nat.le_refl _) HN9.out.1 HN9.out.2 (OwnI.mono (own_drew HO9.out) HFW.out.lw.lo)
        have s0 := hp9.k0
        have s1 := hp9.hv.keep7a hp9.tb (Nat.le_refl _)
        have s2 := hp9.hv.keep7b hp9.tb (Nat.le_refl _)
        simp only [set_drew] at hd s1 s2
        have HK := Lib.hid hd
        obtain ⟨⟨a0, a1, a2, a3, a4, a5, a6, a7⟩, b0, b1, b2, b3, b4, b5⟩ := hp9.hv.resf
        obtain ⟨⟨e0, e1, e2, e3, e4, e5, e6, e7⟩, f0, f1, f2, f3, f4, f5⟩ := HP9.out.hv.resf
        clear hd hp9
        go_wp2_with fail
        go_region_held3 (fun w' => w'.cell? ⟨x, 0, none⟩ = some (.int .i64 c.i0) ∧ w'.cell? ⟨x, 1, none⟩ = some (.int .i64 c.i1) ∧ w'.cell? ⟨x, 2, none⟩ = some (.slice Ag c.gs.length cg) ∧ w'.cell? ⟨x, 3, none⟩ = some (.slice Ao c.outs.length co) ∧ w'.cell? ⟨x + 1, 0, none⟩ = some (.slice Ar G.rows.length cr) ∧ w'.cell? ⟨x + 1, 1, none⟩ = some (.slice An G.ones.length cn) ∧ w'.cell? ⟨x + 1, 2, none⟩ = some (.slice Ac G.cols.length cc))
          (first | with_reducible exact s0 | with_reducible exact s1 | with_reducible exact s2) (fail)
        go_wp2
        obtain ⟨hD, ⟨k0, k1, k2, k3⟩, j0, j1, j2⟩ := HK.out
        refine bodyPost_ret (v := .tuple #[cirV c (.slice Ag c.gs.length cg) (.slice Ao c.outs.length co), gbV (.slice Ar G.rows.length cr) (.slice An G.ones.length cn) (.slice Ac G.cols.length cc), .slice Al (l.length + 1) ql]) (by simp [results, Tryz.results46, go_sem, k0, k1, k2, k3, j0, j1, j2, cirV, gbV]) rfl ?_
        exact ⟨⟨c, _, _, _, _, _, _, G, _, rfl, HSS.out.1, HSS.out.2, HL9.out, hD.1, hD.2.1, by simpa using hD.2.2.1⟩, hD.2.2.2⟩
end
end Go.Proofs.YtejeppjmlgfiaaaGreat
