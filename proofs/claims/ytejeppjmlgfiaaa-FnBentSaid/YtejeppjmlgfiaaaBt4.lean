/- The contract of the draw of a halved circuit: some circuit and some tables in new memory come back. Condition: the cursor's bound. -/
import Derived.Test.YtejeppjmlgfiaaaBt1
import Derived.Test.YtejeppjmlgfiaaaBt6
import Derived.Test.YtejeppjmlgfiaaaEv
import Derived.Test.YtejeppjmlgfiaaaLabG
namespace Go.Proofs.Ytejeppjmlgfiaaa
open Go.RowKit
set_option linter.unusedVariables false
set_option maxHeartbeats 4000000
section
variable {w : World} {g n : Nat} {cd : Value}
theorem c_lbO {k : Int} {w : World} (hk : -1000000000000 ≤ k ∧ k ≤ 1000000000000) : Calls Try.prog 99 #[.int .i64 k] w fun e w' => ∃ o : Int, e = .returned (.int .i64 o) ∧ (0 ≤ o ∧ o ≤ 65535) ∧ Below w.heap.size w w' :=
  (c_spec_lbFrom hk).mono fun e w' ⟨h1, h2⟩ => ⟨_, h1, by have := offM_bd k; omega, h2⟩
set_option maxRecDepth 100000 in
theorem c_halved (h : Cur w g cd n) (hn : n ≤ 1000000) : Calls Try.prog 46 #[.pointer (some ⟨g, 0, none⟩)] w (DrewH w g cd (n + 300)) := by
  have hgl := h.lt
  have HCD := Lib.hid h.1
  obtain ⟨W, hW⟩ : ∃ W, (w.alloc (.cells #[.int .i64 0, .int .i64 0, .slice none 0 0, .slice none 0 0] 26)).alloc (.cells #[.slice none 0 0, .slice none 0 0, .slice none 0 0] 29) = W := ⟨_, rfl⟩
  have hB0 : Below w.heap.size w W := by rw [← hW]; exact ((Below.refl _ _).alloc (Nat.le_refl _) _).alloc (by simp) _
  have hs0 : W.heap.size = w.heap.size + 2 := by rw [← hW]; simp
  have hr1 : Blk W w.heap.size 26 #[.int .i64 0, .int .i64 0, .slice none 0 0, .slice none 0 0] := by rw [← hW]; exact (Blk.new _ _ _).alloc _
  have hr2 : Blk W (w.heap.size + 1) 29 #[.slice none 0 0, .slice none 0 0, .slice none 0 0] := by
    rw [← hW]
    have := Blk.new (w.alloc (.cells #[.int .i64 0, .int .i64 0, .slice none 0 0, .slice none 0 0] 26)) 29 #[.slice none 0 0, .slice none 0 0, .slice none 0 0]
    simpa using this
  have HC := Lib.hid (h.below hB0)
  have HW := Lib.hid (And.intro hB0 (And.intro hs0 (And.intro hr1 hr2)))
  clear h hB0 hs0 hr1 hr2
  go_enter Try.func46, Try.ntmps46
  go_wp2_with fail
  clear hW
  refine (c_anyCircuit HC.out (by omega)).mono ?_
  rintro e w1 ⟨c, gv, ov, rfl, hs, hog, hoo, -, hc1, hg1⟩
  obtain ⟨Ag, cg, eg, -⟩ := own_form hog
  obtain ⟨Ao, co, eo, -⟩ := own_form hoo
  subst eg eo
  have hP := Hv.start HC.out HW.out.2.2.1 HW.out.2.2.2 (by have := HW.out.2.1; omega) hog hoo hc1 hg1
  have HP := Lib.hid hP
  have HS := Lib.hid hs
  obtain ⟨x0, x1, x2, x3⟩ := hP.four
  have HGD := Lib.hid (c_spec_ciGood hP.cir)
  clear hog hoo hc1 hg1 hP hs
  unfold cirV
  go_wp2_with fail
  refine (HGD.out).mono ?_
  rintro e w2 ⟨rfl, hb2⟩
  have HP2 := Lib.hid (HP.out.below hb2)
  generalize w1.heap.size = x at *
  clear hb2 HP HGD x0 x1 x2 x3
  rcases hcb : cirB c with _ | _
  · obtain ⟨x0, x1, x2, x3⟩ := HP2.out.four
    obtain ⟨⟨a0, a1, a2, a3, a4, a5, a6, a7⟩, b0, b1, b2, b3, b4, b5⟩ := HP2.out.resf
    obtain ⟨-, ⟨k0, k1, k2, k3⟩, j0, j1, j2⟩ := HP2.out.done (OwnGb.empty w2 W.heap.size)
    have HD := Lib.hid (HP2.out.ret (OwnGb.empty w2 W.heap.size) HW.out.1 HW.out.2.1 HCD.out hgl)
    have HK := Lib.hid (And.intro k0 (And.intro k1 (And.intro k2 (And.intro k3 (And.intro j0 (And.intro j1 j2))))))
    clear k0 k1 k2 k3 j0 j1 j2
    go_wp2
    obtain ⟨k0, k1, k2, k3, j0, j1, j2⟩ := HK.out
    refine bodyPost_ret (v := .tuple #[cirV c (.slice Ag c.gs.length cg) (.slice Ao c.outs.length co), gbV (.slice none 0 0) (.slice none 0 0) (.slice none 0 0)]) (by simp [results, Try.results46, go_sem, k0, k1, k2, k3, j0, j1, j2, cirV, gbV]) rfl ?_
    exact ⟨c, _, _, Gb.none, _, _, _, [], rfl, HS.out, by decide, HD.out.1, HD.out.2.1, HD.out.2.2.1, HD.out.2.2.2.1.mono (by omega), HD.out.2.2.2.2⟩
  · have HSZ := Lib.hid (fun (key off : Int) (ho : 0 ≤ off ∧ off ≤ 65535) => tab_sz (n := 2) hcb (hg_tab_ok (key := key) hcb ho) (by omega))
    have hgm := (fun (V : World) (hc : CirIn V (.slice Ag c.gs.length cg) (.slice Ao c.outs.length co) c) (key off : Int) (hk : 0 ≤ key ∧ key ≤ 1000000000) (ho : 0 ≤ off ∧ off ≤ 65535) => c_spec_hgMake (w := V) hc hcb hk ho)
    unfold cirV at hgm
    have HGM := Lib.hid hgm
    have HLW := Lib.hid HP2.out.lw
    have HCW := Lib.hid (HCD.out.grown (only_below HW.out.1 (some g)))
    have hP0 := HP2.out.drew
    have hWs := HW.out.2.1
    clear hgm hcb
    go_upto_region 4 with fail
    go_cut [6] (fun s6 wx => ∃ y, s6 = .pointer (some ⟨y, 0, none⟩) ∧ w2.heap.size ≤ y ∧ Hid (MkH W g cd (n + 260) w.heap.size (w.heap.size + 1) x y w2.heap.size 29 c (.slice Ag c.gs.length cg) (.slice Ao c.outs.length co) 2000 wx))
    case first =>
      go_region_held3 (fun w' => w'.cell? ⟨x, 0, none⟩ = some (.int .i64 c.i0) ∧ w'.cell? ⟨x, 1, none⟩ = some (.int .i64 c.i1) ∧ w'.cell? ⟨x, 2, none⟩ = some (.slice Ag c.gs.length cg) ∧ w'.cell? ⟨x, 3, none⟩ = some (.slice Ao c.outs.length co))
        (first
          | with_reducible exact hPT.four | with_reducible exact (hPT.alloc _).four | with_reducible exact hPT.far3 hF _ _ _ | with_reducible exact (hPT.alloc _).far3 hPT.fresh _ _ _
          | with_reducible exact hPL.four | with_reducible exact (hPL.alloc _).four | with_reducible exact hP3.four | with_reducible exact (hP3.alloc _).four
          | with_reducible exact hP1.four | with_reducible exact (hP1.alloc _).four | with_reducible exact hP0.four | with_reducible exact ((HP2.out.alloc _).drew).four)
        (first
          | (go_at_call 64; (first
              | ((with_reducible refine (Hv.c_pick hP1 (by omega) (by omega)).mono ?_); rintro e wb ⟨r2, rfl, hr20, hr21, hP3, hgwb⟩; (first | (have hY := hF.blk hY hgwb) | skip))
              | ((with_reducible refine (Hv.c_pick (hP1.alloc _) (by omega) (by omega)).mono ?_); rintro e wb ⟨r2, rfl, hr20, hr21, hP3, hgwb⟩; have hF := hP1.fresh; have hY := hF.blk (Blk.new wa 29 #[.slice none 0 0, .slice none 0 0, .slice none 0 0]) hgwb)
              | ((with_reducible refine (Hv.c_pick hP0 (by omega) (by omega)).mono ?_); rintro e wa ⟨r1, rfl, hr10, hr11, hP1, hgwa⟩)
              | ((with_reducible refine (Hv.c_pick ((HP2.out.alloc _).drew) (by omega) (by omega)).mono ?_); rintro e wa ⟨r1, rfl, hr10, hr11, hP1, hgwa⟩; have hF := HP2.out.fresh; have hY := hF.blk (Blk.new w2 29 #[.slice none 0 0, .slice none 0 0, .slice none 0 0]).drew hgwa)))
          | (go_at_call 99; (with_reducible refine (c_lbO (by omega)).mono ?_); rintro e wl ⟨o, rfl, hob, hbl⟩; (first
              | (have hPL := hP3.below hbl; (first | (have hY := hY.step hbl) | skip))
              | (have hPL := (hP3.alloc _).below hbl; have hF := hP3.fresh; have hY := (Blk.new wb 29 #[.slice none 0 0, .slice none 0 0, .slice none 0 0]).step hbl)))
          | (go_at_call 101; (first | (with_reducible refine (HGM.out _ (Hv.cir hPL) _ _ ⟨hr10, by omega⟩ hob).mono ?_) | (with_reducible refine (HGM.out _ (Hv.cir (hPL.alloc _)) _ _ ⟨hr10, by omega⟩ hob).mono ?_)); rintro e wt ⟨u, rv, nv, cv, vs, rfl, hu, hz, hbt⟩; (first
              | (have hPT := hPL.below hbt; (first | (have hfar := far_of hz hY.lt; have hY := hY.step hbt) | skip))
              | (have hPT := (hPL.alloc _).below hbt; have hF := hPL.fresh; have hY0 := (Blk.new wl 29 #[.slice none 0 0, .slice none 0 0, .slice none 0 0]); have hfar := far_of hz hY0.lt; have hY := hY0.step hbt)); obtain ⟨Ar, cr, er, -⟩ := hz.rows.rowsIn.form; obtain ⟨An, cn, en, -⟩ := hz.ones.ints; obtain ⟨Ac, cc, ec, -⟩ := hz.cols.ints; obtain ⟨Au, cu, eu, -⟩ := own_form hu; subst er en ec eu; (first | (have y0 := hY.cell 0; have y1 := hY.cell 1; have y2 := hY.cell 2; have yf0 := hY.free 0; have yf1 := hY.free 1; have yf2 := hY.free 2) | (have z0 : (wt.alloc (.cells #[.slice none 0 0, .slice none 0 0, .slice none 0 0] 29)).cell? ⟨wt.heap.size, 0, none⟩ = some (.slice none 0 0) := (Blk.new wt 29 #[.slice none 0 0, .slice none 0 0, .slice none 0 0]).cell 0; have zf0 : (wt.alloc (.cells #[.slice none 0 0, .slice none 0 0, .slice none 0 0] 29)).frozen? ⟨wt.heap.size, 0, none⟩ = false := (Blk.new wt 29 #[.slice none 0 0, .slice none 0 0, .slice none 0 0]).free 0; have z1 : (wt.alloc (.cells #[.slice none 0 0, .slice none 0 0, .slice none 0 0] 29)).cell? ⟨wt.heap.size, 1, none⟩ = some (.slice none 0 0) := (Blk.new wt 29 #[.slice none 0 0, .slice none 0 0, .slice none 0 0]).cell 1; have zf1 : (wt.alloc (.cells #[.slice none 0 0, .slice none 0 0, .slice none 0 0] 29)).frozen? ⟨wt.heap.size, 1, none⟩ = false := (Blk.new wt 29 #[.slice none 0 0, .slice none 0 0, .slice none 0 0]).free 1; have z2 : (wt.alloc (.cells #[.slice none 0 0, .slice none 0 0, .slice none 0 0] 29)).cell? ⟨wt.heap.size, 2, none⟩ = some (.slice none 0 0) := (Blk.new wt 29 #[.slice none 0 0, .slice none 0 0, .slice none 0 0]).cell 2; have zf2 : (wt.alloc (.cells #[.slice none 0 0, .slice none 0 0, .slice none 0 0] 29)).frozen? ⟨wt.heap.size, 2, none⟩ = false := (Blk.new wt 29 #[.slice none 0 0, .slice none 0 0, .slice none 0 0]).free 2)); have HSG := Lib.hid (HSZ.out r1 o hob); unfold gbV))
      all_goals
        go_wp2_with fail
        go_meet
        have z1 := hgwa.size
        have z2 := hgwb.size
        have z3 := hbl.size
        have z4 := hbt.size
        try simp only [World.size_alloc] at z1 z2 z3 z4
        have hsz9 := HSG.out
        have z0 : w2.drew.heap.size = w2.heap.size := rfl
        have z9 : (w2.alloc (.cells #[.slice none 0 0, .slice none 0 0, .slice none 0 0] 29)).drew.heap.size = w2.heap.size + 1 := by show (w2.alloc _).heap.size = _; simp
        have hzN := fun (N : Nat) (hN : N ≤ _) => hz.mono (B' := N) hN
        first
          | exact ⟨_, rfl, by omega, Lib.hid ⟨_, _, _, _, _, hsz9, Tb.new (by omega) (hzN _ (by first | omega | (simp only [World.size_alloc]; omega))), (hPT.alloc _).more (by omega)⟩⟩
          | exact ⟨_, rfl, by omega, Lib.hid ⟨_, _, _, _, vs, hsz9, Tb.fill hY (hzN _ (by first | omega | (simp only [World.size_alloc]; omega))) hfar (by omega), (hPT.put3 HCW.out hF _ _ _).more (by omega)⟩⟩
    case rest =>
      clear HP2 HGM HSZ hP0
      obtain ⟨y, rfl, hNy, HM⟩ := hcut
      obtain ⟨wm, hwm⟩ : ∃ W, wc = W := ⟨_, rfl⟩
      rw [hwm] at HM ⊢
      clear hwm
      generalize w2.heap.size = N at *
      obtain ⟨G, rv, nv, cv, vs, hsz, ht, hv⟩ := HM.out
      have HT0 := Lib.hid ht
      have HV0 := Lib.hid hv
      clear HM ht hv
      go_wp2_with fail
      refine (Hv.c_pick HV0.out (by omega) (by omega)).mono ?_
      rintro e w3 ⟨q, rfl, hq0, hq1, hv3, hg3⟩
      have hgN : g < N := by have h8 := HLW.out.lo; have h9 := HV0.out.lt; omega
      have HT := Lib.hid (HT0.out.draw hgN hg3)
      have HV := Lib.hid hv3
      have hszr : G.rows.length ≤ 2000 ∧ G.ones.length ≤ 2000 ∧ G.cols.length ≤ 2000 := by unfold Gb.sz at hsz; omega
      obtain ⟨Ar, cr, er, -⟩ := HT.out.gb.rows.form
      obtain ⟨An, cn, en, -⟩ := HT.out.gb.ones
      obtain ⟨Ac, cc, ec, -⟩ := HT.out.gb.cols
      subst er en ec
      have hN3 : N ≤ w3.heap.size := HT.out.size
      clear HT0 HV0 hg3 hv3
      go_upto_block 0 with fail
      go_cut [] (fun wx => Hid (MkH W g cd (n + 290) w.heap.size (w.heap.size + 1) x y N 29 c (.slice Ag c.gs.length cg) (.slice Ao c.outs.length co) 3000 wx))
      case first =>
        by_cases h0 : q = 0
        · subst h0
          have x0 := HT.out.blk.cell 0
          have HLI := Lib.hid (show OwnI (w3.alloc (.cells #[.int .i64 1, .int .i64 2] 3)) w3.heap.size (.slice (some ⟨w3.heap.size, 0, none⟩) 2 2) [1, 2] from OwnI.lit (w := w3) (B := w3.heap.size) [1, 2] #[.int .i64 1, .int .i64 2] rfl (Nat.le_refl _) (by simp))
          have hza : N ≤ (w3.alloc (.cells #[.int .i64 1, .int .i64 2] 3)).heap.size := Nat.le_trans hN3 ((Below.refl _ _).alloc (Nat.le_refl _) _).size
          have HOW := Lib.hid (HT.out.own.rows.outer.alloc (.cells #[.int .i64 1, .int .i64 2] 3))
          obtain ⟨wl, hwl⟩ : ∃ W, w3.alloc (.cells #[.int .i64 1, .int .i64 2] 3) = W := ⟨_, rfl⟩
          rw [hwl] at HLI HOW hza
          go_wp2_with (at_builtin; refine wp_app1 (B := N) rfl rfl Try.underlying27 info_ints rfl HOW.out rfl rfl rfl (by unfold maxLen; omega) (by omega) hza ?_; intro v8 w8 ho8 hg8 hfr8; obtain ⟨A8, c8, e8, -⟩ := own_form ho8; subst e8; obtain ⟨z0, zf, hM⟩ := MkH.row (zk := 3000) HCW.out HLW.out HT.out HV.out (by rw [hwl]; exact HLI.out) ho8 (by rw [hwl]; exact hg8) (by rw [hwl]; exact hfr8) (by simp; omega); have HMM := Lib.hid hM)
          go_meet
          exact Lib.hid (HMM.out.more (by omega))
        by_cases h1 : q = 1
        · subst h1
          have x1 := HT.out.blk.cell 1
          go_wp2_with (at_builtin; refine wp_app1 (B := N) rfl rfl Try.underlying24 info_int rfl HT.out.own.ones rfl rfl rfl (by unfold maxLen; omega) (by omega) hN3 ?_; intro v8 w8 ho8 hg8 hfr8; obtain ⟨A8, c8, e8, -⟩ := own_form ho8; subst e8; obtain ⟨z0, zf, hM⟩ := MkH.one (zk := 3000) HCW.out HLW.out HT.out HV.out ho8 hg8 hfr8 (by omega); have HMM := Lib.hid hM)
          go_meet
          exact Lib.hid (HMM.out.more (by omega))
        by_cases h2 : q = 2
        · subst h2
          have x0 := HT.out.blk.cell 0
          by_cases hn0 : 0 < G.rows.length
          · have hnn : (0 : Int) < (G.rows.length : Int) := by omega
            obtain ⟨bv, cv2, ebv, -, -, -, -⟩ := own_pos HT.out.own.rows.outer hn0
            injection ebv with ebv e2 e3
            subst ebv e3
            go_wp2_with fail
            refine wp_region_from (I12 W N y g w.heap.size (w.heap.size + 1) x (n + 262) cd 29 c (.slice Ag c.gs.length cg) (.slice Ao c.outs.length co) (.slice An G.ones.length cn) (.slice Ac G.cols.length cc) vs G bv cr 3000) (by kernel_rfl) (by kernel_rfl) (fun L a wz hI => hI.1) ?_ ?_ ?_
            · refine ⟨by simp, _, _, _, _, _, _, _, _, _, _, _, _, (up12_self _).symm, Or.inr ⟨HT.out.drew, HV.out.drew.more (by rw [usd_new]; omega), ?_⟩⟩
              simp
            ·
              refine Steps1.cons _ _ _ rfl (fun Q9 L a wz K hI hd hl hK => ?_) ?_
              · refine Shut.out ?_
                obtain ⟨hs, hI⟩ := hI
                obtain ⟨s47, hI⟩ := hI
                obtain ⟨s48, hI⟩ := hI
                obtain ⟨s49, hI⟩ := hI
                obtain ⟨s50, hI⟩ := hI
                obtain ⟨s51, hI⟩ := hI
                obtain ⟨s52, hI⟩ := hI
                obtain ⟨s53, hI⟩ := hI
                obtain ⟨s54, hI⟩ := hI
                obtain ⟨s55, hI⟩ := hI
                obtain ⟨s56, hI⟩ := hI
                obtain ⟨s57, hI⟩ := hI
                obtain ⟨s58, hI⟩ := hI
                obtain ⟨ea, hI⟩ := hI
                subst ea
                rcases hI with hI | hI
                · exact (lcon (hI.1 0 (by omega)) hl).elim
                obtain ⟨ht, hI⟩ := hI
                obtain ⟨hv, hI⟩ := hI
                obtain ⟨F0, hI⟩ := hI
                obtain ⟨F1, hI⟩ := hI
                obtain ⟨F2, hI⟩ := hI
                obtain ⟨F3, hI⟩ := hI
                obtain ⟨F4, hI⟩ := hI
                obtain ⟨F5, hI⟩ := hI
                obtain ⟨F6, hI⟩ := hI
                obtain ⟨F7, hI⟩ := hI
                obtain ⟨F8, hI⟩ := hI
                obtain ⟨F9, hI⟩ := hI
                obtain ⟨F10, hI⟩ := hI
                obtain ⟨F11, hI⟩ := hI
                have F12 := hI
                refine Shut.mk ?_
                simp only [up12, Act.put, List.setIfInBounds_toArray, List.set_cons_zero, List.set_cons_succ]
                go_simp
                refine hK.out _ _ ⟨by simpa using hs, .pointer (some ⟨y, 0, none⟩), s48, s49, s50, s51, s52, s53, s54, s55, s56, s57, s58, by simp only [up12, Act.put, List.setIfInBounds_toArray, List.set_cons_zero, List.set_cons_succ], Or.inr ⟨ht, (by rw [usd_set hl]; exact hv.more (by omega)), ?_⟩⟩
                exact ⟨fun _ => rfl, lk (by decide) F1 id, lk (by decide) F2 id, lk (by decide) F3 id, lk (by decide) F4 id, lk (by decide) F5 id, lk (by decide) F6 id, lk (by decide) F7 id, lk (by decide) F8 id, lk (by decide) F9 id, lk (by decide) F10 id, lk (by decide) F11 id, lk (by decide) F12 id⟩
              refine Steps1.cons _ _ _ rfl (fun Q9 L a wz K hI hd hl hK => ?_) ?_
              · refine Shut.out ?_
                obtain ⟨hs, hI⟩ := hI
                obtain ⟨s47, hI⟩ := hI
                obtain ⟨s48, hI⟩ := hI
                obtain ⟨s49, hI⟩ := hI
                obtain ⟨s50, hI⟩ := hI
                obtain ⟨s51, hI⟩ := hI
                obtain ⟨s52, hI⟩ := hI
                obtain ⟨s53, hI⟩ := hI
                obtain ⟨s54, hI⟩ := hI
                obtain ⟨s55, hI⟩ := hI
                obtain ⟨s56, hI⟩ := hI
                obtain ⟨s57, hI⟩ := hI
                obtain ⟨s58, hI⟩ := hI
                obtain ⟨ea, hI⟩ := hI
                subst ea
                rcases hI with hI | hI
                · exact (lcon (hI.1 1 (by omega)) hl).elim
                obtain ⟨ht, hI⟩ := hI
                obtain ⟨hv, hI⟩ := hI
                obtain ⟨F0, hI⟩ := hI
                obtain ⟨F1, hI⟩ := hI
                obtain ⟨F2, hI⟩ := hI
                obtain ⟨F3, hI⟩ := hI
                obtain ⟨F4, hI⟩ := hI
                obtain ⟨F5, hI⟩ := hI
                obtain ⟨F6, hI⟩ := hI
                obtain ⟨F7, hI⟩ := hI
                obtain ⟨F8, hI⟩ := hI
                obtain ⟨F9, hI⟩ := hI
                obtain ⟨F10, hI⟩ := hI
                obtain ⟨F11, hI⟩ := hI
                have F12 := hI
                have e0 := F0 (hd ⟨0, .data⟩ (by simp) rfl)
                have x0 := ht.blk.cell 0
                subst e0
                refine Shut.mk ?_
                simp only [up12, Act.put, List.setIfInBounds_toArray, List.set_cons_zero, List.set_cons_succ]
                go_simp
                refine hK.out _ _ ⟨by simpa using hs, .pointer (some ⟨y, 0, none⟩), .slice (some ⟨bv, 0, none⟩) G.rows.length cr, s49, s50, s51, s52, s53, s54, s55, s56, s57, s58, by simp only [up12, Act.put, List.setIfInBounds_toArray, List.set_cons_zero, List.set_cons_succ], Or.inr ⟨ht, (by rw [usd_set hl]; exact hv.more (by omega)), ?_⟩⟩
                exact ⟨fun _ => rfl, fun _ => rfl, lk (by decide) F2 id, lk (by decide) F3 id, lk (by decide) F4 id, lk (by decide) F5 id, lk (by decide) F6 id, lk (by decide) F7 id, lk (by decide) F8 id, lk (by decide) F9 id, lk (by decide) F10 id, lk (by decide) F11 id, lk (by decide) F12 id⟩
              refine Steps1.cons _ _ _ rfl (fun Q9 L a wz K hI hd hl hK => ?_) ?_
              · refine Shut.out ?_
                obtain ⟨hs, hI⟩ := hI
                obtain ⟨s47, hI⟩ := hI
                obtain ⟨s48, hI⟩ := hI
                obtain ⟨s49, hI⟩ := hI
                obtain ⟨s50, hI⟩ := hI
                obtain ⟨s51, hI⟩ := hI
                obtain ⟨s52, hI⟩ := hI
                obtain ⟨s53, hI⟩ := hI
                obtain ⟨s54, hI⟩ := hI
                obtain ⟨s55, hI⟩ := hI
                obtain ⟨s56, hI⟩ := hI
                obtain ⟨s57, hI⟩ := hI
                obtain ⟨s58, hI⟩ := hI
                obtain ⟨ea, hI⟩ := hI
                subst ea
                rcases hI with hI | hI
                · exact (lcon (hI.1 2 (by omega)) hl).elim
                obtain ⟨ht, hI⟩ := hI
                obtain ⟨hv, hI⟩ := hI
                obtain ⟨F0, hI⟩ := hI
                obtain ⟨F1, hI⟩ := hI
                obtain ⟨F2, hI⟩ := hI
                obtain ⟨F3, hI⟩ := hI
                obtain ⟨F4, hI⟩ := hI
                obtain ⟨F5, hI⟩ := hI
                obtain ⟨F6, hI⟩ := hI
                obtain ⟨F7, hI⟩ := hI
                obtain ⟨F8, hI⟩ := hI
                obtain ⟨F9, hI⟩ := hI
                obtain ⟨F10, hI⟩ := hI
                obtain ⟨F11, hI⟩ := hI
                have F12 := hI
                have hB := (Below.refl wz.heap.size wz).alloc (Nat.le_refl _) (.cells #[.int .i64 1] 3)
                have hN := RowOk.lit ht [1] #[.int .i64 1] 1 rfl rfl (by omega)
                refine Shut.mk ?_
                simp only [up12, Act.put, List.setIfInBounds_toArray, List.set_cons_zero, List.set_cons_succ]
                go_simp
                refine hK.out _ _ ⟨by simpa using hs, s47, s48, .slice (some ⟨wz.heap.size, 0, none⟩) 1 1, s50, s51, s52, s53, s54, s55, s56, s57, s58, by simp only [up12, Act.put, List.setIfInBounds_toArray, List.set_cons_zero, List.set_cons_succ], Or.inr ⟨(ht.below hB), (by rw [usd_set hl]; exact (hv.below hB).more (by omega)), ?_⟩⟩
                exact ⟨lk (by decide) F0 id, lk (by decide) F1 id, fun _ => hN, lk (by decide) F3 (fun h => h.below hB), lk (by decide) F4 (fun h => h.below hB), lk (by decide) F5 (fun h => h.below hB), lk (by decide) F6 (fun h => h.below hB), lk (by decide) F7 id, lk (by decide) F8 id, lk (by decide) F9 (fun h => h.below hB), lk (by decide) F10 (fun h => h.below hB), lk (by decide) F11 id, lk (by decide) F12 id⟩
              refine Steps1.cons _ _ _ rfl (fun Q9 L a wz K hI hd hl hK => ?_) ?_
              · refine Shut.out ?_
                obtain ⟨hs, hI⟩ := hI
                obtain ⟨s47, hI⟩ := hI
                obtain ⟨s48, hI⟩ := hI
                obtain ⟨s49, hI⟩ := hI
                obtain ⟨s50, hI⟩ := hI
                obtain ⟨s51, hI⟩ := hI
                obtain ⟨s52, hI⟩ := hI
                obtain ⟨s53, hI⟩ := hI
                obtain ⟨s54, hI⟩ := hI
                obtain ⟨s55, hI⟩ := hI
                obtain ⟨s56, hI⟩ := hI
                obtain ⟨s57, hI⟩ := hI
                obtain ⟨s58, hI⟩ := hI
                obtain ⟨ea, hI⟩ := hI
                subst ea
                rcases hI with hI | hI
                · exact (lcon (hI.1 3 (by omega)) hl).elim
                obtain ⟨ht, hI⟩ := hI
                obtain ⟨hv, hI⟩ := hI
                obtain ⟨F0, hI⟩ := hI
                obtain ⟨F1, hI⟩ := hI
                obtain ⟨F2, hI⟩ := hI
                obtain ⟨F3, hI⟩ := hI
                obtain ⟨F4, hI⟩ := hI
                obtain ⟨F5, hI⟩ := hI
                obtain ⟨F6, hI⟩ := hI
                obtain ⟨F7, hI⟩ := hI
                obtain ⟨F8, hI⟩ := hI
                obtain ⟨F9, hI⟩ := hI
                obtain ⟨F10, hI⟩ := hI
                obtain ⟨F11, hI⟩ := hI
                have F12 := hI
                have hB := (Below.refl wz.heap.size wz).alloc (Nat.le_refl _) (.cells #[.int .i64 65536, .int .i64 0] 3)
                have hN := RowOk.lit ht [65536, 0] #[.int .i64 65536, .int .i64 0] 2 rfl rfl (by omega)
                refine Shut.mk ?_
                simp only [up12, Act.put, List.setIfInBounds_toArray, List.set_cons_zero, List.set_cons_succ]
                go_simp
                refine hK.out _ _ ⟨by simpa using hs, s47, s48, s49, .slice (some ⟨wz.heap.size, 0, none⟩) 2 2, s51, s52, s53, s54, s55, s56, s57, s58, by simp only [up12, Act.put, List.setIfInBounds_toArray, List.set_cons_zero, List.set_cons_succ], Or.inr ⟨(ht.below hB), (by rw [usd_set hl]; exact (hv.below hB).more (by omega)), ?_⟩⟩
                exact ⟨lk (by decide) F0 id, lk (by decide) F1 id, lk (by decide) F2 (fun h => h.below hB), fun _ => hN, lk (by decide) F4 (fun h => h.below hB), lk (by decide) F5 (fun h => h.below hB), lk (by decide) F6 (fun h => h.below hB), lk (by decide) F7 id, lk (by decide) F8 id, lk (by decide) F9 (fun h => h.below hB), lk (by decide) F10 (fun h => h.below hB), lk (by decide) F11 id, lk (by decide) F12 id⟩
              refine Steps1.cons _ _ _ rfl (fun Q9 L a wz K hI hd hl hK => ?_) ?_
              · refine Shut.out ?_
                obtain ⟨hs, hI⟩ := hI
                obtain ⟨s47, hI⟩ := hI
                obtain ⟨s48, hI⟩ := hI
                obtain ⟨s49, hI⟩ := hI
                obtain ⟨s50, hI⟩ := hI
                obtain ⟨s51, hI⟩ := hI
                obtain ⟨s52, hI⟩ := hI
                obtain ⟨s53, hI⟩ := hI
                obtain ⟨s54, hI⟩ := hI
                obtain ⟨s55, hI⟩ := hI
                obtain ⟨s56, hI⟩ := hI
                obtain ⟨s57, hI⟩ := hI
                obtain ⟨s58, hI⟩ := hI
                obtain ⟨ea, hI⟩ := hI
                subst ea
                rcases hI with hI | hI
                · exact (lcon (hI.1 4 (by omega)) hl).elim
                obtain ⟨ht, hI⟩ := hI
                obtain ⟨hv, hI⟩ := hI
                obtain ⟨F0, hI⟩ := hI
                obtain ⟨F1, hI⟩ := hI
                obtain ⟨F2, hI⟩ := hI
                obtain ⟨F3, hI⟩ := hI
                obtain ⟨F4, hI⟩ := hI
                obtain ⟨F5, hI⟩ := hI
                obtain ⟨F6, hI⟩ := hI
                obtain ⟨F7, hI⟩ := hI
                obtain ⟨F8, hI⟩ := hI
                obtain ⟨F9, hI⟩ := hI
                obtain ⟨F10, hI⟩ := hI
                obtain ⟨F11, hI⟩ := hI
                have F12 := hI
                have hB := (Below.refl wz.heap.size wz).alloc (Nat.le_refl _) (.cells #[.int .i64 65535, .int .i64 0] 3)
                have hN := RowOk.lit ht [65535, 0] #[.int .i64 65535, .int .i64 0] 2 rfl rfl (by omega)
                refine Shut.mk ?_
                simp only [up12, Act.put, List.setIfInBounds_toArray, List.set_cons_zero, List.set_cons_succ]
                go_simp
                refine hK.out _ _ ⟨by simpa using hs, s47, s48, s49, s50, .slice (some ⟨wz.heap.size, 0, none⟩) 2 2, s52, s53, s54, s55, s56, s57, s58, by simp only [up12, Act.put, List.setIfInBounds_toArray, List.set_cons_zero, List.set_cons_succ], Or.inr ⟨(ht.below hB), (by rw [usd_set hl]; exact (hv.below hB).more (by omega)), ?_⟩⟩
                exact ⟨lk (by decide) F0 id, lk (by decide) F1 id, lk (by decide) F2 (fun h => h.below hB), lk (by decide) F3 (fun h => h.below hB), fun _ => hN, lk (by decide) F5 (fun h => h.below hB), lk (by decide) F6 (fun h => h.below hB), lk (by decide) F7 id, lk (by decide) F8 id, lk (by decide) F9 (fun h => h.below hB), lk (by decide) F10 (fun h => h.below hB), lk (by decide) F11 id, lk (by decide) F12 id⟩
              refine Steps1.cons _ _ _ rfl (fun Q9 L a wz K hI hd hl hK => ?_) ?_
              · refine Shut.out ?_
                obtain ⟨hs, hI⟩ := hI
                obtain ⟨s47, hI⟩ := hI
                obtain ⟨s48, hI⟩ := hI
                obtain ⟨s49, hI⟩ := hI
                obtain ⟨s50, hI⟩ := hI
                obtain ⟨s51, hI⟩ := hI
                obtain ⟨s52, hI⟩ := hI
                obtain ⟨s53, hI⟩ := hI
                obtain ⟨s54, hI⟩ := hI
                obtain ⟨s55, hI⟩ := hI
                obtain ⟨s56, hI⟩ := hI
                obtain ⟨s57, hI⟩ := hI
                obtain ⟨s58, hI⟩ := hI
                obtain ⟨ea, hI⟩ := hI
                subst ea
                rcases hI with hI | hI
                · exact (lcon (hI.1 5 (by omega)) hl).elim
                obtain ⟨ht, hI⟩ := hI
                obtain ⟨hv, hI⟩ := hI
                obtain ⟨F0, hI⟩ := hI
                obtain ⟨F1, hI⟩ := hI
                obtain ⟨F2, hI⟩ := hI
                obtain ⟨F3, hI⟩ := hI
                obtain ⟨F4, hI⟩ := hI
                obtain ⟨F5, hI⟩ := hI
                obtain ⟨F6, hI⟩ := hI
                obtain ⟨F7, hI⟩ := hI
                obtain ⟨F8, hI⟩ := hI
                obtain ⟨F9, hI⟩ := hI
                obtain ⟨F10, hI⟩ := hI
                obtain ⟨F11, hI⟩ := hI
                have F12 := hI
                have hB := (Below.refl wz.heap.size wz).alloc (Nat.le_refl _) (.cells #[.int .i64 (-1), .int .i64 1] 3)
                have hN := RowOk.lit ht [(-1), 1] #[.int .i64 (-1), .int .i64 1] 2 rfl rfl (by omega)
                refine Shut.mk ?_
                simp only [up12, Act.put, List.setIfInBounds_toArray, List.set_cons_zero, List.set_cons_succ]
                go_simp
                refine hK.out _ _ ⟨by simpa using hs, s47, s48, s49, s50, s51, .slice (some ⟨wz.heap.size, 0, none⟩) 2 2, s53, s54, s55, s56, s57, s58, by simp only [up12, Act.put, List.setIfInBounds_toArray, List.set_cons_zero, List.set_cons_succ], Or.inr ⟨(ht.below hB), (by rw [usd_set hl]; exact (hv.below hB).more (by omega)), ?_⟩⟩
                exact ⟨lk (by decide) F0 id, lk (by decide) F1 id, lk (by decide) F2 (fun h => h.below hB), lk (by decide) F3 (fun h => h.below hB), lk (by decide) F4 (fun h => h.below hB), fun _ => hN, lk (by decide) F6 (fun h => h.below hB), lk (by decide) F7 id, lk (by decide) F8 id, lk (by decide) F9 (fun h => h.below hB), lk (by decide) F10 (fun h => h.below hB), lk (by decide) F11 id, lk (by decide) F12 id⟩
              refine Steps1.cons _ _ _ rfl (fun Q9 L a wz K hI hd hl hK => ?_) ?_
              · refine Shut.out ?_
                obtain ⟨hs, hI⟩ := hI
                obtain ⟨s47, hI⟩ := hI
                obtain ⟨s48, hI⟩ := hI
                obtain ⟨s49, hI⟩ := hI
                obtain ⟨s50, hI⟩ := hI
                obtain ⟨s51, hI⟩ := hI
                obtain ⟨s52, hI⟩ := hI
                obtain ⟨s53, hI⟩ := hI
                obtain ⟨s54, hI⟩ := hI
                obtain ⟨s55, hI⟩ := hI
                obtain ⟨s56, hI⟩ := hI
                obtain ⟨s57, hI⟩ := hI
                obtain ⟨s58, hI⟩ := hI
                obtain ⟨ea, hI⟩ := hI
                subst ea
                rcases hI with hI | hI
                · exact (lcon (hI.1 6 (by omega)) hl).elim
                obtain ⟨ht, hI⟩ := hI
                obtain ⟨hv, hI⟩ := hI
                obtain ⟨F0, hI⟩ := hI
                obtain ⟨F1, hI⟩ := hI
                obtain ⟨F2, hI⟩ := hI
                obtain ⟨F3, hI⟩ := hI
                obtain ⟨F4, hI⟩ := hI
                obtain ⟨F5, hI⟩ := hI
                obtain ⟨F6, hI⟩ := hI
                obtain ⟨F7, hI⟩ := hI
                obtain ⟨F8, hI⟩ := hI
                obtain ⟨F9, hI⟩ := hI
                obtain ⟨F10, hI⟩ := hI
                obtain ⟨F11, hI⟩ := hI
                have F12 := hI
                have r2 := F2 (hd ⟨2, .data⟩ (by simp) rfl)
                obtain ⟨la, Aa, ka, rfl⟩ := RowOk.form r2
                have r3 := F3 (hd ⟨3, .data⟩ (by simp) rfl)
                obtain ⟨lb, Ab, kb, rfl⟩ := RowOk.form r3
                have r4 := F4 (hd ⟨4, .data⟩ (by simp) rfl)
                obtain ⟨lc, Ac, kc, rfl⟩ := RowOk.form r4
                have r5 := F5 (hd ⟨5, .data⟩ (by simp) rfl)
                obtain ⟨ld, Ad, kd, rfl⟩ := RowOk.form r5
                have hB := (Below.refl wz.heap.size wz).alloc (Nat.le_refl _) (.cells #[.slice Aa la.length ka, .slice Ab lb.length kb, .slice Ac lc.length kc, .slice Ad ld.length kd] 24)
                have hN := Lit4.new ht.size r2 r3 r4 r5
                refine Shut.mk ?_
                simp only [up12, Act.put, List.setIfInBounds_toArray, List.set_cons_zero, List.set_cons_succ]
                go_simp
                refine hK.out _ _ ⟨by simpa using hs, s47, s48, .slice Aa la.length ka, .slice Ab lb.length kb, .slice Ac lc.length kc, .slice Ad ld.length kd, .slice (some ⟨wz.heap.size, 0, none⟩) 4 4, s54, s55, s56, s57, s58, by simp only [up12, Act.put, List.setIfInBounds_toArray, List.set_cons_zero, List.set_cons_succ], Or.inr ⟨(ht.below hB), (by rw [usd_set hl]; exact (hv.below hB).more (by omega)), ?_⟩⟩
                exact ⟨lk (by decide) F0 id, lk (by decide) F1 id, lk (by decide) F2 (fun h => h.below hB), lk (by decide) F3 (fun h => h.below hB), lk (by decide) F4 (fun h => h.below hB), lk (by decide) F5 (fun h => h.below hB), fun _ => hN, lk (by decide) F7 id, lk (by decide) F8 id, lk (by decide) F9 (fun h => h.below hB), lk (by decide) F10 (fun h => h.below hB), lk (by decide) F11 id, lk (by decide) F12 id⟩
              refine Steps1.cons _ _ _ rfl (fun Q9 L a wz K hI hd hl hK => ?_) ?_
              · refine Shut.out ?_
                obtain ⟨hs, hI⟩ := hI
                obtain ⟨s47, hI⟩ := hI
                obtain ⟨s48, hI⟩ := hI
                obtain ⟨s49, hI⟩ := hI
                obtain ⟨s50, hI⟩ := hI
                obtain ⟨s51, hI⟩ := hI
                obtain ⟨s52, hI⟩ := hI
                obtain ⟨s53, hI⟩ := hI
                obtain ⟨s54, hI⟩ := hI
                obtain ⟨s55, hI⟩ := hI
                obtain ⟨s56, hI⟩ := hI
                obtain ⟨s57, hI⟩ := hI
                obtain ⟨s58, hI⟩ := hI
                obtain ⟨ea, hI⟩ := hI
                subst ea
                rcases hI with hI | hI
                · exact (lcon (hI.1 7 (by omega)) hl).elim
                obtain ⟨ht, hI⟩ := hI
                obtain ⟨hv, hI⟩ := hI
                obtain ⟨F0, hI⟩ := hI
                obtain ⟨F1, hI⟩ := hI
                obtain ⟨F2, hI⟩ := hI
                obtain ⟨F3, hI⟩ := hI
                obtain ⟨F4, hI⟩ := hI
                obtain ⟨F5, hI⟩ := hI
                obtain ⟨F6, hI⟩ := hI
                obtain ⟨F7, hI⟩ := hI
                obtain ⟨F8, hI⟩ := hI
                obtain ⟨F9, hI⟩ := hI
                obtain ⟨F10, hI⟩ := hI
                obtain ⟨F11, hI⟩ := hI
                have F12 := hI
                refine Shut.mk ?_
                simp only [up12, Act.put, List.setIfInBounds_toArray, List.set_cons_zero, List.set_cons_succ]
                go_simp
                refine hK.out _ _ ⟨by simpa using hs, s47, s48, s49, s50, s51, s52, s53, .pointer (some ⟨g, 0, none⟩), s55, s56, s57, s58, by simp only [up12, Act.put, List.setIfInBounds_toArray, List.set_cons_zero, List.set_cons_succ], Or.inr ⟨ht, (by rw [usd_set hl]; exact hv.more (by omega)), ?_⟩⟩
                exact ⟨lk (by decide) F0 id, lk (by decide) F1 id, lk (by decide) F2 id, lk (by decide) F3 id, lk (by decide) F4 id, lk (by decide) F5 id, lk (by decide) F6 id, fun _ => rfl, lk (by decide) F8 id, lk (by decide) F9 id, lk (by decide) F10 id, lk (by decide) F11 id, lk (by decide) F12 id⟩
              refine Steps1.cons _ _ _ rfl (fun Q9 L a wz K hI hd hl hK => ?_) ?_
              · refine Shut.out ?_
                obtain ⟨hs, hI⟩ := hI
                obtain ⟨s47, hI⟩ := hI
                obtain ⟨s48, hI⟩ := hI
                obtain ⟨s49, hI⟩ := hI
                obtain ⟨s50, hI⟩ := hI
                obtain ⟨s51, hI⟩ := hI
                obtain ⟨s52, hI⟩ := hI
                obtain ⟨s53, hI⟩ := hI
                obtain ⟨s54, hI⟩ := hI
                obtain ⟨s55, hI⟩ := hI
                obtain ⟨s56, hI⟩ := hI
                obtain ⟨s57, hI⟩ := hI
                obtain ⟨s58, hI⟩ := hI
                obtain ⟨ea, hI⟩ := hI
                subst ea
                rcases hI with hI | hI
                · exact (lcon (hI.1 8 (by omega)) hl).elim
                obtain ⟨ht, hI⟩ := hI
                obtain ⟨hv, hI⟩ := hI
                obtain ⟨F0, hI⟩ := hI
                obtain ⟨F1, hI⟩ := hI
                obtain ⟨F2, hI⟩ := hI
                obtain ⟨F3, hI⟩ := hI
                obtain ⟨F4, hI⟩ := hI
                obtain ⟨F5, hI⟩ := hI
                obtain ⟨F6, hI⟩ := hI
                obtain ⟨F7, hI⟩ := hI
                obtain ⟨F8, hI⟩ := hI
                obtain ⟨F9, hI⟩ := hI
                obtain ⟨F10, hI⟩ := hI
                obtain ⟨F11, hI⟩ := hI
                have F12 := hI
                have e7 := F7 (hd ⟨7, .data⟩ (by simp) rfl)
                subst e7
                have hub := usd_le L
                rw [hs] at hub
                refine Shut.mk ?_
                simp only [up12, Act.put, List.setIfInBounds_toArray, List.set_cons_zero, List.set_cons_succ]
                go_simp
                go_at_call 64
                refine (Hv.c_pick hv (by omega) (by omega)).mono ?_
                rintro e wy ⟨r, rfl, hr0, hr1, hv2, hg⟩
                go_wp2_with fail
                refine hK.out _ _ ⟨by simpa using hs, s47, s48, s49, s50, s51, s52, s53, .pointer (some ⟨g, 0, none⟩), .int .i64 r, s56, s57, s58, by simp only [up12, Act.put, List.setIfInBounds_toArray, List.set_cons_zero, List.set_cons_succ], Or.inr ⟨(ht.draw hgN hg), (by rw [usd_set hl]; exact hv2.more (by omega)), ?_⟩⟩
                exact ⟨lk (by decide) F0 id, lk (by decide) F1 id, lk (by decide) F2 (fun h => h.draw hg hgN), lk (by decide) F3 (fun h => h.draw hg hgN), lk (by decide) F4 (fun h => h.draw hg hgN), lk (by decide) F5 (fun h => h.draw hg hgN), lk (by decide) F6 (fun h => h.draw hg hgN), fun _ => rfl, fun _ => ⟨r, rfl, hr0, by omega⟩, lk (by decide) F9 (fun h => h.draw hg hgN), lk (by decide) F10 (fun h => h.draw hg hgN), lk (by decide) F11 id, lk (by decide) F12 id⟩
              refine Steps1.cons _ _ _ rfl (fun Q9 L a wz K hI hd hl hK => ?_) ?_
              · refine Shut.out ?_
                obtain ⟨hs, hI⟩ := hI
                obtain ⟨s47, hI⟩ := hI
                obtain ⟨s48, hI⟩ := hI
                obtain ⟨s49, hI⟩ := hI
                obtain ⟨s50, hI⟩ := hI
                obtain ⟨s51, hI⟩ := hI
                obtain ⟨s52, hI⟩ := hI
                obtain ⟨s53, hI⟩ := hI
                obtain ⟨s54, hI⟩ := hI
                obtain ⟨s55, hI⟩ := hI
                obtain ⟨s56, hI⟩ := hI
                obtain ⟨s57, hI⟩ := hI
                obtain ⟨s58, hI⟩ := hI
                obtain ⟨ea, hI⟩ := hI
                subst ea
                rcases hI with hI | hI
                · exact (lcon (hI.1 9 (by omega)) hl).elim
                obtain ⟨ht, hI⟩ := hI
                obtain ⟨hv, hI⟩ := hI
                obtain ⟨F0, hI⟩ := hI
                obtain ⟨F1, hI⟩ := hI
                obtain ⟨F2, hI⟩ := hI
                obtain ⟨F3, hI⟩ := hI
                obtain ⟨F4, hI⟩ := hI
                obtain ⟨F5, hI⟩ := hI
                obtain ⟨F6, hI⟩ := hI
                obtain ⟨F7, hI⟩ := hI
                obtain ⟨F8, hI⟩ := hI
                obtain ⟨F9, hI⟩ := hI
                obtain ⟨F10, hI⟩ := hI
                obtain ⟨F11, hI⟩ := hI
                have F12 := hI
                have e6 := F6 (hd ⟨6, .data⟩ (by simp) rfl)
                have e8 := F8 (hd ⟨8, .data⟩ (by simp) rfl)
                obtain ⟨b9, p0, p1, p2, p3, rfl, hb9, hk9, q0, q1, q2, q3⟩ := e6
                obtain ⟨r9, rfl, hr0, hr1⟩ := e8
                have hP := Lit4.at_ hb9 hk9 q0 q1 q2 q3 hr0 hr1
                refine Shut.mk ?_
                simp only [up12, Act.put, List.setIfInBounds_toArray, List.set_cons_zero, List.set_cons_succ]
                go_simp
                refine hK.out _ _ ⟨by simpa using hs, s47, s48, s49, s50, s51, s52, .slice (some ⟨b9, 0, none⟩) 4 4, s54, .int .i64 r9, .pointer (some ⟨b9, r9.toNat, none⟩), s57, s58, by simp only [up12, Act.put, List.setIfInBounds_toArray, List.set_cons_zero, List.set_cons_succ], Or.inr ⟨ht, (by rw [usd_set hl]; exact hv.more (by omega)), ?_⟩⟩
                exact ⟨lk (by decide) F0 id, lk (by decide) F1 id, lk (by decide) F2 id, lk (by decide) F3 id, lk (by decide) F4 id, lk (by decide) F5 id, lk (by decide) F6 id, lk (by decide) F7 id, fun _ => ⟨_, rfl, hr0, hr1⟩, fun _ => hP, lk (by decide) F10 id, lk (by decide) F11 id, lk (by decide) F12 id⟩
              refine Steps1.cons _ _ _ rfl (fun Q9 L a wz K hI hd hl hK => ?_) ?_
              · refine Shut.out ?_
                obtain ⟨hs, hI⟩ := hI
                obtain ⟨s47, hI⟩ := hI
                obtain ⟨s48, hI⟩ := hI
                obtain ⟨s49, hI⟩ := hI
                obtain ⟨s50, hI⟩ := hI
                obtain ⟨s51, hI⟩ := hI
                obtain ⟨s52, hI⟩ := hI
                obtain ⟨s53, hI⟩ := hI
                obtain ⟨s54, hI⟩ := hI
                obtain ⟨s55, hI⟩ := hI
                obtain ⟨s56, hI⟩ := hI
                obtain ⟨s57, hI⟩ := hI
                obtain ⟨s58, hI⟩ := hI
                obtain ⟨ea, hI⟩ := hI
                subst ea
                rcases hI with hI | hI
                · exact (lcon (hI.1 10 (by omega)) hl).elim
                obtain ⟨ht, hI⟩ := hI
                obtain ⟨hv, hI⟩ := hI
                obtain ⟨F0, hI⟩ := hI
                obtain ⟨F1, hI⟩ := hI
                obtain ⟨F2, hI⟩ := hI
                obtain ⟨F3, hI⟩ := hI
                obtain ⟨F4, hI⟩ := hI
                obtain ⟨F5, hI⟩ := hI
                obtain ⟨F6, hI⟩ := hI
                obtain ⟨F7, hI⟩ := hI
                obtain ⟨F8, hI⟩ := hI
                obtain ⟨F9, hI⟩ := hI
                obtain ⟨F10, hI⟩ := hI
                obtain ⟨F11, hI⟩ := hI
                have F12 := hI
                have e9 := F9 (hd ⟨9, .data⟩ (by simp) rfl)
                obtain ⟨b9, k9, p9, rfl, hb9, hl9, hc9, q9⟩ := e9
                have q8 := q9
                obtain ⟨l9, A9, c9, rfl, -⟩ := q9
                refine Shut.mk ?_
                simp only [up12, Act.put, List.setIfInBounds_toArray, List.set_cons_zero, List.set_cons_succ]
                go_simp
                refine hK.out _ _ ⟨by simpa using hs, s47, s48, s49, s50, s51, s52, s53, s54, s55, .pointer (some ⟨b9, k9, none⟩), .slice A9 l9.length c9, s58, by simp only [up12, Act.put, List.setIfInBounds_toArray, List.set_cons_zero, List.set_cons_succ], Or.inr ⟨ht, (by rw [usd_set hl]; exact hv.more (by omega)), ?_⟩⟩
                exact ⟨lk (by decide) F0 id, lk (by decide) F1 id, lk (by decide) F2 id, lk (by decide) F3 id, lk (by decide) F4 id, lk (by decide) F5 id, lk (by decide) F6 id, lk (by decide) F7 id, lk (by decide) F8 id, lk (by decide) F9 id, fun _ => q8, lk (by decide) F11 id, lk (by decide) F12 id⟩
              refine Steps1.cons _ _ _ rfl (fun Q9 L a wz K hI hd hl hK => ?_) ?_
              · refine Shut.out ?_
                obtain ⟨hs, hI⟩ := hI
                obtain ⟨s47, hI⟩ := hI
                obtain ⟨s48, hI⟩ := hI
                obtain ⟨s49, hI⟩ := hI
                obtain ⟨s50, hI⟩ := hI
                obtain ⟨s51, hI⟩ := hI
                obtain ⟨s52, hI⟩ := hI
                obtain ⟨s53, hI⟩ := hI
                obtain ⟨s54, hI⟩ := hI
                obtain ⟨s55, hI⟩ := hI
                obtain ⟨s56, hI⟩ := hI
                obtain ⟨s57, hI⟩ := hI
                obtain ⟨s58, hI⟩ := hI
                obtain ⟨ea, hI⟩ := hI
                subst ea
                rcases hI with hI | hI
                · exact (lcon (hI.1 11 (by omega)) hl).elim
                obtain ⟨ht, hI⟩ := hI
                obtain ⟨hv, hI⟩ := hI
                obtain ⟨F0, hI⟩ := hI
                obtain ⟨F1, hI⟩ := hI
                obtain ⟨F2, hI⟩ := hI
                obtain ⟨F3, hI⟩ := hI
                obtain ⟨F4, hI⟩ := hI
                obtain ⟨F5, hI⟩ := hI
                obtain ⟨F6, hI⟩ := hI
                obtain ⟨F7, hI⟩ := hI
                obtain ⟨F8, hI⟩ := hI
                obtain ⟨F9, hI⟩ := hI
                obtain ⟨F10, hI⟩ := hI
                obtain ⟨F11, hI⟩ := hI
                have F12 := hI
                have e1 := F1 (hd ⟨1, .data⟩ (by simp) rfl)
                subst e1
                refine Shut.mk ?_
                simp only [up12, Act.put, List.setIfInBounds_toArray, List.set_cons_zero, List.set_cons_succ]
                go_simp
                refine hK.out _ _ ⟨by simpa using hs, s47, .slice (some ⟨bv, 0, none⟩) G.rows.length cr, s49, s50, s51, s52, s53, s54, s55, s56, s57, .pointer (some ⟨bv, 0, none⟩), by simp only [up12, Act.put, List.setIfInBounds_toArray, List.set_cons_zero, List.set_cons_succ], Or.inr ⟨ht, (by rw [usd_set hl]; exact hv.more (by omega)), ?_⟩⟩
                exact ⟨lk (by decide) F0 id, fun _ => rfl, lk (by decide) F2 id, lk (by decide) F3 id, lk (by decide) F4 id, lk (by decide) F5 id, lk (by decide) F6 id, lk (by decide) F7 id, lk (by decide) F8 id, lk (by decide) F9 id, lk (by decide) F10 id, fun _ => rfl, lk (by decide) F12 id⟩
              refine Steps1.cons _ _ _ rfl (fun Q9 L a wz K hI hd hl hK => ?_) (Steps1.nil _)
              · refine Shut.out ?_
                obtain ⟨hs, hI⟩ := hI
                obtain ⟨s47, hI⟩ := hI
                obtain ⟨s48, hI⟩ := hI
                obtain ⟨s49, hI⟩ := hI
                obtain ⟨s50, hI⟩ := hI
                obtain ⟨s51, hI⟩ := hI
                obtain ⟨s52, hI⟩ := hI
                obtain ⟨s53, hI⟩ := hI
                obtain ⟨s54, hI⟩ := hI
                obtain ⟨s55, hI⟩ := hI
                obtain ⟨s56, hI⟩ := hI
                obtain ⟨s57, hI⟩ := hI
                obtain ⟨s58, hI⟩ := hI
                obtain ⟨ea, hI⟩ := hI
                subst ea
                rcases hI with hI | hI
                · exact (lcon (hI.1 12 (by omega)) hl).elim
                obtain ⟨ht, hI⟩ := hI
                obtain ⟨hv, hI⟩ := hI
                obtain ⟨F0, hI⟩ := hI
                obtain ⟨F1, hI⟩ := hI
                obtain ⟨F2, hI⟩ := hI
                obtain ⟨F3, hI⟩ := hI
                obtain ⟨F4, hI⟩ := hI
                obtain ⟨F5, hI⟩ := hI
                obtain ⟨F6, hI⟩ := hI
                obtain ⟨F7, hI⟩ := hI
                obtain ⟨F8, hI⟩ := hI
                obtain ⟨F9, hI⟩ := hI
                obtain ⟨F10, hI⟩ := hI
                obtain ⟨F11, hI⟩ := hI
                have dp : ∀ j, j < 12 → L.getD j false = true := fun j hj => by
                  have hj2 : j = 0 ∨ j = 1 ∨ j = 2 ∨ j = 3 ∨ j = 4 ∨ j = 5 ∨ j = 6 ∨ j = 7 ∨ j = 8 ∨ j = 9 ∨ j = 10 ∨ j = 11 := by omega
                  rcases hj2 with rfl | rfl | rfl | rfl | rfl | rfl | rfl | rfl | rfl | rfl | rfl | rfl
                  · exact hd ⟨0, .phase⟩ (by simp) rfl
                  · exact hd ⟨1, .phase⟩ (by simp) rfl
                  · exact hd ⟨2, .phase⟩ (by simp) rfl
                  · exact hd ⟨3, .phase⟩ (by simp) rfl
                  · exact hd ⟨4, .phase⟩ (by simp) rfl
                  · exact hd ⟨5, .phase⟩ (by simp) rfl
                  · exact hd ⟨6, .phase⟩ (by simp) rfl
                  · exact hd ⟨7, .phase⟩ (by simp) rfl
                  · exact hd ⟨8, .phase⟩ (by simp) rfl
                  · exact hd ⟨9, .phase⟩ (by simp) rfl
                  · exact hd ⟨10, .phase⟩ (by simp) rfl
                  · exact hd ⟨11, .data⟩ (by simp) rfl
                have e11 := F11 (dp 11 (by omega))
                obtain ⟨l9, A9, c9, e10, hl9, ho9, ha9, hy9⟩ := F10 (dp 10 (by omega))
                subst e10 e11
                obtain ⟨u0, hu0⟩ : ∃ u, vs[0]? = some u := ⟨_, List.getElem?_eq_getElem (by rw [ht.own.rows.len]; exact hn0)⟩
                have c0 := ht.own.rows.outer.cellAt 0 (by omega)
                have f0 := World.ownsRow.frozenAt ht.own.rows.outer 0
                have hsw := Tb.swap (i := 0) ht ho9 ha9 hy9
                have hbw : Below N wz (wz.setCell ⟨bv, 0, none⟩ (.slice A9 l9.length c9)) := (Below.refl _ _).setCell (p := ⟨bv, 0, none⟩) ((ht.own.bd (.slice (some ⟨bv, 0, none⟩) G.rows.length cr) (by simp) bv rfl).1) _
                have hM : MkH W g cd (n + 262 + 2 * (usd L + 1)) w.heap.size (w.heap.size + 1) x y N 29 c (.slice Ag c.gs.length cg) (.slice Ao c.outs.length co) 3000 (wz.setCell ⟨bv, 0, none⟩ (.slice A9 l9.length c9)) := ⟨_, _, _, _, _, by have := sz_set G l9; omega, hsw, (hv.hi HCW.out HLW.out hbw).more (by omega)⟩
                clear F0 F1 F2 F3 F4 F5 F6 F7 F8 F9 F10 F11 hI
                have HDP := Lib.hid dp
                clear dp
                refine Shut.mk ?_
                simp only [up12, Act.put, List.setIfInBounds_toArray, List.set_cons_zero, List.set_cons_succ]
                go_simp
                refine hK.out _ _ ⟨by simpa using hs, s47, s48, s49, s50, s51, s52, s53, s54, s55, s56, .slice A9 l9.length c9, .pointer (some ⟨bv, 0, none⟩), by simp only [up12, Act.put, List.setIfInBounds_toArray, List.set_cons_zero, List.set_cons_succ], Or.inl ⟨lall HDP.out hl, by rw [usd_set hl]; exact hM⟩⟩
            · intro L a wz hI hall
              refine Shut.out ?_
              obtain ⟨hs, hI⟩ := hI
              obtain ⟨s47, hI⟩ := hI
              obtain ⟨s48, hI⟩ := hI
              obtain ⟨s49, hI⟩ := hI
              obtain ⟨s50, hI⟩ := hI
              obtain ⟨s51, hI⟩ := hI
              obtain ⟨s52, hI⟩ := hI
              obtain ⟨s53, hI⟩ := hI
              obtain ⟨s54, hI⟩ := hI
              obtain ⟨s55, hI⟩ := hI
              obtain ⟨s56, hI⟩ := hI
              obtain ⟨s57, hI⟩ := hI
              obtain ⟨s58, hI⟩ := hI
              obtain ⟨ea, hI⟩ := hI
              subst ea
              rcases hI with hI | hI
              · have hM := hI.2
                have HMM := Lib.hid hM
                refine Shut.mk ?_
                have hub := usd_le L
                rw [hs] at hub
                simp only [up12, Act.put, List.setIfInBounds_toArray, List.set_cons_zero, List.set_cons_succ]
                go_wp2
                go_meet
                exact Lib.hid (HMM.out.more (by omega))
              · exact (hI.2.2.2.2.2.2.2.2.2.2.2.2.2.2 (hall 12 (by decide))).elim
          · have hnn : ¬ (0 : Int) < (G.rows.length : Int) := by omega
            go_wp2
            go_meet
            exact Lib.hid ⟨_, _, _, _, _, by omega, HT.out, HV.out.more (by omega)⟩
        by_cases h3 : q = 3
        · subst h3
          have x2 := HT.out.blk.cell 2
          by_cases hn0 : 0 < G.cols.length
          · have hnn : (0 : Int) < (G.cols.length : Int) := by omega
            obtain ⟨bc, cc2, ebc, -, -, -, -⟩ := own_pos HT.out.own.cols hn0
            injection ebc with ebc e2 e3
            subst ebc e3
            have hba : Below w3.heap.size w3 (w3.drew.alloc (.cells #[.int .i64 (-1), .int .i64 0, .int .i64 1, .int .i64 2] 3)) := ((Below.refl _ _).drew).alloc (Nat.le_refl _) _
            have HTa := Lib.hid (HT.out.below hba)
            have HVa := Lib.hid (HV.out.below hba)
            have xa2 : w3.drew.cell? ⟨y, 2, none⟩ = some (.slice (some ⟨bc, 0, none⟩) G.cols.length cc) := x2
            have xb2 : (w3.drew.alloc (.cells #[.int .i64 (-1), .int .i64 0, .int .i64 1, .int .i64 2] 3)).cell? ⟨y, 2, none⟩ = some (.slice (some ⟨bc, 0, none⟩) G.cols.length cc) := HTa.out.blk.cell 2
            have xc2 : (w3.alloc (.cells #[.int .i64 (-1), .int .i64 0, .int .i64 1, .int .i64 2] 3)).drew.cell? ⟨y, 2, none⟩ = some (.slice (some ⟨bc, 0, none⟩) G.cols.length cc) := xb2
            have hgl3 : g < w3.drew.heap.size := HV.out.cur.lt
            clear hba
            go_wp2_with fail
            clear x2
            go_region_held3 (fun w' => w'.cell? ⟨y, 2, none⟩ = some (.slice (some ⟨bc, 0, none⟩) G.cols.length cc))
              (first | with_reducible exact xm2 | with_reducible exact xs2 | with_reducible exact xb2 | with_reducible exact xc2 | with_reducible exact xa2)
              (first
                | (go_at_call 73; refine (c_among (l := [-1, 0, 1, 2]) (HVa.out.cur) (by omega) (ints_lit w3.drew [-1, 0, 1, 2] #[.int .i64 (-1), .int .i64 0, .int .i64 1, .int .i64 2] rfl (by simp)) (by simp) (by simp) (by rintro b hb; simp [Value.ownBlock] at hb; omega)).mono ?_; rintro e wm ⟨v, rfl, ⟨r, rfl, hr⟩, hc4, hg4⟩; have hTm := HTa.out.draw hgN hg4; have hVm := HVa.out.draw hg4 hc4; obtain ⟨z, hz⟩ : ∃ z, G.cols[0]? = some z := ⟨_, List.getElem?_eq_getElem hn0⟩; have c0 := hTm.own.cols.rd hz; have f0 := hTm.own.cols.free 0; have xm2 : wm.cell? ⟨y, 2, none⟩ = some (.slice (some ⟨bc, 0, none⟩) G.cols.length cc) := hTm.blk.cell 2; have xs2 : (wm.setCell ⟨bc, 0, none⟩ (.int .i64 r)).cell? ⟨y, 2, none⟩ = some (.slice (some ⟨bc, 0, none⟩) G.cols.length cc) := (Tb.col hTm).blk.cell 2))
            all_goals
              go_wp2
              go_meet
              exact Lib.hid ⟨_, _, _, _, _, by rw [sz_col]; omega, Tb.col hTm, (hVm.hi HCW.out HLW.out ((Below.refl _ _).setCell (p := ⟨bc, 0, none⟩) ((hTm.own.bd (.slice (some ⟨bc, 0, none⟩) G.cols.length cc) (by simp) bc rfl).1) _)).more (by omega)⟩
          · have hnn : ¬ (0 : Int) < (G.cols.length : Int) := by omega
            go_wp2
            go_meet
            exact Lib.hid ⟨_, _, _, _, _, by omega, HT.out, HV.out.more (by omega)⟩
        · go_wp2
          go_meet
          exact Lib.hid ⟨_, _, _, _, _, by omega, HT.out, HV.out.more (by omega)⟩
      case rest =>
        obtain ⟨wq, hwq⟩ : ∃ W, wc = W := ⟨_, rfl⟩
        rw [hwq] at hcut ⊢
        clear hwq
        obtain ⟨G2, rv2, nv2, cv2, vs2, hsz2, ht2, hv2⟩ := hcut.out
        have HT9 := Lib.hid ht2.drew
        have HV9 := Lib.hid hv2.drew
        obtain ⟨Br, dr, er, -⟩ := HT9.out.gb.rows.form
        obtain ⟨Bn, dn, en, -⟩ := HT9.out.gb.ones
        obtain ⟨Bc, dc, ec, -⟩ := HT9.out.gb.cols
        subst er en ec
        obtain ⟨⟨a0, a1, a2, a3, a4, a5, a6, a7⟩, b0, b1, b2, b3, b4, b5⟩ := HV9.out.resf
        obtain ⟨⟨e0, e1, e2, e3, e4, e5, e6, e7⟩, f0, f1, f2, f3, f4, f5⟩ := hv2.resf
        have hown := HT9.out.own.mono (B' := W.heap.size) HLW.out.lo
        have hd := HV9.out.done hown
        have hdr := HV9.out.ret hown HW.out.1 HW.out.2.1 HCD.out hgl
        have s0 := HV9.out.keep7 HT9.out HLW.out.lo
        have s1 := HV9.out.keep7a HT9.out HLW.out.lo
        have s2 := HV9.out.keep7b HT9.out HLW.out.lo
        simp only [set_drew] at hd hdr s1 s2
        have HD := Lib.hid hdr
        have HK := Lib.hid hd
        clear hcut ht2 hv2 HT HV hd hdr hown
        go_wp2_with fail
        go_region_held3 (fun w' => w'.cell? ⟨x, 0, none⟩ = some (.int .i64 c.i0) ∧ w'.cell? ⟨x, 1, none⟩ = some (.int .i64 c.i1) ∧ w'.cell? ⟨x, 2, none⟩ = some (.slice Ag c.gs.length cg) ∧ w'.cell? ⟨x, 3, none⟩ = some (.slice Ao c.outs.length co) ∧ w'.cell? ⟨y, 0, none⟩ = some (.slice Br G2.rows.length dr) ∧ w'.cell? ⟨y, 1, none⟩ = some (.slice Bn G2.ones.length dn) ∧ w'.cell? ⟨y, 2, none⟩ = some (.slice Bc G2.cols.length dc))
          (first | with_reducible exact s0 | with_reducible exact s1 | with_reducible exact s2) (fail)
        go_wp2
        obtain ⟨-, ⟨k0, k1, k2, k3⟩, j0, j1, j2⟩ := HK.out
        refine bodyPost_ret (v := .tuple #[cirV c (.slice Ag c.gs.length cg) (.slice Ao c.outs.length co), gbV (.slice Br G2.rows.length dr) (.slice Bn G2.ones.length dn) (.slice Bc G2.cols.length dc)]) (by simp [results, Try.results46, go_sem, k0, k1, k2, k3, j0, j1, j2, cirV, gbV]) rfl ?_
        exact ⟨c, _, _, G2, _, _, _, _, rfl, HS.out, hsz2, HD.out.1, HD.out.2.1, HD.out.2.2.1, HD.out.2.2.2.1.mono (by omega), HD.out.2.2.2.2⟩
end
end Go.Proofs.Ytejeppjmlgfiaaa

/- Contracts of the draws of halved circuits with labels, rows and masks. Condition: the bytes read as bytes. -/
namespace Go.Proofs.Ytejeppjmlgfiaaa
open Go.RowKit
set_option linter.unusedVariables false
set_option maxHeartbeats 4000000
section
variable {W w wr w' : World} {g n m rb r2 x y : Nat} {cd : Value} {t2 : TypeId} {c : Cir} {gv ov rv nv cv : Value} {vs : List Value} {G : Gb}
/-- A circuit and its tables are drawn and lie in boxes too; the boxes of both results are empty yet. -/
structure Pv (W : World) (g : Nat) (cd : Value) (n rb r2 x y : Nat) (t2 : TypeId) (c : Cir) (gv ov rv nv cv : Value) (vs : List Value) (G : Gb) (wr : World) : Prop where
  hv : Hv W g cd n rb r2 x t2 c gv ov wr
  tb : Tb W.heap.size wr y t2 rv nv cv vs G
theorem Pv.draw (h : Pv W g cd n rb r2 x y t2 c gv ov rv nv cv vs G wr) (hg : wr.grownBy w' (some g)) (hc : Cur w' g cd m) : Pv W g cd m rb r2 x y t2 c gv ov rv nv cv vs G w' := ⟨h.hv.draw hg hc, h.tb.draw h.hv.lt.1 hg⟩
theorem Pv.below (h : Pv W g cd n rb r2 x y t2 c gv ov rv nv cv vs G wr) (hb : Below wr.heap.size wr w') : Pv W g cd n rb r2 x y t2 c gv ov rv nv cv vs G w' := ⟨h.hv.below hb, h.tb.below hb⟩
theorem Pv.drew (h : Pv W g cd n rb r2 x y t2 c gv ov rv nv cv vs G wr) : Pv W g cd n rb r2 x y t2 c gv ov rv nv cv vs G wr.drew := h.below (Below.refl _ _).drew
theorem Pv.alloc (h : Pv W g cd n rb r2 x y t2 c gv ov rv nv cv vs G wr) (o : Obj) : Pv W g cd n rb r2 x y t2 c gv ov rv nv cv vs G (wr.alloc o) := h.below ((Below.refl _ _).alloc (Nat.le_refl _) o)
theorem Pv.start {w1 : World} (hW : Cur W g cd m) (hres : Blk W rb 26 #[.int .i64 0, .int .i64 0, .slice none 0 0, .slice none 0 0]) (hres2 : Blk W r2 t2 #[.slice none 0 0, .slice none 0 0, .slice none 0 0]) (hlt : g < W.heap.size ∧ rb < W.heap.size ∧ r2 < W.heap.size ∧ rb ≠ g ∧ r2 ≠ g ∧ rb ≠ r2)
    (h1 : OwnG w1 W.heap.size gv c.gs) (h2 : OwnI w1 W.heap.size ov c.outs) (h3 : OwnGb w1 W.heap.size rv nv cv vs G) (hc : Cur w1 g cd n) (hg : W.grownBy w1 (some g)) :
    Pv W g cd n rb r2 w1.heap.size (w1.heap.size + 1) t2 c gv ov rv nv cv vs G ((w1.alloc (.cells #[.int .i64 c.i0, .int .i64 c.i1, gv, ov] 26)).alloc (.cells #[rv, nv, cv] t2)) := by
  have h9 := Tb.new (t := t2) (Nat.le_trans hg.size ((Below.refl _ _).alloc (Nat.le_refl _) (.cells #[.int .i64 c.i0, .int .i64 c.i1, gv, ov] 26)).size) (h3.below ((Below.refl w1.heap.size w1).alloc (Nat.le_refl _) (.cells #[.int .i64 c.i0, .int .i64 c.i1, gv, ov] 26)))
  rw [show (w1.alloc (.cells #[.int .i64 c.i0, .int .i64 c.i1, gv, ov] 26)).heap.size = w1.heap.size + 1 by simp] at h9
  exact ⟨(Hv.start hW hres hres2 hlt h1 h2 hc hg).alloc _, h9⟩
def Seven (x y : Nat) (c : Cir) (gv ov rv nv cv : Value) (w : World) : Prop := w.cell? ⟨x, 0, none⟩ = some (.int .i64 c.i0) ∧ w.cell? ⟨x, 1, none⟩ = some (.int .i64 c.i1) ∧ w.cell? ⟨x, 2, none⟩ = some gv ∧ w.cell? ⟨x, 3, none⟩ = some ov ∧ w.cell? ⟨y, 0, none⟩ = some rv ∧ w.cell? ⟨y, 1, none⟩ = some nv ∧ w.cell? ⟨y, 2, none⟩ = some cv
theorem Pv.k0 (h : Pv W g cd n rb r2 x y t2 c gv ov rv nv cv vs G wr) : wr.cell? ⟨x, 0, none⟩ = some (.int .i64 c.i0) ∧ wr.cell? ⟨x, 1, none⟩ = some (.int .i64 c.i1) ∧ wr.cell? ⟨x, 2, none⟩ = some gv ∧ wr.cell? ⟨x, 3, none⟩ = some ov ∧ wr.cell? ⟨y, 0, none⟩ = some rv ∧ wr.cell? ⟨y, 1, none⟩ = some nv ∧ wr.cell? ⟨y, 2, none⟩ = some cv := h.hv.keep7 h.tb (Nat.le_refl _)
/-- Both results are stored. -/
theorem Pv.done {u : Value} {l : List Int} (h : Pv W g cd n rb r2 x y t2 c gv ov rv nv cv vs G wr) (hW : Below w.heap.size w W) (h1 : w.heap.size ≤ rb) (h2 : w.heap.size ≤ r2) (h3 : w.heap.size ≤ g) (hu : OwnI wr W.heap.size u l) :
    let w9 := ((((((wr.setCell ⟨rb, 0, none⟩ (.int .i64 c.i0)).setCell ⟨rb, 1, none⟩ (.int .i64 c.i1)).setCell ⟨rb, 2, none⟩ gv).setCell ⟨rb, 3, none⟩ ov).setCell ⟨r2, 0, none⟩ rv).setCell ⟨r2, 1, none⟩ nv).setCell ⟨r2, 2, none⟩ cv
    (CirIn w9 gv ov c ∧ GbIn w9 rv nv cv G ∧ Ints w9 u l ∧ Below w.heap.size w w9) ∧
    (w9.cell? ⟨rb, 0, none⟩ = some (.int .i64 c.i0) ∧ w9.cell? ⟨rb, 1, none⟩ = some (.int .i64 c.i1) ∧ w9.cell? ⟨rb, 2, none⟩ = some gv ∧ w9.cell? ⟨rb, 3, none⟩ = some ov) ∧
    (w9.cell? ⟨r2, 0, none⟩ = some rv ∧ w9.cell? ⟨r2, 1, none⟩ = some nv ∧ w9.cell? ⟨r2, 2, none⟩ = some cv) := by
  intro w9
  obtain ⟨⟨d1, d2, d3⟩, k1, k2⟩ := h.hv.done h.tb.own
  obtain ⟨l1, l2, l3, l4, l5, l6, l7⟩ := h.hv.lt
  have hn : ∀ b, u.ownBlock = some b → b ≠ rb := fun b hb => by have := own_ge hu b hb; omega
  have hn2 : ∀ b, u.ownBlock = some b → b ≠ r2 := fun b hb => by have := own_ge hu b hb; omega
  have hu9 : OwnI w9 W.heap.size u l := own_set (p := ⟨r2, 2, none⟩) (own_set (p := ⟨r2, 1, none⟩) (own_set (p := ⟨r2, 0, none⟩) (own_set (p := ⟨rb, 3, none⟩) (own_set (p := ⟨rb, 2, none⟩) (own_set (p := ⟨rb, 1, none⟩) (own_set (p := ⟨rb, 0, none⟩) hu hn _) hn _) hn _) hn _) hn2 _) hn2 _) hn2 _
  have hb : Below w.heap.size w wr := hW.grown h.hv.grown hW.size (fun k hk => by injection hk with hk; omega)
  exact ⟨⟨⟨OwnG.gates d1, d2.ints⟩, d3.gbIn, hu9.ints, ((((((hb.setCell (p := ⟨rb, 0, none⟩) h1 _).setCell (p := ⟨rb, 1, none⟩) h1 _).setCell (p := ⟨rb, 2, none⟩) h1 _).setCell (p := ⟨rb, 3, none⟩) h1 _).setCell (p := ⟨r2, 0, none⟩) h2 _).setCell (p := ⟨r2, 1, none⟩) h2 _).setCell (p := ⟨r2, 2, none⟩) h2 _⟩, k1, k2⟩
theorem Pv.c_pick {k : Int} (h : Pv W g cd n rb r2 x y t2 c gv ov rv nv cv vs G wr) (hn : n ≤ 1000000000) (hm : k ≤ 9223372036854775807) :
    Calls Try.prog 64 #[.pointer (some ⟨g, 0, none⟩), .int .i64 k] wr fun e w' => ∃ r : Int, e = .returned (.int .i64 r) ∧ 0 ≤ r ∧ (r < k ∨ k ≤ 0) ∧ Pv W g cd (n + 2) rb r2 x y t2 c gv ov rv nv cv vs G w' :=
  (Go.Proofs.Ytejeppjmlgfiaaa.c_pick h.hv.cur (by omega) hm).mono fun e w' ⟨v, e1, ⟨r, e2, h0, _, h1⟩, hc, hg⟩ => ⟨r, by rw [e1, e2], h0, h1, h.draw hg hc⟩
theorem Pv.c_label (h : Pv W g cd n rb r2 x y t2 c gv ov rv nv cv vs G wr) (hn : n ≤ 1000000000) :
    Calls Try.prog 65 #[.pointer (some ⟨g, 0, none⟩)] wr fun e w' => ∃ r : Int, e = .returned (.int .i64 r) ∧ Pv W g cd (n + 6) rb r2 x y t2 c gv ov rv nv cv vs G w' :=
  (Go.Proofs.Ytejeppjmlgfiaaa.c_label h.hv.cur (by omega)).mono fun e w' ⟨v, e1, ⟨r, e2, h0, _⟩, hc, hg⟩ => ⟨r, by rw [e1, e2], h.draw hg hc⟩
theorem Pv.c_labelsFor {k : Int} (h : Pv W g cd n rb r2 x y t2 c gv ov rv nv cv vs G wr) (hn : n ≤ 1000000) (hm : -10000 ≤ k ∧ k ≤ 100) :
    Calls Try.prog 47 #[.pointer (some ⟨g, 0, none⟩), .int .i64 k] wr fun e w' => ∃ (A : Option Addr) (q : Nat) (l : List Int), e = .returned (.slice A l.length q) ∧ l.length ≤ 101 ∧ OwnI w' W.heap.size (.slice A l.length q) l ∧ Pv W g cd (n + 300) rb r2 x y t2 c gv ov rv nv cv vs G w' :=
  (Go.Proofs.Ytejeppjmlgfiaaa.c_labelsFor h.hv.cur (by omega) hm).mono fun e w' ⟨u, l, e1, hl, ho, hc, hg⟩ => by
    obtain ⟨A, q, rfl, -⟩ := own_form ho
    exact ⟨A, q, l, e1, hl, ho.mono h.hv.grown.size, h.draw hg hc⟩
end
section
variable {w : World} {cd : Value} {l0 : List Int}
theorem pv_new (h : Byts w cd l0) : let W := ((w.alloc (.cells #[.int .i64 0, .int .i64 0, .slice none 0 0, .slice none 0 0] 26)).alloc (.cells #[.slice none 0 0, .slice none 0 0, .slice none 0 0] 29)).alloc (.cells #[cd, .int .i64 0, .int .u64 0] 61)
    Cur W (w.heap.size + 2) cd 0 ∧ Blk W w.heap.size 26 #[.int .i64 0, .int .i64 0, .slice none 0 0, .slice none 0 0] ∧ Blk W (w.heap.size + 1) 29 #[.slice none 0 0, .slice none 0 0, .slice none 0 0] ∧ Below w.heap.size w W ∧ W.heap.size = w.heap.size + 3 := by
  intro W
  have h1 := cur_new (h.below (((Below.refl w.heap.size w).alloc (Nat.le_refl _) (.cells #[.int .i64 0, .int .i64 0, .slice none 0 0, .slice none 0 0] 26)).alloc (by simp) (.cells #[.slice none 0 0, .slice none 0 0, .slice none 0 0] 29)))
  rw [show ((w.alloc (.cells #[.int .i64 0, .int .i64 0, .slice none 0 0, .slice none 0 0] 26)).alloc (.cells #[.slice none 0 0, .slice none 0 0, .slice none 0 0] 29)).heap.size = w.heap.size + 2 by simp] at h1
  have h2 := Blk.new (w.alloc (.cells #[.int .i64 0, .int .i64 0, .slice none 0 0, .slice none 0 0] 26)) 29 #[.slice none 0 0, .slice none 0 0, .slice none 0 0]
  rw [show (w.alloc (.cells #[.int .i64 0, .int .i64 0, .slice none 0 0, .slice none 0 0] 26)).heap.size = w.heap.size + 1 by simp] at h2
  exact ⟨h1, ((Blk.new _ _ _).alloc _).alloc _, h2.alloc _, (((Below.refl _ _).alloc (Nat.le_refl _) _).alloc (by simp) _).alloc (by simp; omega) _, by simp [W]⟩
theorem c_spec_ciInputsW {c : Cir} {gv ov : Value} {w : World} (h : CirIn w gv ov c) (hi : -1 ≤ c.i0 ∧ c.i0 ≤ 21 ∧ -1 ≤ c.i1 ∧ c.i1 ≤ 21) : Calls Try.prog 48 #[cirV c gv ov] w fun e w' => e = .returned (.int .i64 (c.i0 + c.i1)) ∧ Below w.heap.size w w' := by
  obtain ⟨hg, ho⟩ := h
  obtain ⟨A, cg, rfl, _, _, _⟩ := hg
  obtain ⟨A', co, rfl, _, _, _⟩ := ho
  unfold cirV
  go_enter Try.func48, Try.ntmps48
  go_wp2
  go_ret
  exact ⟨rfl, (Below.refl _ _).alloc (Nat.le_refl _) _⟩
set_option maxRecDepth 100000 in
theorem c_spec_DrawEvalHalved (h : Byts w cd l0) : Calls Try.prog 6 #[cd] w fun e w' => (∃ (c : Cir) (gv ov rv nv cv u : Value) (G : Gb) (l : List Int), e = .returned (.tuple #[cirV c gv ov, gbV rv nv cv, u]) ∧ AnC c ∧ G.sz ≤ 3000 ∧ l.length ≤ 101 ∧ CirIn w' gv ov c ∧ GbIn w' rv nv cv G ∧ Ints w' u l) ∧ Below w.heap.size w w' := by
  obtain ⟨A0, c0, rfl⟩ := h.form
  obtain ⟨hC, hR, hR2, hB, hS⟩ := pv_new h
  obtain ⟨W, hW⟩ : ∃ W, ((w.alloc (.cells #[.int .i64 0, .int .i64 0, .slice none 0 0, .slice none 0 0] 26)).alloc (.cells #[.slice none 0 0, .slice none 0 0, .slice none 0 0] 29)).alloc (.cells #[.slice A0 l0.length c0, .int .i64 0, .int .u64 0] 61) = W := ⟨_, rfl⟩
  rw [hW] at hC hR hR2 hB hS
  have HW := Lib.hid (And.intro hR (And.intro hR2 (And.intro hB hS)))
  have HC := Lib.hid hC
  clear h hR hR2 hB hS hC
  go_enter Try.func6, Try.ntmps6
  go_wp2_with fail
  clear hW
  refine (c_halved HC.out (by omega)).mono ?_
  rintro e w1 ⟨c, gv, ov, G, rv, nv, cv, vs, rfl, hs, hsz, hog, hoo, hot, hc1, hg1⟩
  obtain ⟨Ag, cg, eg, -⟩ := own_form hog
  obtain ⟨Ao, co, eo, -⟩ := own_form hoo
  obtain ⟨Ar, cr, er, -⟩ := hot.gbIn.rows.form
  obtain ⟨An, cn, en, -⟩ := hot.gbIn.ones
  obtain ⟨Ac, cc, ec, -⟩ := hot.gbIn.cols
  subst eg eo er en ec
  have hP := Pv.start HC.out HW.out.1 HW.out.2.1 (by have := HW.out.2.2.2; omega) hog hoo hot hc1 hg1
  have HSS := Lib.hid (And.intro hs hsz)
  obtain ⟨w2, hw2⟩ : ∃ V, (w1.alloc (.cells #[.int .i64 c.i0, .int .i64 c.i1, .slice Ag c.gs.length cg, .slice Ao c.outs.length co] 26)).alloc (.cells #[.slice Ar G.rows.length cr, .slice An G.ones.length cn, .slice Ac G.cols.length cc] 29) = V := ⟨_, rfl⟩
  rw [hw2] at hP
  have hP0 := hP.drew
  have HP := Lib.hid hP
  clear hog hoo hot hc1 hg1 hs hsz hP
  unfold cirV gbV
  go_upto_region 3 with fail
  generalize w1.heap.size = x at *
  clear hw2
  have cin := (fun (V : World) (hc : CirIn V (.slice Ag c.gs.length cg) (.slice Ao c.outs.length co) c) => c_spec_ciInputsW (w := V) hc HSS.out.1.1)
  unfold cirV at cin
  have CIN := Lib.hid cin
  have hao := HSS.out.1
  have ho41 : c.outs.length ≤ 41 := HSS.out.1.2.2
  unfold AnC at hao
  clear cin
  go_wp2_with fail
  go_region_held3 (fun w' => w'.cell? ⟨x, 0, none⟩ = some (.int .i64 c.i0) ∧ w'.cell? ⟨x, 1, none⟩ = some (.int .i64 c.i1) ∧ w'.cell? ⟨x, 2, none⟩ = some (.slice Ag c.gs.length cg) ∧ w'.cell? ⟨x, 3, none⟩ = some (.slice Ao c.outs.length co) ∧ w'.cell? ⟨x + 1, 0, none⟩ = some (.slice Ar G.rows.length cr) ∧ w'.cell? ⟨x + 1, 1, none⟩ = some (.slice An G.ones.length cn) ∧ w'.cell? ⟨x + 1, 2, none⟩ = some (.slice Ac G.cols.length cc))
    (first | with_reducible exact s0 | with_reducible exact s1 | with_reducible exact s2 | with_reducible exact hP1.k0 | with_reducible exact hP0.k0)
    (first
      | (go_at_call 48; (with_reducible refine (CIN.out _ (Hv.cir hP0.hv)).mono ?_); rintro e wi ⟨rfl, hbi⟩; have hP1 := hP0.below hbi)
      | (go_at_call 47; (first | (with_reducible refine (hP1.c_labelsFor (by omega) (by omega)).mono ?_) | (with_reducible refine (hP0.c_labelsFor (by omega) (by omega)).mono ?_)); rintro e wl ⟨Al, ql, l, rfl, hl, hol, hP2⟩; obtain ⟨⟨a0, a1, a2, a3, a4, a5, a6, a7⟩, b0, b1, b2, b3, b4, b5⟩ := hP2.hv.resf; have s0 := hP2.k0; have s1 := hP2.hv.keep7a hP2.tb (Nat.le_refl _); have s2 := hP2.hv.keep7b hP2.tb (Nat.le_refl _)))
  all_goals
    go_wp2
    obtain ⟨hD, ⟨k0, k1, k2, k3⟩, j0, j1, j2⟩ := hP2.done HW.out.2.2.1 (Nat.le_refl _) (by omega) (by omega) hol
    refine bodyPost_ret (v := .tuple #[cirV c (.slice Ag c.gs.length cg) (.slice Ao c.outs.length co), gbV (.slice Ar G.rows.length cr) (.slice An G.ones.length cn) (.slice Ac G.cols.length cc), .slice Al l.length ql]) (by simp [results, Try.results6, go_sem, k0, k1, k2, k3, j0, j1, j2, cirV, gbV]) rfl ?_
    exact ⟨⟨c, _, _, _, _, _, _, G, l, rfl, HSS.out.1, HSS.out.2, hl, hD.1, hD.2.1, hD.2.2.1⟩, hD.2.2.2⟩
set_option maxRecDepth 100000 in
theorem c_spec_DrawDecodeHalved (h : Byts w cd l0) : Calls Try.prog 9 #[cd] w fun e w' => (∃ (c : Cir) (gv ov rv nv cv u : Value) (G : Gb) (l : List Int), e = .returned (.tuple #[cirV c gv ov, gbV rv nv cv, u]) ∧ AnC c ∧ G.sz ≤ 3000 ∧ l.length ≤ 101 ∧ CirIn w' gv ov c ∧ GbIn w' rv nv cv G ∧ Ints w' u l) ∧ Below w.heap.size w w' := by
  obtain ⟨A0, c0, rfl⟩ := h.form
  obtain ⟨hC, hR, hR2, hB, hS⟩ := pv_new h
  obtain ⟨W, hW⟩ : ∃ W, ((w.alloc (.cells #[.int .i64 0, .int .i64 0, .slice none 0 0, .slice none 0 0] 26)).alloc (.cells #[.slice none 0 0, .slice none 0 0, .slice none 0 0] 29)).alloc (.cells #[.slice A0 l0.length c0, .int .i64 0, .int .u64 0] 61) = W := ⟨_, rfl⟩
  rw [hW] at hC hR hR2 hB hS
  have HW := Lib.hid (And.intro hR (And.intro hR2 (And.intro hB hS)))
  have HC := Lib.hid hC
  clear h hR hR2 hB hS hC
  go_enter Try.func9, Try.ntmps9
  go_wp2_with fail
  clear hW
  refine (c_halved HC.out (by omega)).mono ?_
  rintro e w1 ⟨c, gv, ov, G, rv, nv, cv, vs, rfl, hs, hsz, hog, hoo, hot, hc1, hg1⟩
  obtain ⟨Ag, cg, eg, -⟩ := own_form hog
  obtain ⟨Ao, co, eo, -⟩ := own_form hoo
  obtain ⟨Ar, cr, er, -⟩ := hot.gbIn.rows.form
  obtain ⟨An, cn, en, -⟩ := hot.gbIn.ones
  obtain ⟨Ac, cc, ec, -⟩ := hot.gbIn.cols
  subst eg eo er en ec
  have hP := Pv.start HC.out HW.out.1 HW.out.2.1 (by have := HW.out.2.2.2; omega) hog hoo hot hc1 hg1
  have HSS := Lib.hid (And.intro hs hsz)
  obtain ⟨w2, hw2⟩ : ∃ V, (w1.alloc (.cells #[.int .i64 c.i0, .int .i64 c.i1, .slice Ag c.gs.length cg, .slice Ao c.outs.length co] 26)).alloc (.cells #[.slice Ar G.rows.length cr, .slice An G.ones.length cn, .slice Ac G.cols.length cc] 29) = V := ⟨_, rfl⟩
  rw [hw2] at hP
  have hP0 := hP.drew
  have HP := Lib.hid hP
  clear hog hoo hot hc1 hg1 hs hsz hP
  unfold cirV gbV
  go_upto_region 3 with fail
  generalize w1.heap.size = x at *
  clear hw2
  have cin := (fun (V : World) (hc : CirIn V (.slice Ag c.gs.length cg) (.slice Ao c.outs.length co) c) => c_spec_ciInputsW (w := V) hc HSS.out.1.1)
  unfold cirV at cin
  have CIN := Lib.hid cin
  have hao := HSS.out.1
  have ho41 : c.outs.length ≤ 41 := HSS.out.1.2.2
  unfold AnC at hao
  clear cin
  go_wp2_with fail
  go_region_held3 (fun w' => w'.cell? ⟨x, 0, none⟩ = some (.int .i64 c.i0) ∧ w'.cell? ⟨x, 1, none⟩ = some (.int .i64 c.i1) ∧ w'.cell? ⟨x, 2, none⟩ = some (.slice Ag c.gs.length cg) ∧ w'.cell? ⟨x, 3, none⟩ = some (.slice Ao c.outs.length co) ∧ w'.cell? ⟨x + 1, 0, none⟩ = some (.slice Ar G.rows.length cr) ∧ w'.cell? ⟨x + 1, 1, none⟩ = some (.slice An G.ones.length cn) ∧ w'.cell? ⟨x + 1, 2, none⟩ = some (.slice Ac G.cols.length cc))
    (first | with_reducible exact s0 | with_reducible exact s1 | with_reducible exact s2 | with_reducible exact hP1.k0 | with_reducible exact hP0.k0)
    (first
      | (go_at_call 48; (with_reducible refine (CIN.out _ (Hv.cir hP0.hv)).mono ?_); rintro e wi ⟨rfl, hbi⟩; have hP1 := hP0.below hbi)
      | (go_at_call 47; (first | (with_reducible refine (hP1.c_labelsFor (by omega) (by omega)).mono ?_) | (with_reducible refine (hP0.c_labelsFor (by omega) (by omega)).mono ?_)); rintro e wl ⟨Al, ql, l, rfl, hl, hol, hP2⟩; obtain ⟨⟨a0, a1, a2, a3, a4, a5, a6, a7⟩, b0, b1, b2, b3, b4, b5⟩ := hP2.hv.resf; have s0 := hP2.k0; have s1 := hP2.hv.keep7a hP2.tb (Nat.le_refl _); have s2 := hP2.hv.keep7b hP2.tb (Nat.le_refl _)))
  all_goals
    go_wp2
    obtain ⟨hD, ⟨k0, k1, k2, k3⟩, j0, j1, j2⟩ := hP2.done HW.out.2.2.1 (Nat.le_refl _) (by omega) (by omega) hol
    refine bodyPost_ret (v := .tuple #[cirV c (.slice Ag c.gs.length cg) (.slice Ao c.outs.length co), gbV (.slice Ar G.rows.length cr) (.slice An G.ones.length cn) (.slice Ac G.cols.length cc), .slice Al l.length ql]) (by simp [results, Try.results9, go_sem, k0, k1, k2, k3, j0, j1, j2, cirV, gbV]) rfl ?_
    exact ⟨⟨c, _, _, _, _, _, _, G, l, rfl, HSS.out.1, HSS.out.2, hl, hD.1, hD.2.1, hD.2.2.1⟩, hD.2.2.2⟩
set_option maxRecDepth 100000 in
theorem c_spec_DrawBendHalf (h : Byts w cd l0) : Calls Try.prog 12 #[cd] w fun e w' => (∃ (c : Cir) (gv ov rv nv cv : Value) (G : Gb) (k row mask : Int), e = .returned (.tuple #[cirV c gv ov, gbV rv nv cv, .int .i64 k, .int .i64 row, .int .i64 mask]) ∧ AnC c ∧ G.sz ≤ 3000 ∧ CirIn w' gv ov c ∧ GbIn w' rv nv cv G) ∧ Below w.heap.size w w' := by
  obtain ⟨A0, c0, rfl⟩ := h.form
  obtain ⟨hC, hR, hR2, hB, hS⟩ := pv_new h
  obtain ⟨W, hW⟩ : ∃ W, ((w.alloc (.cells #[.int .i64 0, .int .i64 0, .slice none 0 0, .slice none 0 0] 26)).alloc (.cells #[.slice none 0 0, .slice none 0 0, .slice none 0 0] 29)).alloc (.cells #[.slice A0 l0.length c0, .int .i64 0, .int .u64 0] 61) = W := ⟨_, rfl⟩
  rw [hW] at hC hR hR2 hB hS
  have HW := Lib.hid (And.intro hR (And.intro hR2 (And.intro hB hS)))
  have HC := Lib.hid hC
  clear h hR hR2 hB hS hC
  go_enter Try.func12, Try.ntmps12
  go_wp2_with fail
  clear hW
  refine (c_halved HC.out (by omega)).mono ?_
  rintro e w1 ⟨c, gv, ov, G, rv, nv, cv, vs, rfl, hs, hsz, hog, hoo, hot, hc1, hg1⟩
  obtain ⟨Ag, cg, eg, -⟩ := own_form hog
  obtain ⟨Ao, co, eo, -⟩ := own_form hoo
  obtain ⟨Ar, cr, er, -⟩ := hot.gbIn.rows.form
  obtain ⟨An, cn, en, -⟩ := hot.gbIn.ones
  obtain ⟨Ac, cc, ec, -⟩ := hot.gbIn.cols
  subst eg eo er en ec
  have hP := Pv.start HC.out HW.out.1 HW.out.2.1 (by have := HW.out.2.2.2; omega) hog hoo hot hc1 hg1
  have HSS := Lib.hid (And.intro hs hsz)
  obtain ⟨w2, hw2⟩ : ∃ V, (w1.alloc (.cells #[.int .i64 c.i0, .int .i64 c.i1, .slice Ag c.gs.length cg, .slice Ao c.outs.length co] 26)).alloc (.cells #[.slice Ar G.rows.length cr, .slice An G.ones.length cn, .slice Ac G.cols.length cc] 29) = V := ⟨_, rfl⟩
  rw [hw2] at hP
  have hP0 := hP.drew
  have HP := Lib.hid hP
  clear hog hoo hot hc1 hg1 hs hsz hP
  unfold cirV gbV
  go_upto_region 3 with fail
  generalize w1.heap.size = x at *
  clear hw2
  have hrl : G.rows.length ≤ 3000 := by have := HSS.out.2; unfold Gb.sz at this; omega
  have hk1 : (G.rows.length : Int) + 1 ≤ 9223372036854775807 := by omega
  have PK := Lib.hid (fun (V : World) (m : Nat) (k : Int) (hm : m ≤ 1000) (hk : k ≤ 9223372036854775807) (h : Pv W (w.heap.size + 2) (.slice A0 l0.length c0) m w.heap.size (w.heap.size + 1) x (x + 1) 29 c (.slice Ag c.gs.length cg) (.slice Ao c.outs.length co) (.slice Ar G.rows.length cr) (.slice An G.ones.length cn) (.slice Ac G.cols.length cc) vs G V) => h.c_pick (Nat.le_trans hm (by omega)) hk)
  have HO9 := Lib.hid (And.intro (show w.heap.size ≤ w.heap.size + 1 by omega) (show w.heap.size ≤ w.heap.size + 2 by omega))
  go_wp2_with fail
  have hw1 : IntKind.i64.wrap ((G.rows.length : Int) + 1) = (G.rows.length : Int) + 1 := IntWalk.i64_in _ (by omega)
  go_region_held3 (fun w' => w'.cell? ⟨x, 0, none⟩ = some (.int .i64 c.i0) ∧ w'.cell? ⟨x, 1, none⟩ = some (.int .i64 c.i1) ∧ w'.cell? ⟨x, 2, none⟩ = some (.slice Ag c.gs.length cg) ∧ w'.cell? ⟨x, 3, none⟩ = some (.slice Ao c.outs.length co) ∧ w'.cell? ⟨x + 1, 0, none⟩ = some (.slice Ar G.rows.length cr) ∧ w'.cell? ⟨x + 1, 1, none⟩ = some (.slice An G.ones.length cn) ∧ w'.cell? ⟨x + 1, 2, none⟩ = some (.slice Ac G.cols.length cc))
    (first | with_reducible exact s0 | with_reducible exact s1 | with_reducible exact s2 | with_reducible exact hPd.k0 | with_reducible exact hPc.k0 | with_reducible exact hPb.k0 | with_reducible exact hPa.k0 | with_reducible exact hP0.k0)
    (first
      | (go_at_call_of 64 (Value.int IntKind.i64 16); (with_reducible refine (PK.out _ _ _ (by decide) (by decide) hPa).mono ?_); rintro e wb ⟨r2, rfl, h20, -, hPb⟩)
      | (go_at_call_of 64 (Value.int IntKind.i64 2); (with_reducible refine (PK.out _ _ _ (by decide) (by decide) hPb).mono ?_); rintro e wc ⟨r3, rfl, h30, -, hPc⟩)
      | (go_at_call_of 64 (Value.int IntKind.i64 20); (with_reducible refine (PK.out _ _ _ (by decide) (by decide) hPc).mono ?_); rintro e wd ⟨r4, rfl, h40, -, hPd⟩)
      | (go_at_call 64; (with_reducible refine (PK.out _ _ _ (by decide) hk1 hP0).mono ?_); rintro e wa ⟨r1, rfl, h10, -, hPa⟩)
      | (go_at_call 65; (with_reducible refine (Pv.c_label hPd (by decide)).mono ?_); rintro e wl ⟨mk, rfl, hP2⟩; obtain ⟨⟨a0, a1, a2, a3, a4, a5, a6, a7⟩, b0, b1, b2, b3, b4, b5⟩ := hP2.hv.resf; have s0 := hP2.k0; have s1 := hP2.hv.keep7a hP2.tb (Nat.le_refl _); have s2 := hP2.hv.keep7b hP2.tb (Nat.le_refl _)))
  all_goals
    clear hw1
    go_wp2
    obtain ⟨hD, ⟨k0, k1, k2, k3⟩, j0, j1, j2⟩ := hP2.done (u := .slice none 0 0) (l := []) HW.out.2.2.1 (Nat.le_refl _) HO9.out.1 HO9.out.2 (OwnI.nil _ _)
    refine bodyPost_ret (v := .tuple #[cirV c (.slice Ag c.gs.length cg) (.slice Ao c.outs.length co), gbV (.slice Ar G.rows.length cr) (.slice An G.ones.length cn) (.slice Ac G.cols.length cc), .int .i64 (IntKind.i64.wrap (r1 - IntKind.i64.wrap (r2.tdiv 15))), .int .i64 (IntKind.i64.wrap (r3 + IntKind.i64.wrap (r4.tdiv 19))), .int .i64 mk]) (by simp [results, Try.results12, go_sem, k0, k1, k2, k3, j0, j1, j2, cirV, gbV]) rfl ?_
    exact ⟨⟨c, _, _, _, _, _, G, _, _, _, rfl, HSS.out.1, HSS.out.2, hD.1, hD.2.1⟩, hD.2.2.2⟩
set_option maxRecDepth 100000 in
theorem c_spec_DrawHalfCipher (h : Byts w cd l0) : Calls Try.prog 15 #[cd] w fun e w' => (∃ n l s : Int, e = .returned (.tuple #[.int .i64 n, .int .i64 l, .int .i64 s])) ∧ Below w.heap.size w w' := by
  obtain ⟨A0, c0, rfl⟩ := h.form
  replace h := cur_new h
  obtain ⟨W, hW⟩ : ∃ W, w.alloc (.cells #[.slice A0 l0.length c0, .int .i64 0, .int .u64 0] 61) = W := ⟨_, rfl⟩
  have HB := Lib.hid (show Below w.heap.size w W by rw [← hW]; exact (Below.refl _ _).alloc (Nat.le_refl _) _)
  have hg0 : W.grownBy W (some w.heap.size) := only_refl _ _
  rw [hW] at h
  have HC := Lib.hid h
  have hgl := h.lt
  clear h
  go_enter Try.func15, Try.ntmps15
  go_wp2_with fail
  clear hW
  refine (c_among (l := [0, 1, 5, 1000, 1001]) (HC.out.below ((Below.refl W.heap.size W).alloc (Nat.le_refl _) (.cells #[.int .i64 0, .int .i64 1, .int .i64 5, .int .i64 1000, .int .i64 1001] 3))) (by omega) (ints_lit _ _ _ rfl (by simp)) (by simp) (by simp) (by rintro b hb; simp [Value.ownBlock] at hb; omega)).mono ?_
  rintro e w1 ⟨v, rfl, ⟨r1, rfl, -⟩, hc1, hg1⟩
  have HG1 := Lib.hid (only_trans (only_below ((Below.refl W.heap.size W).alloc (Nat.le_refl _) (.cells #[.int .i64 0, .int .i64 1, .int .i64 5, .int .i64 1000, .int .i64 1001] 3)) (some w.heap.size)) hg1)
  have HC1 := Lib.hid hc1
  clear hc1 hg1
  go_wp2_with fail
  refine (c_label HC1.out (by omega)).mono ?_
  rintro e w2 ⟨v, rfl, ⟨r2, rfl, -, -⟩, hc2, hg2⟩
  have HG2 := Lib.hid (only_trans HG1.out hg2)
  have HC2 := Lib.hid hc2
  clear hc2 hg2
  go_wp2_with fail
  refine (c_pick HC2.out (by omega) (by omega)).mono ?_
  rintro e w3 ⟨v, rfl, ⟨r3, rfl, h30, h31, -⟩, hc3, hg3⟩
  have HG3 := Lib.hid (only_trans HG2.out hg3)
  have HC3 := Lib.hid hc3
  clear hc3 hg3
  go_wp2_with fail
  refine (c_pick HC3.out (by omega) (by omega)).mono ?_
  rintro e w4 ⟨v, rfl, ⟨r4, rfl, h40, h41, h42⟩, hc4, hg4⟩
  have HG4 := Lib.hid (only_trans HG3.out hg4)
  clear hc4 hg4
  have hq : r4.tdiv 19 = 0 ∨ r4.tdiv 19 = 1 := by rw [Int.tdiv_eq_ediv_of_nonneg h40]; omega
  go_wp2
  go_ret3
  exact ⟨⟨_, _, _, rfl⟩, HB.out.grown HG4.out HB.out.size (fun k hk => by injection hk with hk; omega)⟩
end
end Go.Proofs.Ytejeppjmlgfiaaa
