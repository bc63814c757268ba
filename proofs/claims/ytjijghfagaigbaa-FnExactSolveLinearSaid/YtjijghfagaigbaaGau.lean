/- The contract of the program's elimination. Conditions: the system is one of a field, with as many equations as unknowns. -/
import Derived.Test.YtjijghfagaigbaaGauM
import Derived.Deep.RegionLaw
import Derived.BigRegion
namespace Go.Proofs.Ytjijghfagaigbaa
open Go.RowKit
set_option linter.unusedVariables false

theorem below_row3 {w wr w2 w3 : World} {v : Value} {n : Nat} {xs : List Value} {E sz : Nat} {o : Obj} (h : Below w.heap.size w wr) (h2 : Below wr.heap.size wr w2) (hown : wr.ownsRow w.heap.size E sz v n xs) (hg : (w2.alloc o).grownBy w3 v.ownBlock) : Below w.heap.size w w3 :=
  ((below_step h h2).alloc (Nat.le_trans h.size h2.size) o).grown hg (by have := h.size; have := h2.size; simp; omega) (fun g hg' => own_ge hown g hg')
set_option maxRecDepth 100000 in
set_option maxHeartbeats 4000000 in
theorem c_impl_solveSquare {vr vy : Value} {rows : List (List Int)} {right : List Int} {p : Int} {w : World} (hx : RowsIn w vr rows) (hy : Ints w vy right) (hb : sysB p rows right = true) :
    Calls Try.prog 23 #[.int .i64 p, vr, vy] w (RetIB w (squareM p rows right)) := by
  obtain ⟨hp, hn1, hn6, hrl, hyb, hrb⟩ := sysB_of hb
  have HSB := Lib.hid hb
  have HYB := Lib.hid hyb
  have HRB := Lib.hid hrb
  have HRL := Lib.hid hrl
  have HY := Lib.hid hy
  clear hb hyb hrb hrl
  have hp0 : ¬ p = 0 := by omega
  obtain ⟨A, c, rfl, hlc, hcm, hat⟩ := hx.form
  obtain ⟨A', c', rfl, hlc', hcm', hrd'⟩ := hy
  have HAT := Lib.hid hat
  have HRD := Lib.hid hrd'
  clear hx hat hrd' hlc hlc' hcm hcm'
  have hrl2 : right.length ≤ 6 := by have := HRL.out; omega
  go_enter Try.func23, Try.ntmps23
  go_wp2
  go_loopw [9, 26] (fun m i wr => ∃ k : Nat, k ≤ rows.length ∧ i = .int .i64 k ∧ (∃ vs, Hid (OwnRs wr w.heap.size m vs (augM rows right k))) ∧ Hid (Below w.heap.size w wr)) (fun _ i _ => rows.length - (intOf i).toNat)
  case atStart => exact ⟨0, Nat.zero_le _, rfl, ⟨[], Lib.hid (OwnRs.empty (Nat.le_refl _))⟩, Lib.hid ((Below.refl _ _).alloc (Nat.le_refl _) _)⟩
  case round =>
    obtain ⟨k, hk, rfl, ⟨vs, HO⟩, HB⟩ := hrel
    obtain ⟨Am, cm, rfl, -⟩ := HO.out.rowsIn.form
    rw [augM_length] at HO ⊢
    obtain ⟨wr, rfl⟩ : ∃ W, W = wr := ⟨wr, rfl⟩
    by_cases hlt : k < rows.length
    · obtain ⟨b, o, A1, r, c1, rfl, hbl, hrk, hc0, hi⟩ := HAT.out k hlt
      have hcell := (HB.out.cell (p := ⟨b, o + k, none⟩) hbl).trans hc0
      have hrr := HRB.out r (List.mem_of_getElem? hrk)
      obtain ⟨b', o', y, rfl, hbl', hyk, hcell0⟩ := HRD.out.int_at (k := k) (by have := HRL.out; omega)
      have hcell' := (HB.out.cell (p := ⟨b', o' + k, none⟩) hbl').trans hcell0
      have HI := Lib.hid (hi.below HB.out)
      have HAU := Lib.hid (show augM rows right (k + 1) = augM rows right k ++ [r ++ [y]] by
        rw [augM_succ, List.getD_eq_getElem?_getD, List.getD_eq_getElem?_getD, hrk, hyk]; rfl)
      have HRL3 := Lib.hid hrr.1
      have hr6 : r.length ≤ 6 := by have := hrr.1; omega
      have HOW := Lib.hid (show wr.ownsRow w.heap.size 23 1 _ k vs by have h := HO.out.outer; rw [augM_length] at h; exact h)
      have hky : (k : Int) < (right.length : Int) := by have := HRL.out; omega
      have hszb := HB.out.size
      have HLY : (r ++ [y]).length = r.length + 1 := by simp
      clear hc0 hi hrk hcell0 hyk hrr
      go_wp2_with fail
      go_region_law (first
        | (refine step_app1 (B := wr.heap.size) (by rfl) (by rfl) Try.underlying23 info_int rfl (HU.out.alloc _) (cell_new w1 _ _) (by rfl) (by rfl) rfl (by unfold maxLen; omega) (by omega) (by simp; omega) ?_; intro v2 w2 ho hg hfr; have hb2 := below_app (HB1.out.alloc hs1 _) (HU.out.alloc _) hg (Nat.le_refl _); have HU2 := Lib.hid (OwnI.snoc ho); obtain ⟨A2, c2, rfl, -⟩ := HU2.out.ints; rw [HLY] at HU2)
        | (refine step_app1 (B := wr.heap.size) (by rfl) (by rfl) Try.underlying23 info_int rfl HU.out hbox (by rfl) (by rfl) rfl (by unfold maxLen; omega) (by omega) hs1 ?_; intro v2 w2 ho hg hfr; have hb2 := below_app HB1.out HU.out hg (Nat.le_refl _); have HU2 := Lib.hid (OwnI.snoc ho); obtain ⟨A2, c2, rfl, -⟩ := HU2.out.ints; rw [HLY] at HU2)
        | (refine step_app1 (B := w.heap.size) (by rfl) (by rfl) Try.underlying22 info_ints rfl ((own_below HOW.out hb2).alloc _) (cell_new w2 _ _) (by rfl) (by rfl) rfl (by unfold maxLen; omega) (by omega) (by have := hb2.size; simp; omega) ?_; intro v3 w3 ho3 hg3 hfr3; skip)
        | (go_simp; go_at_call 32; refine (c_slices_Clone (by first | exact HI.out.drew | exact (HI.out.drew).alloc _) (by omega)).mono ?_; rintro e w1 ⟨u, rfl, hu, hb1⟩; obtain ⟨Au, cu, rfl, -⟩ := hu.ints; have HB1 : Hid (Below wr.heap.size wr w1) := Lib.hid (by first | exact below_step ((Below.refl _ _).drew) hb1 | exact below_step (((Below.refl _ _).drew).alloc (Nat.le_refl _) _) hb1); have hs1 := HB1.out.size; have hyw := (HB1.out.cell (p := ⟨b', o' + k, none⟩) (World.block_lt_of_cell? wr _ hcell')).trans hcell'; (try have hbox : w1.cell? ⟨wr.heap.size, 0, none⟩ = some (.int .i64 y) := (hb1.cell (p := ⟨wr.heap.size, 0, none⟩) (by simp)).trans (cell_new wr.drew _ _)); have HU : Hid (OwnI w1 wr.heap.size (.slice Au r.length cu) r) := Lib.hid (hu.mono (by simp))))
      all_goals
        have HON := Lib.hid (OwnRs.snoc HO.out (hb2.alloc hb2.size (.cells #[.slice A2 (r.length + 1) c2] 23)) HB.out.size (HU2.out.alloc _) (by rw [augM_length]; exact ho3) hg3 hfr3)
        have HBN := Lib.hid (below_row3 HB.out hb2 HO.out.outer hg3)
        rw [← HAU.out] at HON
        clear ho3 hg3 hfr3 ho hg hfr
        go_wp2
        go_roundw
        case rel => exact ⟨k + 1, by omega, by go_num, ⟨_, HON⟩, HBN⟩
        case measure => simp [intOf]; omega
    · obtain rfl : k = rows.length := by omega
      obtain ⟨g, cap, ev, hc1, hc2, hsys⟩ := Sys.new HO.out (augM_length _ _ _) (by omega) (augM_rows HSB.out)
      injection ev with e1 e2 e3
      subst e1 e3
      clear e2
      have HS := Lib.hid hsys
      clear hsys HO HAT HRD
      go_wp2
      go_loopw [44] (fun i wr => ∃ c : Nat, c ≤ rows.length ∧ i = .int .i64 c ∧ ∃ (vs : List Value) (M : List (List Int)), Hid (Sys wr w.heap.size g cm vs p rows.length M) ∧ Hid (gaussF p rows.length (rows.length - c) c M = gaussF p rows.length rows.length 0 (augM rows right rows.length)) ∧ Hid (Below w.heap.size w wr)) (fun i _ => rows.length - (intOf i).toNat)
      case atStart => exact ⟨0, Nat.zero_le _, rfl, vs, _, HS, Lib.hid (by rw [Nat.sub_zero]), HB⟩
      case round =>
        clear HS HB vs
        obtain ⟨c0, hc, rfl, vs, M, HS, HG, HB⟩ := hrel
        obtain ⟨wa, rfl⟩ : ∃ W, W = wr := ⟨wr, rfl⟩
        by_cases hlt : c0 < rows.length
        · go_wp2
          go_loop [13] (fun i => ∃ k : Nat, c0 ≤ k ∧ k ≤ rows.length ∧ i = .int .i64 k ∧ Hid (pivF M c0 (rows.length - k) k = pivF M c0 (rows.length - c0) c0)) (fun i => rows.length - (intOf i).toNat)
          case atStart => exact ⟨c0, Nat.le_refl _, hc, rfl, Lib.hid rfl⟩
          case round =>
            obtain ⟨k, hck, hk, rfl, HP⟩ := hrel
            by_cases hlk : k < rows.length
            · obtain ⟨gk, ck, rk, hvk, hmk, hgk, hrk, hbk, hcellk, hok, hBk⟩ := HS.out.row hlk
              obtain ⟨x, hx, hgx, hx0, hx1, hcx⟩ := row_at hok hrk hbk (d := c0) (by omega)
              have HE := Lib.hid (show ent M k c0 = x by unfold ent; rw [hgk, hgx])
              have HVK := Lib.hid hvk
              clear hvk hmk hgk hrk hbk hok hgx hx
              by_cases hz : x = 0
              · subst hz
                go_wp2
                go_round
                case rel => exact ⟨k + 1, by omega, by omega, by go_num, Lib.hid (by rw [← pivF_go hlk HE.out]; exact HP.out)⟩
                case measure => simp [intOf]; omega
              · have HPV := Lib.hid (show pivF M c0 (rows.length - c0) c0 = k by rw [← HP.out]; exact pivF_stop hlk (by rw [HE.out]; exact hz))
                obtain ⟨gc, cc, rc, hvc, hmc, hgc, hrc, hbc, hcellc, hoc, hBc⟩ := HS.out.row hlt
                have hfc := HS.out.free c0
                have hfk := HS.out.free k
                have hsw := HS.out.swap hlt hlk hvc HVK.out
                have hblk := HS.out.blk
                have HB1 := Lib.hid ((HB.out.setCell (p := ⟨g, c0, none⟩) hblk.1 (.slice (some ⟨gk, 0, none⟩) (rows.length + 1) ck)).setCell (p := ⟨g, k, none⟩) hblk.1 (.slice (some ⟨gc, 0, none⟩) (rows.length + 1) cc))
                clear hvc hmc hgc hrc hbc hoc hblk
                obtain ⟨vmid, hmid⟩ := cell?_setCell_some (p := ⟨g, c0, none⟩) (x := .slice (some ⟨gk, 0, none⟩) (rows.length + 1) ck) hcellk
                obtain ⟨w1, hw1⟩ : ∃ W, (wa.setCell ⟨g, c0, none⟩ (.slice (some ⟨gk, 0, none⟩) (rows.length + 1) ck)).setCell ⟨g, k, none⟩ (.slice (some ⟨gc, 0, none⟩) (rows.length + 1) cc) = W := ⟨_, rfl⟩
                rw [hw1] at hsw HB1
                obtain ⟨g1, c1, r1, hv1, hm1, hg1, hl1, hb1, hcell1, ho1, hB1⟩ := hsw.row hlt
                obtain ⟨x1, hx1', hgx1, hx10, hx11, hcx1⟩ := row_at ho1 hl1 hb1 (d := c0) (by omega)
                have HS1 := Lib.hid hsw
                have HV1 := Lib.hid hv1
                generalize hvs : (vs.set c0 (Value.slice (some ⟨gk, 0, none⟩) (rows.length + 1) ck)).set k (Value.slice (some ⟨gc, 0, none⟩) (rows.length + 1) cc) = vs1 at *
                have HE1 := Lib.hid (show ent (swapM M c0 k) c0 c0 = x1 by unfold ent; rw [hg1, hgx1])
                have HG1 := Lib.hid hg1
                have HM1 := Lib.hid hm1
                have HL1 := Lib.hid hl1
                have HBD1 := Lib.hid hb1
                clear hsw hv1 hm1 hg1 hl1 hb1 ho1 hgx1 hx1' hvs
                have hib := invM_bd (p := p) (a := x1) (by omega)
                go_wp2
                go_region
                go_wp2_with (go_at_call 33; refine (c_impl_inverse (by omega) (by omega)).mono ?_; rintro e w' ⟨rfl, rfl⟩)
                clear hw1 hmid hcellk hcellc hfc hfk
                have HRS := Lib.hid (show r1.map (fun x => x * invM p x1 % p) = rowS p (swapM M c0 k) c0 by unfold rowS; rw [HG1.out, HE1.out])
                have HMS := Lib.hid (show (swapM M c0 k).set c0 r1 = swapM M c0 k from set_same_at HM1.out)
                have hcl1 : c0 < (swapM M c0 k).length := (List.getElem?_eq_some_iff.1 HM1.out).1
                generalize invM p x1 = si at *
                generalize hms : swapM M c0 k = MS at *
                go_loopw [94] (fun i wr => ∃ d : Nat, d ≤ rows.length + 1 ∧ i = .int .i64 d ∧ Hid (Sys wr w.heap.size g cm vs1 p rows.length (MS.set c0 (mapM' (fun x => x * si % p) r1 d))) ∧ Hid (Below w.heap.size w wr)) (fun i _ => rows.length + 1 - (intOf i).toNat)
                case atStart => exact ⟨0, Nat.zero_le _, rfl, Lib.hid (by rw [mapM_zero, HMS.out]; exact HS1.out.drewN 1), Lib.hid (below_drewN HB1.out 1)⟩
                case round =>
                  clear HS1 hcell1 hcx1
                  obtain ⟨d, hd, rfl, HS1, HBd⟩ := hrel
                  obtain ⟨wb, rfl⟩ : ∃ W, W = wr := ⟨wr, rfl⟩
                  by_cases hld : d < rows.length + 1
                  · obtain ⟨y, hy⟩ : ∃ y, r1[d]? = some y := ⟨_, List.getElem?_eq_getElem (by rw [HL1.out]; exact hld)⟩
                    have hyb := HBD1.out y (List.mem_of_getElem? hy)
                    have hst := mapM_step (fun x => x * si % p) hy
                    have hrr : (MS.set c0 (mapM' (fun x => x * si % p) r1 d))[c0]? = some (mapM' (fun x => x * si % p) r1 d) := List.getElem?_set_self hcl1
                    obtain ⟨_, _, hcb, hob, hBb⟩ := HS1.out.at_ HV1.out hrr
                    have hcy := hob.rd hst.1
                    have hfr := hob.free d
                    have hml := mul_bd hyb.1 (show y ≤ 251 by omega) hib.1 (show si ≤ 251 by omega)
                    have HSN := Lib.hid (HS1.out.put HV1.out hrr d (mod_bd (y * si) (p := p) (by omega)))
                    rw [List.set_set, hst.2] at HSN
                    have HBN := Lib.hid (HBd.out.setCell (p := ⟨g1, d, none⟩) hBb (.int .i64 (y * si % p)))
                    clear hst hrr hob hy
                    go_wp2
                    go_region
                    go_wp2
                    go_roundw
                    case rel => exact ⟨d + 1, by omega, by go_num, Lib.hid (HSN.out.drewN 1), Lib.hid (below_drewN HBN.out 1)⟩
                    case measure => simp [intOf]; omega
                  · have HDE := Lib.hid (show d = rows.length + 1 by omega)
                    have HS2 : Hid (Sys wb w.heap.size g cm vs1 p rows.length (MS.set c0 (rowS p MS c0))) := Lib.hid (by have h := HS1.out; rw [HDE.out, ← HL1.out, mapM_all, HRS.out] at h; exact h)
                    have HSTEP := Lib.hid (show stepG p rows.length c0 M = elimN p c0 (MS.set c0 (rowS p MS c0)) rows.length by unfold stepG; rw [HPV.out, hms])
                    have HB2 := HBd
                    clear HS1 HBd HRS HMS HM1 HG1 HL1 HBD1 HE1 hms
                    generalize MS.set c0 (rowS p MS c0) = M2 at *
                    obtain ⟨gx, cx, rx, hvx, _, _, _, _, hcx, _, _⟩ := HS2.out.row hlt
                    clear hvx
                    go_wp2
                    go_loopw [117] (fun i wr => ∃ j : Nat, j ≤ rows.length ∧ i = .int .i64 j ∧ Hid (Sys wr w.heap.size g cm vs1 p rows.length (elimN p c0 M2 j)) ∧ Hid (Below w.heap.size w wr)) (fun i _ => rows.length - (intOf i).toNat)
                    case atStart => exact ⟨0, Nat.zero_le _, rfl, HS2, HB2⟩
                    case round =>
                      clear HS2 HB2 hcx
                      obtain ⟨j, hj, rfl, HSj, HBj⟩ := hrel
                      obtain ⟨wc, rfl⟩ : ∃ W, W = wr := ⟨wr, rfl⟩
                      by_cases hlj : j < rows.length
                      · have HES := Lib.hid (elimN_succ p c0 M2 j)
                        rcases he : ((j : Int) == (c0 : Int)) with _ | _
                        · have hjc : ¬ j = c0 := by have h9 := he; simp at h9; omega
                          obtain ⟨gj, cj, rj, hvj, hmj, hgj, hrj, hbj, hcellj, hoj, hBj⟩ := HSj.out.row hlj
                          obtain ⟨xj, hxj, hgxj, hxj0, hxj1, hcxj⟩ := row_at hoj hrj hbj (d := c0) (by omega)
                          obtain ⟨gc2, cc2, rc2, hvc2, hmc2, hgc2, hrc2, hbc2, hcellc2, hoc2, hBc2⟩ := HSj.out.row hlt
                          rw [HV1.out] at hvc2
                          injection hvc2 with hvc2; injection hvc2 with e1 e2 e3; injection e1 with e1; injection e1 with e1
                          subst e1 e3
                          have HEL := Lib.hid (show elimN p c0 M2 (j + 1) = (elimN p c0 M2 j).set j (List.zipWith (elimF p xj) rj rc2) by
                            rw [HES.out]; unfold elimR; rw [if_neg hjc]; unfold ent; rw [hgj, hgxj, hgc2])
                          generalize elimN p c0 M2 j = Mj at *
                          have hjl : j < Mj.length := (List.getElem?_eq_some_iff.1 hmj).1
                          have HMJ := Lib.hid (show Mj.set j rj = Mj from set_same_at hmj)
                          have HVJ := Lib.hid hvj
                          have HMC := Lib.hid hmc2
                          have HRJ := Lib.hid (And.intro hrj hbj)
                          have HRC := Lib.hid (And.intro hrc2 hbc2)
                          clear hvj hmj hgj hrj hbj hoj hBj hxj hgxj hmc2 hgc2 hrc2 hbc2 hcellc2 hoc2 hBc2 HES
                          go_wp2
                          go_loopw [137] (fun i wr => ∃ d : Nat, d ≤ rows.length + 1 ∧ i = .int .i64 d ∧ Hid (Sys wr w.heap.size g cm vs1 p rows.length (Mj.set j (accM (elimF p xj) rj rc2 d))) ∧ Hid (Below w.heap.size w wr)) (fun i _ => rows.length + 1 - (intOf i).toNat)
                          case atStart => exact ⟨0, Nat.zero_le _, rfl, Lib.hid (by rw [accM_zero, HMJ.out]; exact HSj.out), HBj⟩
                          case round =>
                            clear HSj HBj hcellj hcxj
                            obtain ⟨d, hd, rfl, HSd, HBd⟩ := hrel
                            obtain ⟨wd, rfl⟩ : ∃ W, W = wr := ⟨wr, rfl⟩
                            have hd0 : (0 : Int) ≤ (d : Int) := Int.natCast_nonneg _
                            by_cases hld : d < rows.length + 1
                            · obtain ⟨x, hx⟩ : ∃ x, rj[d]? = some x := ⟨_, List.getElem?_eq_getElem (by rw [HRJ.out.1]; exact hld)⟩
                              obtain ⟨y, hy⟩ : ∃ y, rc2[d]? = some y := ⟨_, List.getElem?_eq_getElem (by rw [HRC.out.1]; exact hld)⟩
                              have hxb := HRJ.out.2 x (List.mem_of_getElem? hx)
                              have hyb := HRC.out.2 y (List.mem_of_getElem? hy)
                              have hst := accM_step (elimF p xj) (by rw [HRJ.out.1, HRC.out.1]) hx hy
                              have hrrj : (Mj.set j (accM (elimF p xj) rj rc2 d))[j]? = some (accM (elimF p xj) rj rc2 d) := List.getElem?_set_self hjl
                              have hrrc : (Mj.set j (accM (elimF p xj) rj rc2 d))[c0]? = some rc2 := by rw [List.getElem?_set_ne hjc]; exact HMC.out
                              obtain ⟨_, _, hcbj, hobj, hBbj⟩ := HSd.out.at_ HVJ.out hrrj
                              obtain ⟨_, _, hcbc, hobc, hBbc⟩ := HSd.out.at_ HV1.out hrrc
                              have hcx := hobj.rd hst.1
                              have hcy := hobc.rd hy
                              have hfr := hobj.free d
                              have hml := mul_bd (show 0 ≤ p - xj by omega) (show p - xj ≤ 251 by omega) hyb.1 (show y ≤ 251 by omega)
                              have HSN := Lib.hid (HSd.out.put HVJ.out hrrj d (y := (x + (p - xj) * y) % p) (mod_bd _ (by omega)))
                              rw [List.set_set, show (accM (elimF p xj) rj rc2 d).set d ((x + (p - xj) * y) % p) = accM (elimF p xj) rj rc2 (d + 1) from hst.2] at HSN
                              have HBN := Lib.hid (HBd.out.setCell (p := ⟨gj, d, none⟩) hBbj (.int .i64 ((x + (p - xj) * y) % p)))
                              clear hst hrrj hrrc hobj hobc hx hy
                              go_wp2
                              go_region
                              go_wp2
                              go_roundw
                              case rel => exact ⟨d + 1, by omega, by go_num, Lib.hid (HSN.out.drewN 1), Lib.hid (below_drewN HBN.out 1)⟩
                              case measure => simp [intOf]; omega
                            · have HDE := Lib.hid (show d = rows.length + 1 by omega)
                              have HSN : Hid (Sys wd w.heap.size g cm vs1 p rows.length (elimN p c0 M2 (j + 1))) := Lib.hid (by
                                have h := HSd.out
                                rw [HDE.out] at h
                                rw [accM_all _ (by rw [HRJ.out.1]; omega) (by rw [HRC.out.1]; omega), ← HEL.out] at h; exact h)
                              go_wp2
                              go_roundw
                              case rel => exact ⟨j + 1, by omega, by go_num, HSN, HBd⟩
                              case measure => simp [intOf]; omega
                        · have hjc : j = c0 := by have h9 := he; simp at h9; omega
                          have HSN : Hid (Sys wc w.heap.size g cm vs1 p rows.length (elimN p c0 M2 (j + 1))) := Lib.hid (by rw [HES.out]; unfold elimR; rw [if_pos hjc]; exact HSj.out)
                          go_wp2
                          go_roundw
                          case rel => exact ⟨j + 1, by omega, by go_num, HSN, HBj⟩
                          case measure => simp [intOf]; omega
                      · obtain rfl : j = rows.length := by omega
                        have HGN := Lib.hid (show gaussF p rows.length (rows.length - (c0 + 1)) (c0 + 1) (elimN p c0 M2 rows.length) = gaussF p rows.length rows.length 0 (augM rows right rows.length) by
                          rw [← HG.out, gaussF_go hlt (by rw [HPV.out]; omega), HSTEP.out])
                        go_wp2
                        go_roundw
                        case rel => exact ⟨c0 + 1, by omega, by go_num, vs1, _, HSj, HGN, HBj⟩
                        case measure => simp [intOf]; omega
            · obtain rfl : k = rows.length := by omega
              have HM := Lib.hid (show squareM p rows right = none by
                unfold squareM; rw [← HG.out, gaussF_no hlt (by rw [← HP.out]; exact pivF_end _ _ _)]; rfl)
              go_wp2
              go_ret2; rw [HM.out]; exact RetIB.no_below HB.out
        · obtain rfl : c0 = rows.length := by omega
          have HM := Lib.hid (show squareM p rows right = some (lastM rows.length M) by unfold squareM; rw [← HG.out, Nat.sub_self]; rfl)
          have HOE := Lib.hid (OwnI.empty (B := wa.heap.size) (w := wa) (Nat.le_refl _))
          go_wp2
          go_loopw [19, 171] (fun o i wr => ∃ j : Nat, j ≤ rows.length ∧ i = .int .i64 j ∧ Hid (OwnI wr wa.heap.size o (lastM rows.length (M.take j))) ∧ Hid (Below wa.heap.size wa wr)) (fun _ i _ => rows.length - (intOf i).toNat)
          case atStart => exact ⟨0, Nat.zero_le _, rfl, HOE, Lib.hid ((Below.refl _ _).alloc (Nat.le_refl _) _)⟩
          case round =>
            clear HOE
            obtain ⟨j, hj, rfl, HO, HBq⟩ := hrel
            obtain ⟨wq, rfl⟩ : ∃ W, W = wr := ⟨wr, rfl⟩
            obtain ⟨Ao, co, rfl, -⟩ := HO.out.ints
            have hszq := HBq.out.size
            by_cases hlj : j < rows.length
            · obtain ⟨gj, cj, rj, hvj, hmj, hgj, hrj, hbj, hcellj, hoj, hBj⟩ := (HS.out.below HBq.out).row hlj
              obtain ⟨xj, hxj, hgxj, hxj0, hxj1, hcxj⟩ := row_at hoj hrj hbj (d := rows.length) (by omega)
              have HT := Lib.hid (show lastM rows.length (M.take (j + 1)) = lastM rows.length (M.take j) ++ [xj] by rw [take_snoc hmj]; simp only [lastM, List.map_append, List.map_cons, List.map_nil, hgxj])
              have hlen : (lastM rows.length (M.take j)).length = j := by unfold lastM; rw [List.length_map, List.length_take, HS.out.len]; omega
              generalize lastM rows.length (M.take j) = L at *
              clear hvj hmj hgj hrj hbj hoj hBj hxj hgxj
              go_wp2_with (at_builtin; refine wp_app1 (B := wa.heap.size) rfl rfl Try.underlying23 info_int rfl HO.out rfl rfl rfl (by unfold maxLen; omega) (by omega) hszq ?_; intro v' w2 ho hg hfr)
              have HBn := Lib.hid (below_app HBq.out HO.out hg (Nat.le_refl _))
              go_roundw
              case rel => exact ⟨j + 1, by omega, by go_num, Lib.hid (by rw [HT.out]; exact OwnI.snoc ho), HBn⟩
              case measure => simp [intOf]; omega
            · obtain rfl : j = rows.length := by omega
              have HOM : Hid (OwnI wq wa.heap.size (.slice Ao (lastM rows.length (M.take rows.length)).length co) (lastM rows.length M)) := Lib.hid (by
                have h := HO.out
                rw [show M.take rows.length = M from List.take_of_length_le (by rw [HS.out.len]; omega)] at h ⊢; exact h)
              go_wp2
              go_ret2
              rw [HM.out]
              exact RetIB.yes (HOM.out.mono HB.out.size) (below_step HB.out HBq.out)
end Go.Proofs.Ytjijghfagaigbaa
